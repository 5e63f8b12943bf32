/-
  Conditions: none. A framework for walks: abstract values, memory, and conditions that suffice; the chapters in plain terms.
-/
import Derived.Test.YtgblabmhgdiicaaGreatAa
import Derived.Great.FillDense
set_option linter.unusedSectionVars false
set_option linter.unusedVariables false
set_option linter.unusedSimpArgs false
section
namespace Go.AX
section
variable {P : Program} {T : Tab} {c : Ctx} {R : Real} {s : AS} {a : Act} {w : World}
theorem Gam.setArr (g : Gam c R s a w) {b : Nat} {e : TypeId} {ver st : Nat} {rows : List (List PV)} {R' : Real} {w' : World}
    (hold : lk s.hp b = none ∨ ∃ e0 v st0 rows0, lk s.hp b = some (.arr e0 v st0 rows0) ∧ v < ver)
    (hR : ∀ b', b' ≠ b → R'.blk b' = R.blk b' ∧ R'.nil b' = R.nil b' ∧ R'.cap b' = R.cap b')
    (hworld : Evo (fun r => ownBox R b r (lk s.hp b)) w w')
    (hown : R'.nil b = false → ownBox R b (R'.blk b) (lk s.hp b) ∨ w.heap.size ≤ R'.blk b)
    {xs : List Value} (ho : w'.ownsRow 0 e st (slv R' b rows.length) rows.length xs) (hr : repR (Nof c R s.hp) w st rows xs) (hY : R'.Y = R.Y := by rfl) :
    Gam c R' (s.app [(b, .arr e ver st rows)]) a w' ∧
      repA (Nof c R' ((b, .arr e ver st rows) :: s.hp)) w' ((b, .arr e ver st rows) :: s.hp) R' (.slw b ver) (slv R' b rows.length) := by
  have r1 : ∀ off v, refPtr R b off v (lk s.hp b) → refPtr R' b off v (some (.arr e ver st rows)) := by
    intro off v h
    rcases hold with hf | ⟨e0, v0, st0, rows0, hf, hv⟩ <;> rw [hf] at h <;> exact h.elim
  have r2 : ∀ ver' v, refSl R b ver' v (lk s.hp b) → refSl R' b ver' v (some (.arr e ver st rows)) := by
    intro ver' v h
    rcases hold with hf | ⟨e0, v0, st0, rows0, hf, hv⟩
    · rw [hf] at h; exact h.elim
    · rw [hf] at h
      simp only [refSl] at h ⊢
      exact ⟨by omega, h.2.1, fun x => by omega⟩
  have r3 : ∀ ver' i off v, refAp R b ver' i off v (lk s.hp b) → refAp R' b ver' i off v (some (.arr e ver st rows)) := by
    intro ver' i off v h
    rcases hold with hf | ⟨e0, v0, st0, rows0, hf, hv⟩
    · rw [hf] at h; exact h.elim
    · rw [hf] at h
      simp only [refAp] at h ⊢
      exact ⟨by omega, h.2.1, fun x => by omega⟩
  have hown' : ∀ r, ownBox R' b r (some (.arr e ver st rows)) → ownBox R b r (lk s.hp b) ∨ w.heap.size ≤ r := by
    rintro r ⟨h1, rfl⟩
    exact hown h1
  obtain ⟨m1, m2, m3, m4, m5⟩ := g.updN hR r1 r2 r3 hown' hworld hY
  refine ⟨g.upd hR r1 r2 r3 hown' hworld ⟨xs, ho, repR_mono m1 m2 _ _ _ hr⟩ hY, ?_⟩
  simp only [repA, lk_cons, if_true]
  refine ⟨Nat.le_refl _, ?_, fun _ => rfl⟩
  unfold slv; split <;> rfl
def srcRows (H : List (Nat × Box)) (st : Nat) (x : AV) : Option (List (List PV)) :=
  match x with
  | .pv (.sc (.slice none 0 0)) => some []
  | .pv (.sl _ st' rows) => match Nat.beq st' st with
    | true => some rows
    | false => none
  | .slw b ver => match vwSl (lk H b) ver with
    | some (.sl _ st' rows) => match Nat.beq st' st with
      | true => some rows
      | false => none
    | _ => none
  | .sub b ver st1 lo hi => match vwSl (lk H b) ver with
    | some (.sl _ st' rows) => match Nat.beq st' st, Nat.beq st1 st with
      | true, true => some (cutN rows lo hi)
      | _, _ => none
    | _ => none
  | _ => none
theorem rows_of_sl {N : Nat → Prop} {nn : Bool} {st : Nat} {rows : List (List PV)} {u : Value} (h : rep N w (.sl nn st rows) u) :
    ∃ p len cap, u = .slice p len cap ∧ len = rows.length ∧ len ≤ cap ∧ (p = none → rows = []) ∧ ∀ ad, p = some ad → ∃ news : List Value, news.length = rows.length * st ∧
      (∀ j v, news[j]? = some v → w.cell? (ad.add j) = some v) ∧ (∀ u ∈ news, u.oneCell' = true) ∧ repR N w st rows news := by
  simp only [rep] at h
  obtain ⟨p, len, cap, rfl, rfl, ⟨hle, _⟩, hnone, hsome⟩ := h
  refine ⟨p, _, cap, rfl, rfl, hle, fun e => List.eq_nil_of_length_eq_zero (by have := (hnone e).2; omega), fun ad e => ?_⟩
  rcases hsome ad e with h6 | ⟨hs, hn, cur, e2, fr, hg, hr⟩
  · subst h6
    exact ⟨[], by simp, by simp, by simp, by simp [repR]⟩
  · obtain ⟨h1, h2, h3⟩ := repR_take hr
    obtain ⟨blk, off, spot⟩ := ad
    simp only at hs hg hr
    subst hs
    refine ⟨_, ?_, ?_, h3, h2⟩
    · simp only [List.length_take, List.length_drop] at h1 ⊢; omega
    · intro j v hv
      rw [addr_add, cell_at hg]
      rw [List.getElem?_take] at hv
      split at hv
      · simp only [List.getElem?_drop] at hv
        simpa using hv
      · cases hv
theorem add_add (a : Addr) (n m : Nat) : (a.add n).add m = a.add (n + m) := by
  unfold Addr.add
  by_cases h1 : n = 0
  · subst h1; simp
  · by_cases h2 : m = 0
    · subst h2; simp [h1]
    · rw [if_neg h1, if_neg h2, if_neg (by omega)]
      simp [Nat.add_assoc]
theorem src_slw (g : Gam c R s a w) {H : List (Nat × Box)} (hH : ∀ b box, lk H b = some box → lk s.hp b = some box) {st : Nat} {b ver : Nat} {nn : Bool} {rows : List (List PV)}
    (hv : vwSl (lk H b) ver = some (.sl nn st rows)) {u : Value} (hx : refSl R b ver u (lk s.hp b)) :
    ∃ p len cap, u = .slice p len cap ∧ len = rows.length ∧ len ≤ cap ∧ (p = none → rows = []) ∧ ∀ ad, p = some ad → ∃ news : List Value, news.length = rows.length * st ∧
      (∀ j v, news[j]? = some v → w.cell? (ad.add j) = some v) ∧ (∀ u ∈ news, u.oneCell' = true) ∧ repR (Nof c R s.hp) w st rows news := by
  cases hb : lk H b with
  | none => rw [hb] at hv; cases hv
  | some box =>
    have hb' := hH _ _ hb
    rw [hb] at hv
    cases box with
    | var _ => cases hv
    | rov _ => cases hv
    | tr _ _ _ _ => cases hv
    | arr e v st0 rows0 =>
      simp only [vwSl] at hv
      split at hv
      · rename_i hver
        simp only [Option.some.injEq, PV.sl.injEq] at hv
        obtain ⟨rfl, rfl, rfl⟩ := hv
        rw [hb'] at hx
        have := hx.2.2 (Nat.eq_of_beq_eq_true hver)
        subst this
        obtain ⟨xs, ho, hr⟩ := (g.boxes b _ hb')
        rcases ho.2 with ⟨e1, e2⟩ | ⟨g', cap, cur, e1, _, hg, hle, hm, hs, ht⟩
        · have he : rows0 = [] := List.eq_nil_of_length_eq_zero e2
          subst he
          rw [e1]
          exact ⟨none, 0, 0, rfl, rfl, Nat.le_refl _, fun _ => rfl, fun ad e => by cases e⟩
        · rw [e1]
          refine ⟨_, _, cap, rfl, rfl, hle, fun e => (by cases e), fun ad e => ?_⟩
          simp only [Option.some.injEq] at e
          subst e
          have hr' : repR (Nof c R s.hp) w st0 rows0 cur.toList := by
            have := repR_ext (cur.toList.drop (rows0.length * st0)) hr
            rwa [← ht, List.take_append_drop] at this
          obtain ⟨h1, h2, h3⟩ := repR_take hr'
          refine ⟨xs, ho.1, fun j v hv => ?_, ?_, hr⟩
          · rw [addr_add, cell_at hg]
            rw [← ht, List.getElem?_take] at hv
            split at hv
            · simpa using hv
            · cases hv
          · rw [← ht]; exact h3
      · cases hv
    | roa v st0 rows0 =>
      simp only [vwSl] at hv
      split at hv
      · rename_i hver
        simp only [Option.some.injEq, PV.sl.injEq] at hv
        obtain ⟨rfl, rfl, rfl⟩ := hv
        rw [hb'] at hx
        have := hx.2.2 (Nat.eq_of_beq_eq_true hver)
        subst this
        exact rows_of_sl (g.boxes b _ hb')
      · cases hv
theorem src_sound (g : Gam c R s a w) {H : List (Nat × Box)} (hH : ∀ b box, lk H b = some box → lk s.hp b = some box) {st : Nat} {x : AV} {rows : List (List PV)}
    (h : srcRows H st x = some rows) {u : Value} (hx : repA (Nof c R s.hp) w s.hp R x u) :
    ∃ p len cap, u = .slice p len cap ∧ len = rows.length ∧ len ≤ cap ∧ (p = none → rows = []) ∧ ∀ ad, p = some ad → ∃ news : List Value, news.length = rows.length * st ∧
      (∀ j v, news[j]? = some v → w.cell? (ad.add j) = some v) ∧ (∀ u ∈ news, u.oneCell' = true) ∧ repR (Nof c R s.hp) w st rows news := by
  unfold srcRows at h
  split at h
  · simp only [Option.some.injEq] at h
    subst h
    simp only [repA, rep] at hx
    exact ⟨none, 0, 0, hx, rfl, Nat.le_refl _, fun _ => rfl, fun ad e => by cases e⟩
  · rename_i nn st' rows'
    split at h
    · rename_i hst
      simp only [Option.some.injEq] at h
      subst h
      have := Nat.eq_of_beq_eq_true hst
      subst this
      simp only [repA] at hx
      exact rows_of_sl hx
    · cases h
  · rename_i b ver
    split at h
    · rename_i nn st' rows' hv
      split at h
      · rename_i hst
        simp only [Option.some.injEq] at h
        subst h
        have := Nat.eq_of_beq_eq_true hst
        subst this
        simp only [repA] at hx
        exact src_slw g hH hv hx
      · cases h
    · cases h
  · rename_i b ver st1 lo hi
    split at h
    · rename_i nn st' rows' hv
      split at h
      · rename_i hst hst1
        simp only [Option.some.injEq] at h
        subst h
        have e1 := Nat.eq_of_beq_eq_true hst
        have e2 := Nat.eq_of_beq_eq_true hst1
        rw [← e1] at e2
        subst e2
        rw [← e1]
        clear hst hst1 e1
        simp only [repA] at hx
        obtain ⟨u', hx, hok, rfl⟩ := hx
        obtain ⟨p, len, cap, rfl, rfl, hle, hnone, hsome⟩ := src_slw g hH hv hx
        simp only [subOK] at hok
        have hlen : (cutN rows' lo hi).length = hi - lo := by simp only [cutN, List.length_take, List.length_drop]; omega
        cases p with
        | none =>
          have hr0 := hnone rfl
          subst hr0
          simp only [List.length_nil] at hok hle
          refine ⟨none, 0, 0, rfl, by rw [hlen]; omega, Nat.le_refl _, fun _ => List.eq_nil_of_length_eq_zero (by rw [hlen]; omega), fun ad e => by cases e⟩
        | some ad =>
          obtain ⟨news, n1, n2, n3, n4⟩ := hsome ad rfl
          refine ⟨_, _, _, rfl, hlen.symm, by omega, fun e => (by cases e), fun ad' e => ?_⟩
          simp only [Option.some.injEq] at e
          have hr := repR_pre (hi - lo) (repR_drop lo n4)
          obtain ⟨t1, t2, t3⟩ := repR_take hr
          change (cutN rows' lo hi).length * _ ≤ _ at t1
          rw [show (List.take (hi - lo) (List.drop lo rows')).length = hi - lo from hlen] at t2 t3
          rw [hlen] at t1
          by_cases hcl : cap = lo
          · have hz : hi - lo = 0 := by omega
            refine ⟨[], by rw [hlen, hz]; simp, by simp, by simp, ?_⟩
            have : cutN rows' lo hi = [] := List.eq_nil_of_length_eq_zero (by rw [hlen]; exact hz)
            rw [this]
            simp [repR]
          · rw [if_neg hcl] at e
            subst e
            refine ⟨(news.drop (lo * st1)).take ((hi - lo) * st1), by rw [List.length_take, hlen]; omega, fun j v hj => ?_, t3, t2⟩
            rw [List.getElem?_take] at hj
            split at hj
            · rw [List.getElem?_drop] at hj
              have := n2 _ _ hj
              rw [← this]
              rw [add_add]
            · cases hj
      · cases h
    · cases h
  · cases h
theorem run_append_empty {t e : TypeId} {ty : TypeId} {ei : TI} (ht : P.underlying t = some (.slice e)) (hi : TIok P e ei) (base p : Option Addr) (sLen sCap cap : Nat) (hle : sLen ≤ sCap) :
    (Builtin.append_ #[t, t] ty #[.slice base sLen sCap, .slice p 0 cap]).run P w = .ok (.slice base sLen sCap) w := by
  cases p <;> cases base <;> simp [Builtin.append_, run_underlying ht, hi.run_sizeOf, Builtin.lenOf, hle, Builtin.firstCells, loadCells, loadCellsFrom, storeCells]
def cApp (T : Tab) (H : List (Nat × Box)) (t : TypeId) (vs : List AV) (id : Nat) (K : AV → List (Nat × Box) → Prop) : Prop :=
  match vs with
  | [d, x] => match lk T t with
    | some i => match i.d with
      | .slt e => match lk T e with
        | some ei => tiF ei fun esz eby => match Nat.beq eby 0, Nat.beq esz 0 with
          | false, false => match srcRows H esz x with
            | some rows' => match d with
              | .pv (.sc (.slice none 0 0)) => rows'.length * eby ≤ 140737488355328 ∧ K (.slw id 0) [(id, .arr e 0 esz rows')]
              | .slw b ver => match lk H b with
                | some (.arr e' v st rows) => match Nat.beq ver v, Nat.beq st esz, Nat.beq e' e with
                  | true, true, true => (rows.length + rows'.length) * eby ≤ 140737488355328 ∧ K (.slw b (v + 1)) [(b, .arr e (v + 1) esz (rows ++ rows'))]
                  | _, _, _ => False
                | _ => False
              | _ => False
            | none => False
          | _, _ => False
        | none => False
      | _ => False
    | none => False
  | _ => False
theorem maxLen_of {n b : Nat} (hb : b ≠ 0) (h : n * b ≤ 140737488355328) : n ≤ maxLen ∧ (n : Int) ≤ 9223372036854775807 ∧ n ≤ 140737488355328 := by
  have : n ≤ n * b := Nat.le_mul_of_pos_right _ (Nat.pos_of_ne_zero hb)
  unfold maxLen
  omega
theorem ownsRow_grown {e : TypeId} {st cap n : Nat} {xs : List Value} {z : Array Value} {w0 : World} (hz : z.size = st) (hx : xs.length = n * st) (hc : n ≤ cap) (hm : cap ≤ maxLen) {w1 : World}
    (hw : w1.heap = w0.heap.push (.cells (xs.toArray ++ Builtin.zeroCells z (cap - n)) e)) :
    w1.ownsRow 0 e st (.slice (some ⟨w0.heap.size, 0, none⟩) n cap) n xs := by
  refine ⟨hx, .inr ⟨w0.heap.size, cap, _, rfl, Nat.zero_le _, by rw [hw]; exact Array.getElem?_push_size, hc, hm, ?_, ?_⟩⟩
  · simp only [Array.size_append, List.size_toArray, size_zeroCells, hz, hx, ← Nat.add_mul]
    congr 1
    omega
  · simp only [Array.toList_append]
    rw [← hx]
    exact List.take_left
theorem cApp_sound (g : Gam c R s a w) (hT : TabOk P T) {H : List (Nat × Box)} (hH : ∀ b box, lk H b = some box → lk s.hp b = some box) {id : Nat} (hf : lk s.hp id = none)
    {t ty : TypeId} {d x : AV} {K : AV → List (Nat × Box) → Prop} (h : cApp T H t [d, x] id K) {u v : Value} (hd : repA (Nof c R s.hp) w s.hp R d u) (hx : repA (Nof c R s.hp) w s.hp R x v) :
    ∃ y w' R' z ws, (Builtin.append_ #[t, t] ty #[u, v]).run P w = .ok y w' ∧ K z ws ∧ Gam c R' (s.app ws) a w' ∧ repA (Nof c R' (ws ++ s.hp)) w' (ws ++ s.hp) R' z y := by
  unfold cApp at h
  simp only [tiF_eq] at h
  try simp only at h
  split at h
  · rename_i i hi
    obtain ⟨dd, hdd, hdi⟩ := (hT t i hi).desc'
    split at h
    · rename_i e hte
      have ht : P.underlying t = some (.slice e) := by
        rw [hte] at hdi
        cases dd <;> simp [di] at hdi
        subst hdi; exact hdd
      split at h
      · rename_i ei hei
        have hei' := hT _ _ hei
        obtain ⟨ti, zv, hinfo, hsz, hby, hzero, hzc⟩ := hei'.info'
        have hzs : zv.cells.size = ei.size := by have := hei'.zlen; rw [← hzc] at this; simpa using this
        split at h
        · rename_i hb0 hs0
          have hb0 := Nat.ne_of_beq_eq_false hb0
          have hs0 := Nat.ne_of_beq_eq_false hs0
          split at h
          · rename_i rows' hsrc
            obtain ⟨p, len, cap, rfl, rfl, hlc, hpn, hps⟩ := src_sound g hH hsrc hx
            split at h
            · -- the destination is nil
              obtain ⟨hbd, hK⟩ := h
              simp only [repA, rep] at hd
              subst hd
              obtain ⟨b1, b2, b3⟩ := maxLen_of hb0 hbd
              by_cases hz : rows'.length = 0
              · have he : rows' = [] := List.eq_nil_of_length_eq_zero hz
                subst he
                have hrun := run_append_empty (P := P) (w := w) (ty := ty) ht hei' none p 0 0 cap (Nat.le_refl _)
                obtain ⟨g1, g2⟩ := g.setArr (e := e) (ver := 0) (st := ei.size) (rows := []) (R' := R.at id 0 true 0) (.inl hf) (Real.at_ne R id 0 true 0) (Evo.refl _ w) (by simp [Real.at])
                  (xs := []) (by simp only [slv, Real.at, if_true, List.length_nil]; exact World.ownsRow_nil w 0 e ei.size) (by simp [repR])
                have hsl : slv (R.at id 0 true 0) id 0 = .slice none 0 0 := by simp [slv, Real.at]
                refine ⟨_, w, _, _, _, hrun, hK, g1, ?_⟩
                simp only [List.length_nil, hsl] at g2
                exact g2
              · cases p with
                | none => exact absurd (by rw [hpn rfl]; rfl) hz
                | some ad =>
                  obtain ⟨news, n1, n2, n3, n4⟩ := hps ad rfl
                  have hrun := run_append_nil (P := P) w t ty e ti zv ht hinfo hzero ad rows'.length cap news (by rw [hsz]; exact n1) n2 (by omega) b2 (by rw [hby]; omega)
                  have hgc := grownCap_ge w rows'.length 0 e
                  have hgm := grownCap_le_maxLen w rows'.length 0 e b1
                  have hsl : slv (R.at id w.heap.size false (grownCap w rows'.length 0 e)) id rows'.length = .slice (some ⟨w.heap.size, 0, none⟩) rows'.length (grownCap w rows'.length 0 e) := by simp [slv, Real.at]
                  have howns : (w.drew.alloc (.cells (news.toArray ++ Builtin.zeroCells zv.cells (grownCap w rows'.length 0 e - rows'.length)) e)).ownsRow 0 e ei.size
                      (.slice (some ⟨w.heap.size, 0, none⟩) rows'.length (grownCap w rows'.length 0 e)) rows'.length news :=
                    ownsRow_grown (w0 := w) hzs n1 hgc hgm rfl
                  obtain ⟨g1, g2⟩ := g.setArr (e := e) (ver := 0) (st := ei.size) (rows := rows') (R' := R.at id w.heap.size false (grownCap w rows'.length 0 e)) (.inl hf)
                    (Real.at_ne R id _ _ _) (w' := w.drew.alloc (.cells (news.toArray ++ Builtin.zeroCells zv.cells (grownCap w rows'.length 0 e - rows'.length)) e))
                    ⟨by simp, fun r hr _ => (by first | exact heap_alloc_old w.drew _ hr | exact heap_alloc_old w.drew _ r hr), rfl, rfl, rfl⟩ (fun _ => .inr (by simp [Real.at])) (xs := news) (by rw [hsl]; exact howns) n4
                  rw [hsl] at g2
                  exact ⟨_, _, _, _, _, hrun, hK, g1, g2⟩
            · rename_i b ver
              split at h
              · rename_i e' vr st rows hb
                have hb' := hH _ _ hb
                split at h
                · rename_i hver hst he
                  have hver := Nat.eq_of_beq_eq_true hver
                  have hst := Nat.eq_of_beq_eq_true hst
                  have he := Nat.eq_of_beq_eq_true he
                  subst hver; subst hst; subst he
                  obtain ⟨hbd, hK⟩ := h
                  obtain ⟨b1, b2, b3⟩ := maxLen_of hb0 hbd
                  simp only [repA, hb'] at hd
                  have := hd.2.2 rfl
                  subst this
                  obtain ⟨xs, ho, hr⟩ := (g.boxes b _ hb')
                  have hlen : (rows ++ rows').length = rows.length + rows'.length := by simp
                  by_cases hz : rows'.length = 0
                  · have he : rows' = [] := List.eq_nil_of_length_eq_zero hz
                    subst he
                    have hsle : ∃ p0 l0 c0, slv R b rows.length = .slice p0 l0 c0 ∧ l0 ≤ c0 := by
                      rcases ho.2 with ⟨e1, e2⟩ | ⟨g', cap', cur, e1, _, hg, hle, _⟩
                      · exact ⟨_, _, _, e1, Nat.le_refl _⟩
                      · exact ⟨_, _, _, e1, hle⟩
                    obtain ⟨p0, l0, c0, e1, e2⟩ := hsle
                    have hrun := run_append_empty (P := P) (w := w) (ty := ty) ht hei' p0 p l0 c0 cap e2
                    rw [← e1] at hrun
                    obtain ⟨g1, g2⟩ := g.setArr (b := b) (e := e') (ver := ver + 1) (st := ei.size) (rows := rows ++ []) (R' := R) (.inr ⟨_, _, _, _, hb', Nat.lt_succ_self _⟩) (fun _ _ => ⟨rfl, rfl, rfl⟩) (Evo.refl _ w)
                      (fun hn => .inl (by rw [hb']; exact ⟨hn, rfl⟩)) (xs := xs) (by simpa using ho) (by simpa using hr)
                    simp only [List.append_nil] at g2
                    exact ⟨_, w, R, _, _, hrun, hK, g1, by simpa using g2⟩
                  · cases p with
                    | none => exact absurd (by rw [hpn rfl]; rfl) hz
                    | some ad =>
                      obtain ⟨news, n1, n2, n3, n4⟩ := hps ad rfl
                      have hrr : repR (Nof c R s.hp) w ei.size (rows ++ rows') (xs ++ news) := repR_append hr ho.1 n4
                      rcases ho.2 with ⟨e1, e2⟩ | ⟨g', cap', cur, e1, _, hg, hle, hm, hcs, ht'⟩
                      · -- nil so far
                        have he : rows = [] := List.eq_nil_of_length_eq_zero e2
                        subst he
                        have hx0 : xs = [] := List.eq_nil_of_length_eq_zero (by simpa using ho.1)
                        subst hx0
                        have hrun := run_append_nil (P := P) w t ty e' ti zv ht hinfo hzero ad rows'.length cap news (by rw [hsz]; exact n1) n2 (by omega) (by simpa using (maxLen_of hb0 (by simpa using hbd)).2.1) (by rw [hby]; simp at hbd; omega)
                        rw [← e1] at hrun
                        have hgc := grownCap_ge w rows'.length 0 e'
                        have hgm := grownCap_le_maxLen w rows'.length 0 e' (by simpa using b1)
                        have hsl : slv (R.at b w.heap.size false (grownCap w rows'.length 0 e')) b ([] ++ rows').length = .slice (some ⟨w.heap.size, 0, none⟩) rows'.length (grownCap w rows'.length 0 e') := by simp [slv, Real.at]
                        have howns : (w.drew.alloc (.cells (news.toArray ++ Builtin.zeroCells zv.cells (grownCap w rows'.length 0 e' - rows'.length)) e')).ownsRow 0 e' ei.size
                            (.slice (some ⟨w.heap.size, 0, none⟩) rows'.length (grownCap w rows'.length 0 e')) rows'.length news :=
                          ownsRow_grown (w0 := w) hzs n1 hgc hgm rfl
                        obtain ⟨g1, g2⟩ := g.setArr (b := b) (e := e') (ver := ver + 1) (st := ei.size) (rows := [] ++ rows') (R' := R.at b w.heap.size false (grownCap w rows'.length 0 e')) (.inr ⟨_, _, _, _, hb', Nat.lt_succ_self _⟩)
                          (Real.at_ne R b _ _ _) (w' := w.drew.alloc (.cells (news.toArray ++ Builtin.zeroCells zv.cells (grownCap w rows'.length 0 e' - rows'.length)) e'))
                          ⟨by simp, fun r hr _ => (by first | exact heap_alloc_old w.drew _ hr | exact heap_alloc_old w.drew _ r hr), rfl, rfl, rfl⟩ (fun _ => .inr (by simp [Real.at])) (xs := news) (by rw [hsl]; exact howns) (by simpa using n4)
                        rw [hsl] at g2
                        exact ⟨_, _, _, _, _, hrun, hK, g1, g2⟩
                      · have hnil : R.nil b = false := by
                          cases hn : R.nil b with
                          | false => rfl
                          | true => simp [slv, hn] at e1
                        have hgb : g' = R.blk b ∧ cap' = R.cap b := by simp [slv, hnil] at e1; exact ⟨e1.1.symm, e1.2.symm⟩
                        obtain ⟨rfl, rfl⟩ := hgb
                        by_cases hroom : rows.length + rows'.length ≤ R.cap b
                        · have hfit : rows.length * ei.size + news.length ≤ cur.size := by rw [n1, hcs, ← Nat.add_mul]; exact Nat.mul_le_mul_right _ hroom
                          have hrun := run_append_room (P := P) w t ty e' ti ht hinfo (R.blk b) rows.length (R.cap b) cur hg ad rows'.length cap news (by rw [hsz]; exact n1) n2 n3 hroom (by rw [hsz]; exact hfit)
                          rw [← e1, hsz] at hrun
                          have hsl : slv R b (rows ++ rows').length = .slice (some ⟨R.blk b, 0, none⟩) (rows.length + rows'.length) (R.cap b) := by simp [slv, hnil]
                          obtain ⟨g1, g2⟩ := g.setArr (b := b) (e := e') (ver := ver + 1) (st := ei.size) (rows := rows ++ rows') (R' := R) (.inr ⟨_, _, _, _, hb', Nat.lt_succ_self _⟩) (fun _ _ => ⟨rfl, rfl, rfl⟩)
                            (w' := w.setRow (R.blk b) (cur.toList.take (rows.length * ei.size) ++ news ++ cur.toList.drop (rows.length * ei.size + news.length)).toArray)
                            ((setRow_evo w _ _).mono fun r hr => by rw [hb']; exact ⟨hnil, hr.symm⟩) (fun hn => .inl (by rw [hb']; exact ⟨hn, rfl⟩)) (xs := xs ++ news) (by
                              rw [hsl]
                              refine ⟨by rw [hlen, List.length_append, ho.1, n1, Nat.add_mul], .inr ⟨R.blk b, R.cap b, _, by rw [hlen], Nat.zero_le _, setRow_heap w _ cur _ e' _ hg, by rw [hlen]; exact hroom, hm, ?_, ?_⟩⟩
                              · simp only [List.size_toArray, List.length_append, List.length_take, List.length_drop, Array.length_toList]
                                omega
                              · rw [hlen, ht', Nat.add_mul, ← ho.1, ← n1, ← List.length_append]
                                exact List.take_left) hrr
                          rw [hsl] at g2
                          exact ⟨_, _, _, _, _, hrun, hK, g1, g2⟩
                        · have holds : ∀ j v, xs[j]? = some v → w.cell? ((⟨R.blk b, 0, none⟩ : Addr).add j) = some v := by
                            intro j v hv
                            rw [addr_add, cell_at hg]
                            rw [← ht', List.getElem?_take] at hv
                            split at hv
                            · simpa using hv
                            · cases hv
                          have hrun := run_append_grow (P := P) w t ty e' ti zv ht hinfo hzero ⟨R.blk b, 0, none⟩ rows.length (R.cap b) xs (by rw [hsz]; exact ho.1) holds ad rows'.length cap news (by rw [hsz]; exact n1) n2 (by omega)
                            (by omega) (growslice_fits (by omega) (by rw [hby]; exact hbd))
                          rw [← e1] at hrun
                          have hgc := grownCap_ge w (rows.length + rows'.length) (R.cap b) e'
                          have hgm := grownCap_le_maxLen w (rows.length + rows'.length) (R.cap b) e' b1
                          have hsl : slv (R.at b w.heap.size false (grownCap w (rows.length + rows'.length) (R.cap b) e')) b (rows ++ rows').length =
                              .slice (some ⟨w.heap.size, 0, none⟩) (rows.length + rows'.length) (grownCap w (rows.length + rows'.length) (R.cap b) e') := by simp [slv, Real.at]
                          have howns : (w.drew.alloc (.cells (xs.toArray ++ news.toArray ++ Builtin.zeroCells zv.cells (grownCap w (rows.length + rows'.length) (R.cap b) e' - (rows.length + rows'.length))) e')).ownsRow 0 e' ei.size
                              (.slice (some ⟨w.heap.size, 0, none⟩) (rows.length + rows'.length) (grownCap w (rows.length + rows'.length) (R.cap b) e')) (rows.length + rows'.length) (xs ++ news) :=
                            ownsRow_grown (w0 := w) hzs (by rw [List.length_append, ho.1, n1, Nat.add_mul]) hgc hgm (by rw [show (xs ++ news).toArray = xs.toArray ++ news.toArray from by simp]; rfl)
                          obtain ⟨g1, g2⟩ := g.setArr (b := b) (e := e') (ver := ver + 1) (st := ei.size) (rows := rows ++ rows') (R' := R.at b w.heap.size false (grownCap w (rows.length + rows'.length) (R.cap b) e'))
                            (.inr ⟨_, _, _, _, hb', Nat.lt_succ_self _⟩) (Real.at_ne R b _ _ _)
                            (w' := w.drew.alloc (.cells (xs.toArray ++ news.toArray ++ Builtin.zeroCells zv.cells (grownCap w (rows.length + rows'.length) (R.cap b) e' - (rows.length + rows'.length))) e'))
                            ⟨by simp, fun r hr _ => (by first | exact heap_alloc_old w.drew _ hr | exact heap_alloc_old w.drew _ r hr), rfl, rfl, rfl⟩ (fun _ => .inr (by simp [Real.at])) (xs := xs ++ news) (by rw [hsl, hlen]; exact howns) hrr
                          rw [hsl] at g2
                          exact ⟨_, _, _, _, _, hrun, hK, g1, g2⟩
                · exact h.elim
              · exact h.elim
            · exact h.elim
          · exact h.elim
        · exact h.elim
      · exact h.elim
    · exact h.elim
  · exact h.elim
end
end Go.AX
end
section
namespace Go.AX
theorem lk_append {α : Type} (l m : List (Nat × α)) (t : Nat) : lk (l ++ m) t = match lk l t with
    | some v => some v
    | none => lk m t := by
  induction l with
  | nil => simp [lk]
  | cons x l ih =>
    obtain ⟨k, v⟩ := x
    simp only [List.cons_append, lk_cons]
    split
    · rfl
    · exact ih
section
variable {P : Program} {T : Tab} {c : Ctx} {R : Real} {s : AS} {a : Act} {w : World}
theorem frz_sound (g : Gam c R s a w) {H : List (Nat × Box)} (hH : ∀ b box, lk H b = some box → lk s.hp b = some box) : ∀ (bs : List Nat) (fs : List (Nat × Box)), frz H bs = some fs →
    Gam c R (s.app fs) a w ∧ (∀ v x, repA (Nof c R s.hp) w s.hp R v x → repA (Nof c R (fs ++ s.hp)) w (fs ++ s.hp) R v x) ∧
      (∀ r, Nof c R (fs ++ s.hp) r → Nof c R s.hp r) ∧ (∀ b, (lk fs b).isSome = true ∨ b ∈ bs → ∀ r, ownBox R b r (lk s.hp b) → ¬ Nof c R (fs ++ s.hp) r)
  | [], fs, h => by
    simp only [frz, Option.some.injEq] at h
    subst h
    exact ⟨g, fun v x h => h, fun r h => h, fun b h => by simp [lk] at h⟩
  | b :: bs, fs, h => by
    simp only [frz] at h
    split at h
    · rename_i t ht
      obtain ⟨g1, m1, n1, o1⟩ := frz_sound g hH bs t ht
      split at h
      · rename_i x hx
        simp only [Option.some.injEq] at h
        subst h
        refine ⟨g1, m1, n1, fun b' hb' => ?_⟩
        rcases hb' with hb' | hb'
        · exact o1 b' (.inl hb')
        · rcases List.mem_cons.1 hb' with rfl | hb'
          · exact o1 _ (.inl (by rw [hx]; rfl))
          · exact o1 b' (.inr hb')
      · rename_i hnone
        have step : ∀ {box box' : Box}, lk H b = some box →
            ((∃ e v st rows, box = .arr e v st rows ∧ box' = .roa v st rows) ∨ (∃ cells ps, box = .var cells ∧ allPV cells = some ps ∧ box' = .rov ps)) →
            Gam c R (s.app ((b, box') :: t)) a w ∧ (∀ v x, repA (Nof c R s.hp) w s.hp R v x → repA (Nof c R ((b, box') :: t ++ s.hp)) w ((b, box') :: t ++ s.hp) R v x) ∧
              (∀ r, Nof c R ((b, box') :: t ++ s.hp) r → Nof c R s.hp r) ∧ (∀ b', (lk ((b, box') :: t) b').isSome = true ∨ b' ∈ b :: bs → ∀ r, ownBox R b' r (lk s.hp b') → ¬ Nof c R ((b, box') :: t ++ s.hp) r) := by
          intro box box' hb hf
          have hl : lk (s.app t).hp b = some box := by
            show lk (t ++ s.hp) b = _
            rw [lk_append, hnone]
            exact hH _ _ hb
          obtain ⟨g2, m2, n2, o2⟩ := g1.freeze hl hf
          refine ⟨g2, fun v x h => m2 v x (m1 v x h), fun r h => n1 r (n2 r h), fun b' hb' r ho hN => ?_⟩
          by_cases e : b' = b
          · subst e
            refine o2 r ?_ hN
            rw [hl, ← hH _ _ hb]; exact ho
          · rcases hb' with hb' | hb'
            · rw [lk_cons, if_neg (fun x => e x.symm)] at hb'
              exact o1 b' (.inl hb') r ho (n2 r hN)
            · rcases List.mem_cons.1 hb' with rfl | hb'
              · exact e rfl
              · exact o1 b' (.inr hb') r ho (n2 r hN)
        have keep : fs = t → (∀ r, ¬ ownBox R b r (lk s.hp b)) → Gam c R (s.app fs) a w ∧ (∀ v x, repA (Nof c R s.hp) w s.hp R v x → repA (Nof c R (fs ++ s.hp)) w (fs ++ s.hp) R v x) ∧
            (∀ r, Nof c R (fs ++ s.hp) r → Nof c R s.hp r) ∧ (∀ b', (lk fs b').isSome = true ∨ b' ∈ b :: bs → ∀ r, ownBox R b' r (lk s.hp b') → ¬ Nof c R (fs ++ s.hp) r) := by
          rintro rfl hno
          refine ⟨g1, m1, n1, fun b' hb' r ho => ?_⟩
          rcases hb' with hb' | hb'
          · exact o1 b' (.inl hb') r ho
          · rcases List.mem_cons.1 hb' with rfl | hb'
            · exact (hno r ho).elim
            · exact o1 b' (.inr hb') r ho
        split at h
        · rename_i e v st rows hb
          simp only [Option.some.injEq] at h
          subst h
          exact step hb (.inl ⟨_, _, _, _, rfl, rfl⟩)
        · rename_i cells hb
          split at h
          · rename_i ps hps
            simp only [Option.some.injEq] at h
            subst h
            exact step hb (.inr ⟨_, _, rfl, hps, rfl⟩)
          · cases h
        · rename_i v st rows hb
          simp only [Option.some.injEq] at h
          exact keep h.symm (fun r => by rw [hH _ _ hb]; exact id)
        · rename_i cells hb
          simp only [Option.some.injEq] at h
          exact keep h.symm (fun r => by rw [hH _ _ hb]; exact id)
        · cases h
        · cases h
    · cases h
def cMkFn (H : List (Nat × Box)) (f : Fn) (nf : Nat) (vs : List AV) (K : AV → List (Nat × Box) → Prop) : Prop :=
  match takeX nf vs, dropX nf vs with
  | some xs, some ys => match vws H xs, vws H ys with
    | some ps, some qs => match frz H (refss xs ++ refss ys) with
      | some fs => K (.pv (.fn f ps qs)) fs
      | none => K (.fn f xs ys) []
    | _, _ => K (.fn f xs ys) []
  | _, _ => False
theorem FL.split {α : Type} {Q : α → Value → Prop} : ∀ {n : Nat} {l xs ys : List α} {m : List Value}, FL Q l m → takeX n l = some xs → dropX n l = some ys → FL Q xs (m.take n) ∧ FL Q ys (m.drop n)
  | 0, l, xs, ys, m, h, h1, h2 => by
    simp only [takeX, dropX, Option.some.injEq] at h1 h2
    subst h1; subst h2
    exact ⟨by simp [FL], by simpa using h⟩
  | n + 1, [], xs, ys, m, h, h1, h2 => by simp [takeX] at h1
  | n + 1, p :: ps, xs, ys, m, h, h1, h2 => by
    obtain ⟨v, r, rfl, h3, h⟩ := h
    simp only [takeX] at h1
    split at h1
    · rename_i t ht
      simp only [Option.some.injEq] at h1
      subst h1
      simp only [dropX] at h2
      obtain ⟨a1, a2⟩ := h.split ht h2
      exact ⟨⟨v, r.take n, by simp, h3, a1⟩, by simpa using a2⟩
    · cases h1
theorem cMkFn_sound (g : Gam c R s a w) {H : List (Nat × Box)} (hH : ∀ b box, lk H b = some box → lk s.hp b = some box) {f : Fn} {first caps : Array Value} {vs : List AV} {K : AV → List (Nat × Box) → Prop}
    (h : cMkFn H f first.size vs K) (hv : FL (repA (Nof c R s.hp) w s.hp R) vs (first.toList ++ caps.toList)) :
    ∃ z ws, (Instr.makeFunc f first caps).run P w = .ok (.func f first caps) w ∧ K z ws ∧ Gam c R (s.app ws) a w ∧ repA (Nof c R (ws ++ s.hp)) w (ws ++ s.hp) R z (.func f first caps) := by
  have ref : ∀ {xs ys : List AV}, takeX first.size vs = some xs → dropX first.size vs = some ys → K (.fn f xs ys) [] →
      ∃ z ws, (Instr.makeFunc f first caps).run P w = .ok (.func f first caps) w ∧ K z ws ∧ Gam c R (s.app ws) a w ∧ repA (Nof c R (ws ++ s.hp)) w (ws ++ s.hp) R z (.func f first caps) := by
    intro xs ys hxs hys h
    obtain ⟨a1, a2⟩ := hv.split hxs hys
    have l1 : (first.toList ++ caps.toList).take first.size = first.toList := by rw [← Array.length_toList]; exact List.take_left
    have l2 : (first.toList ++ caps.toList).drop first.size = caps.toList := by rw [← Array.length_toList]; exact List.drop_left
    rw [l1] at a1
    rw [l2] at a2
    refine ⟨_, [], rfl, h, g, ?_⟩
    simp only [repA]
    exact ⟨first, caps, rfl, by rw [repAL_iff]; exact a1, by rw [repAL_iff]; exact a2⟩
  unfold cMkFn at h
  split at h
  · rename_i xs ys hxs hys
    split at h
    · rename_i ps qs hps hqs
      split at h
      · rename_i fs hfs
        obtain ⟨g1, m1, n1, o1⟩ := frz_sound g hH _ _ hfs
        obtain ⟨a1, a2⟩ := hv.split hxs hys
        have l1 : (first.toList ++ caps.toList).take first.size = first.toList := by rw [← Array.length_toList]; exact List.take_left
        have l2 : (first.toList ++ caps.toList).drop first.size = caps.toList := by rw [← Array.length_toList]; exact List.drop_left
        rw [l1] at a1
        rw [l2] at a2
        refine ⟨_, fs, rfl, h, g1, ?_⟩
        simp only [repA, rep]
        refine ⟨first, caps, rfl, ?_, ?_⟩
        · exact vwsL_sound g hH n1 xs ps _ (fun b hb => o1 b (.inr (by simp [hb]))) hps (by rw [repAL_iff]; exact a1)
        · exact vwsL_sound g hH n1 ys qs _ (fun b hb => o1 b (.inr (by simp [hb]))) hqs (by rw [repAL_iff]; exact a2)
      · exact ref hxs hys h
    · exact ref hxs hys h
  · exact h.elim
def fieldsIn (T : Tab) : List (Nat × TypeId) → Bool
  | [] => true
  | (_, ft) :: r => match lk T ft with
    | some _ => fieldsIn T r
    | none => false
def bldA (T : Tab) (t : TypeId) : List Nat → List AV → List AV → Option (List AV)
  | [], [], cells => some cells
  | f :: fs, v :: vs, cells => match fieldOf T t f with
    | some (off, j) => match cellsOf j v with
      | some cs => match Nat.beq cs.length j.size with
        | true => match setX off cells cs with
          | some cells' => bldA T t fs vs cells'
          | none => none
        | false => none
      | none => none
    | none => none
  | _, _, _ => none
def cBuild (T : Tab) (t : TypeId) (ks : List Nat) (vs : List AV) (K : AV → Prop) : Prop :=
  match lk T t with
  | some i => match i.d with
    | .str fs => match fieldsIn T fs with
      | true => match zAV i.zero with
        | some z => match bldA T t ks vs z with
          | some cells => match mkAgg cells with
            | some v => K v
            | none => False
          | none => False
        | none => False
      | false => False
    | _ => False
  | none => False
theorem foldl_cells (off : Nat) (l : List Value) (cs : Array Value) (h : off + l.length ≤ cs.size) :
    ((l.zipIdx 0).foldl (fun cs (x : Value × Nat) => cs.setIfInBounds (off + x.2) x.1) cs).toList = cs.toList.take off ++ l ++ cs.toList.drop (off + l.length) := by
  obtain ⟨h1, h2⟩ := Great.foldl_set off l 0 cs
  apply List.ext_getElem?
  intro k
  rw [Array.getElem?_toList, h2 k]
  simp only [Nat.add_zero, List.append_assoc, List.getElem?_append, List.length_take, Array.length_toList, List.getElem?_take, List.getElem?_drop, Array.getElem?_toList]
  have hm : min off cs.size = off := by omega
  rw [hm]
  by_cases h3 : k < off
  · rw [if_neg (by omega), if_pos h3, if_pos h3]
  · rw [if_neg h3]
    by_cases h4 : k < off + l.length
    · rw [if_pos ⟨by omega, h4, by omega⟩, if_pos (by omega)]
    · rw [if_neg (by omega), if_neg (by omega)]
      congr 1
      omega
theorem fill_sound {N : Nat → Prop} {hp : List (Nat × Box)} (hT : TabOk P T) {t : TypeId} {fs : Array Field} (ht : P.underlying t = some (.struct fs)) {place : Nat → Option (Nat × Nat)}
    (hpl : ∀ (f : Nat) (fd : Field) (j : TI), fs[f]? = some fd → TIok P fd.type j → place f = some (fd.offset, j.size)) :
    ∀ (ks : List Nat) (vs cells cells' : List AV) (us : List Value) (zs : Array Value), bldA T t ks vs cells = some cells' → FL (repA N w hp R) vs us → FC (repA N w hp R) cells zs.toList →
      ∃ zs', Instr.fill place zs (ks.zip us) = some zs' ∧ FC (repA N w hp R) cells' zs'.toList
  | [], [], cells, cells', us, zs, h, hv, hz => by
    simp only [bldA, Option.some.injEq] at h
    subst h
    simp only [FL] at hv
    subst hv
    exact ⟨zs, rfl, hz⟩
  | [], v :: vs, cells, cells', us, zs, h, hv, hz => by simp [bldA] at h
  | f :: ks, [], cells, cells', us, zs, h, hv, hz => by simp [bldA] at h
  | f :: ks, v :: vs, cells, cells', us, zs, h, hv, hz => by
    obtain ⟨u, r, rfl, hu, hv⟩ := hv
    simp only [bldA] at h
    split at h
    · rename_i off j hf
      split at h
      · rename_i cs hcs
        split at h
        · rename_i hl
          have hl := Nat.eq_of_beq_eq_true hl
          split at h
          · rename_i c2 hc2
            obtain ⟨fs', fd, h1, h2, rfl, h4⟩ := fieldOf_sound hT hf
            rw [ht] at h1
            simp only [Option.some.injEq, TypeDesc.struct.injEq] at h1
            subst h1
            have hcu := cellsOf_sound hcs hu
            obtain ⟨hle, hset⟩ := FC.setX hz hcu hc2
            have hus : u.cells.size = j.size := by rw [← hl, ← hcu.length]; simp
            simp only [List.zip_cons_cons, Instr.fill, hpl f fd j h2 h4]
            have hle' : fd.offset + j.size ≤ zs.size := by simp only [Array.length_toList] at hle; omega
            rw [if_neg (by simp [hus]; omega)]
            have hfold : (u.cells.zipIdx.foldl (fun cs (x : Value × Nat) => cs.setIfInBounds (fd.offset + x.2) x.1) zs).toList = zs.toList.take fd.offset ++ u.cells.toList ++ zs.toList.drop (fd.offset + u.cells.toList.length) := by
              rw [← foldl_cells fd.offset u.cells.toList zs (by simpa using hle)]
              rw [← Array.foldl_toList, Array.toList_zipIdx]
            exact fill_sound hT ht hpl ks vs c2 cells' r _ h hv (by rw [hfold]; exact hset)
          · cases h
        · cases h
      · cases h
    · cases h
theorem run_mapM_places {fs : List Field} {g : Field → Nat × Nat} (h : ∀ f ∈ fs, (sizeOf f.type).run P w = .ok (g f).2 w) (h1 : ∀ f ∈ fs, (g f).1 = f.offset) :
    (fs.mapM fun f => (do pure (f.offset, ← sizeOf f.type) : Sem (Nat × Nat))).run P w = .ok (fs.map g) w := by
  induction fs with
  | nil => simp
  | cons f fs ih =>
    have := ih (fun f hf => h f (List.mem_cons_of_mem _ hf)) (fun f hf => h1 f (List.mem_cons_of_mem _ hf))
    simp only [List.mapM_cons, Sem.run_bind, h f List.mem_cons_self, Result.andThen_ok, Sem.run_pure, this, List.map_cons]
    rw [← h1 f List.mem_cons_self]
theorem zcells_rep {N : Nat → Prop} {hp : List (Nat × Box)} : ∀ {vs : List Value}, vs.all (·.oneCell') = true → FC (repA N w hp R) (vs.map fun v => .pv (.sc v)) vs
  | [], _ => rfl
  | v :: vs, h => by
    simp only [List.all_cons, Bool.and_eq_true] at h
    exact ⟨v, vs, rfl, h.1, by simp only [repA, rep], zcells_rep h.2⟩
theorem cBuild_sound (hT : TabOk P T) {N : Nat → Prop} {hp : List (Nat × Box)} {t : TypeId} {ks : List Nat} {vs : List AV} {us : List Value} {K : AV → Prop} (h : cBuild T t ks vs K)
    (hv : FL (repA N w hp R) vs us) : ∃ y z, (Instr.build t (ks.zip us).toArray).run P w = .ok y w ∧ K z ∧ repA N w hp R z y := by
  unfold cBuild at h
  split at h
  · rename_i i hi
    have hi' := hT _ _ hi
    obtain ⟨d, hd, hdi⟩ := hi'.desc'
    obtain ⟨zv, hz1, hz2, hz3⟩ := hi'.run_zero w
    split at h
    · rename_i fl hfl
      rw [hfl] at hdi
      cases d <;> simp [di] at hdi
      rename_i fs
      subst hdi
      split at h
      · rename_i hfi
        split at h
        · rename_i z hz
          have := zAV_eq hz
          subst this
          split at h
          · rename_i cells hcells
            split at h
            · rename_i v hv'
              have hall : ∀ f ∈ fs.toList, ∃ j, TIok P f.type j := by
                have key : ∀ l : List Field, fieldsIn T (l.map fun f => (f.offset, f.type)) = true → ∀ f ∈ l, ∃ j, TIok P f.type j := by
                  intro l
                  induction l with
                  | nil => intro _ f hf; cases hf
                  | cons x l ih =>
                    intro h f hf
                    simp only [List.map_cons, fieldsIn] at h
                    split at h
                    · rename_i j hj
                      rcases List.mem_cons.1 hf with rfl | hf
                      · exact ⟨j, hT _ _ hj⟩
                      · exact ih h f hf
                    · cases h
                exact key _ hfi
              have hsz : ∀ f ∈ fs.toList, (sizeOf f.type).run P w = .ok (P.cellsOf f.type) w := by
                intro f hf
                obtain ⟨j, hj⟩ := hall f hf
                obtain ⟨x, _, h1, _⟩ := hj.info'
                simp [sizeOf, typeInfo, h1, Program.cellsOf]
              have hmap := run_mapM_places (g := fun f => (f.offset, P.cellsOf f.type)) hsz (fun _ _ => rfl)
              have hpl : ∀ (f : Nat) (fd : Field) (j : TI), fs[f]? = some fd → TIok P fd.type j → ((fs.map fun f => (f.offset, P.cellsOf f.type))[f]? : Option (Nat × Nat)) = some (fd.offset, j.size) := by
                intro f fd j h1 h2
                obtain ⟨x, _, h3, h4, _⟩ := h2.info'
                simp [h1, Program.cellsOf, h3, h4]
              obtain ⟨zs', hf1, hf2⟩ := fill_sound hT hd hpl ks vs _ cells us zv.cells hcells hv (by rw [hz2]; exact zcells_rep hi'.zone)
              refine ⟨.agg zs', v, ?_, h, ?_⟩
              · have hm2 : (fs.mapM fun f => (do pure (f.offset, ← sizeOf f.type) : Sem (Nat × Nat))).run P w = .ok (fs.map fun f => (f.offset, P.cellsOf f.type)) w := by
                  rw [Array.mapM_eq_mapM_toList, Sem.run_map, hmap]
                  simp only [Result.andThen_ok]
                  rw [← Array.toList_map, Array.toArray_toList]
                simp only [Instr.build, Sem.run_bind, hz1, Result.andThen_ok, run_underlying hd, hm2, hf1, Sem.run_pure]
              · unfold mkAgg at hv'
                split at hv'
                · rename_i ps hps
                  simp only [Option.some.injEq] at hv'
                  subst hv'
                  simp only [repA, rep]
                  exact ⟨zs', rfl, by rw [repC_iff]; exact allPV_rep hps hf2⟩
                · simp only [Option.some.injEq] at hv'
                  subst hv'
                  simp only [repA]
                  exact ⟨zs', rfl, by rw [repAC_iff]; exact hf2⟩
            · exact h.elim
          · exact h.elim
        · exact h.elim
      · exact h.elim
    · exact h.elim
  · exact h.elim
end
end Go.AX
end
section
namespace Go.AX
theorem frz_dom {H : List (Nat × Box)} : ∀ (bs : List Nat) (fs : List (Nat × Box)), frz H bs = some fs → ∀ b, (lk fs b).isSome = true → (lk H b).isSome = true
  | [], fs, h => by simp only [frz, Option.some.injEq] at h; subst h; intro b hb; simp [lk] at hb
  | b0 :: bs, fs, h => by
    simp only [frz] at h
    split at h
    · rename_i t ht
      have ih := frz_dom bs t ht
      split at h
      · simp only [Option.some.injEq] at h; subst h; exact ih
      · have cons : ∀ (box' : Box), (lk H b0).isSome = true → ∀ b, (lk ((b0, box') :: t) b).isSome = true → (lk H b).isSome = true := by
          intro box' h0 b hb
          rw [lk_cons] at hb
          split at hb
          · rename_i e; rw [← e]; exact h0
          · exact ih b hb
        split at h
        · rename_i hb; simp only [Option.some.injEq] at h; subst h; exact cons _ (by rw [hb]; rfl)
        · rename_i hb
          split at h
          · simp only [Option.some.injEq] at h; subst h; exact cons _ (by rw [hb]; rfl)
          · cases h
        · simp only [Option.some.injEq] at h; subst h; exact ih
        · simp only [Option.some.injEq] at h; subst h; exact ih
        · cases h
        · cases h
    · cases h
def ksOk : Nat → List Nat → Bool
  | _, [] => true
  | i, k :: r => match Nat.beq k i with
    | true => ksOk (i + 1) r
    | false => false
theorem ksOk_eq : ∀ {i : Nat} {ks : List Nat}, ksOk i ks = true → ks = List.range' i ks.length
  | i, [], _ => rfl
  | i, k :: r, h => by
    simp only [ksOk] at h
    split at h
    · rename_i hk
      have hk := Nat.eq_of_beq_eq_true hk
      subst hk
      have := ksOk_eq h
      rw [List.length_cons, List.range'_succ, ← this]
    · cases h
def pRows (i : TI) : List PV → Option (List (List PV))
  | [] => some []
  | p :: r => match pcellsOf i p with
    | some cs => match Nat.beq cs.length i.size with
      | true => match pRows i r with
        | some t => some (cs :: t)
        | none => none
      | false => none
    | none => none
def cBuildSl (T : Tab) (H : List (Nat × Box)) (t : TypeId) (len : Nat) (ks : List Nat) (vs : List AV) (id : Nat) (K : AV → List (Nat × Box) → Prop) : Prop :=
  match lk T t with
  | some i => match i.d with
    | .slt e => match lk T e with
      | some ei => tiF ei fun esz eby => match Nat.beq esz 0, ksOk 0 ks, Nat.beq ks.length len, Nat.ble (len * esz) 16777216 with
        | false, true, true, true => match vws H vs with
          | some ps => match pRows ei ps, frz H (refss vs) with
            | some rows, some fs => match Nat.beq rows.length len with
              | true => K (.slw id 0) ((id, .arr e 0 esz rows) :: fs)
              | false => False
            | _, _ => False
          | none => False
        | _, _, _, _ => False
      | none => False
    | _ => False
  | none => False
section
variable {P : Program} {T : Tab} {c : Ctx} {R : Real} {s : AS} {a : Act} {w : World}
theorem fillS {st : Nat} : ∀ (vs : List Value) (i0 : Nat) (cells : Array Value), (∀ v ∈ vs, v.cells.size = st) → (i0 + vs.length) * st ≤ cells.size →
    ∃ r, Instr.fill (fun i => some (i * st, st)) cells ((List.range' i0 vs.length).zip vs) = some r ∧
      r.toList = cells.toList.take (i0 * st) ++ (vs.map (·.cells.toList)).flatten ++ cells.toList.drop ((i0 + vs.length) * st)
  | [], i0, cells, _, _ => ⟨cells, rfl, by simp⟩
  | v :: vs, i0, cells, hv, hle => by
    have hvs : v.cells.size = st := hv v List.mem_cons_self
    have e1 : (i0 + (v :: vs).length) * st = i0 * st + st + vs.length * st := by simp only [List.length_cons, Nat.add_mul, Nat.one_mul]; omega
    have e2 : (i0 + 1 + vs.length) * st = i0 * st + st + vs.length * st := by simp only [Nat.add_mul, Nat.one_mul]
    have e3 : (i0 + 1) * st = i0 * st + st := by simp only [Nat.add_mul, Nat.one_mul]
    rw [e1] at hle
    have hl : v.cells.toList.length = st := by simpa using hvs
    have hfold : (v.cells.zipIdx.foldl (fun cs (x : Value × Nat) => cs.setIfInBounds (i0 * st + x.2) x.1) cells).toList = cells.toList.take (i0 * st) ++ v.cells.toList ++ cells.toList.drop (i0 * st + v.cells.toList.length) := by
      rw [← foldl_cells (i0 * st) v.cells.toList cells (by omega)]
      rw [← Array.foldl_toList, Array.toList_zipIdx]
    generalize hcs : v.cells.zipIdx.foldl (fun cs (x : Value × Nat) => cs.setIfInBounds (i0 * st + x.2) x.1) cells = cs1 at hfold
    have hsz : cs1.size = cells.size := by
      rw [← Array.length_toList, hfold]
      simp only [List.length_append, List.length_take, List.length_drop, Array.length_toList, hvs]
      omega
    obtain ⟨r, hr, hk⟩ := fillS vs (i0 + 1) cs1 (fun u hu => hv u (List.mem_cons_of_mem _ hu)) (by rw [hsz, e2]; exact hle)
    refine ⟨r, ?_, ?_⟩
    · simp only [List.length_cons, List.range'_succ, List.zip_cons_cons, Instr.fill, hvs]
      rw [if_neg (by simp; omega), ← hr, hcs]
    · have h0 : (cells.toList.take (i0 * st)).length = i0 * st := by simp; omega
      have h1 : (cells.toList.take (i0 * st) ++ v.cells.toList).length = i0 * st + st := by rw [List.length_append, h0, hl]
      rw [hk, e1, e2, e3, hfold]
      have t1 : List.take (i0 * st + st) (cells.toList.take (i0 * st) ++ v.cells.toList ++ cells.toList.drop (i0 * st + v.cells.toList.length)) = cells.toList.take (i0 * st) ++ v.cells.toList := by
        rw [List.take_left' h1]
      have t2 : List.drop (i0 * st + st + vs.length * st) (cells.toList.take (i0 * st) ++ v.cells.toList ++ cells.toList.drop (i0 * st + v.cells.toList.length)) = cells.toList.drop (i0 * st + st + vs.length * st) := by
        rw [← List.drop_drop, List.drop_left' h1, List.drop_drop, hl]
      rw [t1, t2]
      simp
theorem pRows_sound {N : Nat → Prop} {i : TI} : ∀ {ps : List PV} {rows : List (List PV)} {us : List Value}, pRows i ps = some rows → FL (rep N w) ps us →
    rows.length = ps.length ∧ (∀ v ∈ us, v.cells.size = i.size) ∧ repR N w i.size rows (us.map (·.cells.toList)).flatten
  | [], rows, us, h, hu => by
    simp only [pRows, Option.some.injEq] at h
    subst h
    simp only [FL] at hu
    subst hu
    exact ⟨rfl, by simp, by simp [repR]⟩
  | p :: ps, rows, us, h, hu => by
    obtain ⟨v, r, rfl, hv, hu⟩ := hu
    simp only [pRows] at h
    split at h
    · rename_i cs hcs
      split at h
      · rename_i hl
        have hl := Nat.eq_of_beq_eq_true hl
        split at h
        · rename_i t ht
          simp only [Option.some.injEq] at h
          subst h
          obtain ⟨a1, a2, a3⟩ := pRows_sound ht hu
          have hc := pcellsOf_sound hcs hv
          have hvs : v.cells.size = i.size := by rw [← hl, ← hc.length]; simp
          refine ⟨by simp [a1], fun u hu => ?_, ?_⟩
          · rcases List.mem_cons.1 hu with rfl | hu
            · exact hvs
            · exact a2 u hu
          · simp only [List.map_cons, List.flatten_cons]
            refine ⟨hl, by rw [repP_iff]; exact hc.fp.app _, ?_⟩
            rw [List.drop_left' (by simpa using hvs)]
            exact a3
        · cases h
      · cases h
    · cases h
theorem cBuildSl_sound (g : Gam c R s a w) (hT : TabOk P T) {H : List (Nat × Box)} (hH : ∀ b box, lk H b = some box → lk s.hp b = some box) {id : Nat} (hf : lk s.hp id = none)
    {t : TypeId} {len : Nat} {ks : List Nat} {vs : List AV} {us : List Value} {K : AV → List (Nat × Box) → Prop} (h : cBuildSl T H t len ks vs id K) (hv : FL (repA (Nof c R s.hp) w s.hp R) vs us) :
    ∃ y w' R' z ws, (Instr.buildSlice t len (ks.zip us).toArray).run P w = .ok y w' ∧ K z ws ∧ Gam c R' (s.app ws) a w' ∧ repA (Nof c R' (ws ++ s.hp)) w' (ws ++ s.hp) R' z y := by
  unfold cBuildSl at h
  simp only [tiF_eq] at h
  split at h
  · rename_i i hi
    obtain ⟨d, hd, hdi⟩ := (hT t i hi).desc'
    split at h
    · rename_i e hte
      have ht : P.underlying t = some (.slice e) := by
        rw [hte] at hdi
        cases d <;> simp [di] at hdi
        subst hdi; exact hd
      split at h
      · rename_i ei hei
        have hei' := hT _ _ hei
        obtain ⟨zv, hz1, hz2, hz3⟩ := hei'.run_zero w
        split at h
        · rename_i hs0 hks hkl hble
          have hs0 := Nat.ne_of_beq_eq_false hs0
          have hks := ksOk_eq hks
          have hkl := Nat.eq_of_beq_eq_true hkl
          have hble := Nat.le_of_ble_eq_true hble
          split at h
          · rename_i ps hps
            split at h
            · rename_i rows fs hrows hfs
              split at h
              · rename_i hrl
                have hrl := Nat.eq_of_beq_eq_true hrl
                obtain ⟨g1, m1, n1, o1⟩ := frz_sound g hH _ _ hfs
                have hps' := vwsL_sound g hH n1 vs ps us (fun b hb => o1 b (.inr hb)) hps (by rw [repAL_iff]; exact hv)
                rw [repL_iff] at hps'
                obtain ⟨q1, q2, q3⟩ := pRows_sound hrows hps'
                have hul : us.length = len := by rw [hps'.length, ← q1, hrl]
                have hcz : ((Array.range (len * ei.size)).map fun x => (if len * ei.size = 0 then (#[] : Array Value) else zv.cells)[x % (if len * ei.size = 0 then (#[] : Array Value) else zv.cells).size]!).size = len * ei.size := by simp
                obtain ⟨r, hr1, hr2⟩ := fillS us 0 ((Array.range (len * ei.size)).map fun x => (if len * ei.size = 0 then (#[] : Array Value) else zv.cells)[x % (if len * ei.size = 0 then (#[] : Array Value) else zv.cells).size]!) q2 (by rw [hcz, hul]; simp)
                have hr3 : r.toList = (us.map (·.cells.toList)).flatten := by
                  rw [hr2, hul]
                  simp only [Nat.zero_mul, List.take_zero, List.nil_append, Nat.zero_add]
                  rw [List.drop_eq_nil_of_le (by simp), List.append_nil]
                have hff : lk (s.app fs).hp id = none := by
                  show lk (fs ++ s.hp) id = none
                  rw [lk_append]
                  cases hx : lk fs id with
                  | none => exact hf
                  | some b =>
                    have := frz_dom _ _ hfs id (by rw [hx]; rfl)
                    cases hy : lk H id with
                    | none => rw [hy] at this; cases this
                    | some box => rw [hH _ _ hy] at hf; cases hf
                have hq3 : repR (Nof c R (s.app fs).hp) w ei.size rows r.toList := by rw [hr3]; exact q3
                obtain ⟨t1, t2, t3⟩ := repR_take hq3
                have hflat : r.toList.length = len * ei.size := by
                  rw [hr3]
                  have : ∀ us : List Value, (∀ v ∈ us, v.cells.size = ei.size) → (us.map (·.cells.toList)).flatten.length = us.length * ei.size := by
                    intro us
                    induction us with
                    | nil => intro _; simp
                    | cons v us ih =>
                      intro h
                      have := ih fun u hu => h u (List.mem_cons_of_mem _ hu)
                      simp only [List.map_cons, List.flatten_cons, List.length_append, this, Array.length_toList, h v List.mem_cons_self, List.length_cons, Nat.add_mul]
                      omega
                  rw [this us q2, hul]
                have hlm : len ≤ maxLen := by
                  have : len ≤ len * ei.size := Nat.le_mul_of_pos_right _ (Nat.pos_of_ne_zero hs0)
                  unfold maxLen; omega
                obtain ⟨R', g2, r2⟩ := g1.newArr (e := e) (st := ei.size) (rows := rows) (w' := { w with heap := w.heap.push (.cells r e) }) (cur := r) (cap := len) hff ⟨rfl, rfl, rfl, rfl⟩ (by omega) hlm
                  (by rw [← Array.length_toList]; exact hflat) hq3
                refine ⟨.slice (some ⟨w.heap.size, 0, none⟩) len len, _, R', _, _, ?_, h, g2, by rw [hrl] at r2; exact r2⟩
                rw [hul, ← hkl, ← hks, hkl] at hr1
                have hbig : ¬ len * ei.size > 2 ^ 24 := by omega
                by_cases hz : len * ei.size = 0
                · simp only [if_pos hz] at hr1
                  simp only [Instr.buildSlice, Sem.run_bind, run_underlying ht, Result.andThen_ok, hei'.run_sizeOf, if_neg hbig, if_pos hz, Sem.run_pure, hr1, newRow, run_newObj]
                · simp only [if_neg hz] at hr1
                  simp only [Instr.buildSlice, Sem.run_bind, run_underlying ht, Result.andThen_ok, hei'.run_sizeOf, if_neg hbig, if_neg hz, hz1, Sem.run_pure, hr1, newRow, run_newObj]
              · exact h.elim
            · exact h.elim
          · exact h.elim
        · exact h.elim
      · exact h.elim
    · exact h.elim
  · exact h.elim
end
end Go.AX
end
section
namespace Go.AX
def cMake (T : Tab) (t : TypeId) (vs : List AV) (id : Nat) (K : AV → List (Nat × Box) → Prop) : Prop :=
  match vs with
  | [.pv (.sc (.int _ l)), .pv (.sc (.int _ n))] => match lk T t with
    | some i => match i.d with
      | .slt e => match lk T e with
        | some ei => tiF ei fun esz eby => match Nat.beq esz 0, zPV ei.zero with
          | false, some z => 0 ≤ l ∧ l ≤ n ∧ n ≤ 9223372036854775807 ∧ (eby : Int) * n ≤ 281474976710656 ∧ K (.slw id 0) [(id, .arr e 0 esz (List.replicate l.toNat z))]
          | _, _ => False
        | none => False
      | _ => False
    | none => False
  | _ => False
def cAlloc (T : Tab) (t : TypeId) (id : Nat) (K : AV → List (Nat × Box) → Prop) : Prop :=
  match lk T t with
  | some i => match zAV i.zero with
    | some z => K (.ptr id 0) [(id, .var z)]
    | none => False
  | none => False
def cBox (T : Tab) (t : TypeId) (x : AV) (id : Nat) (K : AV → List (Nat × Box) → Prop) : Prop :=
  match lk T t with
  | some i => match cellsOf i x with
    | some cs => K (.ptr id 0) [(id, .var cs)]
    | none => False
  | none => False
def cConvW (T : Tab) (H : List (Nat × Box)) (src dst : TypeId) (x : AV) (K : AV → List (Nat × Box) → Prop) : Prop :=
  match lk T dst with
  | some dt => match dt.d with
    | .slt e => match lk T src, lk T e with
      | some si, some ei => match si.d, ei.d with
        | .strt, .intt .u8 => match x with
          | .pv (.sc (.string str)) => str.size ≤ 140737488355328 ∧ K (.pv (.sl false 1 (str.data.toList.map byteRow))) []
          | _ => False
        | _, _ => False
      | _, _ => False
    | _ => cConv T H src dst x fun v => K v []
  | none => False
def cSliceW (T : Tab) (H : List (Nat × Box)) (t : TypeId) (lo hi mx : Option Operand) (vs : List AV) (K : AV → List (Nat × Box) → Prop) : Prop :=
  match vs with
  | .slw b ver :: r => match vwSl (lk H b) ver, frz H [b] with
    | some p, some fs => cSlice T t lo hi mx (.pv p :: r) fun v => K v fs
    | _, _ => False
  | _ => cSlice T t lo hi mx vs fun v => K v []
def cMM (mx : Bool) (vs : List AV) (K : AV → Prop) : Prop :=
  match vs with
  | [.pv (.sc (.int k a)), .pv (.sc (.int j b))] => match decide (k = j) with
    | true => match mx with
      | true => K (.pv (.sc (.int k (if b > a then b else a))))
      | false => K (.pv (.sc (.int k (if b < a then b else a))))
    | false => False
  | _ => False
def cCall (P : Program) (H : List (Nat × Box)) (vs : List AV) (K : AV → List (Nat × Box) → Prop) : Prop :=
  match vs with
  | .pv (.fn (.func f) first caps) :: args => match vws H args with
    | some ps => ∃ r, PCx P f (first ++ (ps ++ caps)) r ∧ match scal r with
      | true => K (.pv r) []
      | false => match frz H (refss args) with
        | some fs => K (.pv r) fs
        | none => False
    | none => False
  | _ => False
section
variable {P : Program} {T : Tab} {c : Ctx} {R : Real} {s : AS} {a : Act} {w : World}
theorem FL.imp {α : Type} {Q Q' : α → Value → Prop} : ∀ {l : List α} {m : List Value}, FL Q l m → (∀ p v, Q p v → Q' p v) → FL Q' l m
  | [], _, h, _ => h
  | p :: ps, m, h, hi => by obtain ⟨v, r, e, h1, h2⟩ := h; exact ⟨v, r, e, hi _ _ h1, h2.imp hi⟩
theorem repR_rep {N : Nat → Prop} {st : Nat} {z : List PV} {zs : List Value} (hz : FC (rep N w) z zs) (hst : z.length = st) : ∀ (n : Nat) (L : List Value),
    n * st ≤ L.length → (∀ j, j < n * st → L[j]? = zs[j % st]?) → repR N w st (List.replicate n z) L
  | 0, L, _, _ => by simp [repR]
  | n + 1, L, hl, h => by
    have e : (n + 1) * st = st + n * st := by rw [Nat.add_mul]; omega
    rw [e] at hl h
    have hzl := hz.length
    have ht : L.take st = zs := by
      apply List.ext_getElem?
      intro j
      rw [List.getElem?_take]
      by_cases hj : j < st
      · rw [if_pos hj, h j (by omega), Nat.mod_eq_of_lt hj]
      · rw [if_neg hj]
        exact (List.getElem?_eq_none (by omega)).symm
    rw [List.replicate_succ]
    refine ⟨hst, ?_, repR_rep hz hst n (L.drop st) (by simp; omega) fun j hj => ?_⟩
    · rw [repP_iff]
      have := hz.fp.app (L.drop st)
      rw [← ht, List.take_append_drop] at this
      exact this
    · rw [List.getElem?_drop, h (st + j) (by omega), Nat.add_mod_left]
theorem zrow_rep {N : Nat → Prop} : ∀ {vs : List Value}, vs.all (·.oneCell') = true → FC (rep N w) (vs.map .sc) vs
  | [], _ => rfl
  | v :: vs, h => by
    simp only [List.all_cons, Bool.and_eq_true] at h
    exact ⟨v, vs, rfl, h.1, by simp only [rep], zrow_rep h.2⟩
theorem cMake_sound (g : Gam c R s a w) (hT : TabOk P T) {id : Nat} (hf : lk s.hp id = none) {t : TypeId} {x y : AV} {u v : Value} {K : AV → List (Nat × Box) → Prop}
    (h : cMake T t [x, y] id K) (hx : repA (Nof c R s.hp) w s.hp R x u) (hy : repA (Nof c R s.hp) w s.hp R y v) :
    ∃ z w' R' q ws, (Instr.makeSlice t u v).run P w = .ok z w' ∧ K q ws ∧ Gam c R' (s.app ws) a w' ∧ repA (Nof c R' (ws ++ s.hp)) w' (ws ++ s.hp) R' q z := by
  unfold cMake at h
  simp only [tiF_eq] at h
  split at h
  · rename_i _ k l j n heq
    simp only [List.cons.injEq, and_true] at heq
    obtain ⟨rfl, rfl⟩ := heq
    simp only [repA, rep] at hx hy
    subst hx; subst hy
    split at h
    · rename_i i hi
      obtain ⟨d, hd, hdi⟩ := (hT t i hi).desc'
      split at h
      · rename_i e hte
        have ht : P.underlying t = some (.slice e) := by
          rw [hte] at hdi
          cases d <;> simp [di] at hdi
          subst hdi; exact hd
        split at h
        · rename_i ei hei
          have hei' := hT _ _ hei
          obtain ⟨ti, zv, hinfo, hsz, hby, hzero, hzc⟩ := hei'.info'
          have hzs : zv.cells.size = ei.size := by have := hei'.zlen; rw [← hzc] at this; simpa using this
          split at h
          · rename_i z hs0 hz
            have hs0 := Nat.ne_of_beq_eq_false hs0
            have := zPV_eq hz
            subst this
            obtain ⟨h0, h1, h63, hb, hK⟩ := h
            have hrun := run_make (P := P) w t e ti zv ht hinfo hzero k j l n h0 h1 (by rw [hby]; exact hb) h63
            have hle : (List.replicate l.toNat (ei.zero.map PV.sc)).length ≤ n.toNat := by simp; omega
            have hrr : repR (Nof c R s.hp) w ei.size (List.replicate l.toNat (ei.zero.map PV.sc)) (madeCells zv.cells (n.toNat * ti.size)).toList := by
              refine repR_rep (zrow_rep hei'.zone) (by simpa using hei'.zlen) _ _ ?_ fun j hj => ?_
              · rw [Array.length_toList, size_madeCells, hsz]
                exact Nat.mul_le_mul_right _ (by omega)
              · have hj2 : j < n.toNat * ei.size := Nat.lt_of_lt_of_le hj (Nat.mul_le_mul_right _ (by omega))
                rw [hsz]
                have hlt : j % zv.cells.size < zv.cells.size := Nat.mod_lt _ (by rw [hzs]; exact Nat.pos_of_ne_zero hs0)
                have hmc : (madeCells zv.cells (n.toNat * ei.size))[j]? = some (zv.cells[j % zv.cells.size]!) := by
                  simp [madeCells, hj2]
                rw [Array.getElem?_toList, hmc, getElem!_pos zv.cells _ hlt, ← hzc, Array.getElem?_toList, ← hzs]
                exact (Array.getElem?_eq_getElem hlt).symm
            obtain ⟨R', g2, r2⟩ := g.newArr (e := e) (st := ei.size) (w' := w.alloc (.cells (madeCells zv.cells (n.toNat * ti.size)) e)) (cap := n.toNat) hf ⟨rfl, rfl, rfl, rfl⟩ hle (by unfold maxLen; omega)
              (by rw [size_madeCells, hsz]) hrr
            rw [List.length_replicate] at r2
            exact ⟨_, _, R', _, _, hrun, hK, g2, r2⟩
          · exact h.elim
        · exact h.elim
      · exact h.elim
    · exact h.elim
  · exact h.elim
theorem cAlloc_sound (g : Gam c R s a w) (hT : TabOk P T) {id : Nat} (hf : lk s.hp id = none) {t : TypeId} {K : AV → List (Nat × Box) → Prop} (h : cAlloc T t id K) :
    ∃ z w' R' q ws, (Instr.alloc t true (.tuple #[])).run P w = .ok z w' ∧ K q ws ∧ Gam c R' (s.app ws) a w' ∧ repA (Nof c R' (ws ++ s.hp)) w' (ws ++ s.hp) R' q z := by
  unfold cAlloc at h
  split at h
  · rename_i i hi
    have hi' := hT _ _ hi
    obtain ⟨zv, hz1, hz2, hz3⟩ := hi'.run_zero w
    split at h
    · rename_i z hz
      have := zAV_eq hz
      subst this
      obtain ⟨R', g2, r2⟩ := g.newVar hf (cells := i.zero.map fun v => .pv (.sc v)) (vs := zv.cells) (t := t) (by rw [hz2]; exact zcells_rep hi'.zone)
      refine ⟨_, _, R', _, _, ?_, h, g2, r2⟩
      simp [Instr.alloc, hz1, newVar, newRow]
    · exact h.elim
  · exact h.elim
theorem cBox_sound (g : Gam c R s a w) (hT : TabOk P T) {id : Nat} (hf : lk s.hp id = none) {t : TypeId} {x : AV} {u : Value} {K : AV → List (Nat × Box) → Prop} (h : cBox T t x id K)
    (hx : repA (Nof c R s.hp) w s.hp R x u) :
    ∃ z w' R' q ws, (Instr.box t u).run P w = .ok z w' ∧ K q ws ∧ Gam c R' (s.app ws) a w' ∧ repA (Nof c R' (ws ++ s.hp)) w' (ws ++ s.hp) R' q z := by
  unfold cBox at h
  split at h
  · split at h
    · rename_i cs hcs
      obtain ⟨R', g2, r2⟩ := g.newVar hf (vs := u.cells) (t := t) (cellsOf_sound hcs hx)
      refine ⟨_, _, R', _, _, ?_, h, g2, r2⟩
      simp [Instr.box, newVar, newRow]
    · exact h.elim
  · exact h.elim
theorem cMM_sound {N : Nat → Prop} {hp : List (Nat × Box)} {mx : Bool} {x y : AV} {u v : Value} {K : AV → Prop} (h : cMM mx [x, y] K) (hx : repA N w hp R x u) (hy : repA N w hp R y v) (ts : Array TypeId) (ty : TypeId) :
    ∃ z q, (if mx then Builtin.max_ ts ty #[u, v] else Builtin.min_ ts ty #[u, v]).run P w = .ok z w ∧ K q ∧ repA N w hp R q z := by
  unfold cMM at h
  split at h
  · rename_i _ k a j b heq
    simp only [List.cons.injEq, and_true] at heq
    obtain ⟨rfl, rfl⟩ := heq
    simp only [repA, rep] at hx hy
    subst hx; subst hy
    split at h
    · rename_i hk
      have hk := of_decide_eq_true hk
      subst hk
      split at h
      · exact ⟨.int k (if b > a then b else a), _, by simp [Builtin.max_, Builtin.max2], h, by simp only [repA, rep]⟩
      · exact ⟨.int k (if b < a then b else a), _, by simp [Builtin.min_, Builtin.min2], h, by simp only [repA, rep]⟩
    · exact h.elim
  · exact h.elim
theorem modify_push {α : Type} (a : Array α) (x : α) (f : α → α) : (a.push x).modify a.size f = a.push (f x) := by
  apply Array.ext_getElem?
  intro i
  simp only [Array.getElem?_modify, Array.getElem?_push]
  by_cases h : a.size = i
  · subst h; simp
  · rw [if_neg h, if_neg (fun e => h e.symm), if_neg (fun e => h e.symm)]
theorem run_stringToBytes (e : TypeId) (str : ByteArray) : ∃ cap w', (str.size ≤ cap ∧ (str.size ≤ 140737488355328 → cap ≤ 9223372036854775807)) ∧ (Conv.stringToBytes e str).run P w = .ok (.slice (some ⟨w.heap.size, 0, none⟩) str.size cap) w' ∧
    ∃ cur fr, w'.heap = w.heap.push (.cells cur e fr) ∧ cur.toList.take str.size = (str.data.toList.map fun b => Value.int .u8 b.toNat) ∧ w'.os = w.os ∧ w'.tape = w.tape ∧ w'.output = w.output := by
  generalize hX : (str.data.map (fun b => Value.int .u8 b.toNat) ++ Array.replicate (grownCap w str.size 0 e - str.size) (Value.int .u8 0)) = X
  refine ⟨grownCap w str.size 0 e, (w.drew.alloc (.cells X e)).freeze ⟨w.heap.size, X.size, none⟩ 1, ⟨grownCap_ge w str.size 0 e, fun hb => by have := grownCap_le_maxLen w str.size 0 e (by unfold maxLen; omega); unfold maxLen at this; omega⟩, ?_, X, (X.size, X.size + 1), ?_, ?_, ?_, ?_, ?_⟩
  · simp only [Conv.stringToBytes, Sem.run_bind, run_choose, Question.forced, Bool.false_eq_true, if_false, Result.andThen_ok, newRow, run_newObj, Sem.run_pure, markStringish, run_shape]
    simp only [World.shape?, Array.getElem?_push_size, Result.andThen_ok, run_freeze, Sem.run_pure]
    rw [← hX]
    rfl
  · unfold World.freeze
    rw [if_neg (by decide)]
    have e1 : (w.drew.alloc (Obj.cells X e)).heap = w.heap.push (Obj.cells X e) := rfl
    simp only [e1]
    rw [modify_push]
    simp
  · rw [← hX]
    simp only [Array.toList_append, Array.toList_map]
    exact List.take_left' (by simp)
  · rfl
  · rfl
  · rfl
theorem bytes_repR {N : Nat → Prop} : ∀ (bs : List UInt8) (r : List Value), repR N w 1 (bs.map byteRow) (bs.map (fun b => Value.int .u8 b.toNat) ++ r)
  | [], r => trivial
  | b :: bs, r => ⟨rfl, ⟨_, _, rfl, rfl, rfl, trivial⟩, by simpa using bytes_repR bs r⟩
theorem cConvW_sound (g : Gam c R s a w) (hT : TabOk P T) {H : List (Nat × Box)} (hH : ∀ b box, lk H b = some box → lk s.hp b = some box) {src dst : TypeId} {x : AV} {K : AV → List (Nat × Box) → Prop}
    (h : cConvW T H src dst x K) {u : Value} (hx : repA (Nof c R s.hp) w s.hp R x u) :
    ∃ z w' R' q ws, (convert src dst u).run P w = .ok z w' ∧ K q ws ∧ Gam c R' (s.app ws) a w' ∧ repA (Nof c R' (ws ++ s.hp)) w' (ws ++ s.hp) R' q z := by
  unfold cConvW at h
  split at h
  · rename_i dt hdt
    split at h
    · rename_i e hde
      split at h
      · rename_i si ei hsi hei
        split at h
        · rename_i hss hes
          split at h
          · rename_i str
            simp only [repA, rep] at hx
            subst hx
            obtain ⟨hsb, h⟩ := h
            obtain ⟨d1, hd1, e1⟩ := (hT _ _ hsi).desc'
            obtain ⟨d2, hd2, e2⟩ := (hT _ _ hdt).desc'
            obtain ⟨d3, hd3, e3⟩ := (hT _ _ hei).desc'
            have q1 : P.underlying src = some .string := by rw [hss] at e1; cases d1 <;> simp [di] at e1; exact hd1
            have q2 : P.underlying dst = some (.slice e) := by rw [hde] at e2; cases d2 <;> simp [di] at e2; subst e2; exact hd2
            have q3 : P.underlying e = some (.int .u8) := by rw [hes] at e3; cases d3 <;> simp [di] at e3; subst e3; exact hd3
            obtain ⟨cap, w', ⟨hcap, hcm⟩, hrun, cur, fr, hheap, hcur, ho, ht, hu⟩ := run_stringToBytes (P := P) (w := w) e str
            have hcm := hcm hsb
            have hev : Evo (fun _ => False) w w' := by
              refine ⟨by rw [hheap]; simp, fun r hr _ => ?_, ho, ht, hu⟩
              rw [hheap, Array.getElem?_push]
              simp [Nat.ne_of_lt hr]
            refine ⟨.slice (some ⟨w.heap.size, 0, none⟩) str.size cap, w', R, _, [], ?_, h, g.grow hev, ?_⟩
            · simp only [convert, Sem.run_bind, run_underlying q1, run_underlying q2, run_underlying q3, Result.andThen_ok]
              exact hrun
            · simp only [repA, rep]
              refine ⟨_, _, cap, rfl, by simp, ⟨by omega, hcm⟩, fun e => (by cases e), fun ad ha => ?_⟩
              simp only [Option.some.injEq] at ha
              subst ha
              refine .inr ⟨rfl, fun hn => ?_, cur, e, fr, by rw [hheap]; simp, ?_⟩
              · have := g.Nlt hn
                simp at this
              · have := bytes_repR (w := w') (N := Nof c R s.hp) str.data.toList (cur.toList.drop str.size)
                rw [← hcur, List.take_append_drop] at this
                simpa using this
          · exact h.elim
        · exact h.elim
      · exact h.elim
    · obtain ⟨y, z, h1, h2, h3⟩ := cConv_sound g hT hH h hx
      exact ⟨y, w, R, z, [], h1, h2, g, h3⟩
  · exact h.elim
theorem cSliceW_sound (g : Gam c R s a w) (hT : TabOk P T) {H : List (Nat × Box)} (hH : ∀ b box, lk H b = some box → lk s.hp b = some box) {t : TypeId} {x0 : Operand} {lo hi mx : Option Operand} {vs : List AV}
    {K : AV → List (Nat × Box) → Prop} (h : cSliceW T H t lo hi mx vs K)
    (hv : FL (repA (Nof c R s.hp) w s.hp R) vs ((x0 :: (lo.toList ++ (hi.toList ++ mx.toList))).map a.eval)) :
    ∃ y z ws, (Instr.sliceAt t (a.eval x0) (lo.map a.eval) (hi.map a.eval) (mx.map a.eval)).run P w = .ok y w ∧ K z ws ∧ Gam c R (s.app ws) a w ∧ repA (Nof c R (ws ++ s.hp)) w (ws ++ s.hp) R z y := by
  unfold cSliceW at h
  split at h
  · rename_i b ver r
    split at h
    · rename_i p fs hp' hfs
      obtain ⟨g1, m1, n1, o1⟩ := frz_sound g hH _ _ hfs
      simp only [List.map_cons] at hv
      obtain ⟨u, r', e1, hx, hv⟩ := hv
      have hp2 : rep (Nof c R (fs ++ s.hp)) w p u := by
        refine vw_sound g hH n1 (.slw b ver) p u (fun b' hb' => o1 b' (.inr (by simpa [refs] using hb'))) ?_ hx
        simpa [vw] using hp'
      have hv2 : FL (repA (Nof c R (s.app fs).hp) w (s.app fs).hp R) (.pv p :: r) ((x0 :: (lo.toList ++ (hi.toList ++ mx.toList))).map a.eval) := by
        simp only [List.map_cons, e1]
        exact ⟨u, r', rfl, (by simp only [repA]; exact hp2), hv.imp m1⟩
      obtain ⟨y, z, h1, h2, h3⟩ := cSlice_sound g1 hT h hv2
      exact ⟨y, z, fs, h1, h2, g1, h3⟩
    · exact h.elim
  · obtain ⟨y, z, h1, h2, h3⟩ := cSlice_sound g hT h hv
    exact ⟨y, z, [], h1, h2, g, h3⟩
mutual
theorem scal_rep {N N' : Nat → Prop} {w w' : World} : ∀ (p : PV) (v : Value), scal p = true → rep N w p v → rep N' w' p v
  | .sc x, v, _, h => by simpa only [rep] using h
  | .agg cs, v, hs, h => by
    simp only [rep] at h ⊢
    obtain ⟨vs, e, h⟩ := h
    exact ⟨vs, e, scalsC_rep cs _ (by simpa [scal] using hs) h⟩
  | .tup cs, v, hs, h => by
    simp only [rep] at h ⊢
    obtain ⟨vs, e, h⟩ := h
    exact ⟨vs, e, scalsL_rep cs _ (by simpa [scal] using hs) h⟩
  | .sl _ _ _, v, hs, h => by simp [scal] at hs
  | .eptr _ _, v, hs, h => by simp [scal] at hs
  | .fn _ _ _, v, hs, h => by simp [scal] at hs
  | .junk, v, hs, h => by simp [scal] at hs
theorem scalsC_rep {N N' : Nat → Prop} {w w' : World} : ∀ (ps : List PV) (vs : List Value), scals ps = true → repC N w ps vs → repC N' w' ps vs
  | [], vs, _, h => by simpa only [repC] using h
  | p :: ps, vs, hs, h => by
    simp only [scals] at hs
    split at hs
    · rename_i hp
      simp only [repC] at h ⊢
      obtain ⟨v, r, e, h0, h1, h2⟩ := h
      exact ⟨v, r, e, h0, scal_rep p v hp h1, scalsC_rep ps r hs h2⟩
    · cases hs
theorem scalsL_rep {N N' : Nat → Prop} {w w' : World} : ∀ (ps : List PV) (vs : List Value), scals ps = true → repL N w ps vs → repL N' w' ps vs
  | [], vs, _, h => by simpa only [repL] using h
  | p :: ps, vs, hs, h => by
    simp only [scals] at hs
    split at hs
    · rename_i hp
      simp only [repL] at h ⊢
      obtain ⟨v, r, e, h1, h2⟩ := h
      exact ⟨v, r, e, scal_rep p v hp h1, scalsL_rep ps r hs h2⟩
    · cases hs
end
theorem cCall_sound (g : Gam c R s a w) {H : List (Nat × Box)} (hH : ∀ b box, lk H b = some box → lk s.hp b = some box) {fv : AV} {args : List AV} {K : AV → List (Nat × Box) → Prop} (h : cCall P H (fv :: args) K)
    {u : Value} {us : List Value} (hf : repA (Nof c R s.hp) w s.hp R fv u) (hv : FL (repA (Nof c R s.hp) w s.hp R) args us) :
    ∃ f first caps, u = .func (.func f) first caps ∧ Enters P f ∧ Calls P f (first ++ us.toArray ++ caps) w fun e w' => ∃ v z ws, e = .returned v ∧ K z ws ∧ Gam c R (s.app ws) a w' ∧ repA (Nof c R (ws ++ s.hp)) w' (ws ++ s.hp) R z v := by
  unfold cCall at h
  split at h
  · rename_i f first caps args' heq
    simp only [List.cons.injEq] at heq
    obtain ⟨rfl, rfl⟩ := heq
    split at h
    · rename_i ps hps
      obtain ⟨r, hpc, h⟩ := h
      simp only [repA, rep] at hf
      obtain ⟨fs, cs, rfl, hf1, hf2⟩ := hf
      refine ⟨f, fs, cs, rfl, hpc.1, ?_⟩
      let F : Nat → Prop := fun r => Nof c R s.hp r ∧ ¬ ∃ b, b ∈ refss args ∧ ownBox R b r (lk s.hp b)
      have hFN : ∀ r, F r → Nof c R s.hp r := fun r h => h.1
      have hps' : repL F w ps us := by
        refine vwsL_sound g hH hFN args ps us (fun b hb r ho hF => hF.2 ⟨b, hb, ho⟩) hps ?_
        rw [repAL_iff]; exact hv
      have hargs : repL F w (first ++ (ps ++ caps)) (fs ++ us.toArray ++ cs).toList := by
        rw [repL_iff] at hps' hf1 hf2 ⊢
        have mono : ∀ {l : List PV} {m : List Value}, FL (rep (Nof c R s.hp) w) l m → FL (rep F w) l m := by
          intro l
          induction l with
          | nil => intro m h; exact h
          | cons x l ih => intro m h; obtain ⟨v, r, e, h1, h2⟩ := h; exact ⟨v, r, e, rep_mono (fun r _ h => hFN r h) (fun _ _ _ => rfl) _ _ h1, ih h2⟩
        have e : (fs ++ us.toArray ++ cs).toList = fs.toList ++ (us ++ cs.toList) := by simp
        rw [e]
        exact (mono hf1).app (hps'.app (mono hf2))
      refine (hpc.2 F w _ (fun r h => g.Nlt h.1) hargs).mono ?_
      rintro e w' ⟨v, r', rfl, rfl, hr, hsame⟩
      have g2 := g.grow hsame
      split at h
      · rename_i hs
        refine ⟨v, _, [], rfl, h, g2, ?_⟩
        simp only [repA]
        exact scal_rep _ _ hs hr
      · split at h
        · rename_i fz hfz
          obtain ⟨g3, m1, n1, o1⟩ := frz_sound g2 hH _ _ hfz
          refine ⟨v, _, fz, rfl, h, g3, ?_⟩
          simp only [repA]
          refine rep_mono ?_ (fun _ _ _ => rfl) _ _ hr
          intro r _ hN
          exact ⟨n1 r hN, fun ⟨b, hb, ho⟩ => o1 b (.inr hb) r ho hN⟩
        · exact h.elim
    · exact h.elim
  · exact h.elim
end
end Go.AX
end
section
namespace Go.AX
abbrev Ren := List (Nat × (Nat × Nat))
def rid (ρ : Ren) (b : Nat) : Nat :=
  match lk ρ b with
  | some p => match p with
    | (x, _) => x
  | none => b + 2000000000
def rsh (ρ : Ren) (b : Nat) : Nat :=
  match lk ρ b with
  | some p => match p with
    | (_, d) => d
  | none => 0
section
variable (ρ : Ren)
mutual
def renA : AV → AV
  | .pv p => .pv p
  | .agg cs => .agg (renAL cs)
  | .tup cs => .tup (renAL cs)
  | .ptr b off => .ptr (rid ρ b) off
  | .aptr b ver i off => .aptr (rid ρ b) (ver + rsh ρ b) i off
  | .slw b ver => .slw (rid ρ b) (ver + rsh ρ b)
  | .sub b ver st lo hi => .sub (rid ρ b) (ver + rsh ρ b) st lo hi
  | .fn f first caps => .fn f (renAL first) (renAL caps)
def renAL : List AV → List AV
  | [] => []
  | v :: r => renA v :: renAL r
end
def renBox (b : Nat) : Box → Box
  | .var cells => .var (renAL ρ cells)
  | .rov cells => .rov cells
  | .arr e ver st rows => .arr e (ver + rsh ρ b) st rows
  | .roa ver st rows => .roa (ver + rsh ρ b) st rows
  | .tr y ver rest st => .tr y (ver + rsh ρ b) rest st
end
theorem slv_eq {R R' : Real} {b b' n : Nat} (h1 : R'.blk b' = R.blk b) (h2 : R'.nil b' = R.nil b) (h3 : R'.cap b' = R.cap b) : slv R' b' n = slv R b n := by
  simp only [slv, h1, h2, h3]
section
variable {ρ : Ren} {N : Nat → Prop} {w : World} {hp0 hp : List (Nat × Box)} {R0 R : Real}
variable (h : ∀ b box, lk hp0 b = some box → lk hp (rid ρ b) = some (renBox ρ b box) ∧ R.blk (rid ρ b) = R0.blk b ∧ R.nil (rid ρ b) = R0.nil b ∧ R.cap (rid ρ b) = R0.cap b)
include h
theorem refPtr_fwd {b off : Nat} {x : Value} (hx : refPtr R0 b off x (lk hp0 b)) : refPtr R (rid ρ b) off x (lk hp (rid ρ b)) := by
  cases hb : lk hp0 b with
  | none => rw [hb] at hx; exact hx.elim
  | some box =>
    obtain ⟨e, e1, e2, e3⟩ := h b box hb
    rw [hb] at hx
    rw [e]
    cases box <;> simp only [refPtr, renBox, e1] at hx ⊢ <;> exact hx
theorem refSl_fwd {b ver : Nat} {x : Value} (hx : refSl R0 b ver x (lk hp0 b)) : refSl R (rid ρ b) (ver + rsh ρ b) x (lk hp (rid ρ b)) := by
  cases hb : lk hp0 b with
  | none => rw [hb] at hx; exact hx.elim
  | some box =>
    obtain ⟨e, e1, e2, e3⟩ := h b box hb
    rw [hb] at hx
    rw [e]
    cases box <;> simp only [refSl, renBox, slv_eq e1 e2 e3] at hx ⊢ <;> first
      | exact hx
      | exact ⟨by omega, hx.2.1, fun he => hx.2.2 (by omega)⟩
theorem refAp_fwd {b ver i off : Nat} {x : Value} (hx : refAp R0 b ver i off x (lk hp0 b)) : refAp R (rid ρ b) (ver + rsh ρ b) i off x (lk hp (rid ρ b)) := by
  cases hb : lk hp0 b with
  | none => rw [hb] at hx; exact hx.elim
  | some box =>
    obtain ⟨e, e1, e2, e3⟩ := h b box hb
    rw [hb] at hx
    rw [e]
    cases box <;> simp only [refAp, renBox, e1, e2] at hx ⊢ <;> first
      | exact hx
      | exact ⟨by omega, hx.2.1, fun he => hx.2.2 (by omega)⟩
mutual
theorem ren_fwd : ∀ (v : AV) (x : Value), repA N w hp0 R0 v x → repA N w hp R (renA ρ v) x
  | .pv p, x => by simp only [repA, renA]; exact id
  | .agg cs, x => by simp only [repA, renA]; rintro ⟨vs, a, b⟩; exact ⟨vs, a, renC_fwd cs _ b⟩
  | .tup cs, x => by simp only [repA, renA]; rintro ⟨vs, a, b⟩; exact ⟨vs, a, renL_fwd cs _ b⟩
  | .ptr b off, x => by simp only [repA, renA]; exact refPtr_fwd h
  | .slw b ver, x => by simp only [repA, renA]; exact refSl_fwd h
  | .sub b ver st lo hi, x => by simp only [repA, renA]; rintro ⟨u, a, c⟩; exact ⟨u, refSl_fwd h a, c⟩
  | .aptr b ver i off, x => by simp only [repA, renA]; exact refAp_fwd h
  | .fn f first caps, x => by
    simp only [repA, renA]; rintro ⟨fs, cs, a, b, c⟩; exact ⟨fs, cs, a, renL_fwd _ _ b, renL_fwd _ _ c⟩
theorem renL_fwd : ∀ (vs : List AV) (xs : List Value), repAL N w hp0 R0 vs xs → repAL N w hp R (renAL ρ vs) xs
  | [], xs => by simp only [repAL, renAL]; exact id
  | p :: ps, xs => by simp only [repAL, renAL]; rintro ⟨v, r, a, b, c⟩; exact ⟨v, r, a, ren_fwd p v b, renL_fwd ps r c⟩
theorem renC_fwd : ∀ (vs : List AV) (xs : List Value), repAC N w hp0 R0 vs xs → repAC N w hp R (renAL ρ vs) xs
  | [], xs => by simp only [repAC, renAL]; exact id
  | p :: ps, xs => by simp only [repAC, renAL]; rintro ⟨v, r, a, d, b, c⟩; exact ⟨v, r, a, d, ren_fwd p v b, renC_fwd ps r c⟩
end
end
section
variable {ρ : Ren} {N : Nat → Prop} {w : World} {hp0 hp : List (Nat × Box)} {R0 R : Real}
variable (h : ∀ b box, lk hp (rid ρ b) = some box → ∃ box0, lk hp0 b = some box0 ∧ box = renBox ρ b box0 ∧ R.blk (rid ρ b) = R0.blk b ∧ R.nil (rid ρ b) = R0.nil b ∧ R.cap (rid ρ b) = R0.cap b)
include h
theorem refPtr_bwd {b off : Nat} {x : Value} (hx : refPtr R (rid ρ b) off x (lk hp (rid ρ b))) : refPtr R0 b off x (lk hp0 b) := by
  cases hb : lk hp (rid ρ b) with
  | none => rw [hb] at hx; exact hx.elim
  | some box =>
    obtain ⟨box0, e, rfl, e1, e2, e3⟩ := h b box hb
    rw [hb] at hx
    rw [e]
    cases box0 <;> simp only [refPtr, renBox, e1] at hx ⊢ <;> exact hx
theorem refSl_bwd {b ver : Nat} {x : Value} (hx : refSl R (rid ρ b) (ver + rsh ρ b) x (lk hp (rid ρ b))) : refSl R0 b ver x (lk hp0 b) := by
  cases hb : lk hp (rid ρ b) with
  | none => rw [hb] at hx; exact hx.elim
  | some box =>
    obtain ⟨box0, e, rfl, e1, e2, e3⟩ := h b box hb
    rw [hb] at hx
    rw [e]
    cases box0 <;> simp only [refSl, renBox, slv_eq e1 e2 e3] at hx ⊢ <;> first
      | exact hx
      | exact ⟨by omega, hx.2.1, fun he => hx.2.2 (by omega)⟩
theorem refAp_bwd {b ver i off : Nat} {x : Value} (hx : refAp R (rid ρ b) (ver + rsh ρ b) i off x (lk hp (rid ρ b))) : refAp R0 b ver i off x (lk hp0 b) := by
  cases hb : lk hp (rid ρ b) with
  | none => rw [hb] at hx; exact hx.elim
  | some box =>
    obtain ⟨box0, e, rfl, e1, e2, e3⟩ := h b box hb
    rw [hb] at hx
    rw [e]
    cases box0 <;> simp only [refAp, renBox, e1, e2] at hx ⊢ <;> first
      | exact hx
      | exact ⟨by omega, hx.2.1, fun he => hx.2.2 (by omega)⟩
mutual
theorem ren_bwd : ∀ (v : AV) (x : Value), repA N w hp R (renA ρ v) x → repA N w hp0 R0 v x
  | .pv p, x => by simp only [repA, renA]; exact id
  | .agg cs, x => by simp only [repA, renA]; rintro ⟨vs, a, b⟩; exact ⟨vs, a, renC_bwd cs _ b⟩
  | .tup cs, x => by simp only [repA, renA]; rintro ⟨vs, a, b⟩; exact ⟨vs, a, renL_bwd cs _ b⟩
  | .ptr b off, x => by simp only [repA, renA]; exact refPtr_bwd h
  | .slw b ver, x => by simp only [repA, renA]; exact refSl_bwd h
  | .sub b ver st lo hi, x => by simp only [repA, renA]; rintro ⟨u, a, c⟩; exact ⟨u, refSl_bwd h a, c⟩
  | .aptr b ver i off, x => by simp only [repA, renA]; exact refAp_bwd h
  | .fn f first caps, x => by
    simp only [repA, renA]; rintro ⟨fs, cs, a, b, c⟩; exact ⟨fs, cs, a, renL_bwd _ _ b, renL_bwd _ _ c⟩
theorem renL_bwd : ∀ (vs : List AV) (xs : List Value), repAL N w hp R (renAL ρ vs) xs → repAL N w hp0 R0 vs xs
  | [], xs => by simp only [repAL, renAL]; exact id
  | p :: ps, xs => by simp only [repAL, renAL]; rintro ⟨v, r, a, b, c⟩; exact ⟨v, r, a, ren_bwd p v b, renL_bwd ps r c⟩
theorem renC_bwd : ∀ (vs : List AV) (xs : List Value), repAC N w hp R (renAL ρ vs) xs → repAC N w hp0 R0 vs xs
  | [], xs => by simp only [repAC, renAL]; exact id
  | p :: ps, xs => by simp only [repAC, renAL]; rintro ⟨v, r, a, d, b, c⟩; exact ⟨v, r, a, d, ren_bwd p v b, renC_bwd ps r c⟩
end
end
end Go.AX
end
section
namespace Go.AX
structure Hap (c : Ctx) (R : Real) (hp : List (Nat × Box)) (w : World) : Prop where
  boxes : ∀ b box, lk hp b = some box → realz (Nof c R hp) w hp R b box
  inj : ∀ b b' r, ownBox R b r (lk hp b) → ownBox R b' r (lk hp b') → b = b'
  free : ∀ r, owned R hp r → ¬ c.F r
  evo : Evo c.O c.w w
  own0 : ∀ r, owned R hp r → c.O r ∨ c.w.heap.size ≤ r
  kept : ∀ v x, c.K v x → repA (Nof c R hp) w hp R v x
  fixed : Fixed c.fix (owned R hp) w
  lo : R.Y.n0 = c.n0 ∧ c.n0.1 ≤ c.lo ∧ c.lo ≤ w.heap.size
theorem Gam.hap {c : Ctx} {R : Real} {s : AS} {a : Act} {w : World} (g : Gam c R s a w) : Hap c R s.hp w :=
  ⟨g.boxes, g.inj, g.free, g.evo, g.own0, g.kept, g.fixed, g.lo⟩
theorem Hap.gam {c : Ctx} {R : Real} {hp : List (Nat × Box)} {w : World} (h : Hap c R hp w) {tm : List (Nat × AV)} {nx : Nat} {a : Act}
    (hs : ∀ t v, lk tm t = some v → ∃ x, a.tmps[t]? = some x ∧ repA (Nof c R hp) w hp R v x) (hz : a.tmps.size = c.n) (hd : ∃ Ds, Marks c.lo (owned R hp) w a.defers Ds) : Gam c R ⟨tm, nx, hp⟩ a w :=
  ⟨hs, hz, h.lo, hd, h.fixed, h.boxes, h.inj, h.free, h.evo, h.own0, h.kept⟩
inductive Src where
  | old (b d : Nat)
  | nil
abbrev Rho := List (Nat × Src)
def aggOf (v : AV) : Option (List AV) :=
  match v with
  | .agg cs => some cs
  | .pv (.agg ps) => some (ps.map .pv)
  | _ => none
def tupOf (v : AV) : Option (List AV) :=
  match v with
  | .tup cs => some cs
  | .pv (.tup ps) => some (ps.map .pv)
  | _ => none
def fnOf (v : AV) : Option (Fn × List AV × List AV) :=
  match v with
  | .fn f a c => some (f, a, c)
  | .pv (.fn f a c) => some (f, a.map .pv, c.map .pv)
  | _ => none
/- equal, or nothing said -/
mutual
def leQ' : PV → PV → Prop
  | .junk, _ => True
  | .sc v, q => match v with
    | .int k b => match q with
      | .sc (.int j a) => j = k ∧ a = b
      | _ => False
    | .bool b => match q with
      | .sc (.bool a) => a = b
      | _ => False
    | v => q = .sc v
  | .sl nn st rows, q => match q with
    | .sl nn' st' rows' => (nn = true → nn' = true) ∧ st' = st ∧ leRs' rows rows'
    | .sc (.slice none 0 0) => nn = false ∧ rows = []
    | _ => False
  | .agg ps, q => match q with
    | .agg qs => leQs' ps qs
    | _ => False
  | .tup ps, q => match q with
    | .tup qs => leQs' ps qs
    | _ => False
  | .eptr row off, q => q = .eptr row off
  | .fn f a b, q => q = .fn f a b
def leQs' : List PV → List PV → Prop
  | [], qs => match qs with
    | [] => True
    | _ => False
  | p :: ps, qs => match qs with
    | q :: qs => leQ' p q ∧ leQs' ps qs
    | [] => False
def leRs' : List (List PV) → List (List PV) → Prop
  | [], qs => match qs with
    | [] => True
    | _ => False
  | p :: ps, qs => match qs with
    | q :: qs => leQs' p q ∧ leRs' ps qs
    | [] => False
end
abbrev leQ (q p : PV) : Prop := leQ' p q
abbrev leQs (q p : List PV) : Prop := leQs' p q
def leP (v : AV) (p : PV) : Prop :=
  match p with
  | .junk => True
  | p => match v with
    | .pv q => leQ q p
    | _ => False
section
variable (ρ : Rho)
mutual
def le : AV → AV → Prop
  | v, .pv p => leP v p
  | v, .ptr b off => match lk ρ b with
    | some (.old x _) => v = .ptr x off
    | _ => False
  | v, .slw b ver => match lk ρ b with
    | some (.old x d) => v = .slw x (ver + d)
    | some .nil => ver = 0 ∧ v = .pv (.sc (.slice none 0 0))
    | none => False
  | v, .sub b ver st lo hi => match lk ρ b with
    | some (.old x d) => v = .sub x (ver + d) st lo hi
    | _ => False
  | v, .aptr b ver i off => match Nat.beq b 999 with
    | true => False
    | false => match lk ρ b with
      | some (.old x d) => v = .aptr x (ver + d) i off
      | _ => False
  | v, .agg cs => match aggOf v with
    | some us => les us cs
    | none => False
  | v, .tup cs => match tupOf v with
    | some us => les us cs
    | none => False
  | v, .fn f a c => match fnOf v with
    | some (g, a', c') => g = f ∧ les a' a ∧ les c' c
    | none => False
def les : List AV → List AV → Prop
  | [], [] => True
  | u :: us, v :: vs => le u v ∧ les us vs
  | _, _ => False
end
end
def leBox (ρ : Rho) (d : Nat) (o : Option Box) (box : Box) : Prop :=
  match box with
  | .var cells => match o with
    | some (.var cs) => les ρ cs cells
    | _ => False
  | .rov cells => match o with
    | some (.rov cs) => cs = cells
    | _ => False
  | .arr e ver st rows => match o with
    | some (.arr e' ver' st' rows') => e' = e ∧ ver' = ver + d ∧ st' = st ∧ leRs' rows rows'
    | _ => False
  | .roa ver st rows => match o with
    | some (.roa ver' st' rows') => ver' = ver + d ∧ st' = st ∧ leRs' rows rows'
    | some (.arr _ ver' st' rows') => False
    | _ => False
  | .tr y _ rest st => match o with
    | some (.tr y' _ rest' st') => y' = y ∧ rest' = rest ∧ st' = st
    | _ => False
def isNilArr (box : Box) : Prop :=
  match box with
  | .arr _ _ _ rows => rows = []
  | _ => False
structure LeH (ρ : Rho) (hp hp' : List (Nat × Box)) : Prop where
  box : ∀ b box, lk hp' b = some box → match lk ρ b with
    | some (.old x d) => leBox ρ d (lk hp x) box
    | some .nil => isNilArr box
    | none => False
  dom : ∀ b, (∃ s, lk ρ b = some s) → ∃ box, lk hp' b = some box
  inj : ∀ b b' x d d', lk ρ b = some (.old x d) → lk ρ b' = some (.old x d') → b = b'
  low : ∀ b, b < 1000 → (∃ box, lk hp b = some box) → lk ρ b = some (.old b 0)
  tr99 : ∀ b a0 a1 a2 a3, lk hp' b = some (.tr a0 a1 a2 a3) → b = 999
def renR (ρ : Rho) (R : Real) : Real where
  blk b := match lk ρ b with
    | some (.old x _) => R.blk x
    | _ => 0
  nil b := match lk ρ b with
    | some (.old x _) => R.nil x
    | _ => true
  cap b := match lk ρ b with
    | some (.old x _) => R.cap x
    | _ => 0
  Y := R.Y
theorem renR_old {ρ : Rho} {R : Real} {b x d : Nat} (h : lk ρ b = some (.old x d)) : (renR ρ R).blk b = R.blk x ∧ (renR ρ R).nil b = R.nil x ∧ (renR ρ R).cap b = R.cap x := by
  simp [renR, h]
theorem renR_nil {ρ : Rho} {R : Real} {b : Nat} (h : lk ρ b = some .nil) : (renR ρ R).nil b = true := by
  simp [renR, h]
theorem slv_ren {ρ : Rho} {R : Real} {b x d n : Nat} (h : lk ρ b = some (.old x d)) : slv (renR ρ R) b n = slv R x n := by
  obtain ⟨h1, h2, h3⟩ := renR_old (R := R) h
  simp only [slv, h1, h2, h3]
theorem repAL_map {N : Nat → Prop} {w : World} {hp : List (Nat × Box)} {R : Real} : ∀ (ps : List PV) (xs : List Value), repL N w ps xs → repAL N w hp R (ps.map .pv) xs
  | [], xs, h => by simpa only [List.map, repAL, repL] using h
  | p :: ps, xs, h => by
    simp only [repL] at h
    obtain ⟨v, r, e, h1, h2⟩ := h
    simp only [List.map_cons, repAL, repA]
    exact ⟨v, r, e, h1, repAL_map ps r h2⟩
theorem repAC_map {N : Nat → Prop} {w : World} {hp : List (Nat × Box)} {R : Real} : ∀ (ps : List PV) (xs : List Value), repC N w ps xs → repAC N w hp R (ps.map .pv) xs
  | [], xs, h => by simpa only [List.map, repAC, repC] using h
  | p :: ps, xs, h => by
    simp only [repC] at h
    obtain ⟨v, r, e, h0, h1, h2⟩ := h
    simp only [List.map_cons, repAC, repA]
    exact ⟨v, r, e, h0, h1, repAC_map ps r h2⟩
section
mutual
theorem leQ_refl : ∀ (p : PV), leQ' p p
  | .junk => by unfold leQ'; trivial
  | .sc v => by unfold leQ'; cases v <;> simp
  | .sl nn st rows => by unfold leQ'; exact ⟨id, rfl, leRs_refl rows⟩
  | .agg ps => by unfold leQ'; exact leQs_refl ps
  | .tup ps => by unfold leQ'; exact leQs_refl ps
  | .eptr _ _ => by unfold leQ'; rfl
  | .fn _ _ _ => by unfold leQ'; rfl
theorem leQs_refl : ∀ (ps : List PV), leQs' ps ps
  | [] => by unfold leQs'; trivial
  | p :: ps => by unfold leQs'; exact ⟨leQ_refl p, leQs_refl ps⟩
theorem leRs_refl : ∀ (ps : List (List PV)), leRs' ps ps
  | [] => by unfold leRs'; trivial
  | p :: ps => by unfold leRs'; exact ⟨leQs_refl p, leRs_refl ps⟩
end
theorem leRs_of_eq {a b : List (List PV)} (h : b = a) : leRs' a b := h ▸ leRs_refl _
theorem leQs_len : ∀ (ps qs : List PV), leQs' ps qs → qs.length = ps.length
  | [], [], _ => rfl
  | [], _ :: _, h => by unfold leQs' at h; exact h.elim
  | _ :: _, [], h => by unfold leQs' at h; exact h.elim
  | p :: ps, q :: qs, h => by
    unfold leQs' at h
    simp [leQs_len ps qs h.2]
theorem leRs_len : ∀ (ps qs : List (List PV)), leRs' ps qs → qs.length = ps.length
  | [], [], _ => rfl
  | [], _ :: _, h => by unfold leRs' at h; exact h.elim
  | _ :: _, [], h => by unfold leRs' at h; exact h.elim
  | p :: ps, q :: qs, h => by
    unfold leRs' at h
    simp [leRs_len ps qs h.2]
theorem leRs_app {a b c d : List (List PV)} (h : leRs' a b) (h' : leRs' c d) : leRs' (a ++ c) (b ++ d) := by
  induction a generalizing b with
  | nil =>
    cases b with
    | nil => exact h'
    | cons _ _ => unfold leRs' at h; exact h.elim
  | cons x a ih =>
    cases b with
    | nil => unfold leRs' at h; exact h.elim
    | cons y b =>
      rw [List.cons_append, List.cons_append]
      unfold leRs' at h ⊢
      exact ⟨h.1, ih h.2⟩
end
section
variable {N N' : Nat → Prop} {w : World} (hN : ∀ r, N' r → N r)
include hN
mutual
theorem leQ_sound : ∀ (p q : PV) (x : Value), leQ q p → rep N w q x → rep N' w p x
  | .junk, q, x, h, hx => by simp only [rep]
  | .sc v, q, x, h, hx => by
    unfold leQ leQ' at h
    split at h
    · split at h
      · obtain ⟨rfl, rfl⟩ := h
        simpa only [rep] using hx
      · exact h.elim
    · split at h
      · subst h
        simpa only [rep] using hx
      · exact h.elim
    · subst h
      simpa only [rep] using hx
  | .sl nn st rows, q, x, h, hx => by
    unfold leQ leQ' at h
    split at h
    · obtain ⟨h1, rfl, h2⟩ := h
      simp only [rep] at hx ⊢
      obtain ⟨p, len, cap, a1, a2, a3, a4, a5⟩ := hx
      have hl := leRs_len _ _ h2
      refine ⟨p, len, cap, a1, by omega, a3, fun hp => ⟨Bool.eq_false_iff.2 fun hnn => ?_, (a4 hp).2⟩, fun a ha => ?_⟩
      · have := (a4 hp).1
        rw [h1 hnn] at this; cases this
      · rcases a5 a ha with b2 | ⟨b1, b2, cur, e, fr, b3, b4⟩
        · subst b2
          exact .inl (List.eq_nil_of_length_eq_zero hl.symm)
        · exact .inr ⟨b1, fun h => b2 (hN _ h), cur, e, fr, b3, leRs_sound rows _ _ _ h2 b4⟩
    · obtain ⟨rfl, rfl⟩ := h
      simp only [rep] at hx ⊢
      subst hx
      exact ⟨none, 0, 0, rfl, rfl, ⟨Nat.le_refl _, by omega⟩, by simp, fun a ha => (by cases ha)⟩
    · exact h.elim
  | .agg ps, q, x, h, hx => by
    unfold leQ leQ' at h
    split at h
    · simp only [rep] at hx ⊢
      obtain ⟨vs, e, h1⟩ := hx
      exact ⟨vs, e, leQsC_sound ps _ _ h h1⟩
    · exact h.elim
  | .tup ps, q, x, h, hx => by
    unfold leQ leQ' at h
    split at h
    · simp only [rep] at hx ⊢
      obtain ⟨vs, e, h1⟩ := hx
      exact ⟨vs, e, leQsL_sound ps _ _ h h1⟩
    · exact h.elim
  | .eptr row off, q, x, h, hx => by
    unfold leQ leQ' at h
    subst h
    exact rep_mono (fun r _ h => hN r h) (fun _ _ _ => rfl) _ _ hx
  | .fn f a b, q, x, h, hx => by
    unfold leQ leQ' at h
    subst h
    exact rep_mono (fun r _ h => hN r h) (fun _ _ _ => rfl) _ _ hx
theorem leQsL_sound : ∀ (ps qs : List PV) (xs : List Value), leQs qs ps → repL N w qs xs → repL N' w ps xs
  | [], [], xs, h, hx => by simpa only [repL] using hx
  | [], _ :: _, xs, h, hx => by unfold leQs leQs' at h; exact h.elim
  | _ :: _, [], xs, h, hx => by unfold leQs leQs' at h; exact h.elim
  | p :: ps, q :: qs, xs, h, hx => by
    unfold leQs leQs' at h
    simp only [repL] at hx ⊢
    obtain ⟨x, r, e, h1, h2⟩ := hx
    exact ⟨x, r, e, leQ_sound p q x h.1 h1, leQsL_sound ps qs r h.2 h2⟩
theorem leQsC_sound : ∀ (ps qs : List PV) (xs : List Value), leQs qs ps → repC N w qs xs → repC N' w ps xs
  | [], [], xs, h, hx => by simpa only [repC] using hx
  | [], _ :: _, xs, h, hx => by unfold leQs leQs' at h; exact h.elim
  | _ :: _, [], xs, h, hx => by unfold leQs leQs' at h; exact h.elim
  | p :: ps, q :: qs, xs, h, hx => by
    unfold leQs leQs' at h
    simp only [repC] at hx ⊢
    obtain ⟨x, r, e, h0, h1, h2⟩ := hx
    exact ⟨x, r, e, h0, leQ_sound p q x h.1 h1, leQsC_sound ps qs r h.2 h2⟩
theorem leQsP_sound : ∀ (ps qs : List PV) (xs : List Value), leQs qs ps → repP N w qs xs → repP N' w ps xs
  | [], [], xs, h, hx => by simp only [repP]
  | [], _ :: _, xs, h, hx => by unfold leQs leQs' at h; exact h.elim
  | _ :: _, [], xs, h, hx => by unfold leQs leQs' at h; exact h.elim
  | p :: ps, q :: qs, xs, h, hx => by
    unfold leQs leQs' at h
    simp only [repP] at hx ⊢
    obtain ⟨x, r, e, h0, h1, h2⟩ := hx
    exact ⟨x, r, e, h0, leQ_sound p q x h.1 h1, leQsP_sound ps qs r h.2 h2⟩
theorem leRs_sound : ∀ (ps qs : List (List PV)) (st : Nat) (xs : List Value), leRs' ps qs → repR N w st qs xs → repR N' w st ps xs
  | [], [], st, xs, h, hx => by simp only [repR]
  | [], _ :: _, st, xs, h, hx => by unfold leRs' at h; exact h.elim
  | _ :: _, [], st, xs, h, hx => by unfold leRs' at h; exact h.elim
  | p :: ps, q :: qs, st, xs, h, hx => by
    unfold leRs' at h
    simp only [repR] at hx ⊢
    obtain ⟨h1, h2, h3⟩ := hx
    exact ⟨by rw [← leQs_len _ _ h.1]; exact h1, leQsP_sound p q xs h.1 h2, leRs_sound ps qs st _ h.2 h3⟩
end
end
theorem leP_sound {N N' : Nat → Prop} {w : World} {hp hp' : List (Nat × Box)} {R R' : Real} (hN : ∀ r, N' r → N r) {v : AV} {p : PV} (h : leP v p) {x : Value} (hx : repA N w hp R v x) : rep N' w p x := by
  unfold leP at h
  split at h
  · simp only [rep]
  · split at h
    · simp only [repA] at hx
      exact leQ_sound hN _ _ _ h hx
    · exact h.elim
section
variable {ρ : Rho} {c : Ctx} {R : Real} {hp hp' : List (Nat × Box)} {w : World}
theorem lePtr (H : LeH ρ hp hp') {b x d off : Nat} (hb : lk ρ b = some (.old x d)) {v : Value} (h : refPtr R x off v (lk hp x)) : refPtr (renR ρ R) b off v (lk hp' b) := by
  obtain ⟨box, hbox⟩ := H.dom b ⟨_, hb⟩
  have hl := H.box b box hbox
  rw [hb] at hl
  simp only at hl
  rw [hbox]
  obtain ⟨e1, e2, e3⟩ := renR_old (R := R) hb
  cases ho : lk hp x with
  | none => rw [ho] at h; exact h.elim
  | some o =>
    rw [ho] at h hl
    cases o <;> simp only [refPtr] at h <;> cases box <;> simp only [leBox] at hl <;> simp only [refPtr, e1] <;> exact h
theorem leSl (H : LeH ρ hp hp') {b x d ver : Nat} (hb : lk ρ b = some (.old x d)) {v : Value} (h : refSl R x (ver + d) v (lk hp x)) : refSl (renR ρ R) b ver v (lk hp' b) := by
  obtain ⟨box, hbox⟩ := H.dom b ⟨_, hb⟩
  have hl := H.box b box hbox
  rw [hb] at hl
  simp only at hl
  rw [hbox]
  cases ho : lk hp x with
  | none => rw [ho] at h; exact h.elim
  | some o =>
    rw [ho] at h hl
    cases o <;> simp only [refSl] at h <;> cases box <;> simp only [leBox] at hl
    · obtain ⟨_, e2, e3, e4⟩ := hl
      simp only [refSl, slv_ren hb, ← leRs_len _ _ e4]
      exact ⟨by omega, h.2.1, fun e => h.2.2 (by omega)⟩
    · obtain ⟨e2, e3, e4⟩ := hl
      simp only [refSl, slv_ren hb, ← leRs_len _ _ e4]
      exact ⟨by omega, h.2.1, fun e => h.2.2 (by omega)⟩
theorem leAp (H : LeH ρ hp hp') {b x d ver i off : Nat} (h99 : Nat.beq b 999 = false) (hb : lk ρ b = some (.old x d)) {v : Value} (h : refAp R x (ver + d) i off v (lk hp x)) : refAp (renR ρ R) b ver i off v (lk hp' b) := by
  obtain ⟨box, hbox⟩ := H.dom b ⟨_, hb⟩
  have hl := H.box b box hbox
  rw [hb] at hl
  simp only at hl
  rw [hbox]
  obtain ⟨e1, e2, e3⟩ := renR_old (R := R) hb
  cases ho : lk hp x with
  | none => rw [ho] at h; exact h.elim
  | some o =>
    rw [ho] at h hl
    cases o <;> simp only [refAp] at h <;> cases box <;> simp only [leBox] at hl
    · obtain ⟨_, f2, f3, f4⟩ := hl
      subst f3
      simp only [refAp, e1, e2]
      exact ⟨by omega, h.2.1, fun e => h.2.2 (by omega)⟩
    · obtain ⟨f2, f3, f4⟩ := hl
      subst f3
      simp only [refAp, e1, e2]
      exact ⟨by omega, h.2.1, fun e => h.2.2 (by omega)⟩
    · exfalso
      have := H.tr99 b _ _ _ _ hbox
      subst this
      cases h99
theorem leOwn (H : LeH ρ hp hp') {b r : Nat} (h : ownBox (renR ρ R) b r (lk hp' b)) : ∃ x d, lk ρ b = some (.old x d) ∧ ownBox R x r (lk hp x) := by
  cases hbox : lk hp' b with
  | none => rw [hbox] at h; exact h.elim
  | some box =>
    have hl := H.box b box hbox
    rw [hbox] at h
    cases hb : lk ρ b with
    | none => rw [hb] at hl; exact hl.elim
    | some s =>
      cases s with
      | nil =>
        rw [hb] at hl
        cases box <;> simp only [isNilArr] at hl
        simp only [ownBox, renR_nil hb] at h
        simp at h
      | old x d =>
        rw [hb] at hl
        simp only at hl
        refine ⟨x, d, rfl, ?_⟩
        obtain ⟨e1, e2, e3⟩ := renR_old (R := R) hb
        cases ho : lk hp x with
        | none => rw [ho] at hl; cases box <;> simp only [leBox] at hl
        | some o =>
          rw [ho] at hl
          cases o <;> cases box <;> simp only [leBox] at hl <;> simp only [ownBox, e1, e2] at h ⊢ <;> exact h
theorem leN (H : LeH ρ hp hp') {r : Nat} (h : Nof c (renR ρ R) hp' r) : Nof c R hp r := by
  rcases h with h | ⟨b, h⟩
  · exact .inl h
  · obtain ⟨x, d, _, h⟩ := leOwn H h
    exact .inr ⟨x, h⟩
mutual
theorem le_sound (H : LeH ρ hp hp') : ∀ (v' : AV) (v : AV) (x : Value), le ρ v v' → repA (Nof c R hp) w hp R v x → repA (Nof c (renR ρ R) hp') w hp' (renR ρ R) v' x
  | .pv p, v, x, h, hx => by
    simp only [repA]
    simp only [le] at h
    exact leP_sound (fun r h => leN H h) (hp' := hp') (R' := R) h hx
  | .ptr b off, v, x, h, hx => by
    simp only [le] at h
    split at h
    · rename_i y d hb
      subst h
      simp only [repA] at hx ⊢
      exact lePtr H hb hx
    · exact h.elim
  | .slw b ver, v, x, h, hx => by
    simp only [le] at h
    split at h
    · rename_i y d hb
      subst h
      simp only [repA] at hx ⊢
      exact leSl H hb hx
    · rename_i hb
      obtain ⟨rfl, rfl⟩ := h
      simp only [repA, rep] at hx ⊢
      subst hx
      obtain ⟨box, hbox⟩ := H.dom b ⟨_, hb⟩
      have hl := H.box b box hbox
      rw [hb] at hl
      rw [hbox]
      cases box <;> simp only [isNilArr] at hl
      subst hl
      rename_i e ver' st
      simp only [refSl, slv, renR_nil hb]
      exact ⟨Nat.zero_le _, rfl, fun _ => rfl⟩
    · exact h.elim
  | .sub b ver st lo hi, v, x, h, hx => by
    simp only [le] at h
    split at h
    · rename_i y d hb
      subst h
      simp only [repA] at hx ⊢
      obtain ⟨u, a, cc⟩ := hx
      exact ⟨u, leSl H hb a, cc⟩
    · exact h.elim
  | .aptr b ver i off, v, x, h, hx => by
    simp only [le] at h
    split at h
    · exact h.elim
    · rename_i h99
      split at h
      · rename_i y d hb
        subst h
        simp only [repA] at hx ⊢
        exact leAp H h99 hb hx
      · exact h.elim
  | .agg cs, v, x, h, hx => by
    simp only [le] at h
    split at h
    · rename_i us hus
      have : ∃ vs : Array Value, x = .agg vs ∧ repAC (Nof c R hp) w hp R us vs.toList := by
        unfold aggOf at hus
        split at hus
        · simp only [Option.some.injEq] at hus; subst hus; simpa only [repA] using hx
        · simp only [Option.some.injEq] at hus; subst hus
          simp only [repA, rep] at hx
          obtain ⟨vs, e, h1⟩ := hx
          exact ⟨vs, e, repAC_map _ _ h1⟩
        · cases hus
      obtain ⟨vs, e, h1⟩ := this
      simp only [repA]
      exact ⟨vs, e, lesC_sound H cs us _ h h1⟩
    · exact h.elim
  | .tup cs, v, x, h, hx => by
    simp only [le] at h
    split at h
    · rename_i us hus
      have : ∃ vs : Array Value, x = .tuple vs ∧ repAL (Nof c R hp) w hp R us vs.toList := by
        unfold tupOf at hus
        split at hus
        · simp only [Option.some.injEq] at hus; subst hus; simpa only [repA] using hx
        · simp only [Option.some.injEq] at hus; subst hus
          simp only [repA, rep] at hx
          obtain ⟨vs, e, h1⟩ := hx
          exact ⟨vs, e, repAL_map _ _ h1⟩
        · cases hus
      obtain ⟨vs, e, h1⟩ := this
      simp only [repA]
      exact ⟨vs, e, lesL_sound H cs us _ h h1⟩
    · exact h.elim
  | .fn f a cc, v, x, h, hx => by
    simp only [le] at h
    split at h
    · rename_i g a' c' hus
      obtain ⟨rfl, h1, h2⟩ := h
      have : ∃ fs cs : Array Value, x = .func g fs cs ∧ repAL (Nof c R hp) w hp R a' fs.toList ∧ repAL (Nof c R hp) w hp R c' cs.toList := by
        unfold fnOf at hus
        split at hus
        · simp only [Option.some.injEq, Prod.mk.injEq] at hus; obtain ⟨rfl, rfl, rfl⟩ := hus; simpa only [repA] using hx
        · simp only [Option.some.injEq, Prod.mk.injEq] at hus; obtain ⟨rfl, rfl, rfl⟩ := hus
          simp only [repA, rep] at hx
          obtain ⟨fs, cs, e, h3, h4⟩ := hx
          exact ⟨fs, cs, e, repAL_map _ _ h3, repAL_map _ _ h4⟩
        · cases hus
      obtain ⟨fs, cs, e, h3, h4⟩ := this
      simp only [repA]
      exact ⟨fs, cs, e, lesL_sound H a a' _ h1 h3, lesL_sound H cc c' _ h2 h4⟩
    · exact h.elim
theorem lesL_sound (H : LeH ρ hp hp') : ∀ (vs' : List AV) (vs : List AV) (xs : List Value), les ρ vs vs' → repAL (Nof c R hp) w hp R vs xs → repAL (Nof c (renR ρ R) hp') w hp' (renR ρ R) vs' xs
  | [], [], xs, h, hx => by simpa only [repAL] using hx
  | [], _ :: _, xs, h, hx => by simp only [les] at h
  | _ :: _, [], xs, h, hx => by simp only [les] at h
  | v' :: vs', v :: vs, xs, h, hx => by
    simp only [les] at h
    simp only [repAL] at hx ⊢
    obtain ⟨x, r, e, h1, h2⟩ := hx
    exact ⟨x, r, e, le_sound H v' v x h.1 h1, lesL_sound H vs' vs r h.2 h2⟩
theorem lesC_sound (H : LeH ρ hp hp') : ∀ (vs' : List AV) (vs : List AV) (xs : List Value), les ρ vs vs' → repAC (Nof c R hp) w hp R vs xs → repAC (Nof c (renR ρ R) hp') w hp' (renR ρ R) vs' xs
  | [], [], xs, h, hx => by simpa only [repAC] using hx
  | [], _ :: _, xs, h, hx => by simp only [les] at h
  | _ :: _, [], xs, h, hx => by simp only [les] at h
  | v' :: vs', v :: vs, xs, h, hx => by
    simp only [les] at h
    simp only [repAC] at hx ⊢
    obtain ⟨x, r, e, h0, h1, h2⟩ := hx
    exact ⟨x, r, e, h0, le_sound H v' v x h.1 h1, lesC_sound H vs' vs r h.2 h2⟩
end
theorem Hap.weaken (h : Hap c R hp w) (H : LeH ρ hp hp') : Hap c (renR ρ R) hp' w := by
  refine ⟨fun b box hb => ?_, fun b b' r h1 h2 => ?_, fun r ⟨b, hr⟩ => ?_, h.evo, fun r ⟨b, hr⟩ => ?_, fun v x hv => ?_, ?_, h.lo⟩
  · have hl := H.box b box hb
    cases hs : lk ρ b with
    | none => rw [hs] at hl; exact hl.elim
    | some s =>
      rw [hs] at hl
      cases s with
      | nil =>
        cases box <;> simp only [isNilArr] at hl
        subst hl
        refine ⟨[], ⟨?_, .inl ⟨?_, rfl⟩⟩, by simp only [repR]⟩
        · simp
        · simp [slv, renR_nil hs]
      | old x d =>
        simp only at hl
        obtain ⟨e1, e2, e3⟩ := renR_old (R := R) hs
        cases ho : lk hp x with
        | none => rw [ho] at hl; cases box <;> simp only [leBox] at hl
        | some o =>
          have hr := h.boxes x o ho
          rw [ho] at hl
          cases o <;> cases box <;> simp only [leBox] at hl
          · obtain ⟨cur, e, a1, a2⟩ := hr
            exact ⟨cur, e, by rw [e1]; exact a1, lesC_sound H _ _ _ hl a2⟩
          · subst hl
            obtain ⟨cur, e, fr, a1, a2, a3⟩ := hr
            refine ⟨cur, e, fr, by rw [e1]; exact a1, by rw [e1]; exact fun hn => a2 (leN H hn), repP_mono (fun r _ h => leN H h) (fun _ _ _ => rfl) _ _ a3⟩
          · obtain ⟨rfl, _, rfl, hl⟩ := hl
            obtain ⟨xs, a1, a2⟩ := hr
            refine ⟨xs, ?_, leRs_sound (fun r h => leN H h) _ _ _ _ hl a2⟩
            rw [slv_ren hs, ← leRs_len _ _ hl]; exact a1
          · obtain ⟨_, rfl, hl⟩ := hl
            simp only [realz, slv_ren hs, ← leRs_len _ _ hl] at hr ⊢
            exact leQ_sound (fun r h => leN H h) (.sl false _ _) (.sl false _ _) _ (by unfold leQ leQ'; exact ⟨id, rfl, hl⟩) hr
          · obtain ⟨rfl, rfl, rfl⟩ := hl
            obtain ⟨k0, kh, k1, k2, k3, k4⟩ := hr
            refine ⟨H.tr99 _ _ _ _ _ hb, kh, by rw [e2]; exact k1, k2, k3, fun r hn => k4 r (leN H hn)⟩
  · obtain ⟨x, d, a1, a2⟩ := leOwn H h1
    obtain ⟨y, d', b1, b2⟩ := leOwn H h2
    have := h.inj x y r a2 b2
    subst this
    exact H.inj _ _ _ _ _ a1 b1
  · obtain ⟨x, d, _, a2⟩ := leOwn H hr
    exact h.free r ⟨x, a2⟩
  · obtain ⟨x, d, _, a2⟩ := leOwn H hr
    exact h.own0 r ⟨x, a2⟩
  · have hk := h.kept v x hv
    have hlow := c.hK v x hv
    cases v with
    | ptr b off =>
      simp only [lowRef, Nat.blt_eq] at hlow
      simp only [repA] at hk ⊢
      have he : ∃ box, lk hp b = some box := by
        cases hb : lk hp b with
        | none => rw [hb] at hk; exact hk.elim
        | some box => exact ⟨box, rfl⟩
      exact lePtr H (H.low b hlow he) hk
    | slw b ver =>
      simp only [lowRef, Nat.blt_eq] at hlow
      simp only [repA] at hk ⊢
      have he : ∃ box, lk hp b = some box := by
        cases hb : lk hp b with
        | none => rw [hb] at hk; exact hk.elim
        | some box => exact ⟨box, rfl⟩
      exact leSl H (d := 0) (H.low b hlow he) hk
    | aptr b ver i off =>
      simp only [lowRef, Bool.and_eq_true, Nat.blt_eq, Bool.not_eq_true'] at hlow
      obtain ⟨hlow, h99⟩ := hlow
      simp only [repA] at hk ⊢
      have he : ∃ box, lk hp b = some box := by
        cases hb : lk hp b with
        | none => rw [hb] at hk; exact hk.elim
        | some box => exact ⟨box, rfl⟩
      exact leAp H (d := 0) h99 (H.low b hlow he) hk
    | _ => simp [lowRef] at hlow
  · exact h.fixed.kept (fun _ _ _ => rfl) fun r _ ⟨b, ho⟩ => let ⟨x, _, _, h2⟩ := leOwn H ho; ⟨x, h2⟩
end
end Go.AX
end
section
namespace Go.AX
def pairs : List AV → List AV → List (AV × AV) → List (AV × AV)
  | u :: us, v :: vs, l => (u, v) :: pairs us vs l
  | _, _, l => l
def mt (hp hp' : List (Nat × Box)) : Nat → Rho → List (AV × AV) → Option Rho
  | _, ρ, [] => some ρ
  | 0, _, _ :: _ => none
  | n + 1, ρ, (v, v') :: l => match v' with
    | .pv _ => mt hp hp' n ρ l
    | .ptr b _ => match lk ρ b with
      | some _ => mt hp hp' n ρ l
      | none => match v with
        | .ptr x _ => match lk hp' b with
          | some (.var cs') => match lk hp x with
            | some (.var cs) => mt hp hp' n ((b, .old x 0) :: ρ) (pairs cs cs' l)
            | _ => none
          | some (.rov _) => mt hp hp' n ((b, .old x 0) :: ρ) l
          | _ => none
        | _ => none
    | .slw b ver => match lk ρ b with
      | some _ => mt hp hp' n ρ l
      | none => match v with
        | .slw x ver' => mt hp hp' n ((b, .old x (ver' - ver)) :: ρ) l
        | .pv (.sc (.slice none 0 0)) => mt hp hp' n ((b, .nil) :: ρ) l
        | _ => none
    | .sub b ver _ _ _ => match lk ρ b with
      | some _ => mt hp hp' n ρ l
      | none => match v with
        | .sub x ver' _ _ _ => mt hp hp' n ((b, .old x (ver' - ver)) :: ρ) l
        | _ => none
    | .aptr b ver _ _ => match lk ρ b with
      | some _ => mt hp hp' n ρ l
      | none => match v with
        | .aptr x ver' _ _ => mt hp hp' n ((b, .old x (ver' - ver)) :: ρ) l
        | _ => none
    | .agg cs => match aggOf v with
      | some us => mt hp hp' n ρ (pairs us cs l)
      | none => none
    | .tup cs => match tupOf v with
      | some us => mt hp hp' n ρ (pairs us cs l)
      | none => none
    | .fn _ a c => match fnOf v with
      | some (_, a', c') => mt hp hp' n ρ (pairs a' a (pairs c' c l))
      | none => none
def lowRho : List (Nat × Box) → Rho
  | [] => []
  | (b, _) :: r => match Nat.blt b 1000 with
    | true => match lk (lowRho r) b with
      | some _ => lowRho r
      | none => (b, .old b 0) :: lowRho r
    | false => lowRho r
def lowPairs (hp hp' : List (Nat × Box)) : Rho → List (AV × AV) → List (AV × AV)
  | [], l => l
  | (b, _) :: r, l => match lk hp' b with
    | some (.var cs') => match lk hp b with
      | some (.var cs) => pairs cs cs' (lowPairs hp hp' r l)
      | _ => lowPairs hp hp' r l
    | _ => lowPairs hp hp' r l
def tmPairs (tm : List (Nat × AV)) : List (Nat × AV) → List (AV × AV)
  | [] => []
  | (t, v') :: r => match lk tm t with
    | some v => (v, v') :: tmPairs tm r
    | none => tmPairs tm r
def isSome {α : Type} : Option α → Bool
  | some _ => true
  | none => false
def isLow (ρ : Rho) (b : Nat) : Bool :=
  match lk ρ b with
  | some (.old x d) => Nat.beq x b && Nat.beq d 0
  | _ => false
def lowOk (ρ : Rho) : List (Nat × Box) → Bool
  | [] => true
  | (b, _) :: r => match Nat.blt b 1000 with
    | true => isLow ρ b && lowOk ρ r
    | false => lowOk ρ r
def hasSrc (x : Nat) : Rho → Bool
  | [] => false
  | (_, .old y _) :: r => match Nat.beq x y with
    | true => true
    | false => hasSrc x r
  | (_, .nil) :: r => hasSrc x r
def rhoOk (hp' : List (Nat × Box)) : Rho → Bool
  | [] => true
  | (b, s) :: r => isSome (lk hp' b) && (match lk r b with
    | some _ => false
    | none => true) && (match s with
    | .old x _ => !hasSrc x r
    | .nil => true) && rhoOk hp' r
def keysOk : List (Nat × Box) → Bool
  | [] => true
  | (b, _) :: r => (match lk r b with
    | some _ => false
    | none => true) && keysOk r
def leHs (ρ : Rho) (hp : List (Nat × Box)) : List (Nat × Box) → Prop → Prop
  | [], X => X
  | (b, box) :: r, X => match lk ρ b with
    | some (.old x d) => leBox ρ d (lk hp x) box ∧ leHs ρ hp r X
    | some .nil => isNilArr box ∧ leHs ρ hp r X
    | none => False
def leTm (ρ : Rho) (tm : List (Nat × AV)) : List (Nat × AV) → Prop → Prop
  | [], X => X
  | (t, v') :: r, X => match lk tm t with
    | some v => le ρ v v' ∧ leTm ρ tm r X
    | none => False
theorem leHs_out {ρ : Rho} {hp : List (Nat × Box)} : ∀ {l : List (Nat × Box)} {X : Prop}, leHs ρ hp l X → X
  | [], X, h => h
  | (b, box) :: r, X, h => by
    simp only [leHs] at h
    split at h
    · exact leHs_out h.2
    · exact leHs_out h.2
    · exact h.elim
theorem leHs_box {ρ : Rho} {hp : List (Nat × Box)} : ∀ {l : List (Nat × Box)} {X : Prop}, leHs ρ hp l X → ∀ b box, lk l b = some box → match lk ρ b with
    | some (.old x d) => leBox ρ d (lk hp x) box
    | some .nil => isNilArr box
    | none => False
  | [], X, h, b, box, hb => by simp [lk] at hb
  | (b', box') :: r, X, h, b, box, hb => by
    simp only [leHs] at h
    rw [lk_cons] at hb
    split at hb
    · rename_i e
      subst e
      simp only [Option.some.injEq] at hb
      subst hb
      split at h
      · exact h.1
      · exact h.1
      · exact h.elim
    · split at h
      · exact leHs_box h.2 b box hb
      · exact leHs_box h.2 b box hb
      · exact h.elim
theorem leTm_slot {ρ : Rho} {tm : List (Nat × AV)} : ∀ {l : List (Nat × AV)} {X : Prop}, leTm ρ tm l X → ∀ t v', lk l t = some v' → ∃ v, lk tm t = some v ∧ le ρ v v'
  | [], X, h, t, v', hb => by simp [lk] at hb
  | (t', u') :: r, X, h, t, v', hb => by
    simp only [leTm] at h
    rw [lk_cons] at hb
    split at h
    · rename_i u hu
      split at hb
      · rename_i e
        subst e
        simp only [Option.some.injEq] at hb
        subst hb
        exact ⟨u, hu, h.1⟩
      · exact leTm_slot h.2 t v' hb
    · exact h.elim
theorem rhoOk_dom {hp' : List (Nat × Box)} : ∀ {ρ : Rho}, rhoOk hp' ρ = true → ∀ b, (∃ s, lk ρ b = some s) → ∃ box, lk hp' b = some box
  | [], _, b, ⟨s, hs⟩ => by simp [lk] at hs
  | (b', s') :: r, h, b, ⟨s, hs⟩ => by
    simp only [rhoOk, Bool.and_eq_true] at h
    rw [lk_cons] at hs
    split at hs
    · rename_i e
      subst e
      have := h.1.1.1
      cases hb : lk hp' b' with
      | none => rw [hb] at this; cases this
      | some box => exact ⟨box, rfl⟩
    · exact rhoOk_dom h.2 b ⟨s, hs⟩
theorem hasSrc_of {ρ : Rho} {b x d : Nat} : lk ρ b = some (.old x d) → hasSrc x ρ = true := by
  induction ρ with
  | nil => intro h; simp [lk] at h
  | cons y r ih =>
    obtain ⟨b', s⟩ := y
    intro h
    rw [lk_cons] at h
    split at h
    · simp only [Option.some.injEq] at h
      subst h
      simp [hasSrc]
    · have := ih h
      cases s with
      | nil => simpa only [hasSrc] using this
      | old y d' =>
        simp only [hasSrc]
        split
        · rfl
        · exact this
theorem rhoOk_inj {hp' : List (Nat × Box)} : ∀ {ρ : Rho}, rhoOk hp' ρ = true → ∀ b b' x d d', lk ρ b = some (.old x d) → lk ρ b' = some (.old x d') → b = b'
  | [], _, b, b', x, d, d', h1, h2 => by simp [lk] at h1
  | (y, s) :: r, h, b, b', x, d, d', h1, h2 => by
    simp only [rhoOk, Bool.and_eq_true] at h
    rw [lk_cons] at h1 h2
    split at h1
    · rename_i e1
      simp only [Option.some.injEq] at h1
      subst h1
      split at h2
      · rename_i e2; rw [← e1, ← e2]
      · have := hasSrc_of h2
        have h3 := h.1.2
        simp only [this] at h3
        cases h3
    · split at h2
      · simp only [Option.some.injEq] at h2
        subst h2
        have := hasSrc_of h1
        have h3 := h.1.2
        simp only [this] at h3
        cases h3
      · exact rhoOk_inj h.2 b b' x d d' h1 h2
theorem lowOk_low {ρ : Rho} : ∀ {hp : List (Nat × Box)}, lowOk ρ hp = true → ∀ b, b < 1000 → (∃ box, lk hp b = some box) → lk ρ b = some (.old b 0)
  | [], _, b, _, ⟨box, hb⟩ => by simp [lk] at hb
  | (b', box') :: r, h, b, hlt, ⟨box, hb⟩ => by
    simp only [lowOk] at h
    rw [lk_cons] at hb
    split at hb
    · rename_i e
      subst e
      split at h
      · simp only [Bool.and_eq_true] at h
        have h1 := h.1
        unfold isLow at h1
        split at h1
        · rename_i x d hx
          simp only [Bool.and_eq_true] at h1
          rw [hx, Nat.eq_of_beq_eq_true h1.1, Nat.eq_of_beq_eq_true h1.2]
        · cases h1
      · rename_i hf
        have : Nat.blt b' 1000 = true := by rw [Nat.blt_eq]; exact hlt
        rw [this] at hf; cases hf
    · split at h
      · simp only [Bool.and_eq_true] at h
        exact lowOk_low h.2 b hlt ⟨box, hb⟩
      · exact lowOk_low h b hlt ⟨box, hb⟩
def trOk : List (Nat × Box) → Bool
  | [] => true
  | (b, box) :: r => match box with
    | .tr _ _ _ _ => Nat.beq b 999 && trOk r
    | _ => trOk r
theorem trOk_spec : ∀ {h : List (Nat × Box)}, trOk h = true → ∀ b a0 a1 a2 a3, lk h b = some (.tr a0 a1 a2 a3) → b = 999
  | [], _, b, a0, a1, a2, a3, hk => by simp [lk] at hk
  | (k', box) :: r, h, b, a0, a1, a2, a3, hk => by
    rw [lk_cons] at hk
    split at hk
    · rename_i e
      simp only [Option.some.injEq] at hk
      subst hk
      simp only [trOk, Bool.and_eq_true] at h
      rw [← e, Nat.eq_of_beq_eq_true h.1]
    · refine trOk_spec (h := r) ?_ b a0 a1 a2 a3 hk
      cases box <;> simp only [trOk, Bool.and_eq_true] at h <;> first | exact h | exact h.2
def rhoFit (ρ : Rho) (hp hp' : List (Nat × Box)) : Bool := rhoOk hp' ρ && (lowOk ρ hp && trOk hp')
theorem leH_of {ρ : Rho} {hp hp' : List (Nat × Box)} {X : Prop} (h : rhoFit ρ hp hp' = true) (h' : leHs ρ hp hp' X) : LeH ρ hp hp' := by
  simp only [rhoFit, Bool.and_eq_true] at h
  exact ⟨leHs_box h', rhoOk_dom h.1, rhoOk_inj h.1, lowOk_low h.2.1, trOk_spec h.2.2⟩
def entC (s s' : AS) : Prop :=
  match s with
  | ⟨tm, _, hp⟩ => match s' with
    | ⟨tm', _, hp'⟩ => match lowRho hp with
      | ρ0 => match mt hp hp' 1000 ρ0 (lowPairs hp hp' ρ0 (tmPairs tm tm')) with
        | some ρ => match rhoFit ρ hp hp' with
          | true => leHs ρ hp hp' (leTm ρ tm tm' True)
          | false => False
        | none => False
theorem ent_of {s s' : AS} (h : entC s s') (c : Ctx) (R : Real) (a : Act) (w : World) (g : Gam c R s a w) : ∃ R', Gam c R' s' a w := by
  obtain ⟨tm, nx, hp⟩ := s
  obtain ⟨tm', nx', hp'⟩ := s'
  simp only [entC] at h
  split at h
  · rename_i ρ _
    split at h
    · rename_i hf
      have H := leH_of hf h
      refine ⟨renR ρ R, (g.hap.weaken H).gam (fun t v' hv' => ?_) g.size (g.marks.imp fun Ds hm => hm.kept (fun _ _ _ => rfl) fun r _ ⟨b, ho⟩ => let ⟨x, _, _, h2⟩ := leOwn H ho; ⟨x, h2⟩)⟩
      obtain ⟨v, hv, hle⟩ := leTm_slot (leHs_out h) t v' hv'
      obtain ⟨x, hx, hr⟩ := g.slots t v hv
      exact ⟨x, hx, le_sound H v' v x hle hr⟩
    · exact h.elim
  · exact h.elim
def entR (hp : List (Nat × Box)) (r : AV) (Q : AV → List (Nat × Box) → Prop) : Prop :=
  ∃ r' hp', Q r' hp' ∧ match lowRho hp with
    | ρ0 => match mt hp hp' 1000 ρ0 (lowPairs hp hp' ρ0 [(r, r')]) with
      | some ρ => match rhoFit ρ hp hp' with
        | true => leHs ρ hp hp' (le ρ r r')
        | false => False
      | none => False
theorem entR_sound {hp : List (Nat × Box)} {r : AV} {Q : AV → List (Nat × Box) → Prop} (h : entR hp r Q) {c : Ctx} {R : Real} {w : World} (g : Hap c R hp w) {v : Value} (hv : repA (Nof c R hp) w hp R r v) :
    ∃ r' hp' R', Q r' hp' ∧ Hap c R' hp' w ∧ repA (Nof c R' hp') w hp' R' r' v := by
  obtain ⟨r', hp', hQ, h⟩ := h
  simp only at h
  split at h
  · rename_i ρ _
    split at h
    · rename_i hf
      have H := leH_of hf h
      exact ⟨r', hp', renR ρ R, hQ, g.weaken H, le_sound H r' r v (leHs_out h) hv⟩
    · exact h.elim
  · exact h.elim
end Go.AX
end
section
namespace Go.AX
def GC (P : Program) (f : FuncId) (args : List AV) (hp : List (Nat × Box)) (Q : AV → List (Nat × Box) → Prop) : Prop :=
  Enters P f ∧ ∀ (c : Ctx) (R : Real) (w : World) (cargs : Array Value), Hap c R hp w → repAL (Nof c R hp) w hp R args cargs.toList →
    Calls P f cargs w fun e w' => ∃ v r hp' R', e = .returned v ∧ Q r hp' ∧ Hap c R' hp' w' ∧ repA (Nof c R' hp') w' hp' R' r v
def GCx (P : Program) (f : FuncId) (args : List AV) (hp : List (Nat × Box)) (r : AV) (hp' : List (Nat × Box)) : Prop := GC P f args hp fun x h => x = r ∧ h = hp'
def memN (x : Nat) : List Nat → Bool
  | [] => false
  | y :: r => match Nat.beq x y with
    | true => true
    | false => memN x r
def keys {α : Type} : List (Nat × α) → List Nat
  | [] => []
  | (k, _) :: r => k :: keys r
def fetch (hp : List (Nat × Box)) : List Nat → Option (List (Nat × Box))
  | [] => some []
  | b :: r => match lk hp b with
    | some box => match fetch hp r with
      | some t => some ((b, box) :: t)
      | none => none
    | none => none
def snoc : List Nat → Nat → List Nat
  | [], x => [x]
  | y :: r, x => y :: snoc r x
def clos (hp : List (Nat × Box)) : Nat → List Nat → List Nat → List Nat
  | 0, _, seen => seen
  | _ + 1, [], seen => seen
  | n + 1, b :: todo, seen => match memN b seen with
    | true => clos hp n todo seen
    | false => match lk hp b with
      | some (.var cells) => clos hp n (refss cells ++ todo) (snoc seen b)
      | _ => clos hp n todo (snoc seen b)
abbrev Inv := List (Nat × (Nat × Nat))
def verN : Box → Nat
  | .arr _ v _ _ => v
  | .roa v _ _ => v
  | .tr _ v _ _ => v
  | _ => 0
def mkInv : Nat → List (Nat × Box) → Inv
  | _, [] => []
  | k, (b, box) :: r => (b, (k, verN box)) :: mkInv (k + 1) r
def mkFwd : Nat → List (Nat × Box) → Ren
  | _, [] => []
  | k, (b, box) :: r => (k, (b, verN box)) :: mkFwd (k + 1) r
section
variable (inv : Inv)
mutual
def invA : AV → AV
  | .pv p => .pv p
  | .agg cs => .agg (invAL cs)
  | .tup cs => .tup (invAL cs)
  | .ptr b off => match lk inv b with
    | some (k, _) => .ptr k off
    | none => .pv .junk
  | .aptr b ver i off => match lk inv b with
    | some (k, d) => match Nat.ble d ver with
      | true => .aptr k (ver - d) i off
      | false => .pv .junk
    | none => .pv .junk
  | .slw b ver => match lk inv b with
    | some (k, d) => match Nat.ble d ver with
      | true => .slw k (ver - d)
      | false => .pv .junk
    | none => .pv .junk
  | .sub b ver st lo hi => match lk inv b with
    | some (k, d) => match Nat.ble d ver with
      | true => .sub k (ver - d) st lo hi
      | false => .pv .junk
    | none => .pv .junk
  | .fn f first caps => .fn f (invAL first) (invAL caps)
def invAL : List AV → List AV
  | [] => []
  | v :: r => invA v :: invAL r
end
def invBox : Box → Box
  | .var cells => .var (invAL inv cells)
  | .rov cells => .rov cells
  | .arr e ver st rows => .arr e 0 st rows
  | .roa ver st rows => .roa 0 st rows
  | .tr y _ rest st => .tr y 0 rest st
def invH : Nat → List (Nat × Box) → List (Nat × Box)
  | _, [] => []
  | k, (_, box) :: r => (k, invBox inv box) :: invH (k + 1) r
end
def oname (fwd : Ren) (id k : Nat) : Nat × Nat :=
  match lk fwd k with
  | some p => p
  | none => (id + 1000000 * k, 0)
def outRen (fwd : Ren) (id : Nat) : List (Nat × Box) → Ren
  | [] => []
  | (k, _) :: r => (k, oname fwd id k) :: outRen fwd id r
def renH (ρ : Ren) : List (Nat × Box) → List (Nat × Box)
  | [] => []
  | (k, box) :: r => (rid ρ k, renBox ρ k box) :: renH ρ r
def newIds (fwd : Ren) (id : Nat) : List (Nat × Box) → List Nat
  | [] => []
  | (k, _) :: r => match lk fwd k with
    | some _ => newIds fwd id r
    | none => (id + 1000000 * k) :: newIds fwd id r
def allNone (hp : List (Nat × Box)) : List Nat → Bool
  | [] => true
  | b :: r => (match lk hp b with
    | some _ => false
    | none => true) && allNone hp r
def passed (hp' : List (Nat × Box)) : Ren → Bool
  | [] => true
  | (k, _) :: r => (isSome (lk hp' k) && Nat.blt k 999) && passed hp' r
def invOk (inv : Inv) : Ren → Bool
  | [] => true
  | (k, (b, d)) :: r => (match lk inv b with
    | some (k', d') => Nat.beq k' k && Nat.beq d' d
    | none => false) && invOk inv r
def noTr : List (Nat × Box) → Bool
  | [] => true
  | (_, box) :: r => match box with
    | .tr _ _ _ _ => false
    | _ => noTr r
def gOk (inv : Inv) (fwd : Ren) (id : Nat) (hp hp' hp0 : List (Nat × Box)) : Bool := passed hp' fwd && (allNone hp (newIds fwd id hp') && (keysOk hp' && (invOk inv fwd && noTr hp0)))
def outF (fwd : Ren) (id : Nat) : List (Nat × Box) → (Ren → Prop) → Prop
  | [], K => K []
  | (k, _) :: r, K => match lk fwd k with
    | some p => outF fwd id r fun t => K ((k, p) :: t)
    | none => outF fwd id r fun t => K ((k, (id + 1000000 * k, 0)) :: t)
section
variable (ρ : Ren)
mutual
def renF : AV → (AV → Prop) → Prop
  | .pv p, K => K (.pv p)
  | .agg cs, K => renFL cs fun cs => K (.agg cs)
  | .tup cs, K => renFL cs fun cs => K (.tup cs)
  | .ptr b off, K => match lk ρ b with
    | some p => match p with
      | (x, _) => K (.ptr x off)
    | none => K (.ptr (b + 2000000000) off)
  | .aptr b ver i off, K => match lk ρ b with
    | some p => match p with
      | (x, d) => K (.aptr x (ver + d) i off)
    | none => K (.aptr (b + 2000000000) (ver + 0) i off)
  | .slw b ver, K => match lk ρ b with
    | some p => match p with
      | (x, d) => K (.slw x (ver + d))
    | none => K (.slw (b + 2000000000) (ver + 0))
  | .sub b ver st lo hi, K => match lk ρ b with
    | some p => match p with
      | (x, d) => K (.sub x (ver + d) st lo hi)
    | none => K (.sub (b + 2000000000) (ver + 0) st lo hi)
  | .fn f first caps, K => renFL first fun first => renFL caps fun caps => K (.fn f first caps)
def renFL : List AV → (List AV → Prop) → Prop
  | [], K => K []
  | v :: r, K => renF v fun v => renFL r fun r => K (v :: r)
end
def renHF : List (Nat × Box) → (List (Nat × Box) → Prop) → Prop
  | [], K => K []
  | (k, box) :: r, K => match lk ρ k with
    | some p => match p with
      | (x, d) => match box with
        | .var cells => renFL ρ cells fun cells => renHF r fun t => K ((x, .var cells) :: t)
        | .rov cells => renHF r fun t => K ((x, .rov cells) :: t)
        | .arr e ver st rows => renHF r fun t => K ((x, .arr e (ver + d) st rows) :: t)
        | .roa ver st rows => renHF r fun t => K ((x, .roa (ver + d) st rows) :: t)
        | .tr _ _ _ _ => False
    | none => False
mutual
theorem renF_eq : ∀ (v : AV) (K : AV → Prop), renF ρ v K = K (renA ρ v)
  | .sub b ver st lo hi, K => by
    simp only [renF, renA, rid, rsh]
    cases lk ρ b with
    | none => rfl
    | some p => rfl
  | .pv p, K => by simp only [renF, renA]
  | .agg cs, K => by simp only [renF, renA, renFL_eq cs]
  | .tup cs, K => by simp only [renF, renA, renFL_eq cs]
  | .ptr b off, K => by
    simp only [renF, renA, rid]
    cases lk ρ b with
    | none => rfl
    | some p => rfl
  | .aptr b ver i off, K => by
    simp only [renF, renA, rid, rsh]
    cases lk ρ b with
    | none => rfl
    | some p => rfl
  | .slw b ver, K => by
    simp only [renF, renA, rid, rsh]
    cases lk ρ b with
    | none => rfl
    | some p => rfl
  | .fn f first caps, K => by simp only [renF, renA, renFL_eq first, renFL_eq caps]
theorem renFL_eq : ∀ (vs : List AV) (K : List AV → Prop), renFL ρ vs K = K (renAL ρ vs)
  | [], K => by simp only [renFL, renAL]
  | v :: r, K => by simp only [renFL, renAL, renF_eq v, renFL_eq r]
end
theorem renHF_eq : ∀ (h : List (Nat × Box)) (K : List (Nat × Box) → Prop), renHF ρ h K → K (renH ρ h)
  | [], K, hh => by simpa only [renHF, renH] using hh
  | (k, box) :: r, K, hh => by
    simp only [renHF] at hh
    split at hh
    · rename_i p hp
      obtain ⟨x, d⟩ := p
      have e1 : rid ρ k = x := by simp [rid, hp]
      have e2 : rsh ρ k = d := by simp [rsh, hp]
      simp only at hh
      cases box with
      | var cells =>
        simp only [renFL_eq] at hh
        have := renHF_eq r _ hh
        simpa only [renH, renBox, e1] using this
      | rov cells => have := renHF_eq r _ hh; simpa only [renH, renBox, e1] using this
      | arr e ver st rows => have := renHF_eq r _ hh; simpa only [renH, renBox, e1, e2] using this
      | roa ver st rows => have := renHF_eq r _ hh; simpa only [renH, renBox, e1, e2] using this
      | tr y ver rest st => exact hh.elim
    · exact hh.elim
end
theorem renHF_congr {ρ : Ren} : ∀ (h : List (Nat × Box)) (K K' : List (Nat × Box) → Prop), renHF ρ h K → K' (renH ρ h) → renHF ρ h K'
  | [], K, K', hh, hk => by simpa only [renHF, renH] using hk
  | (k, box) :: r, K, K', hh, hk => by
    simp only [renHF] at hh ⊢
    split at hh
    · rename_i p hp
      obtain ⟨x, d⟩ := p
      have e1 : rid ρ k = x := by simp [rid, hp]
      have e2 : rsh ρ k = d := by simp [rsh, hp]
      simp only at hh ⊢
      simp only [renH, e1] at hk
      cases box with
      | var cells =>
        simp only [renFL_eq] at hh ⊢
        exact renHF_congr r _ _ hh hk
      | rov cells => exact renHF_congr r _ _ hh hk
      | arr e ver st rows => simp only [renBox, e2] at hk; exact renHF_congr r _ _ hh hk
      | roa ver st rows => simp only [renBox, e2] at hk; exact renHF_congr r _ _ hh hk
      | tr y ver rest st => exact hh.elim
    · exact hh.elim
theorem outF_eq (fwd : Ren) (id : Nat) : ∀ (h : List (Nat × Box)) (K : Ren → Prop), outF fwd id h K = K (outRen fwd id h)
  | [], K => rfl
  | (k, box) :: r, K => by
    simp only [outF, outRen, oname, outF_eq fwd id r]
    cases lk fwd k <;> rfl
theorem noTr_spec : ∀ {h : List (Nat × Box)}, noTr h = true → ∀ k x y z u, lk h k ≠ some (.tr x y z u)
  | [], _, k, x, y, z, u, hk => by simp [lk] at hk
  | (k', box) :: r, h, k, x, y, z, u, hk => by
    rw [lk_cons] at hk
    split at hk
    · simp only [Option.some.injEq] at hk
      subst hk
      simp [noTr] at h
    · refine noTr_spec (h := r) ?_ k x y z u hk
      cases box <;> simp only [noTr] at h <;> first | exact h | cases h
theorem renHF_noTr {ρ : Ren} : ∀ (h : List (Nat × Box)) (K : List (Nat × Box) → Prop), renHF ρ h K → noTr h = true
  | [], K, hh => rfl
  | (k, box) :: r, K, hh => by
    simp only [renHF] at hh
    split at hh
    · simp only [noTr]
      cases box with
      | var cells => simp only [renFL_eq] at hh; exact renHF_noTr r _ hh
      | rov cells => exact renHF_noTr r _ hh
      | arr e ver st rows => exact renHF_noTr r _ hh
      | roa ver st rows => exact renHF_noTr r _ hh
      | tr y ver rest st => exact hh.elim
    · exact hh.elim
def gC (P : Program) (hp : List (Nat × Box)) (id : Nat) (vs : List AV) (K : AV → List (Nat × Box) → List Nat → Prop) : Prop :=
  match vs with
  | fv :: args => match fnOf fv with
    | some (.func f, first, caps) => match clos hp 100 (refss (first ++ (args ++ caps))) [] with
      | ids => match fetch hp ids with
        | some H => match mkInv 1 H with
          | inv => match mkFwd 1 H with
            | fwd => ∃ r hp', GCx P f (invAL inv (first ++ (args ++ caps))) (invH inv 1 H) r hp' ∧ match gOk inv fwd id hp hp' (invH inv 1 H) with
              | true => outF fwd id hp' fun ρ => renF ρ r fun r => renHF ρ hp' fun ws => K r ws (ids ++ newIds fwd id hp')
              | false => False
        | none => False
    | _ => False
  | _ => False
def gI (P : Program) (hp : List (Nat × Box)) (id : Nat) (vs : List AV) (K : AV → List (Nat × Box) → List Nat → Prop) : Prop :=
  match vs with
  | fv :: args => match fnOf fv with
    | some (.func f, first, caps) => match clos hp 100 (refss (first ++ (args ++ caps))) [] with
      | ids => match fetch hp ids with
        | some H => match mkInv 1 H with
          | inv => match mkFwd 1 H with
            | fwd => match invOk inv fwd && noTr (invH inv 1 H) with
              | true => ∃ Q : AV → List (Nat × Box) → Prop, GC P f (invAL inv (first ++ (args ++ caps))) (invH inv 1 H) Q ∧ ∀ r hp', Q r hp' → match gOk inv fwd id hp hp' (invH inv 1 H) with
                | true => outF fwd id hp' fun ρ => renF ρ r fun r => renHF ρ hp' fun ws => K r ws (ids ++ newIds fwd id hp')
                | false => False
              | false => False
        | none => False
    | _ => False
  | _ => False
end Go.AX
end
section
namespace Go.AX
theorem fetch_mem {hp : List (Nat × Box)} : ∀ {ids : List Nat} {H : List (Nat × Box)}, fetch hp ids = some H → ∀ x ∈ H, lk hp x.1 = some x.2
  | [], H, h, x, hx => by simp only [fetch, Option.some.injEq] at h; subst h; simp at hx
  | i :: r, H, h, x, hx => by
    simp only [fetch] at h
    split at h
    · rename_i bx hbx
      split at h
      · rename_i t ht
        simp only [Option.some.injEq] at h
        subst h
        rcases List.mem_cons.1 hx with rfl | hx
        · exact hbx
        · exact fetch_mem ht x hx
      · cases h
    · cases h
theorem mkInv_fwd : ∀ {H : List (Nat × Box)} {k0 b k d : Nat}, lk (mkInv k0 H) b = some (k, d) → k0 ≤ k ∧ lk (mkFwd k0 H) k = some (b, d)
  | [], k0, b, k, d, h => by simp [mkInv, lk] at h
  | (b', box) :: r, k0, b, k, d, h => by
    simp only [mkInv, lk_cons] at h
    simp only [mkFwd, lk_cons]
    split at h
    · rename_i e
      simp only [Option.some.injEq, Prod.mk.injEq] at h
      obtain ⟨rfl, rfl⟩ := h
      subst e
      exact ⟨Nat.le_refl _, by rw [if_pos rfl]⟩
    · obtain ⟨h1, h2⟩ := mkInv_fwd h
      exact ⟨by omega, by rw [if_neg (by omega)]; exact h2⟩
theorem mkFwd_ge : ∀ {H : List (Nat × Box)} {k0 k : Nat} {p : Nat × Nat}, lk (mkFwd k0 H) k = some p → k0 ≤ k
  | [], k0, k, p, h => by simp [mkFwd, lk] at h
  | (b', box) :: r, k0, k, p, h => by
    simp only [mkFwd, lk_cons] at h
    split at h
    · omega
    · have := mkFwd_ge h; omega
theorem invH_ge {inv : Inv} : ∀ {H : List (Nat × Box)} {k0 k : Nat} {p : Box}, lk (invH inv k0 H) k = some p → k0 ≤ k
  | [], k0, k, p, h => by simp [invH, lk] at h
  | (b', box) :: r, k0, k, p, h => by
    simp only [invH, lk_cons] at h
    split at h
    · omega
    · have := invH_ge h; omega
theorem mkFwd_box {inv : Inv} {hp : List (Nat × Box)} : ∀ {H : List (Nat × Box)} {k0 b k d : Nat}, (∀ x ∈ H, lk hp x.1 = some x.2) → lk (mkFwd k0 H) k = some (b, d) →
    ∃ box, lk hp b = some box ∧ d = verN box ∧ lk (invH inv k0 H) k = some (invBox inv box)
  | [], k0, b, k, d, _, h => by simp [mkFwd, lk] at h
  | (b', box) :: r, k0, b, k, d, hm, h => by
    simp only [mkFwd, lk_cons] at h
    simp only [invH, lk_cons]
    split at h
    · rename_i e
      simp only [Option.some.injEq, Prod.mk.injEq] at h
      obtain ⟨rfl, rfl⟩ := h
      exact ⟨box, hm (b', box) (by simp), rfl, by rw [if_pos e]⟩
    · have hge := mkFwd_ge h
      obtain ⟨bx, h1, h2, h3⟩ := mkFwd_box (inv := inv) (fun x hx => hm x (by simp [hx])) h
      exact ⟨bx, h1, h2, by rw [if_neg (by omega)]; exact h3⟩
theorem invH_box {inv : Inv} {hp : List (Nat × Box)} : ∀ {H : List (Nat × Box)} {k0 k : Nat} {box0 : Box}, (∀ x ∈ H, lk hp x.1 = some x.2) → lk (invH inv k0 H) k = some box0 →
    ∃ b box, lk (mkFwd k0 H) k = some (b, verN box) ∧ lk hp b = some box ∧ box0 = invBox inv box
  | [], k0, k, box0, _, h => by simp [invH, lk] at h
  | (b', box) :: r, k0, k, box0, hm, h => by
    simp only [invH, lk_cons] at h
    simp only [mkFwd, lk_cons]
    split at h
    · rename_i e
      simp only [Option.some.injEq] at h
      exact ⟨b', box, by rw [if_pos e], hm (b', box) (by simp), h.symm⟩
    · have hge := invH_ge h
      obtain ⟨b, bx, h1, h2, h3⟩ := invH_box (fun x hx => hm x (by simp [hx])) h
      exact ⟨b, bx, by rw [if_neg (by omega)]; exact h1, h2, h3⟩
theorem invOk_spec {inv : Inv} : ∀ {fwd : Ren} {k b d : Nat}, invOk inv fwd = true → lk fwd k = some (b, d) → lk inv b = some (k, d)
  | [], k, b, d, _, h => by simp [lk] at h
  | (k', (b', d')) :: r, k, b, d, hok, h => by
    simp only [invOk, Bool.and_eq_true] at hok
    rw [lk_cons] at h
    split at h
    · rename_i e
      simp only [Option.some.injEq, Prod.mk.injEq] at h
      obtain ⟨rfl, rfl⟩ := h
      have h1 := hok.1
      split at h1
      · rename_i k2 d2 h2
        simp only [Bool.and_eq_true] at h1
        rw [h2, Nat.eq_of_beq_eq_true h1.1, Nat.eq_of_beq_eq_true h1.2, e]
      · cases h1
    · exact invOk_spec hok.2 h
theorem passed_spec {hp' : List (Nat × Box)} : ∀ {fwd : Ren} {k : Nat} {p : Nat × Nat}, passed hp' fwd = true → lk fwd k = some p → k < 999 ∧ ∃ box, lk hp' k = some box
  | [], k, p, _, h => by simp [lk] at h
  | (k', p') :: r, k, p, hok, h => by
    simp only [passed, Bool.and_eq_true] at hok
    rw [lk_cons] at h
    split at h
    · rename_i e
      subst e
      have h1 := hok.1
      rw [Nat.blt_eq] at h1
      refine ⟨h1.2, ?_⟩
      cases hb : lk hp' k' with
      | none => rw [hb] at h1; cases h1.1
      | some box => exact ⟨box, rfl⟩
    · exact passed_spec hok.2 h
theorem allNone_spec {hp : List (Nat × Box)} : ∀ {l : List Nat}, allNone hp l = true → ∀ b ∈ l, lk hp b = none
  | [], _, b, hb => by simp at hb
  | x :: r, h, b, hb => by
    simp only [allNone, Bool.and_eq_true] at h
    rcases List.mem_cons.1 hb with rfl | hb
    · have h1 := h.1
      cases hx : lk hp b with
      | none => rfl
      | some y => rw [hx] at h1; cases h1
    · exact allNone_spec h.2 b hb
theorem newIds_mem {fwd : Ren} {id : Nat} : ∀ {hp' : List (Nat × Box)} {k : Nat} {box : Box}, lk hp' k = some box → lk fwd k = none → id + 1000000 * k ∈ newIds fwd id hp'
  | [], k, box, h, _ => by simp [lk] at h
  | (k', b') :: r, k, box, h, hf => by
    rw [lk_cons] at h
    simp only [newIds]
    split at h
    · rename_i e
      subst e
      rw [hf]
      simp
    · have := newIds_mem (id := id) h hf
      split
      · exact this
      · exact List.mem_cons_of_mem _ this
theorem outRen_lk {fwd : Ren} {id : Nat} : ∀ {hp' : List (Nat × Box)} {k : Nat}, lk (outRen fwd id hp') k = (lk hp' k).map fun _ => oname fwd id k
  | [], k => rfl
  | (k', b') :: r, k => by
    simp only [outRen, lk_cons]
    split
    · rename_i e; subst e; rfl
    · exact outRen_lk
def fwR (fwd : Ren) (R : Real) : Real where
  blk k := match lk fwd k with
    | some (b, _) => R.blk b
    | none => 0
  nil k := match lk fwd k with
    | some (b, _) => R.nil b
    | none => true
  cap k := match lk fwd k with
    | some (b, _) => R.cap b
    | none => 0
  Y := R.Y
theorem fwR_eq {fwd : Ren} {R : Real} {k b d : Nat} (h : lk fwd k = some (b, d)) : (fwR fwd R).blk k = R.blk b ∧ (fwR fwd R).nil k = R.nil b ∧ (fwR fwd R).cap k = R.cap b := by
  simp [fwR, h]
theorem slv_fw {fwd : Ren} {R : Real} {k b d n : Nat} (h : lk fwd k = some (b, d)) : slv (fwR fwd R) k n = slv R b n := by
  obtain ⟨h1, h2, h3⟩ := fwR_eq (R := R) h
  simp only [slv, h1, h2, h3]
section
variable {inv : Inv} {fwd : Ren} {hp hp0 : List (Nat × Box)} {R : Real} {N N0 : Nat → Prop} {w : World}
variable (h1 : ∀ b k d, lk inv b = some (k, d) → lk fwd k = some (b, d)) (h2 : ∀ k b d, lk fwd k = some (b, d) → ∃ box, lk hp b = some box ∧ d = verN box ∧ lk hp0 k = some (invBox inv box)) (hN : ∀ r, N0 r → N r)
include h1 h2
theorem inv_refPtr {b k d off : Nat} (hb : lk inv b = some (k, d)) {v : Value} (h : refPtr R b off v (lk hp b)) : refPtr (fwR fwd R) k off v (lk hp0 k) := by
  obtain ⟨box, a1, a2, a3⟩ := h2 k b d (h1 b k d hb)
  obtain ⟨e1, e2, e3⟩ := fwR_eq (R := R) (h1 b k d hb)
  rw [a1] at h
  rw [a3]
  cases box <;> simp only [refPtr, invBox, e1] at h ⊢ <;> exact h
theorem inv_refSl {b k d ver : Nat} (hb : lk inv b = some (k, d)) (hd : d ≤ ver) {v : Value} (h : refSl R b ver v (lk hp b)) : refSl (fwR fwd R) k (ver - d) v (lk hp0 k) := by
  obtain ⟨box, a1, a2, a3⟩ := h2 k b d (h1 b k d hb)
  rw [a1] at h
  rw [a3]
  cases box <;> simp only [refSl, invBox, slv_fw (h1 b k d hb)] at h ⊢ <;> first
    | exact h
    | (simp only [verN] at a2; exact ⟨by omega, h.2.1, fun e => h.2.2 (by omega)⟩)
theorem inv_refAp {b k d ver i off : Nat} (hb : lk inv b = some (k, d)) (hd : d ≤ ver) {v : Value} (h : refAp R b ver i off v (lk hp b)) : refAp (fwR fwd R) k (ver - d) i off v (lk hp0 k) := by
  obtain ⟨box, a1, a2, a3⟩ := h2 k b d (h1 b k d hb)
  obtain ⟨e1, e2, e3⟩ := fwR_eq (R := R) (h1 b k d hb)
  rw [a1] at h
  rw [a3]
  cases box <;> simp only [refAp, invBox, e1, e2] at h ⊢ <;> first
    | exact h
    | (simp only [verN] at a2; exact ⟨by omega, h.2.1, fun e => h.2.2 (by omega)⟩)
include hN
mutual
theorem inv_repA : ∀ (v : AV) (x : Value), repA N w hp R v x → repA N0 w hp0 (fwR fwd R) (invA inv v) x
  | .pv p, x => by simp only [invA, repA]; exact rep_mono (fun r _ h => hN r h) (fun _ _ _ => rfl) p x
  | .agg cs, x => by simp only [invA, repA]; rintro ⟨vs, a, b⟩; exact ⟨vs, a, inv_repAC cs _ b⟩
  | .tup cs, x => by simp only [invA, repA]; rintro ⟨vs, a, b⟩; exact ⟨vs, a, inv_repAL cs _ b⟩
  | .ptr b off, x => by
    intro h
    simp only [invA]
    split
    · rename_i k d hb
      simp only [repA] at h ⊢
      exact inv_refPtr h1 h2 hb h
    · simp only [repA, rep]
  | .aptr b ver i off, x => by
    intro h
    simp only [invA]
    split
    · rename_i k d hb
      split
      · rename_i hd
        simp only [repA] at h ⊢
        exact inv_refAp h1 h2 hb (Nat.le_of_ble_eq_true hd) h
      · simp only [repA, rep]
    · simp only [repA, rep]
  | .slw b ver, x => by
    intro h
    simp only [invA]
    split
    · rename_i k d hb
      split
      · rename_i hd
        simp only [repA] at h ⊢
        exact inv_refSl h1 h2 hb (Nat.le_of_ble_eq_true hd) h
      · simp only [repA, rep]
    · simp only [repA, rep]
  | .sub b ver st lo hi, x => by
    intro h
    simp only [invA]
    split
    · rename_i k d hb
      split
      · rename_i hd
        simp only [repA] at h ⊢
        obtain ⟨u, a, c⟩ := h
        exact ⟨u, inv_refSl h1 h2 hb (Nat.le_of_ble_eq_true hd) a, c⟩
      · simp only [repA, rep]
    · simp only [repA, rep]
  | .fn f first caps, x => by
    simp only [invA, repA]; rintro ⟨fs, cs, a, b, c⟩; exact ⟨fs, cs, a, inv_repAL _ _ b, inv_repAL _ _ c⟩
theorem inv_repAL : ∀ (vs : List AV) (xs : List Value), repAL N w hp R vs xs → repAL N0 w hp0 (fwR fwd R) (invAL inv vs) xs
  | [], xs => by simp only [invAL, repAL]; exact id
  | p :: ps, xs => by simp only [invAL, repAL]; rintro ⟨v, r, a, b, c⟩; exact ⟨v, r, a, inv_repA p v b, inv_repAL ps r c⟩
theorem inv_repAC : ∀ (vs : List AV) (xs : List Value), repAC N w hp R vs xs → repAC N0 w hp0 (fwR fwd R) (invAL inv vs) xs
  | [], xs => by simp only [invAL, repAC]; exact id
  | p :: ps, xs => by simp only [invAL, repAC]; rintro ⟨v, r, a, d, b, c⟩; exact ⟨v, r, a, d, inv_repA p v b, inv_repAC ps r c⟩
end
end
def upR (ρ : Ren) (R R2 : Real) (hp' : List (Nat × Box)) : Real where
  blk b := match lk (hp'.map fun x => (rid ρ x.1, x.1)) b with
    | some k => R2.blk k
    | none => R.blk b
  nil b := match lk (hp'.map fun x => (rid ρ x.1, x.1)) b with
    | some k => R2.nil k
    | none => R.nil b
  cap b := match lk (hp'.map fun x => (rid ρ x.1, x.1)) b with
    | some k => R2.cap k
    | none => R.cap b
  Y := R.Y
theorem renH_none {ρ : Ren} {b : Nat} : ∀ {hp' : List (Nat × Box)}, lk (hp'.map fun x => (rid ρ x.1, x.1)) b = none → lk (renH ρ hp') b = none
  | [], _ => rfl
  | (k, box) :: r, h => by
    simp only [List.map_cons, lk_cons] at h
    simp only [renH, lk_cons]
    split at h
    · cases h
    · rename_i e; rw [if_neg e]; exact renH_none h
theorem renH_some {ρ : Ren} {b k : Nat} : ∀ {hp' : List (Nat × Box)}, keysOk hp' = true → lk (hp'.map fun x => (rid ρ x.1, x.1)) b = some k →
    b = rid ρ k ∧ ∃ box, lk hp' k = some box ∧ lk (renH ρ hp') b = some (renBox ρ k box)
  | [], _, h => by simp [lk] at h
  | (k', box) :: r, hok, h => by
    simp only [keysOk, Bool.and_eq_true] at hok
    simp only [List.map_cons, lk_cons] at h
    simp only [renH, lk_cons]
    split at h
    · rename_i e
      simp only [Option.some.injEq] at h
      subst h
      exact ⟨e.symm, box, by rw [if_pos rfl], by rw [if_pos e]⟩
    · rename_i e
      obtain ⟨h1, bx, h2, h3⟩ := renH_some hok.2 h
      refine ⟨h1, bx, ?_, by rw [if_neg e]; exact h3⟩
      rw [if_neg]
      · exact h2
      · rintro rfl
        have := hok.1
        rw [h2] at this
        cases this
theorem renH_hit {ρ : Ren} {k : Nat} : ∀ {hp' : List (Nat × Box)} {box : Box}, (∀ k' box', lk hp' k' = some box' → rid ρ k' = rid ρ k → k' = k) → keysOk hp' = true → lk hp' k = some box →
    lk (hp'.map fun x => (rid ρ x.1, x.1)) (rid ρ k) = some k
  | [], box, _, _, h => by simp [lk] at h
  | (k', b') :: r, box, hinj, hok, h => by
    simp only [keysOk, Bool.and_eq_true] at hok
    simp only [List.map_cons, lk_cons]
    split
    · rename_i e
      rw [hinj k' b' (by simp [lk_cons]) e]
    · rename_i e
      rw [lk_cons] at h
      rw [if_neg (fun e' => e (by rw [e']))] at h
      refine renH_hit (fun k2 box2 h2 e2 => hinj k2 box2 ?_ e2) hok.2 h
      rw [lk_cons, if_neg]
      · exact h2
      · rintro rfl
        have := hok.1
        rw [h2] at this
        cases this
end Go.AX
end
section
namespace Go.AX
theorem fnOf_sound {N : Nat → Prop} {w : World} {hp : List (Nat × Box)} {R : Real} {v : AV} {g : Fn} {a' c' : List AV} {x : Value} (hus : fnOf v = some (g, a', c')) (hx : repA N w hp R v x) :
    ∃ fs cs : Array Value, x = .func g fs cs ∧ repAL N w hp R a' fs.toList ∧ repAL N w hp R c' cs.toList := by
  unfold fnOf at hus
  split at hus
  · simp only [Option.some.injEq, Prod.mk.injEq] at hus; obtain ⟨rfl, rfl, rfl⟩ := hus; simpa only [repA] using hx
  · simp only [Option.some.injEq, Prod.mk.injEq] at hus; obtain ⟨rfl, rfl, rfl⟩ := hus
    simp only [repA, rep] at hx
    obtain ⟨fs, cs, e, h3, h4⟩ := hx
    exact ⟨fs, cs, e, repAL_map _ _ h3, repAL_map _ _ h4⟩
  · cases hus
theorem repAL_app {N : Nat → Prop} {w : World} {hp : List (Nat × Box)} {R : Real} {vs us : List AV} {xs ys : List Value} (h : repAL N w hp R vs xs) (h' : repAL N w hp R us ys) : repAL N w hp R (vs ++ us) (xs ++ ys) := by
  rw [repAL_iff] at h h' ⊢
  exact h.app h'
def K2 (R : Real) (fwd : Ren) (hp : List (Nat × Box)) (v : AV) (x : Value) : Prop :=
  match v with
  | .ptr k off => k < 999 ∧ ∃ b d, lk fwd k = some (b, d) ∧ refPtr R b off x (lk hp b)
  | .slw k ver => k < 999 ∧ ∃ b d, lk fwd k = some (b, d) ∧ refSl R b (ver + d) x (lk hp b)
  | .aptr k ver i off => k < 999 ∧ ∃ b d, lk fwd k = some (b, d) ∧ refAp R b (ver + d) i off x (lk hp b)
  | _ => False
section
variable {P : Program} {c : Ctx} {R : Real} {s : AS} {a : Act} {w : World}
def DD (R : Real) (inv : Inv) (hp : List (Nat × Box)) (r : Nat) : Prop := ∃ b k d, lk inv b = some (k, d) ∧ ownBox R b r (lk hp b)
def ctx2 (g : Gam c R s a w) (inv : Inv) (fwd : Ren) : Ctx where
  F r := Nof c R s.hp r ∧ ¬ DD R inv s.hp r
  O := DD R inv s.hp
  w := w
  n := 0
  hF r h := g.Nlt h.1
  K := K2 R fwd s.hp
  hK v x h := by
    cases v <;> simp only [K2] at h <;> have h := h.1 <;> simp only [lowRef, Bool.and_eq_true, Nat.blt_eq, Bool.not_eq_true'] <;> first
      | omega
      | exact ⟨by omega, by cases hb : Nat.beq _ 999 with | false => rfl | true => (have := Nat.eq_of_beq_eq_true hb; omega)⟩
  fix _ := none
  n0 := R.Y.n0
  lo := w.heap.size
theorem in_Hap (g : Gam c R s a w) {inv : Inv} {fwd : Ren} {hp0 : List (Nat × Box)} (h1 : ∀ b k d, lk inv b = some (k, d) → lk fwd k = some (b, d)) (h1' : ∀ b k d, lk fwd k = some (b, d) → lk inv b = some (k, d))
    (h2 : ∀ k b d, lk fwd k = some (b, d) → ∃ box, lk s.hp b = some box ∧ d = verN box ∧ lk hp0 k = some (invBox inv box))
    (h3 : ∀ k box0, lk hp0 k = some box0 → ∃ b box, lk fwd k = some (b, verN box) ∧ lk s.hp b = some box ∧ box0 = invBox inv box) (h4 : ∀ k x y z u, lk hp0 k ≠ some (.tr x y z u)) :
    Hap (ctx2 g inv fwd) (fwR fwd R) hp0 w ∧ (∀ r, Nof (ctx2 g inv fwd) (fwR fwd R) hp0 r → Nof c R s.hp r) := by
  have ho : ∀ k r, ownBox (fwR fwd R) k r (lk hp0 k) → ∃ b d, lk fwd k = some (b, d) ∧ ownBox R b r (lk s.hp b) := by
    intro k r h
    cases hk : lk hp0 k with
    | none => rw [hk] at h; exact h.elim
    | some box0 =>
      obtain ⟨b, box, a1, a2, rfl⟩ := h3 k box0 hk
      obtain ⟨e1, e2, e3⟩ := fwR_eq (R := R) a1
      refine ⟨b, _, a1, ?_⟩
      rw [hk] at h
      rw [a2]
      cases box <;> simp only [ownBox, invBox, e1, e2] at h ⊢ <;> exact h
  have hod : ∀ r, owned (fwR fwd R) hp0 r → DD R inv s.hp r := by
    rintro r ⟨k, h⟩
    obtain ⟨b, d, a1, a2⟩ := ho k r h
    exact ⟨b, k, d, h1' b k d a1, a2⟩
  have hN : ∀ r, Nof (ctx2 g inv fwd) (fwR fwd R) hp0 r → Nof c R s.hp r := by
    rintro r (h | h)
    · exact h.1
    · obtain ⟨b, k, d, _, h⟩ := hod r h
      exact .inr ⟨b, h⟩
  refine ⟨⟨fun k box0 hk => ?_, fun k k' r ha hb => ?_, fun r hr hF => hF.2 (hod r hr), Evo.refl _ _, fun r hr => .inl (hod r hr), fun v x hK => ?_, Fixed.none, ⟨rfl, by show R.Y.n0.1 ≤ w.heap.size; rw [g.lo.1]; exact Nat.le_trans g.lo.2.1 g.lo.2.2, Nat.le_refl _⟩⟩, hN⟩
  · obtain ⟨b, box, a1, a2, rfl⟩ := h3 k box0 hk
    obtain ⟨e1, e2, e3⟩ := fwR_eq (R := R) a1
    have hr := g.boxes b box a2
    cases box with
    | var cells =>
      obtain ⟨cur, e, b1, b2⟩ := hr
      exact ⟨cur, e, by rw [e1]; exact b1, inv_repAC h1 h2 hN _ _ b2⟩
    | rov cells =>
      obtain ⟨cur, e, fr, b1, b2, b3⟩ := hr
      exact ⟨cur, e, fr, by rw [e1]; exact b1, by rw [e1]; exact fun h => b2 (hN _ h), repP_mono (fun r _ h => hN r h) (fun _ _ _ => rfl) _ _ b3⟩
    | arr e ver st rows =>
      obtain ⟨xs, b1, b2⟩ := hr
      exact ⟨xs, by rw [slv_fw a1]; exact b1, repR_mono (fun r _ h => hN r h) (fun _ _ _ => rfl) _ _ _ b2⟩
    | roa ver st rows =>
      simp only [invBox, realz, slv_fw a1] at hr ⊢
      exact rep_mono (fun r _ h => hN r h) (fun _ _ _ => rfl) _ _ hr
    | tr y ver rest st => exact absurd hk (h4 _ _ _ _ _)
  · obtain ⟨b, d, a1, a2⟩ := ho k r ha
    obtain ⟨b', d', b1, b2⟩ := ho k' r hb
    have := g.inj b b' r a2 b2
    subst this
    have e1 := h1' b k d a1
    have e2 := h1' b k' d' b1
    rw [e1] at e2
    simp only [Option.some.injEq, Prod.mk.injEq] at e2
    exact e2.1
  · cases v <;> simp only [ctx2, K2] at hK
    · obtain ⟨_, b, d, a1, a2⟩ := hK
      simp only [repA]
      exact inv_refPtr h1 h2 (h1' b _ d a1) a2
    · obtain ⟨_, b, d, a1, a2⟩ := hK
      simp only [repA]
      have := inv_refAp h1 h2 (h1' b _ d a1) (Nat.le_add_left _ _) a2
      rwa [Nat.add_sub_cancel] at this
    · obtain ⟨_, b, d, a1, a2⟩ := hK
      simp only [repA]
      have := inv_refSl h1 h2 (h1' b _ d a1) (Nat.le_add_left _ _) a2
      rwa [Nat.add_sub_cancel] at this
theorem out_Gam (g : Gam c R s a w) {inv : Inv} {fwd ρ : Ren} {hp' : List (Nat × Box)} {R2 : Real} {w' : World} {id : Nat}
    (h1 : ∀ b k d, lk inv b = some (k, d) → lk fwd k = some (b, d)) (h1' : ∀ b k d, lk fwd k = some (b, d) → lk inv b = some (k, d))
    (h2 : ∀ k b d, lk fwd k = some (b, d) → ∃ box, lk s.hp b = some box ∧ d = verN box) (h4 : ∀ k b d, lk fwd k = some (b, d) → ∀ x y z u, lk s.hp b ≠ some (.tr x y z u))
    (hpass : ∀ k p, lk fwd k = some p → k < 999 ∧ ∃ box, lk hp' k = some box) (hnew : ∀ b ∈ newIds fwd id hp', lk s.hp b = none) (hkeys : keysOk hp' = true)
    (hρ : ρ = outRen fwd id hp') (hntr : ∀ k x y z u, lk hp' k ≠ some (.tr x y z u)) (h : Hap (ctx2 g inv fwd) R2 hp' w') :
    Gam c (upR ρ R R2 hp') (s.app (renH ρ hp')) a w' ∧
      ∀ v x, repA (Nof (ctx2 g inv fwd) R2 hp') w' hp' R2 v x → repA (Nof c (upR ρ R R2 hp') (renH ρ hp' ++ s.hp)) w' (renH ρ hp' ++ s.hp) (upR ρ R R2 hp') (renA ρ v) x := by
  -- names
  have hrid : ∀ k box, lk hp' k = some box → (∃ b d, lk fwd k = some (b, d) ∧ rid ρ k = b ∧ rsh ρ k = d) ∨ (lk fwd k = none ∧ rid ρ k = id + 1000000 * k ∧ rsh ρ k = 0 ∧ lk s.hp (rid ρ k) = none) := by
    intro k box hk
    have e : lk ρ k = some (oname fwd id k) := by rw [hρ, outRen_lk, hk]; rfl
    cases hf : lk fwd k with
    | some p =>
      obtain ⟨b, d⟩ := p
      refine .inl ⟨b, d, rfl, ?_, ?_⟩ <;> simp [rid, rsh, e, oname, hf]
    | none =>
      have e1 : rid ρ k = id + 1000000 * k := by simp [rid, e, oname, hf]
      refine .inr ⟨rfl, e1, by simp [rsh, e, oname, hf], ?_⟩
      rw [e1]
      exact hnew _ (newIds_mem hk hf)
  have hinj : ∀ k k' box box', lk hp' k = some box → lk hp' k' = some box' → rid ρ k' = rid ρ k → k' = k := by
    intro k k' box box' hk hk' e
    rcases hrid k box hk with ⟨b, d, a1, a2, a3⟩ | ⟨a1, a2, a3, a4⟩ <;> rcases hrid k' box' hk' with ⟨b', d', b1, b2, b3⟩ | ⟨b1, b2, b3, b4⟩
    · rw [a2, b2] at e
      subst e
      have e1 := h1' _ k d a1
      have e2 := h1' _ k' d' b1
      rw [e1] at e2
      simp only [Option.some.injEq, Prod.mk.injEq] at e2
      exact e2.1.symm
    · obtain ⟨bx, c1, _⟩ := h2 k b d a1
      rw [e, a2, c1] at b4; cases b4
    · obtain ⟨bx, c1, _⟩ := h2 k' b' d' b1
      rw [← e, b2, c1] at a4; cases a4
    · rw [a2, b2] at e; omega
  have hit : ∀ k box, lk hp' k = some box → lk (hp'.map fun x => (rid ρ x.1, x.1)) (rid ρ k) = some k := fun k box hk =>
    renH_hit (fun k' box' hk' e => hinj k k' box box' hk hk' e) hkeys hk
  generalize hX : (hp'.map fun x => (rid ρ x.1, x.1)) = X at hit
  let R' := upR ρ R R2 hp'
  have hRk : ∀ k box, lk hp' k = some box → R'.blk (rid ρ k) = R2.blk k ∧ R'.nil (rid ρ k) = R2.nil k ∧ R'.cap (rid ρ k) = R2.cap k := by
    intro k box hk
    have := hit k box hk
    rw [← hX] at this
    simp only [R', upR, this]
    exact ⟨trivial, trivial, trivial⟩
  have hRn : ∀ b, lk X b = none → R'.blk b = R.blk b ∧ R'.nil b = R.nil b ∧ R'.cap b = R.cap b := by
    intro b hb
    rw [← hX] at hb
    simp only [R', upR, hb]
    exact ⟨trivial, trivial, trivial⟩
  have hlk : ∀ k box, lk hp' k = some box → lk (renH ρ hp' ++ s.hp) (rid ρ k) = some (renBox ρ k box) := by
    intro k box hk
    have := hit k box hk
    rw [← hX] at this
    obtain ⟨_, bx, c1, c2⟩ := renH_some hkeys this
    rw [hk] at c1
    cases c1
    have hmem : ∀ {l l' : List (Nat × Box)} {b : Nat} {y : Box}, lk l b = some y → lk (l ++ l') b = some y := by
      intro l l' b y
      induction l with
      | nil => intro h; simp [lk] at h
      | cons z l ih =>
        obtain ⟨zk, zv⟩ := z
        intro h
        rw [List.cons_append, lk_cons]
        rw [lk_cons] at h
        split at h
        · rename_i e; rw [if_pos e]; exact h
        · rename_i e; rw [if_neg e]; exact ih h
    exact hmem c2
  have hln : ∀ b, lk X b = none → lk (renH ρ hp' ++ s.hp) b = lk s.hp b := by
    intro b hb
    rw [← hX] at hb
    have := renH_none hb
    have hmem : ∀ {l l' : List (Nat × Box)} {b : Nat}, lk l b = none → lk (l ++ l') b = lk l' b := by
      intro l l' b
      induction l with
      | nil => intro _; rfl
      | cons z l ih =>
        obtain ⟨zk, zv⟩ := z
        intro h
        rw [List.cons_append, lk_cons]
        rw [lk_cons] at h
        split at h
        · cases h
        · rename_i e; rw [if_neg e]; exact ih h
    exact hmem this
  have hcase : ∀ b, lk X b = none ∨ ∃ k box, b = rid ρ k ∧ lk hp' k = some box := by
    intro b
    cases hb : lk X b with
    | none => exact .inl rfl
    | some k =>
      rw [← hX] at hb
      obtain ⟨e, bx, c1, _⟩ := renH_some hkeys hb
      exact .inr ⟨k, bx, e, c1⟩
  have hXd : ∀ b k d, lk inv b = some (k, d) → lk X b ≠ none := by
    intro b k d hb hn
    have hf := h1 b k d hb
    obtain ⟨_, bx, hk⟩ := hpass k _ hf
    have := hit k bx hk
    rcases hrid k bx hk with ⟨b', d', a1, a2, a3⟩ | ⟨a1, _⟩
    · rw [hf] at a1
      simp only [Option.some.injEq, Prod.mk.injEq] at a1
      rw [a2, ← a1.1, hn] at this; cases this
    · rw [hf] at a1; cases a1
  -- ownership
  have own_n : ∀ b r, lk X b = none → ownBox R' b r (lk (renH ρ hp' ++ s.hp) b) → ownBox R b r (lk s.hp b) := by
    intro b r hb h'
    rw [hln b hb] at h'
    exact ownBox_congr (hRn b hb) rfl h'
  have own_k : ∀ k box r, lk hp' k = some box → ownBox R' (rid ρ k) r (lk (renH ρ hp' ++ s.hp) (rid ρ k)) → ownBox R2 k r (lk hp' k) := by
    intro k box r hk h'
    rw [hlk k box hk] at h'
    rw [hk]
    obtain ⟨e1, e2, e3⟩ := hRk k box hk
    cases box <;> simp only [ownBox, renBox, e1, e2] at h' ⊢ <;> first
      | exact h'
      | exact absurd hk (hntr _ _ _ _ _)
  have notD : ∀ b r, lk X b = none → ownBox R b r (lk s.hp b) → ¬ DD R inv s.hp r := by
    rintro b r hb ho ⟨b', k, d, hi, ho'⟩
    have := g.inj b b' r ho ho'
    subst this
    exact hXd b k d hi hb
  have F2_of : ∀ b r, lk X b = none → ownBox R b r (lk s.hp b) → (ctx2 g inv fwd).F r := fun b r hb ho => ⟨.inr ⟨b, ho⟩, notD b r hb ho⟩
  have F2_F : ∀ r, c.F r → (ctx2 g inv fwd).F r := fun r hr => ⟨.inl hr, fun ⟨b, k, d, _, ho⟩ => g.free r ⟨b, ho⟩ hr⟩
  have DN : ∀ r, DD R inv s.hp r → owned R s.hp r := fun r ⟨b, k, d, _, ho⟩ => ⟨b, ho⟩
  -- what may not be looked at
  have N2 : ∀ r, Nof c R' (renH ρ hp' ++ s.hp) r → Nof (ctx2 g inv fwd) R2 hp' r := by
    rintro r (h' | ⟨b, h'⟩)
    · exact .inl (F2_F r h')
    · rcases hcase b with hb | ⟨k, box, rfl, hk⟩
      · exact .inl (F2_of b r hb (own_n b r hb h'))
      · exact .inr ⟨k, own_k k box r hk h'⟩
  have NN : ∀ r, r < w.heap.size → Nof c R' (renH ρ hp' ++ s.hp) r → Nof c R s.hp r := by
    intro r hr h'
    rcases N2 r h' with h' | h'
    · exact h'.1
    · rcases h.own0 r h' with h' | h'
      · exact .inr (DN r h')
      · exact absurd hr (Nat.not_lt.2 h')
  have WW : ∀ r, r < w.heap.size → ¬ Nof c R s.hp r → w'.heap[r]? = w.heap[r]? := fun r hr hn => h.evo.keep r hr fun hd => hn (.inr (DN r hd))
  -- references
  have P1 : ∀ k box, lk hp' k = some box → ∀ off v, refPtr R2 k off v (lk hp' k) → refPtr R' (rid ρ k) off v (lk (renH ρ hp' ++ s.hp) (rid ρ k)) := by
    intro k box hk off v hr
    rw [hlk k box hk]
    rw [hk] at hr
    obtain ⟨e1, e2, e3⟩ := hRk k box hk
    cases box <;> simp only [refPtr, renBox, e1] at hr ⊢ <;> exact hr
  have P2 : ∀ k box, lk hp' k = some box → ∀ ver v, refSl R2 k ver v (lk hp' k) → refSl R' (rid ρ k) (ver + rsh ρ k) v (lk (renH ρ hp' ++ s.hp) (rid ρ k)) := by
    intro k box hk ver v hr
    rw [hlk k box hk]
    rw [hk] at hr
    obtain ⟨e1, e2, e3⟩ := hRk k box hk
    cases box <;> simp only [refSl, renBox, slv_eq e1 e2 e3] at hr ⊢ <;> first
      | exact hr
      | exact ⟨by omega, hr.2.1, fun he => hr.2.2 (by omega)⟩
  have P3 : ∀ k box, lk hp' k = some box → ∀ ver i off v, refAp R2 k ver i off v (lk hp' k) → refAp R' (rid ρ k) (ver + rsh ρ k) i off v (lk (renH ρ hp' ++ s.hp) (rid ρ k)) := by
    intro k box hk ver i off v hr
    rw [hlk k box hk]
    rw [hk] at hr
    obtain ⟨e1, e2, e3⟩ := hRk k box hk
    cases box <;> simp only [refAp, renBox, e1, e2] at hr ⊢ <;> first
      | exact hr
      | exact absurd hk (hntr _ _ _ _ _)
      | exact ⟨by omega, hr.2.1, fun he => hr.2.2 (by omega)⟩
  have Q1 : ∀ b off v, refPtr R b off v (lk s.hp b) → refPtr R' b off v (lk (renH ρ hp' ++ s.hp) b) := by
    intro b off v hr
    rcases hcase b with hb | ⟨k, box, rfl, hk⟩
    · rw [hln b hb]; exact refPtr_congr (hRn b hb) hr
    · rcases hrid k box hk with ⟨b, d, a1, a2, a3⟩ | ⟨a1, a2, a3, a4⟩
      · rw [a2] at hr
        have := h.kept (.ptr k off) v ⟨(hpass k _ a1).1, b, d, a1, hr⟩
        simp only [repA] at this
        exact P1 k box hk off v this
      · rw [a4] at hr; exact hr.elim
  have cur : ∀ k b d, lk fwd k = some (b, d) → ∀ box, lk hp' k = some box → (∃ ver v, refSl R b ver v (lk s.hp b)) → ∃ v', refSl R b (0 + d) v' (lk s.hp b) := by
    rintro k b d hk box hb ⟨ver, v, hr⟩
    obtain ⟨bx, c1, c2⟩ := h2 k b d hk
    rw [c1] at hr ⊢
    cases bx <;> simp only [refSl] at hr
    · simp only [verN] at c2
      subst c2
      exact ⟨slv R b _, by omega, by unfold slv; split <;> rfl, fun _ => rfl⟩
    · simp only [verN] at c2
      subst c2
      exact ⟨slv R b _, by omega, by unfold slv; split <;> rfl, fun _ => rfl⟩
  have Q2 : ∀ b ver v, refSl R b ver v (lk s.hp b) → refSl R' b ver v (lk (renH ρ hp' ++ s.hp) b) := by
    intro b ver v hr
    rcases hcase b with hb | ⟨k, box, rfl, hk⟩
    · rw [hln b hb]; exact refSl_congr (hRn b hb) hr
    · rcases hrid k box hk with ⟨b, d, a1, a2, a3⟩ | ⟨a1, a2, a3, a4⟩
      · rw [a2] at hr
        by_cases hd : d ≤ ver
        · have := h.kept (.slw k (ver - d)) v ⟨(hpass k _ a1).1, b, d, a1, by rw [Nat.sub_add_cancel hd]; exact hr⟩
          simp only [repA] at this
          have := P2 k box hk _ v this
          rwa [a3, Nat.sub_add_cancel hd] at this
        · obtain ⟨v', hv'⟩ := cur k b d a1 box hk ⟨ver, v, hr⟩
          have := h.kept (.slw k 0) v' ⟨(hpass k _ a1).1, b, d, a1, hv'⟩
          simp only [repA] at this
          have := P2 k box hk _ v' this
          rw [a3] at this
          have hone : v.oneCell' = true := by
            cases hb2 : lk s.hp b with
            | none => rw [hb2] at hr; exact hr.elim
            | some bx => rw [hb2] at hr; cases bx <;> simp only [refSl] at hr <;> first | exact hr.2.1 | exact hr.elim
          cases hb3 : lk (renH ρ hp' ++ s.hp) (rid ρ k) with
          | none => rw [hb3] at this; exact this.elim
          | some bx =>
            rw [hb3] at this
            cases bx <;> simp only [refSl] at this ⊢ <;> exact ⟨by omega, hone, fun e => by omega⟩
      · rw [a4] at hr; exact hr.elim
  have cur3 : ∀ k b d, lk fwd k = some (b, d) → ∀ box, lk hp' k = some box → (∃ ver i off v, refAp R b ver i off v (lk s.hp b)) → ∃ v', refSl R b (0 + d) v' (lk s.hp b) := by
    rintro k b d hk box hb ⟨ver, i, off, v, hr⟩
    obtain ⟨bx, c1, c2⟩ := h2 k b d hk
    rw [c1] at hr ⊢
    cases bx <;> simp only [refAp] at hr
    · simp only [verN] at c2
      subst c2
      exact ⟨slv R b _, by omega, by unfold slv; split <;> rfl, fun _ => rfl⟩
    · simp only [verN] at c2
      subst c2
      exact ⟨slv R b _, by omega, by unfold slv; split <;> rfl, fun _ => rfl⟩
    · exact absurd c1 (h4 k b d hk _ _ _ _)
  have Q3 : ∀ b ver i off v, refAp R b ver i off v (lk s.hp b) → refAp R' b ver i off v (lk (renH ρ hp' ++ s.hp) b) := by
    intro b ver i off v hr
    rcases hcase b with hb | ⟨k, box, rfl, hk⟩
    · rw [hln b hb]; exact refAp_congr (hRn b hb) hr
    · rcases hrid k box hk with ⟨b, d, a1, a2, a3⟩ | ⟨a1, a2, a3, a4⟩
      · rw [a2] at hr
        by_cases hd : d ≤ ver
        · have := h.kept (.aptr k (ver - d) i off) v ⟨(hpass k _ a1).1, b, d, a1, by rw [Nat.sub_add_cancel hd]; exact hr⟩
          simp only [repA] at this
          have := P3 k box hk _ i off v this
          rwa [a3, Nat.sub_add_cancel hd] at this
        · obtain ⟨v', hv'⟩ := cur3 k b d a1 box hk ⟨ver, i, off, v, hr⟩
          have := h.kept (.slw k 0) v' ⟨(hpass k _ a1).1, b, d, a1, hv'⟩
          simp only [repA] at this
          have := P2 k box hk _ v' this
          rw [a3] at this
          have hone : v.oneCell' = true := by
            cases hb2 : lk s.hp b with
            | none => rw [hb2] at hr; exact hr.elim
            | some bx => rw [hb2] at hr; cases bx <;> simp only [refAp] at hr <;> first | exact hr.2.1 | exact hr.elim
          cases hb3 : lk (renH ρ hp' ++ s.hp) (rid ρ k) with
          | none => rw [hb3] at this; exact this.elim
          | some bx =>
            rw [hb3] at this
            cases bx <;> simp only [refSl] at this <;> simp only [refAp] <;> exact ⟨by omega, hone, fun e => by omega⟩
      · rw [a4] at hr; exact hr.elim
  have fwd_h : ∀ k box, lk hp' k = some box → lk (renH ρ hp' ++ s.hp) (rid ρ k) = some (renBox ρ k box) ∧ R'.blk (rid ρ k) = R2.blk k ∧ R'.nil (rid ρ k) = R2.nil k ∧ R'.cap (rid ρ k) = R2.cap k :=
    fun k box hk => ⟨hlk k box hk, hRk k box hk⟩
  have Id1 : ∀ b off v, refPtr R' b off v (lk (renH ρ hp' ++ s.hp) b) → refPtr R' b off v (lk (renH ρ hp' ++ s.hp) b) := fun _ _ _ h => h
  have Id2 : ∀ b ver v, refSl R' b ver v (lk (renH ρ hp' ++ s.hp) b) → refSl R' b ver v (lk (renH ρ hp' ++ s.hp) b) := fun _ _ _ h => h
  have Id3 : ∀ b ver i off v, refAp R' b ver i off v (lk (renH ρ hp' ++ s.hp) b) → refAp R' b ver i off v (lk (renH ρ hp' ++ s.hp) b) := fun _ _ _ _ _ h => h
  have N2' : ∀ r, r < w'.heap.size → Nof c R' (renH ρ hp' ++ s.hp) r → Nof (ctx2 g inv fwd) R2 hp' r := fun r _ => N2 r
  have W2 : ∀ r, r < w'.heap.size → ¬ Nof (ctx2 g inv fwd) R2 hp' r → w'.heap[r]? = w'.heap[r]? := fun _ _ _ => rfl
  have WO : ∀ r, r < w.heap.size → ¬ owned R s.hp r → w'.heap[r]? = w.heap[r]? := fun r hr hn => h.evo.keep r hr fun hd => hn (DN r hd)
  have OO : ∀ r, r < w.heap.size → owned R' (renH ρ hp' ++ s.hp) r → owned R s.hp r := by
    rintro r hr ⟨b, h'⟩
    rcases hcase b with hb | ⟨k, box, rfl, hk⟩
    · exact ⟨b, own_n b r hb h'⟩
    · rcases h.own0 r ⟨k, own_k k box r hk h'⟩ with h' | h'
      · exact DN r h'
      · exact absurd hr (Nat.not_lt.2 h')
  refine ⟨⟨fun t v hv => ?_, g.size, ⟨g.lo.1, g.lo.2.1, Nat.le_trans g.lo.2.2 h.evo.size⟩, g.marks.imp fun Ds hm => hm.kept WO OO, g.fixed.kept WO OO, fun b box hb => ?_, fun b b' r ha hb => ?_, fun r ⟨b, hr⟩ hF => ?_, ?_, fun r ⟨b, hr⟩ => ?_, fun v x hK => repA_mono NN WW Q1 Q2 Q3 v x (g.kept v x hK)⟩, fun v x hv => ?_⟩
  · obtain ⟨x, hx, hr⟩ := g.slots t v hv
    exact ⟨x, hx, repA_mono NN WW Q1 Q2 Q3 v x hr⟩
  · simp only [AS.app] at hb ⊢
    rcases hcase b with hbn | ⟨k, bx, rfl, hk⟩
    · have hb0 := hb
      rw [hln b hbn] at hb
      have hr := g.boxes b box hb
      have hRb := hRn b hbn
      have hkeep : ∀ r, ownBox R b r (lk s.hp b) → w'.heap[r]? = w.heap[r]? := fun r ho => h.evo.keep r (g.own_lt ho) (notD b r hbn ho)
      rw [hb] at hkeep
      cases box with
      | var cells =>
        obtain ⟨cur, e', h8, h9⟩ := hr
        refine ⟨cur, e', ?_, repAC_mono NN WW Q1 Q2 Q3 _ _ h9⟩
        rw [hRb.1, hkeep _ rfl]; exact h8
      | rov cells =>
        obtain ⟨cur, e', fr, h8, h7, h9⟩ := hr
        have hs := size_of_getElem? h8
        refine ⟨cur, e', fr, ?_, ?_, repP_mono NN WW _ _ h9⟩
        · rw [hRb.1, WW _ hs h7]; exact h8
        · rw [hRb.1]; exact fun x => h7 (NN _ hs x)
      | arr e' ver st rows =>
        obtain ⟨xs, h8, h9⟩ := hr
        refine ⟨xs, ?_, repR_mono NN WW _ _ _ h9⟩
        rw [slv_congr hRb]
        refine ownsRow_kept h8 fun k hk => hkeep k ?_
        simp only [slv] at hk
        cases hnil : R.nil b with
        | true => simp [hnil, Value.ownBlock] at hk
        | false => simp [hnil, Value.ownBlock] at hk; exact ⟨hnil, hk⟩
      | roa ver st rows =>
        simp only [realz] at hr ⊢
        rw [show slv (upR ρ R R2 hp') b rows.length = slv R b rows.length from slv_congr hRb]
        exact rep_mono NN WW _ _ hr
      | tr y ver rest st =>
        obtain ⟨k0, kh, k1, k2, k3, k4⟩ := hr
        simp only [realz, show (upR ρ R R2 hp').nil b = R.nil b from hRb.2.1]
        refine ⟨k0, kh, k1, k2.step h.evo fun r hr ⟨b2, k, d, hi, ho⟩ => ?_, k3, fun r hn => ?_⟩
        · rcases k4 r (.inr ⟨b2, ho⟩) with hd | hz | hs
          · exact absurd (g.inj b2 b r ho (by rw [hb]; exact hd)) fun e => hXd b2 k d hi (e ▸ hbn)
          · exact hz
          · omega
        · by_cases hlt : r < w.heap.size
          · exact k4 r (NN r hlt hn)
          · exact .inr (.inr (by have := k2.size; show R.Y.wy.heap.size ≤ r; omega))
    · rw [hlk k bx hk] at hb
      cases hb
      have hr := h.boxes k bx hk
      obtain ⟨e1, e2, e3⟩ := hRk k bx hk
      cases bx with
      | var cells =>
        obtain ⟨cur, e', h8, h9⟩ := hr
        exact ⟨cur, e', by rw [e1]; exact h8, repAC_mono N2' W2 Id1 Id2 Id3 _ _ (renC_fwd fwd_h _ _ h9)⟩
      | rov cells =>
        obtain ⟨cur, e', fr, h8, h7, h9⟩ := hr
        exact ⟨cur, e', fr, by rw [e1]; exact h8, by rw [e1]; exact fun x => h7 (N2 _ x), repP_mono N2' W2 _ _ h9⟩
      | arr e' ver st rows =>
        obtain ⟨xs, h8, h9⟩ := hr
        exact ⟨xs, by rw [slv_eq e1 e2 e3]; exact h8, repR_mono N2' W2 _ _ _ h9⟩
      | roa ver st rows =>
        simp only [renBox, realz] at hr ⊢
        rw [show slv (upR ρ R R2 hp') (rid ρ k) rows.length = slv R2 k rows.length from slv_eq e1 e2 e3]
        exact rep_mono N2' W2 _ _ hr
      | tr y ver rest st => exact absurd hk (hntr _ _ _ _ _)
  · simp only [AS.app] at ha hb
    rcases hcase b with hbn | ⟨k, bx, rfl, hk⟩ <;> rcases hcase b' with hbn' | ⟨k', bx', rfl, hk'⟩
    · exact g.inj b b' r (own_n b r hbn ha) (own_n b' r hbn' hb)
    · exact absurd (F2_of b r hbn (own_n b r hbn ha)) (h.free r ⟨k', own_k k' bx' r hk' hb⟩)
    · exact absurd (F2_of b' r hbn' (own_n b' r hbn' hb)) (h.free r ⟨k, own_k k bx r hk ha⟩)
    · rw [h.inj k k' r (own_k k bx r hk ha) (own_k k' bx' r hk' hb)]
  · simp only [AS.app] at hr
    rcases hcase b with hbn | ⟨k, bx, rfl, hk⟩
    · exact g.free r ⟨b, own_n b r hbn hr⟩ hF
    · exact h.free r ⟨k, own_k k bx r hk hr⟩ (F2_F r hF)
  · exact g.evo.trans h.evo fun r hr hd => (g.own0 r (DN r hd)).resolve_right (by omega)
  · simp only [AS.app] at hr
    rcases hcase b with hbn | ⟨k, bx, rfl, hk⟩
    · exact g.own0 r ⟨b, own_n b r hbn hr⟩
    · rcases h.own0 r ⟨k, own_k k bx r hk hr⟩ with h' | h'
      · exact g.own0 r (DN r h')
      · exact .inr (Nat.le_trans g.evo.size h')
  · exact repA_mono N2' W2 Id1 Id2 Id3 _ _ (ren_fwd fwd_h v x hv)
theorem gC_sound (g : Gam c R s a w) {fv : AV} {args : List AV} {id : Nat} {K : AV → List (Nat × Box) → List Nat → Prop} (h : gC P s.hp id (fv :: args) K)
    {u : Value} {us : List Value} (hf : repA (Nof c R s.hp) w s.hp R fv u) (hv : FL (repA (Nof c R s.hp) w s.hp R) args us) :
    ∃ f first caps, u = .func (.func f) first caps ∧ Enters P f ∧ Calls P f (first ++ us.toArray ++ caps) w fun e w' => ∃ v z ws ids R', e = .returned v ∧ K z ws ids ∧ Gam c R' (s.app ws) a w' ∧
      repA (Nof c R' (ws ++ s.hp)) w' (ws ++ s.hp) R' z v := by
  unfold gC at h
  simp only at h
  split at h
  · rename_i f first caps hfn
    split at h
    · rename_i H hH
      obtain ⟨r, hp', hgc, h⟩ := h
      split at h
      · rename_i hok
        rw [outF_eq, renF_eq] at h
        have hnt := renHF_noTr _ _ h
        have h := renHF_eq _ _ _ h
        simp only [gOk, Bool.and_eq_true] at hok
        obtain ⟨o1, o2, o3, o4, o5⟩ := hok
        obtain ⟨fs, cs, rfl, f1, f2⟩ := fnOf_sound hfn hf
        refine ⟨f, fs, cs, rfl, hgc.1, ?_⟩
        have h1 : ∀ b k d, lk (mkInv 1 H) b = some (k, d) → lk (mkFwd 1 H) k = some (b, d) := fun b k d hb => (mkInv_fwd hb).2
        have h1' : ∀ b k d, lk (mkFwd 1 H) k = some (b, d) → lk (mkInv 1 H) b = some (k, d) := fun b k d hb => invOk_spec o4 hb
        have h2 : ∀ k b d, lk (mkFwd 1 H) k = some (b, d) → ∃ box, lk s.hp b = some box ∧ d = verN box ∧ lk (invH (mkInv 1 H) 1 H) k = some (invBox (mkInv 1 H) box) :=
          fun k b d hb => mkFwd_box (fetch_mem hH) hb
        have h3 : ∀ k box0, lk (invH (mkInv 1 H) 1 H) k = some box0 → ∃ b box, lk (mkFwd 1 H) k = some (b, verN box) ∧ lk s.hp b = some box ∧ box0 = invBox (mkInv 1 H) box :=
          fun k box0 hb => invH_box (fetch_mem hH) hb
        obtain ⟨hin, hNin⟩ := in_Hap g h1 h1' h2 h3 (noTr_spec o5)
        have hargs : repAL (Nof c R s.hp) w s.hp R (first ++ (args ++ caps)) (fs.toList ++ (us ++ cs.toList)) :=
          repAL_app f1 (repAL_app ((repAL_iff _ _ _ _ _ _).2 hv) f2)
        have hargs2 := inv_repAL h1 h2 hNin _ _ hargs
        refine (hgc.2 _ _ w (fs ++ us.toArray ++ cs) hin (by simpa using hargs2)).mono ?_
        rintro e w' ⟨v, r', hp'', R2, rfl, ⟨rfl, rfl⟩, hh, hr⟩
        obtain ⟨g', hmap⟩ := out_Gam (id := id) g h1 h1' (fun k b d hb => let ⟨bx, c1, c2, _⟩ := h2 k b d hb; ⟨bx, c1, c2⟩) (fun k b d hb x y z u e => by
          obtain ⟨bx, c1, _, c3⟩ := h2 k b d hb
          rw [c1] at e
          cases e
          exact noTr_spec o5 k _ _ _ _ c3) (fun k p hk => passed_spec o1 hk) (fun b hb => allNone_spec o2 b hb) o3 rfl (noTr_spec hnt) hh
        exact ⟨v, _, _, _, _, rfl, h, g', hmap r' v hr⟩
      · exact h.elim
    · exact h.elim
  · exact h.elim
theorem gI_sound (g : Gam c R s a w) {fv : AV} {args : List AV} {id : Nat} {K : AV → List (Nat × Box) → List Nat → Prop} (h : gI P s.hp id (fv :: args) K)
    {u : Value} {us : List Value} (hf : repA (Nof c R s.hp) w s.hp R fv u) (hv : FL (repA (Nof c R s.hp) w s.hp R) args us) :
    ∃ f first caps, u = .func (.func f) first caps ∧ Enters P f ∧ Calls P f (first ++ us.toArray ++ caps) w fun e w' => ∃ v z ws ids R', e = .returned v ∧ K z ws ids ∧ Gam c R' (s.app ws) a w' ∧
      repA (Nof c R' (ws ++ s.hp)) w' (ws ++ s.hp) R' z v := by
  unfold gI at h
  simp only at h
  split at h
  · rename_i f first caps hfn
    split at h
    · rename_i H hH
      split at h
      · rename_i hpre
        obtain ⟨Q, hgc, h⟩ := h
        obtain ⟨fs, cs, rfl, f1, f2⟩ := fnOf_sound hfn hf
        refine ⟨f, fs, cs, rfl, hgc.1, ?_⟩
        simp only [Bool.and_eq_true] at hpre
        obtain ⟨o4, o5⟩ := hpre
        have h1 : ∀ b k d, lk (mkInv 1 H) b = some (k, d) → lk (mkFwd 1 H) k = some (b, d) := fun b k d hb => (mkInv_fwd hb).2
        have h1' : ∀ b k d, lk (mkFwd 1 H) k = some (b, d) → lk (mkInv 1 H) b = some (k, d) := fun b k d hb => invOk_spec o4 hb
        have h2 : ∀ k b d, lk (mkFwd 1 H) k = some (b, d) → ∃ box, lk s.hp b = some box ∧ d = verN box ∧ lk (invH (mkInv 1 H) 1 H) k = some (invBox (mkInv 1 H) box) :=
          fun k b d hb => mkFwd_box (fetch_mem hH) hb
        have h3 : ∀ k box0, lk (invH (mkInv 1 H) 1 H) k = some box0 → ∃ b box, lk (mkFwd 1 H) k = some (b, verN box) ∧ lk s.hp b = some box ∧ box0 = invBox (mkInv 1 H) box :=
          fun k box0 hb => invH_box (fetch_mem hH) hb
        obtain ⟨hin, hNin⟩ := in_Hap g h1 h1' h2 h3 (noTr_spec o5)
        have hargs : repAL (Nof c R s.hp) w s.hp R (first ++ (args ++ caps)) (fs.toList ++ (us ++ cs.toList)) :=
          repAL_app f1 (repAL_app ((repAL_iff _ _ _ _ _ _).2 hv) f2)
        have hargs2 := inv_repAL h1 h2 hNin _ _ hargs
        refine (hgc.2 _ _ w (fs ++ us.toArray ++ cs) hin (by simpa using hargs2)).mono ?_
        rintro e w' ⟨v, r', hp'', R2, rfl, hQ, hh, hr⟩
        have h := h r' hp'' hQ
        split at h
        · rename_i hok
          rw [outF_eq, renF_eq] at h
          have hnt := renHF_noTr _ _ h
          have h := renHF_eq _ _ _ h
          simp only [gOk, Bool.and_eq_true] at hok
          obtain ⟨o1, o2, o3, -, -⟩ := hok
          obtain ⟨g', hmap⟩ := out_Gam (id := id) g h1 h1' (fun k b d hb => let ⟨bx, c1, c2, _⟩ := h2 k b d hb; ⟨bx, c1, c2⟩) (fun k b d hb x y z u e => by
            obtain ⟨bx, c1, _, c3⟩ := h2 k b d hb
            rw [c1] at e
            cases e
            exact noTr_spec o5 k _ _ _ _ c3) (fun k p hk => passed_spec o1 hk) (fun b hb => allNone_spec o2 b hb) o3 rfl (noTr_spec hnt) hh
          exact ⟨v, _, _, _, _, rfl, h, g', hmap r' v hr⟩
        · exact h.elim
      · exact h.elim
    · exact h.elim
  · exact h.elim
end
end Go.AX
end
