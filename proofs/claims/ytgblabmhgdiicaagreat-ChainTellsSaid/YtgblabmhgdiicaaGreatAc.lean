/-
  Conditions: none. A framework for walks: abstract values, memory, and conditions that suffice; the chapters in plain terms.
-/
import Derived.Test.YtgblabmhgdiicaaGreatAb
import Derived.TacticsIn
import Derived.OrdersIn
import Derived.RangeFuncNested
set_option linter.unusedSectionVars false
set_option linter.unusedVariables false
set_option linter.unusedSimpArgs false
section
namespace Go.AX
def isNone {α : Type} : Option α → Bool
  | none => true
  | some _ => false
def twin (T : Tab) : Bool :=
  match T with
  | (a, _) :: (b, _) :: _ => Nat.beq a b
  | _ => false
def cSub (tw : Bool) (rows : List (List PV)) (b ver : Nat) (e : TypeId) (st : Nat) (l h : Option Int) (K : AV → List (Nat × Box) → Prop) : Prop :=
  match l with
  | none => match h with
    | none => K (.slw b ver) []
    | some h => match tw with
      | true => 0 ≤ h ∧ h ≤ rows.length ∧ K (.sub b ver st 0 h.toNat) []
      | false => 0 ≤ h ∧ h ≤ rows.length ∧ K (.slw b (ver + 1)) [(b, .arr e (ver + 1) st (rows.take h.toNat))]
  | some l => match h with
    | none => 0 ≤ l ∧ l ≤ rows.length ∧ K (.sub b ver st l.toNat rows.length) []
    | some h => 0 ≤ h ∧ h ≤ rows.length ∧ 0 ≤ l ∧ l ≤ h ∧ K (.sub b ver st l.toNat h.toNat) []
def cSliceY (T : Tab) (H : List (Nat × Box)) (t : TypeId) (lo hi mx : Option Operand) (vs : List AV) (K : AV → List (Nat × Box) → Prop) : Prop :=
  match vs with
  | .slw b ver :: r => match lk H b with
    | some (.arr e v st rows) => match Nat.beq ver v with
      | true => match isNone mx with
        | true => match lk T t with
          | some i => match i.d with
            | .slt et => match lk T et with
              | some ei => match Nat.beq st ei.size with
                | true => match optI lo r with
                  | some (l, r1) => match optI hi r1 with
                    | some (h, _) => cSub (twin T) rows b ver e st l h K
                    | none => False
                  | none => False
                | false => False
              | none => False
            | _ => False
          | none => False
        | false => cSliceW T H t lo hi mx vs K
      | false => False
    | _ => cSliceW T H t lo hi mx vs K
  | _ => cSliceW T H t lo hi mx vs K
def cClear (T : Tab) (H : List (Nat × Box)) (t : TypeId) (x : AV) (K : AV → List (Nat × Box) → Prop) : Prop :=
  match x with
  | .sub b ver st lo hi => match lk H b with
    | some (.arr e v st' rows) => match Nat.beq ver v with
      | true => match Nat.beq st st' with
        | true => match lk T t with
          | some i => match i.d with
            | .slt et => match lk T et with
              | some ei => match Nat.beq st ei.size, zPV ei.zero with
                | true, some z => K (.pv (.tup [])) [(b, .arr e v st' (rows.take lo ++ (List.replicate (hi - lo) z ++ rows.drop hi)))]
                | _, _ => False
              | none => False
            | _ => False
          | none => False
        | false => False
      | false => False
    | _ => False
  | _ => False
section
variable {P : Program} {T : Tab} {c : Ctx} {R : Real} {s : AS} {a : Act} {w : World}
theorem arr_nil {N : Nat → Prop} {hp : List (Nat × Box)} {b : Nat} {e : TypeId} {ver st : Nat} {rows : List (List PV)} (h : realz N w hp R b (.arr e ver st rows)) (hn : R.nil b = true) : rows = [] := by
  obtain ⟨xs, ⟨_, h3⟩, _⟩ := h
  rcases h3 with ⟨_, h3⟩ | ⟨g', cap, cur, e1, _⟩
  · exact List.eq_nil_of_length_eq_zero h3
  · simp [slv, hn] at e1
theorem cSliceY_sound (g : Gam c R s a w) (hT : TabOk P T) {H : List (Nat × Box)} (hH : ∀ b box, lk H b = some box → lk s.hp b = some box) {t : TypeId} {x0 : Operand} {lo hi mx : Option Operand} {vs : List AV}
    {K : AV → List (Nat × Box) → Prop} (h : cSliceY T H t lo hi mx vs K)
    (hv : FL (repA (Nof c R s.hp) w s.hp R) vs ((x0 :: (lo.toList ++ (hi.toList ++ mx.toList))).map a.eval)) :
    ∃ y z ws R', (Instr.sliceAt t (a.eval x0) (lo.map a.eval) (hi.map a.eval) (mx.map a.eval)).run P w = .ok y w ∧ K z ws ∧ Gam c R' (s.app ws) a w ∧ repA (Nof c R' (ws ++ s.hp)) w (ws ++ s.hp) R' z y := by
  have old : cSliceW T H t lo hi mx vs K → ∃ y z ws R', (Instr.sliceAt t (a.eval x0) (lo.map a.eval) (hi.map a.eval) (mx.map a.eval)).run P w = .ok y w ∧ K z ws ∧ Gam c R' (s.app ws) a w ∧ repA (Nof c R' (ws ++ s.hp)) w (ws ++ s.hp) R' z y := fun h => by
    obtain ⟨y, z, ws, h1, h2, h3, h4⟩ := cSliceW_sound g hT hH h hv
    exact ⟨y, z, ws, R, h1, h2, h3, h4⟩
  unfold cSliceY at h
  split at h
  · rename_i b ver r
    split at h
    · rename_i e v st rows hb
      split at h
      · rename_i hver
        have hver := Nat.eq_of_beq_eq_true hver
        split at h
        · rename_i hmx
          have hmx : mx = none := by cases mx <;> simp_all [isNone]
          subst hmx
          split at h
          · rename_i i hi'
            obtain ⟨d, hd, hdi⟩ := (hT t i hi').desc'
            split at h
            · rename_i et hte
              have hd' : P.underlying t = some (.slice et) := by
                rw [hte] at hdi
                cases d <;> simp [di] at hdi
                subst hdi; exact hd
              split at h
              · rename_i ei hei
                have hei' := hT _ _ hei
                split at h
                · rename_i hst
                  have hst := Nat.eq_of_beq_eq_true hst
                  split at h
                  · rename_i l r1 hl
                    split at h
                    · rename_i hh r2 hhi
                      simp only [List.map_cons] at hv
                      obtain ⟨u, r', e1, hx, hv⟩ := hv
                      simp only [List.cons.injEq] at e1
                      obtain ⟨e1, rfl⟩ := e1
                      obtain ⟨v1, hv⟩ := optI_sound hv hl
                      obtain ⟨v2, hv⟩ := optI_sound (rest := []) (by simpa using hv) hhi
                      have hb' := hH _ _ hb
                      have hre := g.boxes b _ hb'
                      have hxr := hx
                      simp only [repA, hb', refSl] at hx
                      have hu := hx.2.2 hver
                      -- the slice, and its part
                      have hrun : ∀ (k2 : ∀ i, hh = some i → 0 ≤ i ∧ i ≤ rows.length) (k3 : ∀ i, l = some i → 0 ≤ i ∧ i ≤ hiOf rows.length hh),
                          (Instr.sliceAt t (a.eval x0) (lo.map a.eval) (hi.map a.eval) (Option.map a.eval none)).run P w = .ok (subv st ((l.map Int.toNat).getD 0) (hiOf rows.length hh).toNat u) w ∧
                            ((l.map Int.toNat).getD 0) ≤ (hiOf rows.length hh).toNat ∧ (hiOf rows.length hh).toNat ≤ rows.length := by
                        intro k2 k3
                        rw [e1, hu]
                        cases hn : R.nil b with
                        | true =>
                          have hr0 := arr_nil hre hn
                          subst hr0
                          obtain ⟨hrun, q1, q2, q3⟩ := run_bounds (P := P) (w := w) (isS := true) (len := 0) (cap := 0) (m := none) v1 v2 (show vI none none from trivial) (Nat.le_refl _) (fun i e => by cases e) (by simpa [hiOf] using k2) (by simpa using k3)
                          refine ⟨?_, q1, q2⟩
                          have hz : (hiOf 0 hh).toNat = 0 := by omega
                          have lz : (l.map Int.toNat).getD 0 = 0 := by omega
                          simp only [Option.map_none, Option.getD_none, hz, lz] at hrun
                          simp only [Instr.sliceAt, Instr.slice, Sem.run_bind, run_underlying hd', Result.andThen_ok, slv, hn, if_true, Option.map_none, hrun, hei'.run_sizeOf, Sem.run_pure]
                          simp [subv]
                        | false =>
                          obtain ⟨cur, hg, hs, hle, hm, hr, _⟩ := arr_block hre hn
                          obtain ⟨hrun, q1, q2, q3⟩ := run_bounds (P := P) (w := w) (isS := true) (len := rows.length) (cap := R.cap b) (m := none) v1 v2 (show vI none none from trivial) hle (fun i e => by cases e) (by
                            intro i hi
                            exact k2 i hi) (by simpa using k3)
                          refine ⟨?_, q1, q2⟩
                          simp only [Option.map_none, Option.getD_none] at hrun
                          simp only [Instr.sliceAt, Instr.slice, Sem.run_bind, run_underlying hd', Result.andThen_ok, slv, hn, Bool.false_eq_true, if_false, Option.map_none, hrun, hei'.run_sizeOf, Sem.run_pure]
                          simp only [subv, hst]
                          congr 2
                          split <;> rfl
                      have mkSub : ∀ (lo' hi' : Nat), lo' ≤ hi' → hi' ≤ rows.length → repA (Nof c R s.hp) w s.hp R (.sub b ver st lo' hi') (subv st lo' hi' u) := by
                        intro lo' hi' q1 q2
                        simp only [repA]
                        refine ⟨u, by simpa only [repA] using hxr, ?_, rfl⟩
                        rw [hu]
                        unfold slv
                        split
                        · rename_i hn
                          have := arr_nil hre hn
                          subst this
                          simp at q2
                          exact ⟨by omega, by omega⟩
                        · exact ⟨q1, q2⟩
                      unfold cSub at h
                      cases l with
                      | none =>
                        cases hh with
                        | none =>
                          obtain ⟨h1, q1, q2⟩ := hrun (fun i e => by cases e) (fun i e => by cases e)
                          refine ⟨_, _, [], R, h1, h, g, ?_⟩
                          have : subv st 0 rows.length u = u := by
                            rw [hu]
                            unfold slv
                            split
                            · rfl
                            · simp only [subv, Nat.sub_zero, Nat.zero_mul]
                              split <;> rfl
                          simp only [Option.map_none, Option.getD_none, hiOf, Int.toNat_natCast]
                          rw [this]
                          exact hxr
                        | some j =>
                          simp only at h
                          split at h
                          · obtain ⟨j0, j1, hK⟩ := h
                            obtain ⟨h1, q1, q2⟩ := hrun (fun i e => by cases e; exact ⟨j0, j1⟩) (fun i e => by cases e)
                            refine ⟨_, _, [], R, h1, hK, g, ?_⟩
                            simp only [Option.map_none, Option.getD_none, hiOf] at q1 q2 ⊢
                            exact mkSub _ _ q1 q2
                          obtain ⟨j0, j1, hK⟩ := h
                          obtain ⟨h1, q1, q2⟩ := hrun (fun i e => by cases e; exact ⟨j0, j1⟩) (fun i e => by cases e)
                          have hR : ∀ b', b' ≠ b → R.blk b' = R.blk b' ∧ R.nil b' = R.nil b' ∧ R.cap b' = R.cap b' := fun _ _ => ⟨rfl, rfl, rfl⟩
                          have hlen : (rows.take j.toNat).length = j.toNat := by simp; omega
                          obtain ⟨xs, hxs, hxr2⟩ := hre
                          have hown2 : ∃ ys, w.ownsRow 0 e st (slv R b (rows.take j.toNat).length) (rows.take j.toNat).length ys ∧ repR (Nof c R s.hp) w st (rows.take j.toNat) ys := by
                            cases hn : R.nil b with
                            | true =>
                              have := arr_nil (g.boxes b _ hb') hn
                              subst this
                              exact ⟨[], ⟨by simp, .inl ⟨by simp [slv, hn], by simp⟩⟩, by simp [repR]⟩
                            | false =>
                              obtain ⟨cur, hg, hs, hle, hm, hr, _⟩ := arr_block (g.boxes b _ hb') hn
                              have hr2 := repR_pre (i := j.toNat) hr
                              obtain ⟨t1, t2, t3⟩ := repR_take hr2
                              rw [hlen] at t1 t2
                              refine ⟨cur.toList.take (j.toNat * st), ⟨?_, .inr ⟨R.blk b, R.cap b, cur, by simp [slv, hn], Nat.zero_le _, hg, ?_, hm, hs, by rw [hlen]⟩⟩, t2⟩
                              · rw [List.length_take, hlen]; omega
                              · rw [hlen]; omega
                          obtain ⟨ys, ho, hr⟩ := hown2
                          obtain ⟨g2, hr2⟩ := g.setArr (b := b) (e := e) (ver := ver + 1) (st := st) (rows := rows.take j.toNat) (R' := R) (.inr ⟨_, _, _, _, hb', by omega⟩) hR (Evo.refl _ w)
                            (fun hn => .inl (by rw [hb']; exact ⟨hn, rfl⟩)) ho hr
                          refine ⟨_, _, _, R, h1, hK, g2, ?_⟩
                          have : subv st 0 j.toNat u = slv R b (rows.take j.toNat).length := by
                            rw [hu, hlen]
                            unfold slv
                            split
                            · rfl
                            · simp only [subv, Nat.sub_zero, Nat.zero_mul]
                              split <;> rfl
                          simp only [Option.map_none, Option.getD_none, hiOf]
                          rw [this]
                          exact hr2
                      | some l =>
                        cases hh with
                        | none =>
                          simp only at h
                          obtain ⟨l0, l1, hK⟩ := h
                          obtain ⟨h1, q1, q2⟩ := hrun (fun i e => by cases e) (fun i e => by cases e; exact ⟨l0, by simpa [hiOf] using l1⟩)
                          refine ⟨_, _, [], R, h1, hK, g, ?_⟩
                          simp only [Option.map_some, Option.getD_some, hiOf, Int.toNat_natCast] at q1 ⊢
                          exact mkSub _ _ q1 (Nat.le_refl _)
                        | some j =>
                          simp only at h
                          obtain ⟨j0, j1, l0, l1, hK⟩ := h
                          obtain ⟨h1, q1, q2⟩ := hrun (fun i e => by cases e; exact ⟨j0, j1⟩) (fun i e => by cases e; exact ⟨l0, by simpa [hiOf] using l1⟩)
                          refine ⟨_, _, [], R, h1, hK, g, ?_⟩
                          simp only [Option.map_some, Option.getD_some, hiOf] at q1 q2 ⊢
                          exact mkSub _ _ q1 q2
                    · exact h.elim
                  · exact h.elim
                · exact h.elim
              · exact h.elim
            · exact h.elim
          · exact h.elim
        · exact old h
      · exact h.elim
    · exact old h
  · exact old h
theorem run_storeCells_list {b : Nat} {e : TypeId} {cur : Array Value} (vs : List Value) (off : Nat) (hg : w.heap[b]? = some (.cells cur e (0, 0))) (hl : off + vs.length ≤ cur.size) (h1 : ∀ u ∈ vs, u.oneCell' = true) :
    (storeCells ⟨b, off, none⟩ vs).run P w = .ok () (w.setRow b (cur.toList.take off ++ vs ++ cur.toList.drop (off + vs.length)).toArray) := by
  have := run_storeCells_at P b off e vs 0 cur w hg (by simpa using hl) h1
  simp only [Nat.add_zero] at this
  simp [storeCells, this]
theorem Gam.sameBox (g : Gam c R s a w) {b : Nat} {e : TypeId} {ver st : Nat} {rows : List (List PV)} (hb : lk s.hp b = some (.arr e ver st rows)) : Gam c R (s.app [(b, .arr e ver st rows)]) a w := by
  have hR : ∀ b', b' ≠ b → R.blk b' = R.blk b' ∧ R.nil b' = R.nil b' ∧ R.cap b' = R.cap b' := fun _ _ => ⟨rfl, rfl, rfl⟩
  have r1 : ∀ off v, refPtr R b off v (lk s.hp b) → refPtr R b off v (some (.arr e ver st rows)) := fun off v h => by rw [hb] at h; exact h
  have r2 : ∀ ver' v, refSl R b ver' v (lk s.hp b) → refSl R b ver' v (some (.arr e ver st rows)) := fun _ v h => by rw [hb] at h; exact h
  have r3 : ∀ ver' i off v, refAp R b ver' i off v (lk s.hp b) → refAp R b ver' i off v (some (.arr e ver st rows)) := fun _ _ _ v h => by rw [hb] at h; exact h
  have hown : ∀ r, ownBox R b r (some (.arr e ver st rows)) → ownBox R b r (lk s.hp b) ∨ w.heap.size ≤ r := fun r h => by rw [hb]; exact .inl h
  obtain ⟨m1, m2, m3, m4, m5⟩ := g.updN hR r1 r2 r3 hown (Evo.refl _ w)
  refine g.upd hR r1 r2 r3 hown (Evo.refl _ w) ?_
  obtain ⟨xs, hxs, hr⟩ := g.boxes b _ hb
  exact ⟨xs, hxs, repR_mono m1 m2 _ _ _ hr⟩
theorem cClear_sound (g : Gam c R s a w) (hT : TabOk P T) {H : List (Nat × Box)} (hH : ∀ b box, lk H b = some box → lk s.hp b = some box) {t ty : TypeId} {x : AV} {u : Value}
    {K : AV → List (Nat × Box) → Prop} (h : cClear T H t x K) (hx : repA (Nof c R s.hp) w s.hp R x u) :
    ∃ z w' q ws, (Builtin.clear_ #[t] ty #[u]).run P w = .ok z w' ∧ K q ws ∧ Gam c R (s.app ws) a w' ∧ repA (Nof c R (ws ++ s.hp)) w' (ws ++ s.hp) R q z := by
  unfold cClear at h
  split at h
  · rename_i b ver st lo hi
    split at h
    · rename_i e v st' rows hb
      split at h
      · rename_i hver
        have hver := Nat.eq_of_beq_eq_true hver
        split at h
        · rename_i hst
          have hst := Nat.eq_of_beq_eq_true hst
          subst hst
          split at h
          · rename_i i hi'
            obtain ⟨d, hd, hdi⟩ := (hT t i hi').desc'
            split at h
            · rename_i et hte
              have hd' : P.underlying t = some (.slice et) := by
                rw [hte] at hdi
                cases d <;> simp [di] at hdi
                subst hdi; exact hd
              split at h
              · rename_i ei hei
                have hei' := hT _ _ hei
                split at h
                · rename_i z hsz hz
                  have hsz := Nat.eq_of_beq_eq_true hsz
                  have hz := zPV_eq hz
                  subst hz
                  have hb' := hH _ _ hb
                  have hre := g.boxes b _ hb'
                  simp only [repA, hb', refSl] at hx
                  obtain ⟨u0, hx, hok, rfl⟩ := hx
                  have hu := hx.2.2 hver
                  subst hu
                  have hnone : hi - lo = 0 → (rows.take lo ++ (List.replicate (hi - lo) (ei.zero.map PV.sc) ++ rows.drop hi)) = rows → lo ≤ hi →
                      (∃ p cap, subv st lo hi (slv R b rows.length) = .slice p 0 cap) → ∃ z w' q ws, (Builtin.clear_ #[t] ty #[subv st lo hi (slv R b rows.length)]).run P w = .ok z w' ∧ K q ws ∧ Gam c R (s.app ws) a w' ∧ repA (Nof c R (ws ++ s.hp)) w' (ws ++ s.hp) R q z := by
                    intro h0 hrows hle ⟨p, cap, hs⟩
                    rw [hrows] at h
                    refine ⟨.tuple #[], w, _, _, ?_, h, g.sameBox hb', ?_⟩
                    · rw [hs]
                      cases p <;> simp [Builtin.clear_, run_underlying hd']
                    · simp [repA, rep, repL]
                  cases hn : R.nil b with
                  | true =>
                    have hr0 := arr_nil hre hn
                    subst hr0
                    simp only [slv, hn, if_true, subOK, List.length_nil] at hok
                    have h1 : lo = 0 := by omega
                    have h2 : hi = 0 := by omega
                    subst h1; subst h2
                    refine hnone rfl (by simp) (Nat.le_refl _) ⟨none, 0, by simp [slv, hn, subv]⟩
                  | false =>
                    obtain ⟨cur, hg, hs, hle, hm, hr, _⟩ := arr_block hre hn
                    simp only [slv, hn, Bool.false_eq_true, if_false, subOK] at hok
                    by_cases hlh : hi = lo
                    · subst hlh
                      refine hnone (by omega) (by simp) (Nat.le_refl _) ⟨some (if R.cap b = hi then ⟨R.blk b, 0, none⟩ else (⟨R.blk b, 0, none⟩ : Addr).add (hi * st)), R.cap b - hi, by simp [slv, hn, subv]⟩
                    · have hlt : lo < hi := by omega
                      obtain ⟨zv, hz1, hz2, hz3⟩ := hei'.run_zero w
                      have hzs : zv.cells.size = st := by have := hei'.zlen; rw [← hz2] at this; rw [hsz]; simpa using this
                      have hcap : ¬ R.cap b = lo := by omega
                      have hsub : subv st lo hi (slv R b rows.length) = .slice (some ⟨R.blk b, lo * st, none⟩) (hi - lo) (R.cap b - lo) := by
                        have hadd : (⟨R.blk b, 0, none⟩ : Addr).add (lo * st) = ⟨R.blk b, lo * st, none⟩ := by by_cases h0 : lo * st = 0 <;> simp [Addr.add, h0]
                        simp only [slv, hn, subv, hcap, Bool.false_eq_true, if_false, hadd]
                      have hzl : (Builtin.zeroCells zv.cells (hi - lo)).toList.length = (hi - lo) * st := by simp [Builtin.zeroCells, hzs]
                      have hmul : lo * st + (hi - lo) * st = hi * st := by rw [← Nat.add_mul]; congr 1; omega
                      have hcs : hi * st ≤ cur.size := by rw [hs]; exact Nat.mul_le_mul_right _ (by omega)
                      have hzget : ∀ j, j < (hi - lo) * st → (Builtin.zeroCells zv.cells (hi - lo)).toList[j]? = (ei.zero)[j % st]? := by
                        intro j hj
                        have hst0 : 0 < st := by
                          rcases Nat.eq_zero_or_pos st with h0 | h0
                          · rw [h0] at hj; simp at hj
                          · exact h0
                        have hlt2 : j % zv.cells.size < zv.cells.size := Nat.mod_lt _ (by omega)
                        have hmc : (Builtin.zeroCells zv.cells (hi - lo))[j]? = some (zv.cells[j % zv.cells.size]!) := by
                          simp [Builtin.zeroCells, hzs, hj]
                        rw [Array.getElem?_toList, hmc, getElem!_pos zv.cells _ hlt2, ← hz2, Array.getElem?_toList, ← hzs]
                        exact (Array.getElem?_eq_getElem hlt2).symm
                      have hone : ∀ u ∈ (Builtin.zeroCells zv.cells (hi - lo)).toList, u.oneCell' = true := by
                        intro u hu
                        obtain ⟨j, hj, rfl⟩ := List.getElem_of_mem hu
                        have h1 := hzget j (by rw [← hzl]; exact hj)
                        rw [List.getElem?_eq_getElem hj] at h1
                        have h2 := List.mem_of_getElem? h1.symm
                        exact List.all_eq_true.1 hei'.zone _ h2
                      have hrun := run_storeCells_list (P := P) (w := w) (e := e) (cur := cur) (Builtin.zeroCells zv.cells (hi - lo)).toList (lo * st) hg (by rw [hzl, hmul]; exact hcs) hone
                      rw [hzl, hmul] at hrun
                      refine ⟨.tuple #[], w.setRow (R.blk b) (cur.toList.take (lo * st) ++ (Builtin.zeroCells zv.cells (hi - lo)).toList ++ cur.toList.drop (hi * st)).toArray, _, _, ?_, h, ?_, by simp [repA, rep, repL]⟩
                      · rw [hsub]
                        have hne : hi - lo ≠ 0 := by omega
                        obtain ⟨k, hk⟩ : ∃ k, hi - lo = k + 1 := ⟨hi - lo - 1, by omega⟩
                        rw [hk] at hrun ⊢
                        simp only [Builtin.clear_, List.getElem?_toArray, List.getElem?_cons_zero, run_underlying hd', Sem.run_bind, Result.andThen_ok, hz1, hrun, Sem.run_pure]
                      · have hR : ∀ b', b' ≠ b → R.blk b' = R.blk b' ∧ R.nil b' = R.nil b' ∧ R.cap b' = R.cap b' := fun _ _ => ⟨rfl, rfl, rfl⟩
                        generalize hrows : (rows.take lo ++ (List.replicate (hi - lo) (ei.zero.map PV.sc) ++ rows.drop hi)) = rows'
                        have hll : rows'.length = rows.length := by rw [← hrows]; simp; omega
                        have r1 : ∀ off v', refPtr R b off v' (lk s.hp b) → refPtr R b off v' (some (.arr e v st rows')) := fun off v h => by rw [hb'] at h; exact h
                        have r2 : ∀ ver v', refSl R b ver v' (lk s.hp b) → refSl R b ver v' (some (.arr e v st rows')) := fun _ v h => by rw [hb'] at h; simp only [refSl, hll] at h ⊢; exact h
                        have r3 : ∀ ver i off v', refAp R b ver i off v' (lk s.hp b) → refAp R b ver i off v' (some (.arr e v st rows')) := fun _ _ _ v h => by rw [hb'] at h; exact h
                        have hown : ∀ r, ownBox R b r (some (.arr e v st rows')) → ownBox R b r (lk s.hp b) ∨ w.heap.size ≤ r := fun r h => by rw [hb']; exact .inl h
                        have hworld : Evo (fun r => ownBox R b r (lk s.hp b)) w (w.setRow (R.blk b) (cur.toList.take (lo * st) ++ (Builtin.zeroCells zv.cells (hi - lo)).toList ++ cur.toList.drop (hi * st)).toArray) := by
                          refine (setRow_evo w _ _).mono ?_
                          rintro r rfl
                          rw [hb']; exact ⟨hn, rfl⟩
                        obtain ⟨m1, m2, m3, m4, m5⟩ := g.updN hR r1 r2 r3 hown hworld
                        refine g.upd hR r1 r2 r3 hown hworld ?_
                        have hnew : repR (Nof c R s.hp) w st rows' (cur.toList.take (lo * st) ++ (Builtin.zeroCells zv.cells (hi - lo)).toList ++ cur.toList.drop (hi * st)) := by
                          rw [← hrows, List.append_assoc]
                          have p1 : repR (Nof c R s.hp) w st (rows.take lo) (cur.toList.take (lo * st)) := by
                            obtain ⟨_, t2, _⟩ := repR_take (repR_pre (i := lo) hr)
                            rw [List.length_take, Nat.min_eq_left (by omega)] at t2
                            exact t2
                          have p2 : repR (Nof c R s.hp) w st (List.replicate (hi - lo) (ei.zero.map PV.sc)) (Builtin.zeroCells zv.cells (hi - lo)).toList :=
                            repR_rep (zs := ei.zero) (zrow_rep hei'.zone) (by rw [List.length_map, hei'.zlen, hsz]) _ _ (by rw [hzl]; exact Nat.le_refl _) hzget
                          have hlo : lo * st ≤ cur.size := by have := Nat.mul_le_mul_right st (show lo ≤ hi by omega); omega
                          refine repR_append p1 (by rw [List.length_take, List.length_take, Nat.min_eq_left (by simpa using hlo), Nat.min_eq_left (by omega)]) (repR_append p2 (by rw [hzl]; simp) (repR_drop hi hr))
                        have hlen2 : (cur.toList.take (lo * st) ++ (Builtin.zeroCells zv.cells (hi - lo)).toList ++ cur.toList.drop (hi * st)).length = cur.size := by
                          simp only [List.length_append, hzl, List.length_take, List.length_drop, Array.length_toList]; omega
                        obtain ⟨t1, t2, t3⟩ := repR_take (repR_mono m1 m2 _ _ _ hnew)
                        refine ⟨_, ?_, t2⟩
                        have hsl : slv R b rows'.length = .slice (some ⟨R.blk b, 0, none⟩) rows.length (R.cap b) := by simp [slv, hn, hll]
                        rw [hsl, hll]
                        rw [hll] at t1
                        refine ⟨?_, .inr ⟨R.blk b, R.cap b, _, rfl, Nat.zero_le _, setRow_heap w _ cur _ e _ hg, hle, hm, ?_, by simp⟩⟩
                        · simp only [List.length_take]; omega
                        · simp only [List.size_toArray, hlen2, hs]
                · exact h.elim
              · exact h.elim
            · exact h.elim
          · exact h.elim
        · exact h.elim
      · exact h.elim
    · exact h.elim
  · exact h.elim
end
end Go.AX
end
section
namespace Go.AX
def mapO (f : AV → Option PV) : List AV → Option (List PV)
  | [] => some []
  | x :: r => match f x with
    | some p => match mapO f r with
      | some t => some (p :: t)
      | none => none
    | none => none
def vwR (H : List (Nat × Box)) : Nat → AV → Option PV
  | 0, _ => none
  | n + 1, x => match x with
    | .pv p => some p
    | .slw b ver => vwSl (lk H b) ver
    | .sub _ _ _ _ _ => none
    | .aptr _ _ _ _ => none
    | .ptr b off => match lk H b with
      | some (.var cells) => match mapO (vwR H n) cells with
        | some ps => some (.eptr ps off)
        | none => none
      | some (.rov cells) => some (.eptr cells off)
      | _ => none
    | .agg cs => match mapO (vwR H n) cs with
      | some ps => some (.agg ps)
      | none => none
    | .tup cs => match mapO (vwR H n) cs with
      | some ps => some (.tup ps)
      | none => none
    | .fn f a c => match mapO (vwR H n) a, mapO (vwR H n) c with
      | some x, some y => some (.fn f x y)
      | _, _ => none
section
variable {P : Program} {T : Tab} {c : Ctx} {R : Real} {s : AS} {a : Act} {w : World}
def noN : Nat → Prop := fun _ => False
theorem mapO_FL {f : AV → Option PV} {N : Nat → Prop} {hp : List (Nat × Box)} (hf : ∀ x p u, f x = some p → repA N w hp R x u → rep noN w p u) :
    ∀ {xs : List AV} {ps : List PV} {us : List Value}, mapO f xs = some ps → FL (repA N w hp R) xs us → FL (rep noN w) ps us
  | [], ps, us, h, hx => by simp only [mapO, Option.some.injEq] at h; subst h; exact hx
  | x :: xs, ps, us, h, hx => by
    simp only [mapO] at h
    split at h
    · rename_i p hp
      split at h
      · rename_i t ht
        simp only [Option.some.injEq] at h
        subst h
        obtain ⟨v, r, rfl, h1, h2⟩ := hx
        exact ⟨v, r, rfl, hf _ _ _ hp h1, mapO_FL hf ht h2⟩
      · cases h
    · cases h
theorem mapO_FC {f : AV → Option PV} {N : Nat → Prop} {hp : List (Nat × Box)} (hf : ∀ x p u, f x = some p → repA N w hp R x u → rep noN w p u) :
    ∀ {xs : List AV} {ps : List PV} {us : List Value}, mapO f xs = some ps → FC (repA N w hp R) xs us → FC (rep noN w) ps us
  | [], ps, us, h, hx => by simp only [mapO, Option.some.injEq] at h; subst h; exact hx
  | x :: xs, ps, us, h, hx => by
    simp only [mapO] at h
    split at h
    · rename_i p hp
      split at h
      · rename_i t ht
        simp only [Option.some.injEq] at h
        subst h
        obtain ⟨v, r, rfl, h0, h1, h2⟩ := hx
        exact ⟨v, r, rfl, h0, hf _ _ _ hp h1, mapO_FC hf ht h2⟩
      · cases h
    · cases h
theorem vwR_sound (g : Gam c R s a w) {H : List (Nat × Box)} (hH : ∀ b box, lk H b = some box → lk s.hp b = some box) :
    ∀ (n : Nat) (x : AV) (p : PV) (u : Value), vwR H n x = some p → repA (Nof c R s.hp) w s.hp R x u → rep noN w p u
  | 0, x, p, u, h, _ => by simp [vwR] at h
  | n + 1, x, p, u, h, hx => by
    have ih := fun x p u => vwR_sound g hH n x p u
    simp only [vwR] at h
    split at h
    · simp only [Option.some.injEq] at h
      subst h
      simp only [repA] at hx
      exact rep_mono (fun r _ h => h.elim) (fun _ _ _ => rfl) _ _ hx
    · rename_i b ver
      simp only [repA] at hx
      cases hb : lk H b with
      | none => rw [hb] at h; cases h
      | some box =>
        rw [hb, ← hH _ _ hb] at h
        exact vwSl_sound g h (fun r h => h.elim) (fun r _ h => h.elim) hx
    · cases h
    · cases h
    · rename_i b off
      simp only [repA] at hx
      split at h
      · rename_i cells hb
        split at h
        · rename_i ps hps
          simp only [Option.some.injEq] at h
          subst h
          have hb' := hH _ _ hb
          rw [hb'] at hx
          simp only [refPtr] at hx
          subst hx
          obtain ⟨cur, e, hg, hc⟩ := g.boxes b _ hb'
          rw [repAC_iff] at hc
          have hc' := mapO_FC ih hps hc
          simp only [rep]
          refine ⟨R.blk b, 0, cur, e, (0, 0), by simp, fun h => h.elim, hg, ?_⟩
          rw [repP_iff]; simpa using hc'.fp
        · cases h
      · rename_i cells hb
        simp only [Option.some.injEq] at h
        subst h
        have hb' := hH _ _ hb
        rw [hb'] at hx
        exact vwPtr_sound (N' := noN) g (b := b) (off := off) (by rw [hb']; rfl) (fun r h => h.elim) (fun r _ h => h.elim) (by rw [hb']; exact hx)
      · cases h
    · split at h
      · rename_i ps hps
        simp only [Option.some.injEq] at h
        subst h
        simp only [repA] at hx
        obtain ⟨vs, rfl, hx⟩ := hx
        rw [repAC_iff] at hx
        simp only [rep]
        refine ⟨vs, rfl, ?_⟩
        rw [repC_iff]
        exact mapO_FC ih hps hx
      · cases h
    · split at h
      · rename_i ps hps
        simp only [Option.some.injEq] at h
        subst h
        simp only [repA] at hx
        obtain ⟨vs, rfl, hx⟩ := hx
        rw [repAL_iff] at hx
        simp only [rep]
        refine ⟨vs, rfl, ?_⟩
        rw [repL_iff]
        exact mapO_FL ih hps hx
      · cases h
    · split at h
      · rename_i x y hx' hy'
        simp only [Option.some.injEq] at h
        subst h
        simp only [repA] at hx
        obtain ⟨fs, cs, rfl, h1, h2⟩ := hx
        rw [repAL_iff] at h1 h2
        simp only [rep]
        refine ⟨fs, cs, rfl, ?_, ?_⟩
        · rw [repL_iff]; exact mapO_FL ih hx' h1
        · rw [repL_iff]; exact mapO_FL ih hy' h2
      · cases h
def deepB (hp : List (Nat × Box)) (vs : List AV) : Bool :=
  match vs with
  | .pv _ :: args => match fetch hp (refss args) with
    | some H => match vws H args with
      | some _ => false
      | none => true
    | none => true
  | _ => true
def dC (P : Program) (hp : List (Nat × Box)) (vs : List AV) (K : AV → List (Nat × Box) → List Nat → Prop) : Prop :=
  match clos hp 100 (refss vs) [] with
  | ids => match fetch hp ids with
    | some H => match mapO (vwR H 9) vs with
      | some (.fn (.func f) first caps :: ps) => ∃ r, PCx P f (first ++ (ps ++ caps)) r ∧ match scal r with
        | true => K (.pv r) [] (refss vs ++ ids)
        | false => False
      | _ => False
    | none => False
theorem fetch_sound' {hp : List (Nat × Box)} : ∀ {ids : List Nat} {H : List (Nat × Box)}, fetch hp ids = some H → ∀ b box, lk H b = some box → lk hp b = some box
  | [], H, h => by simp only [fetch, Option.some.injEq] at h; subst h; intro b box hb; simp [lk] at hb
  | i :: r, H, h => by
    simp only [fetch] at h
    split at h
    · rename_i bx hbx
      split at h
      · rename_i t ht
        simp only [Option.some.injEq] at h
        subst h
        intro b box hb
        rw [lk_cons] at hb
        split at hb
        · rename_i e; simp only [Option.some.injEq] at hb; subst hb; first | (rw [← e]; exact hbx) | (subst e; exact hbx) | simp_all
        · exact fetch_sound' ht b box hb
      · cases h
    · cases h
theorem dC_sound (g : Gam c R s a w) {fv : AV} {args : List AV} {K : AV → List (Nat × Box) → List Nat → Prop} (h : dC P s.hp (fv :: args) K)
    {u : Value} {us : List Value} (hf : repA (Nof c R s.hp) w s.hp R fv u) (hv : FL (repA (Nof c R s.hp) w s.hp R) args us) :
    ∃ f first caps, u = .func (.func f) first caps ∧ Enters P f ∧ Calls P f (first ++ us.toArray ++ caps) w fun e w' => ∃ v z ws ids R', e = .returned v ∧ K z ws ids ∧ Gam c R' (s.app ws) a w' ∧
      repA (Nof c R' (ws ++ s.hp)) w' (ws ++ s.hp) R' z v := by
  unfold dC at h
  simp only at h
  split at h
  · rename_i H hH
    have hH := fetch_sound' hH
    split at h
    · rename_i f first caps ps hm
      obtain ⟨r, hpc, h⟩ := h
      simp only [mapO] at hm
      split at hm
      · rename_i p hp
        split at hm
        · rename_i t ht
          simp only [Option.some.injEq, List.cons.injEq] at hm
          obtain ⟨rfl, rfl⟩ := hm
          have h1 := vwR_sound g hH 9 _ _ _ hp hf
          simp only [rep] at h1
          obtain ⟨fs, cs, rfl, hf1, hf2⟩ := h1
          have h2 := mapO_FL (vwR_sound g hH 9) ht hv
          refine ⟨f, fs, cs, rfl, hpc.1, ?_⟩
          have hargs : repL noN w (first ++ (t ++ caps)) (fs ++ us.toArray ++ cs).toList := by
            rw [repL_iff] at hf1 hf2 ⊢
            have e : (fs ++ us.toArray ++ cs).toList = fs.toList ++ (us ++ cs.toList) := by simp
            rw [e]
            exact hf1.app (h2.app hf2)
          refine (hpc.2 noN w _ (fun r h => h.elim) hargs).mono ?_
          rintro e w' ⟨v, r', rfl, rfl, hr, hsame⟩
          have g2 := g.grow hsame
          split at h
          · rename_i hs
            refine ⟨v, _, [], _, R, rfl, h, g2, ?_⟩
            simp only [repA]
            exact scal_rep _ _ hs hr
          · exact h.elim
        · cases hm
      · cases hm
    · exact h.elim
  · exact h.elim
end
end Go.AX
end
section
namespace Go.AX
def W1 (ro : Option Nat) : Fence := { Fence.wide with round := ro }
theorem callsIn_W1 {ro : Option Nat} {n : Nat} {P : Program} {f : FuncId} {args : Array Value} {w : World} {R : Ending → World → Prop} (h : Calls P f args w R) : CallsIn (W1 ro) n P f args w R :=
  (callsIn_wide (n := n)).2 h
theorem rows_wide {n : Nat} {P : Program} {row : String} {args : Array Value} {w : World} {R : Value → World → Prop} (h : Rows P row args w R) : RowsIn Fence.wide n P row args w R :=
  fun c cs _ => let ⟨v, w', r, s⟩ := h c cs; ⟨v, w', r, stepsIn_wide.2 s⟩
theorem rowsIn_W1 {ro : Option Nat} {n : Nat} {P : Program} {row : String} {args : Array Value} {w : World} {R : Value → World → Prop} (h : Rows P row args w R) : RowsIn (W1 ro) n P row args w R :=
  rows_wide (n := n) h
theorem wpIn_of_wp {P : Program} {o : Oper} {a : Act} {w : World} {next : Act → World → Prop} {Q : Exit → Act → World → Prop} (ro : Option Nat) (hnd : ∀ c, o.op ≠ .defer c) (h : o.wp P a w next Q) :
    o.wpIn (W1 ro) 0 P a w next Q := by
  have he : Oper.semAt ro a.eval o = execOp a.eval o := by
    cases ro with
    | none => rfl
    | some l => exact Oper.semAt_some l _ _ hnd
  refine ⟨fun _ _ => trivial, ?_⟩
  show o.uponIn (W1 ro) 0 P a next Q ((Oper.semAt ro a.eval o).run P w)
  rw [he]
  unfold Oper.wp at h
  generalize (execOp a.eval o).run P w = res at h
  cases res with
  | ok x w' =>
    cases x <;> simp only [Oper.upon] at h <;> simp only [Oper.uponIn] <;> first
      | exact h
      | exact ⟨fun e => (by cases e), callsIn_W1 h⟩
      | exact ⟨fun e => (by cases e), rowsIn_W1 h⟩
      | exact h.elim
  | halt x w' => cases x <;> simp only [Oper.upon] at h <;> simp only [Oper.uponIn] <;> exact h
theorem allPV_map : ∀ {vs : List AV} {ps : List PV}, allPV vs = some ps → vs = ps.map .pv
  | [], ps, h => by simp only [allPV, Option.some.injEq] at h; subst h; rfl
  | v :: r, ps, h => by
    cases v <;> simp only [allPV] at h <;> try (cases h; done)
    split at h
    · rename_i t ht
      simp only [Option.some.injEq] at h
      subst h
      rw [allPV_map ht]; rfl
    · cases h
theorem repL_of_map {N : Nat → Prop} {w : World} {hp : List (Nat × Box)} {R : Real} : ∀ (ps : List PV) (xs : List Value), repAL N w hp R (ps.map .pv) xs → repL N w ps xs
  | [], xs, h => by simpa only [List.map, repAL, repL] using h
  | p :: ps, xs, h => by
    simp only [List.map_cons, repAL, repA] at h
    simp only [repL]
    obtain ⟨v, r, e, h1, h2⟩ := h
    exact ⟨v, r, e, h1, repL_of_map ps r h2⟩
def isY (vs : List AV) : Bool :=
  match vs with
  | v :: _ => match v with
    | .pv p => match p with
      | .fn f _ _ => match f with
        | .yield _ => true
        | _ => false
      | _ => false
    | _ => false
  | [] => false
def yC (P : Program) (hp : List (Nat × Box)) (vs : List AV) (K : AV → List (Nat × Box) → List Nat → Prop) : Prop :=
  match vs with
  | .pv (.fn (.yield l) [] []) :: args => match lk hp 999 with
    | some (.tr y ver rest st) => match st with
      | some b => match b with
        | false => match allPV args with
          | some ps => y = (P, l) ∧ ∃ x r, rest = x :: r ∧ leQs' x ps ∧ K (.aptr 999 (ver + 1) 0 0) [(999, .tr y (ver + 1) r none)] [999]
          | none => False
        | true => False
      | none => False
    | _ => False
  | _ => False
section
variable {P : Program} {c : Ctx} {R : Real} {s : AS} {a : Act} {w : World}
def othersOwn (c : Ctx) (R : Real) (hp : List (Nat × Box)) (r : Nat) : Prop := Nof c R hp r ∧ ¬ R.Y.D r
def yR (R : Real) (b : Bool) (Z D : Nat → Prop) (w : World) : Real :=
  { R with nil := fun b' => if b' = 999 then b else R.nil b', Y := { R.Y with Z := Z, D := D, wy := w } }
theorem Gam.yielded (g : Gam c R s a w) {y : Program × Nat} {ver : Nat} {rest r : List (List PV)} {w' : World} {D' : Nat → Prop} {b : Bool}
    (h9 : lk s.hp 999 = some (.tr y ver rest (some false))) (hE : Evo R.Y.D w w') (hD1 : ∀ r, D' r → R.Y.D r ∨ w.heap.size ≤ r) (hD2 : ∀ r, D' r → r < w'.heap.size)
    (hJ : R.Y.n0.2 r (!b) (othersOwn c R s.hp) D' w') :
    Gam c (yR R b (othersOwn c R s.hp) D' w') (s.app [(999, .tr y (ver + 1) r none)]) a w' ∧
      repA (Nof c (yR R b (othersOwn c R s.hp) D' w') ((999, .tr y (ver + 1) r none) :: s.hp)) w' ((999, .tr y (ver + 1) r none) :: s.hp) (yR R b (othersOwn c R s.hp) D' w') (.aptr 999 (ver + 1) 0 0) (.bool b) := by
  generalize hbx : Box.tr y (ver + 1) r none = box'
  obtain ⟨R', hR'⟩ : ∃ R', R' = yR R b (othersOwn c R s.hp) D' w' := ⟨_, rfl⟩
  rw [← hR']
  have k := g.boxes 999 _ h9
  obtain ⟨-, kh, k1, k2, k3, k4⟩ := k
  have lkb : lk ((999, box') :: s.hp) 999 = some box' := by rw [lk_cons, if_pos rfl]
  have lko : ∀ b', b' ≠ 999 → lk ((999, box') :: s.hp) b' = lk s.hp b' := fun b' h => by rw [lk_cons, if_neg (fun e => h e.symm)]
  have hR : ∀ b', b' ≠ 999 → R'.blk b' = R.blk b' ∧ R'.nil b' = R.nil b' ∧ R'.cap b' = R.cap b' := fun b' h => by subst hR'; simp [yR, h]
  have hRY : R'.Y = { R.Y with Z := othersOwn c R s.hp, D := D', wy := w' } := by subst hR'; rfl
  have own1 : ∀ r, ownBox R 999 r (lk s.hp 999) = R.Y.D r := fun r => by rw [h9]; rfl
  have own1' : ∀ r, ownBox R' 999 r (some box') = D' r := fun r => by subst hbx; simp only [ownBox, hRY]
  have ntr : ∀ b' box, b' ≠ 999 → lk s.hp b' = some box → ∀ x1 x2 x3 x4, box ≠ .tr x1 x2 x3 x4 := by
    rintro b' box hne hb x1 x2 x3 x4 rfl
    exact hne (g.boxes b' _ hb).1
  have own2 : ∀ b' r, b' ≠ 999 → ownBox R' b' r (lk s.hp b') → ownBox R b' r (lk s.hp b') := by
    intro b' q hne h
    cases hb : lk s.hp b' with
    | none => rw [hb] at h; exact h.elim
    | some box =>
      rw [hb] at h
      have hn := ntr b' box hne hb
      obtain ⟨e1, e2, e3⟩ := hR b' hne
      cases box <;> simp only [ownBox, e1, e2] at h ⊢ <;> first
        | exact h
        | exact absurd rfl (hn _ _ _ _)
  have own3 : ∀ b' r, b' ≠ 999 → ownBox R b' r (lk s.hp b') → ownBox R' b' r (lk s.hp b') := by
    intro b' q hne h
    cases hb : lk s.hp b' with
    | none => rw [hb] at h; exact h.elim
    | some box =>
      rw [hb] at h
      have hn := ntr b' box hne hb
      obtain ⟨e1, e2, e3⟩ := hR b' hne
      cases box <;> simp only [ownBox, e1, e2] at h ⊢ <;> first
        | exact h
        | exact absurd rfl (hn _ _ _ _)
  have hworld : Evo (fun r => ownBox R 999 r (lk s.hp 999)) w w' := hE.mono fun r h => by rw [own1]; exact h
  have hown : ∀ r, ownBox R' 999 r (some box') → ownBox R 999 r (lk s.hp 999) ∨ w.heap.size ≤ r := fun r h => by rw [own1'] at h; rw [own1]; exact hD1 r h
  have ownN : ∀ r, owned R' ((999, box') :: s.hp) r → owned R s.hp r ∨ w.heap.size ≤ r := by
    rintro r ⟨b', h⟩
    by_cases e : b' = 999
    · subst e
      rw [lkb] at h
      exact (hown r h).imp (fun x => ⟨999, x⟩) id
    · rw [lko b' e] at h
      exact .inl ⟨b', own2 b' r e h⟩
  have hN : ∀ r, r < w.heap.size → Nof c R' ((999, box') :: s.hp) r → Nof c R s.hp r := by
    rintro r hr (h | h)
    · exact .inl h
    · exact .inr ((ownN r h).resolve_right (by omega))
  have hw : ∀ r, r < w.heap.size → ¬ Nof c R s.hp r → w'.heap[r]? = w.heap[r]? := fun r hr hn => hworld.keep r hr fun x => hn (.inr ⟨999, x⟩)
  have p1 : ∀ b' off v, refPtr R b' off v (lk s.hp b') → refPtr R' b' off v (lk ((999, box') :: s.hp) b') := fun b' off v h => by
    by_cases e : b' = 999
    · subst e; rw [h9] at h; exact h.elim
    · rw [lko b' e]; exact refPtr_congr (hR b' e) h
  have p2 : ∀ b' ver v, refSl R b' ver v (lk s.hp b') → refSl R' b' ver v (lk ((999, box') :: s.hp) b') := fun b' ver v h => by
    by_cases e : b' = 999
    · subst e; rw [h9] at h; exact h.elim
    · rw [lko b' e]; exact refSl_congr (hR b' e) h
  have p3 : ∀ b' ver i off v, refAp R b' ver i off v (lk s.hp b') → refAp R' b' ver i off v (lk ((999, box') :: s.hp) b') := fun b' ver i off v h => by
    by_cases e : b' = 999
    · subst e
      rw [h9] at h
      rw [lkb]
      subst hbx
      simp only [refAp] at h ⊢
      exact ⟨by omega, h.2.1, fun e => by omega⟩
    · rw [lko b' e]; exact refAp_congr (hR b' e) h
  have hwo : ∀ r, r < w.heap.size → ¬ owned R s.hp r → w'.heap[r]? = w.heap[r]? := fun r hr hn => hworld.keep r hr fun x => hn ⟨999, x⟩
  have hoo : ∀ r, r < w.heap.size → owned R' ((999, box') :: s.hp) r → owned R s.hp r := fun r hr h => (ownN r h).resolve_right (by omega)
  refine ⟨⟨?_, g.size, ⟨by rw [hRY]; exact g.lo.1, g.lo.2.1, Nat.le_trans g.lo.2.2 hE.size⟩, g.marks.imp fun Ds h => h.kept hwo hoo, g.fixed.kept hwo hoo, ?_, ?_, ?_, ?_, ?_, fun v x h => repA_mono hN hw p1 p2 p3 v x (g.kept v x h)⟩, ?_⟩
  · intro t v h
    obtain ⟨x, hx, hv⟩ := g.slots t v h
    exact ⟨x, hx, repA_mono hN hw p1 p2 p3 v x hv⟩
  · intro b' box h
    by_cases e : b' = 999
    · subst e
      simp only [AS.app, List.singleton_append, lkb, Option.some.injEq] at h
      subst h
      subst hbx
      simp only [realz, hRY]
      refine ⟨trivial, kh, ?_, EvoC.refl _ _ _ _, hD2, fun q hn => ?_⟩
      · have : R'.nil 999 = b := by subst hR'; simp [yR]
        rw [this]; exact hJ
      · rcases hn with hn | ⟨b2, ho⟩
        · refine .inr (.inl ⟨.inl hn, fun hd => ?_⟩)
          exact g.free q ⟨999, by rw [h9]; exact hd⟩ hn
        · simp only [AS.app, List.singleton_append] at ho
          by_cases e2 : b2 = 999
          · subst e2
            rw [lkb, own1'] at ho
            exact .inl ho
          · rw [lko b2 e2] at ho
            have ho' := own2 b2 q e2 ho
            exact .inr (.inl ⟨.inr ⟨b2, ho'⟩, fun hd => e2 (g.inj b2 999 q ho' (by rw [h9]; exact hd))⟩)
    · simp only [AS.app, List.singleton_append, lko b' e] at h
      have hr := g.boxes b' box h
      have hRb := hR b' e
      have hkeep : ∀ r, ownBox R b' r (lk s.hp b') → w'.heap[r]? = w.heap[r]? := fun r ho =>
        hworld.keep r (g.own_lt ho) fun x => e (g.inj b' 999 r ho x)
      rw [h] at hkeep
      cases box with
      | var cells =>
        obtain ⟨cur, e', h8, h9⟩ := hr
        refine ⟨cur, e', ?_, repAC_mono hN hw p1 p2 p3 _ _ h9⟩
        rw [hRb.1, hkeep _ rfl]; exact h8
      | rov cells =>
        obtain ⟨cur, e', fr, h8, h7, h9⟩ := hr
        have hs := size_of_getElem? h8
        refine ⟨cur, e', fr, ?_, ?_, repP_mono hN hw _ _ h9⟩
        · rw [hRb.1, hw _ hs h7]; exact h8
        · rw [hRb.1]; exact fun x => h7 (hN _ hs x)
      | arr e' ver st rows =>
        obtain ⟨xs, h8, h9⟩ := hr
        refine ⟨xs, ?_, repR_mono hN hw _ _ _ h9⟩
        rw [slv_congr hRb]
        refine ownsRow_kept h8 fun k hk => hkeep k ?_
        simp only [slv] at hk
        cases hnil : R.nil b' with
        | true => simp [hnil, Value.ownBlock] at hk
        | false => simp [hnil, Value.ownBlock] at hk; exact ⟨hnil, hk⟩
      | roa ver st rows =>
        simp only [realz, slv_congr hRb] at hr ⊢
        exact rep_mono hN hw _ _ hr
      | tr _ _ _ _ => exact absurd rfl (ntr b' _ e h _ _ _ _)
  · intro b1 b2 q h1 h2
    simp only [AS.app, List.singleton_append] at h1 h2
    by_cases e1 : b1 = 999
    · by_cases e2 : b2 = 999
      · rw [e1, e2]
      · subst e1
        simp only [lkb, lko b2 e2] at h1 h2
        have h2' := own2 b2 q e2 h2
        have hlt := g.own_lt h2'
        exact g.inj _ _ q ((hown q h1).resolve_right (by omega)) h2'
    · by_cases e2 : b2 = 999
      · subst e2
        simp only [lkb, lko b1 e1] at h1 h2
        have h1' := own2 b1 q e1 h1
        have hlt := g.own_lt h1'
        exact g.inj _ _ q h1' ((hown q h2).resolve_right (by omega))
      · simp only [lko b1 e1, lko b2 e2] at h1 h2
        exact g.inj _ _ q (own2 b1 q e1 h1) (own2 b2 q e2 h2)
  · intro q h hF
    rcases ownN q h with h | h
    · exact g.free q h hF
    · have := c.hF q hF
      have := g.evo.size
      omega
  · refine g.evo.trans hworld fun q hr ho => ?_
    exact (g.own0 q ⟨999, ho⟩).resolve_right (by omega)
  · intro q h
    rcases ownN q h with h | h
    · exact g.own0 q h
    · exact .inr (Nat.le_trans g.evo.size h)
  · simp only [repA, lkb]
    subst hbx
    simp only [refAp]
    have : R'.nil 999 = b := by subst hR'; simp [yR]
    exact ⟨Nat.le_refl _, rfl, fun _ _ => by rw [this]; cases b <;> rfl⟩
end
end Go.AX
end
section
namespace Go.AX
section
variable {P : Program} {T : Tab} {c : Ctx}
theorem Gam.congr {R : Real} {tm tm' : List (Nat × AV)} {nx : Nat} {hp hp' : List (Nat × Box)} {a : Act} {w : World} (g : Gam c R ⟨tm, nx, hp⟩ a w)
    (ht : ∀ t, lk tm' t = lk tm t) (hh : ∀ b, lk hp' b = lk hp b) : Gam c R ⟨tm', nx, hp'⟩ a w := by
  have ho : ∀ r, owned R hp' r ↔ owned R hp r := fun r => by simp only [owned, hh]
  have hN : ∀ r, r < w.heap.size → Nof c R hp' r → Nof c R hp r := fun r _ h => h.imp id (ho r).1
  have hN' : ∀ r, ¬ Nof c R hp r → ¬ Nof c R hp' r := fun r h h' => h (h'.imp id (ho r).1)
  have hw : ∀ r, r < w.heap.size → ¬ Nof c R hp r → w.heap[r]? = w.heap[r]? := fun _ _ _ => rfl
  have h1 : ∀ b off v, refPtr R b off v (lk hp b) → refPtr R b off v (lk hp' b) := fun b off v h => by rw [hh]; exact h
  have h2 : ∀ b ver v, refSl R b ver v (lk hp b) → refSl R b ver v (lk hp' b) := fun b ver v h => by rw [hh]; exact h
  have h3 : ∀ b ver i off v, refAp R b ver i off v (lk hp b) → refAp R b ver i off v (lk hp' b) := fun b ver i off v h => by rw [hh]; exact h
  refine ⟨fun t v hv => ?_, g.size, g.lo, g.marks.imp fun Ds hm => hm.kept (fun _ _ _ => rfl) (fun r _ h => (ho r).1 h), g.fixed.kept (fun _ _ _ => rfl) (fun r _ h => (ho r).1 h), fun b box hb => ?_, fun b b' r hb hb' => ?_, fun r hr => g.free r ((ho r).1 hr), g.evo, fun r hr => g.own0 r ((ho r).1 hr), fun v x h => repA_mono hN hw h1 h2 h3 v x (g.kept v x h)⟩
  · obtain ⟨x, hx, hr⟩ := g.slots t v (by rw [← ht]; exact hv)
    exact ⟨x, hx, repA_mono hN hw h1 h2 h3 v x hr⟩
  · have hr := g.boxes b box (by rw [← hh]; exact hb)
    cases box with
    | var cells =>
      simp only [realz] at hr ⊢
      obtain ⟨cur, e, ha, hb⟩ := hr
      exact ⟨cur, e, ha, repAC_mono hN hw h1 h2 h3 cells _ hb⟩
    | rov cells =>
      simp only [realz] at hr ⊢
      obtain ⟨cur, e, fr, ha, hn, hb⟩ := hr
      exact ⟨cur, e, fr, ha, hN' _ hn, repP_mono hN hw cells _ hb⟩
    | arr e ver st rows =>
      simp only [realz] at hr ⊢
      obtain ⟨xs, ha, hb⟩ := hr
      exact ⟨xs, ha, repR_mono hN hw st rows xs hb⟩
    | roa ver st rows =>
      simp only [realz] at hr ⊢
      exact rep_mono hN hw _ _ hr
    | tr y ver rest st =>
      obtain ⟨k0, kh, k1, k2, k3, k4⟩ := hr
      exact ⟨k0, kh, k1, k2, k3, fun r hn => k4 r (hn.imp id (ho r).1)⟩
  · simp only [hh] at hb hb'
    exact g.inj b b' r hb hb'
end
def sameF (ids : List Nat) (hp : List (Nat × Box)) : List (Nat × Box) → Prop → Prop
  | [], X => X
  | (b, box) :: r, X => memN b ids = true ∧ (lk hp b = some box ∧ sameF ids hp r X)
theorem sameF_spec {ids : List Nat} {hp : List (Nat × Box)} : ∀ {ws : List (Nat × Box)} {X : Prop}, sameF ids hp ws X → X ∧ ∀ b, lk (ws ++ hp) b = lk hp b
  | [], X, h => ⟨h, fun _ => rfl⟩
  | (b, box) :: r, X, h => by
    obtain ⟨h1, h2, h3⟩ := h
    obtain ⟨h4, h5⟩ := sameF_spec h3
    refine ⟨h4, fun k => ?_⟩
    rw [List.cons_append, lk_cons]
    split
    · rename_i e; rw [← e]; exact h2.symm
    · exact h5 k
theorem memN_mem {x : Nat} : ∀ {l : List Nat}, memN x l = true → x ∈ l
  | [], h => by simp [memN] at h
  | y :: r, h => by
    unfold memN at h
    split at h
    · rename_i e
      have e := Nat.eq_of_beq_eq_true e
      simp [e]
    · exact List.mem_cons_of_mem _ (memN_mem h)
theorem sameF_congr {ids : List Nat} {hp hp' : List (Nat × Box)} (hb : ∀ b ∈ ids, lk hp' b = lk hp b) : ∀ {ws : List (Nat × Box)} {X Y : Prop}, sameF ids hp ws X → Y → sameF ids hp' ws Y
  | [], X, Y, h, hy => hy
  | (b, box) :: r, X, Y, h, hy => ⟨h.1, (hb b (memN_mem h.1)).trans h.2.1, sameF_congr hb h.2.2 hy⟩
def gV (P : Program) (hp : List (Nat × Box)) (id : Nat) (vs : List AV) (K : AV → List (Nat × Box) → List Nat → Prop) : Prop :=
  gC P hp id vs fun r ws ids => sameF ids hp ws (K r [] ids)
end Go.AX
end
section
namespace Go.AX
def cAppY (T : Tab) (H : List (Nat × Box)) (t : TypeId) (vs : List AV) (id : Nat) (K : AV → List (Nat × Box) → Prop) : Prop :=
  match vs with
  | [.sub b ver st lo hi, x] => match lk T t with
    | some i => match i.d with
      | .slt e => match lk T e with
        | some ei => match srcRows H st x with
          | some rows' => match lk H b with
            | some (.arr e' v st' rows) => match Nat.beq ver v, Nat.beq st st', Nat.beq st ei.size, Nat.beq e' e, Nat.beq lo 0 with
              | true, true, true, true, true => hi + rows'.length ≤ rows.length ∧ K (.sub b ver st 0 (hi + rows'.length)) [(b, .arr e' v st' (rows.take hi ++ (rows' ++ rows.drop (hi + rows'.length))))]
              | _, _, _, _, _ => False
            | _ => False
          | none => False
        | none => False
      | _ => False
    | none => False
  | _ => cApp T H t vs id K
section
variable {P : Program} {T : Tab} {c : Ctx} {R : Real} {s : AS} {a : Act} {w : World}
theorem cAppY_sound (g : Gam c R s a w) (hT : TabOk P T) {H : List (Nat × Box)} (hH : ∀ b box, lk H b = some box → lk s.hp b = some box) {id : Nat} (hf : lk s.hp id = none)
    {t ty : TypeId} {d x : AV} {K : AV → List (Nat × Box) → Prop} (h : cAppY T H t [d, x] id K) {u v : Value} (hd : repA (Nof c R s.hp) w s.hp R d u) (hx : repA (Nof c R s.hp) w s.hp R x v) :
    ∃ y w' R' z ws, (Builtin.append_ #[t, t] ty #[u, v]).run P w = .ok y w' ∧ K z ws ∧ Gam c R' (s.app ws) a w' ∧ repA (Nof c R' (ws ++ s.hp)) w' (ws ++ s.hp) R' z y := by
  unfold cAppY at h
  split at h
  · rename_i b ver st lo hi x' heq
    simp only [List.cons.injEq, and_true] at heq
    obtain ⟨rfl, rfl⟩ := heq
    split at h
    · rename_i i hi'
      obtain ⟨dd, hdd, hdi⟩ := (hT t i hi').desc'
      split at h
      · rename_i e hte
        have ht : P.underlying t = some (.slice e) := by
          rw [hte] at hdi
          cases dd <;> simp [di] at hdi
          subst hdi; exact hdd
        split at h
        · rename_i ei hei
          have hei' := hT _ _ hei
          obtain ⟨ti, zv, hinfo, hsz, hby, hzero, hzc⟩ := hei'.info'
          split at h
          · rename_i rows' hsrc
            obtain ⟨p, len, cap, rfl, rfl, hlc, hpn, hps⟩ := src_sound g hH hsrc hx
            split at h
            · rename_i e' vr st' rows hb
              have hb' := hH _ _ hb
              split at h
              · rename_i hver hst hst2 he hlo
                have hver := Nat.eq_of_beq_eq_true hver
                have hst := Nat.eq_of_beq_eq_true hst
                have hst2 := Nat.eq_of_beq_eq_true hst2
                have he := Nat.eq_of_beq_eq_true he
                have hlo := Nat.eq_of_beq_eq_true hlo
                subst hver; subst hst; subst he; subst hlo
                obtain ⟨hbd, hK⟩ := h
                have hre := g.boxes b _ hb'
                simp only [repA, hb', refSl] at hd
                obtain ⟨u0, hu0, hok, rfl⟩ := hd
                have hu := hu0.2.2 (by trivial)
                subst hu
                by_cases hz : rows'.length = 0
                · have he : rows' = [] := List.eq_nil_of_length_eq_zero hz
                  subst he
                  have hsle : ∃ p0 l0 c0, subv st 0 hi (slv R b rows.length) = .slice p0 l0 c0 ∧ l0 ≤ c0 := by
                    cases hn : R.nil b with
                    | true => exact ⟨none, 0, 0, by simp [slv, hn, subv], Nat.le_refl _⟩
                    | false =>
                      obtain ⟨cur, hg, hs, hle, hm, hr, _⟩ := arr_block hre hn
                      simp only [slv, hn, Bool.false_eq_true, if_false, subOK] at hok
                      have hsv : subv st 0 hi (slv R b rows.length) = .slice (some (if R.cap b = 0 then ⟨R.blk b, 0, none⟩ else (⟨R.blk b, 0, none⟩ : Addr).add (0 * st))) (hi - 0) (R.cap b - 0) := by simp only [slv, hn, Bool.false_eq_true, if_false, subv]
                      exact ⟨_, _, _, hsv, by omega⟩
                  obtain ⟨p0, l0, c0, e1, e2⟩ := hsle
                  have hrun := run_append_empty (P := P) (w := w) (ty := ty) ht hei' p0 p l0 c0 cap e2
                  rw [← e1] at hrun
                  simp only [List.length_nil, Nat.add_zero, List.nil_append, List.take_append_drop] at hK
                  refine ⟨_, w, R, _, _, hrun, hK, g.sameBox hb', ?_⟩
                  simp only [repA, List.cons_append, List.nil_append, lk_cons, if_true, refSl]
                  exact ⟨_, hu0, hok, rfl⟩
                · cases p with
                  | none => exact absurd (by rw [hpn rfl]; rfl) hz
                  | some ad =>
                    obtain ⟨news, n1, n2, n3, n4⟩ := hps ad rfl
                    have hn : R.nil b = false := by
                      cases hn : R.nil b with
                      | false => rfl
                      | true =>
                        have := arr_nil hre hn
                        subst this
                        simp only [List.length_nil] at hbd
                        omega
                    obtain ⟨cur, hg, hs, hle, hm, hr, _⟩ := arr_block hre hn
                    simp only [slv, hn, Bool.false_eq_true, if_false, subOK] at hok
                    have hadd : (⟨R.blk b, 0, none⟩ : Addr).add (0 * st) = ⟨R.blk b, 0, none⟩ := by simp [Addr.add]
                    have hsub : ∀ k, subv st 0 k (slv R b rows.length) = .slice (some ⟨R.blk b, 0, none⟩) k (R.cap b) := by
                      intro k
                      simp only [slv, hn, subv, Bool.false_eq_true, if_false, hadd, Nat.sub_zero]
                      split <;> rfl
                    have hroom : hi + rows'.length ≤ R.cap b := by omega
                    have hmul : hi * st + rows'.length * st = (hi + rows'.length) * st := by rw [Nat.add_mul]
                    have hcs : (hi + rows'.length) * st ≤ cur.size := by rw [hs]; exact Nat.mul_le_mul_right _ hroom
                    have hfit : hi * st + news.length ≤ cur.size := by rw [n1, hmul]; exact hcs
                    have hrun := run_append_room (P := P) w t ty e' ti ht hinfo (R.blk b) hi (R.cap b) cur hg ad rows'.length cap news (by rw [hsz, n1, hst2]) n2 n3 hroom (by rw [hsz, ← hst2]; exact hfit)
                    rw [hsz, ← hst2] at hrun
                    have hR : ∀ b', b' ≠ b → R.blk b' = R.blk b' ∧ R.nil b' = R.nil b' ∧ R.cap b' = R.cap b' := fun _ _ => ⟨rfl, rfl, rfl⟩
                    generalize hrows : (rows.take hi ++ (rows' ++ rows.drop (hi + rows'.length))) = rows2 at hK
                    have hll : rows2.length = rows.length := by rw [← hrows]; simp; omega
                    have r1 : ∀ off v', refPtr R b off v' (lk s.hp b) → refPtr R b off v' (some (.arr e' ver st rows2)) := fun off v h => by rw [hb'] at h; exact h
                    have r2 : ∀ ver1 v', refSl R b ver1 v' (lk s.hp b) → refSl R b ver1 v' (some (.arr e' ver st rows2)) := fun _ v h => by rw [hb'] at h; simp only [refSl, hll] at h ⊢; exact h
                    have r3 : ∀ ver1 i off v', refAp R b ver1 i off v' (lk s.hp b) → refAp R b ver1 i off v' (some (.arr e' ver st rows2)) := fun _ _ _ v h => by rw [hb'] at h; exact h
                    have hown : ∀ r, ownBox R b r (some (.arr e' ver st rows2)) → ownBox R b r (lk s.hp b) ∨ w.heap.size ≤ r := fun r h => by rw [hb']; exact .inl h
                    have hworld : Evo (fun r => ownBox R b r (lk s.hp b)) w (w.setRow (R.blk b) (cur.toList.take (hi * st) ++ news ++ cur.toList.drop (hi * st + news.length)).toArray) := by
                      refine (setRow_evo w _ _).mono ?_
                      rintro r rfl
                      rw [hb']; exact ⟨hn, rfl⟩
                    obtain ⟨m1, m2, m3, m4, m5⟩ := g.updN hR r1 r2 r3 hown hworld
                    refine ⟨_, _, R, _, _, by rw [hsub]; exact hrun, hK, g.upd hR r1 r2 r3 hown hworld ?_, ?_⟩
                    · have hnew : repR (Nof c R s.hp) w st rows2 (cur.toList.take (hi * st) ++ news ++ cur.toList.drop (hi * st + news.length)) := by
                        rw [← hrows, List.append_assoc]
                        have p1 : repR (Nof c R s.hp) w st (rows.take hi) (cur.toList.take (hi * st)) := by
                          obtain ⟨_, t2, _⟩ := repR_take (repR_pre (i := hi) hr)
                          rw [List.length_take, Nat.min_eq_left (by omega)] at t2
                          exact t2
                        refine repR_append p1 (by rw [List.length_take, List.length_take, Nat.min_eq_left (by simp; omega), Nat.min_eq_left (by omega)]) (repR_append n4 n1 ?_)
                        rw [n1, hmul]
                        exact repR_drop (hi + rows'.length) hr
                      have hlen2 : (cur.toList.take (hi * st) ++ news ++ cur.toList.drop (hi * st + news.length)).length = cur.size := by
                        simp only [List.length_append, List.length_take, List.length_drop, Array.length_toList]; omega
                      obtain ⟨t1, t2, t3⟩ := repR_take (repR_mono m1 m2 _ _ _ hnew)
                      refine ⟨_, ?_, t2⟩
                      have hsl : slv R b rows2.length = .slice (some ⟨R.blk b, 0, none⟩) rows.length (R.cap b) := by simp [slv, hn, hll]
                      rw [hsl, hll]
                      rw [hll] at t1
                      refine ⟨?_, .inr ⟨R.blk b, R.cap b, _, rfl, Nat.zero_le _, setRow_heap w _ cur _ e' _ hg, hle, hm, ?_, by simp⟩⟩
                      · simp only [List.length_take]; omega
                      · simp only [List.size_toArray, hlen2, hs]
                    · simp only [repA, List.cons_append, List.nil_append, lk_cons, if_true, refSl]
                      refine ⟨slv R b rows.length, ⟨Nat.le_refl _, hu0.2.1, fun _ => by rw [hll]⟩, ?_, by rw [hsub]⟩
                      simp only [slv, hn, Bool.false_eq_true, if_false, subOK]
                      omega
              · exact h.elim
            · exact h.elim
          · exact h.elim
        · exact h.elim
      · exact h.elim
    · exact h.elim
  · exact cApp_sound g hT hH hf h hd hx
def cSubP (T : Tab) (H : List (Nat × Box)) (t : TypeId) (lo hi mx : Option Operand) (b ver st l0 : Nat) (r : List AV) (K : AV → List (Nat × Box) → Prop) : Prop :=
  match lk H b with
  | some (.arr e v st' rows) => match Nat.beq ver v, Nat.beq l0 0, isNone mx with
    | true, true, true => match lk T t with
      | some i => match i.d with
        | .slt et => match lk T et with
          | some ei => match Nat.beq st ei.size, Nat.beq st st' with
            | true, true => match optI lo r with
              | some (some l, r1) => match optI hi r1 with
                | some (some h, _) => 0 ≤ h ∧ h ≤ rows.length ∧ 0 ≤ l ∧ l ≤ h ∧ K (.sub b ver st l.toNat h.toNat) []
                | _ => False
              | _ => False
            | _, _ => False
          | none => False
        | _ => False
      | none => False
    | _, _, _ => False
  | _ => False
def cSub3 (T : Tab) (H : List (Nat × Box)) (t : TypeId) (lo hi mx : Option Operand) (b ver : Nat) (r : List AV) (K : AV → List (Nat × Box) → Prop) : Prop :=
  match lk H b with
  | some (.arr e v st rows) => match Nat.beq ver v with
    | true => match lk T t with
      | some i => match i.d with
        | .slt et => match lk T et with
          | some ei => match optI lo r with
            | some (some l, r1) => match optI hi r1 with
              | some (some h, r2) => match optI mx r2 with
                | some (some m, _) => 0 ≤ m ∧ m ≤ rows.length ∧ 0 ≤ h ∧ h ≤ m ∧ 0 ≤ l ∧ l ≤ h ∧ K (.pv .junk) []
                | _ => False
              | _ => False
            | _ => False
          | none => False
        | _ => False
      | none => False
    | false => False
  | _ => False
def cSliceX (T : Tab) (H : List (Nat × Box)) (t : TypeId) (lo hi mx : Option Operand) (vs : List AV) (K : AV → List (Nat × Box) → Prop) : Prop :=
  match twin T with
  | false => cSliceY T H t lo hi mx vs K
  | true => match vs with
    | .sub b ver st l0 _ :: r => cSubP T H t lo hi mx b ver st l0 r K
    | .slw b ver :: r => match isNone mx with
      | true => cSliceY T H t lo hi mx vs K
      | false => cSub3 T H t lo hi mx b ver r K
    | _ => cSliceY T H t lo hi mx vs K
theorem bounds_len {P : Program} {w : World} {len len' cap : Nat} {lo hi mx : Option Value} (h : hi.isSome = true) : (Instr.sliceBounds true len cap lo hi mx).run P w = (Instr.sliceBounds true len' cap lo hi mx).run P w := by
  cases hi with
  | none => cases h
  | some v => cases mx <;> simp [Instr.sliceBounds]
theorem vI_some {o : Option Value} {j : Int} (h : vI o (some j)) : o.isSome = true := by
  cases o with
  | none => exact h.elim
  | some v => rfl
theorem cSubP_sound (g : Gam c R s a w) (hT : TabOk P T) {H : List (Nat × Box)} (hH : ∀ b box, lk H b = some box → lk s.hp b = some box) {t : TypeId} {x0 : Operand} {lo hi mx : Option Operand} {b ver st l0 h0 : Nat} {r : List AV}
    {K : AV → List (Nat × Box) → Prop} (h : cSubP T H t lo hi mx b ver st l0 r K)
    (hv : FL (repA (Nof c R s.hp) w s.hp R) (.sub b ver st l0 h0 :: r) ((x0 :: (lo.toList ++ (hi.toList ++ mx.toList))).map a.eval)) :
    ∃ y z, (Instr.sliceAt t (a.eval x0) (lo.map a.eval) (hi.map a.eval) (mx.map a.eval)).run P w = .ok y w ∧ K z [] ∧ repA (Nof c R s.hp) w s.hp R z y := by
  unfold cSubP at h
  split at h
  · rename_i e v st' rows hb
    split at h
    · rename_i hver hl0 hmx
      have hver := Nat.eq_of_beq_eq_true hver
      have hl0 := Nat.eq_of_beq_eq_true hl0
      have hmx : mx = none := by cases mx <;> simp_all [isNone]
      subst hmx; subst hl0
      split at h
      · rename_i i hi'
        obtain ⟨d, hd, hdi⟩ := (hT t i hi').desc'
        split at h
        · rename_i et hte
          have hd' : P.underlying t = some (.slice et) := by
            rw [hte] at hdi
            cases d <;> simp [di] at hdi
            subst hdi; exact hd
          split at h
          · rename_i ei hei
            have hei' := hT _ _ hei
            split at h
            · rename_i hst hst2
              have hst := Nat.eq_of_beq_eq_true hst
              have hst2 := Nat.eq_of_beq_eq_true hst2
              subst hst2
              split at h
              · rename_i l r1 hl
                split at h
                · rename_i hh r2 hhi
                  obtain ⟨k1, k2, k3, k4, hK⟩ := h
                  simp only [List.map_cons] at hv
                  obtain ⟨u, r', e1, hx, hv⟩ := hv
                  simp only [List.cons.injEq] at e1
                  obtain ⟨e1, rfl⟩ := e1
                  obtain ⟨v1, hv⟩ := optI_sound hv hl
                  obtain ⟨v2, hv⟩ := optI_sound (rest := []) (by simpa using hv) hhi
                  have hb' := hH _ _ hb
                  have hre := g.boxes b _ hb'
                  simp only [repA, hb', refSl] at hx
                  obtain ⟨u0, hu0, hok, rfl⟩ := hx
                  have hu := hu0.2.2 hver
                  subst hu
                  have hhs := vI_some v2
                  cases hn : R.nil b with
                  | true =>
                    have hr0 := arr_nil hre hn
                    subst hr0
                    simp only [slv, hn, if_true, subOK, List.length_nil] at hok
                    obtain ⟨hrun, q1, q2, q3⟩ := run_bounds (P := P) (w := w) (isS := true) (len := 0) (cap := 0) (m := none) v1 v2 (show vI none none from trivial) (Nat.le_refl _) (fun i e => by cases e) (by simpa [hiOf] using ⟨k1, k2⟩) (by simpa [hiOf] using ⟨k3, k4⟩)
                    have hz : hh.toNat = 0 := by simp at k2; omega
                    have lz : l.toNat = 0 := by omega
                    refine ⟨.slice none 0 0, _, ?_, hK, ?_⟩
                    · rw [e1]
                      simp only [Option.map_none, Option.map_some, Option.getD_none, Option.getD_some, hiOf, hz, lz] at hrun
                      simp only [Instr.sliceAt, Instr.slice, Sem.run_bind, run_underlying hd', Result.andThen_ok, slv, hn, if_true, subv, Option.map_none, hrun, hei'.run_sizeOf, Sem.run_pure]
                    · simp only [repA, hb', refSl]
                      refine ⟨_, hu0, ?_, by simp [slv, hn, subv]⟩
                      simp only [slv, hn, if_true, subOK]
                      omega
                  | false =>
                    obtain ⟨cur, hg, hs, hle, hm, hr, _⟩ := arr_block hre hn
                    obtain ⟨hrun, q1, q2, q3⟩ := run_bounds (P := P) (w := w) (isS := true) (len := rows.length) (cap := R.cap b) (m := none) v1 v2 (show vI none none from trivial) hle (fun i e => by cases e) (by
                      intro i hi; cases hi; exact ⟨k1, k2⟩) (by intro i hi; cases hi; exact ⟨k3, k4⟩)
                    rw [bounds_len (len' := h0) hhs] at hrun
                    simp only [Option.map_none, Option.map_some, Option.getD_none, Option.getD_some, hiOf] at hrun
                    have hadd : (⟨R.blk b, 0, none⟩ : Addr).add (0 * st) = ⟨R.blk b, 0, none⟩ := by simp [Addr.add]
                    have hsub : subv st 0 h0 (slv R b rows.length) = .slice (some ⟨R.blk b, 0, none⟩) h0 (R.cap b) := by
                      simp only [slv, hn, subv, Bool.false_eq_true, if_false, hadd, Nat.sub_zero]
                      split <;> rfl
                    refine ⟨subv st l.toNat hh.toNat (slv R b rows.length), _, ?_, hK, ?_⟩
                    · rw [e1, hsub]
                      simp only [Instr.sliceAt, Instr.slice, Sem.run_bind, run_underlying hd', Result.andThen_ok, Option.map_none, hrun, hei'.run_sizeOf, Sem.run_pure]
                      simp only [slv, hn, Bool.false_eq_true, if_false, subv, hst]
                      congr 2
                      split <;> rfl
                    · simp only [repA, hb', refSl]
                      refine ⟨_, hu0, ?_, rfl⟩
                      simp only [slv, hn, Bool.false_eq_true, if_false, subOK]
                      omega
                · exact h.elim
              · exact h.elim
            · exact h.elim
          · exact h.elim
        · exact h.elim
      · exact h.elim
    · exact h.elim
  · exact h.elim
theorem cSub3_sound (g : Gam c R s a w) (hT : TabOk P T) {H : List (Nat × Box)} (hH : ∀ b box, lk H b = some box → lk s.hp b = some box) {t : TypeId} {x0 : Operand} {lo hi mx : Option Operand} {b ver : Nat} {r : List AV}
    {K : AV → List (Nat × Box) → Prop} (h : cSub3 T H t lo hi mx b ver r K)
    (hv : FL (repA (Nof c R s.hp) w s.hp R) (.slw b ver :: r) ((x0 :: (lo.toList ++ (hi.toList ++ mx.toList))).map a.eval)) :
    ∃ y z, (Instr.sliceAt t (a.eval x0) (lo.map a.eval) (hi.map a.eval) (mx.map a.eval)).run P w = .ok y w ∧ K z [] ∧ repA (Nof c R s.hp) w s.hp R z y := by
  unfold cSub3 at h
  split at h
  · rename_i e v st rows hb
    split at h
    · rename_i hver
      have hver := Nat.eq_of_beq_eq_true hver
      split at h
      · rename_i i hi'
        obtain ⟨d, hd, hdi⟩ := (hT t i hi').desc'
        split at h
        · rename_i et hte
          have hd' : P.underlying t = some (.slice et) := by
            rw [hte] at hdi
            cases d <;> simp [di] at hdi
            subst hdi; exact hd
          split at h
          · rename_i ei hei
            have hei' := hT _ _ hei
            split at h
            · rename_i l r1 hl
              split at h
              · rename_i hh r2 hhi
                split at h
                · rename_i m r3 hmx
                  obtain ⟨k5, k6, k1, k2, k3, k4, hK⟩ := h
                  simp only [List.map_cons] at hv
                  obtain ⟨u, r', e1, hx, hv⟩ := hv
                  simp only [List.cons.injEq] at e1
                  obtain ⟨e1, rfl⟩ := e1
                  obtain ⟨v1, hv⟩ := optI_sound hv hl
                  obtain ⟨v2, hv⟩ := optI_sound hv hhi
                  obtain ⟨v3, hv⟩ := optI_sound (rest := []) (by simpa using hv) hmx
                  have hb' := hH _ _ hb
                  have hre := g.boxes b _ hb'
                  simp only [repA, hb', refSl] at hx
                  have hu := hx.2.2 hver
                  subst hu
                  obtain ⟨p0, l0, c0, hsl, hlc, hl0⟩ : ∃ p0 l0 c0, slv R b rows.length = .slice p0 l0 c0 ∧ l0 ≤ c0 ∧ l0 = rows.length := by
                    cases hn : R.nil b with
                    | true =>
                      have hr0 := arr_nil hre hn
                      subst hr0
                      exact ⟨none, 0, 0, by simp [slv, hn], Nat.le_refl _, rfl⟩
                    | false =>
                      obtain ⟨cur, hg, hs, hle, hm, hr, _⟩ := arr_block hre hn
                      exact ⟨some ⟨R.blk b, 0, none⟩, rows.length, R.cap b, by simp only [slv, hn, Bool.false_eq_true, if_false], hle, rfl⟩
                  subst hl0
                  obtain ⟨hrun, q1, q2, q3⟩ := run_bounds (P := P) (w := w) (isS := true) v1 v2 v3 hlc (fun i e => by cases e; exact ⟨k5, k6, rfl⟩) (by
                    intro i hi; cases hi; exact ⟨k1, by simpa [hiOf] using k2⟩) (by intro i hi; cases hi; exact ⟨k3, by simpa [hiOf] using k4⟩)
                  rw [hsl] at e1
                  obtain ⟨y, hy⟩ : ∃ y, (Instr.sliceAt t (a.eval x0) (lo.map a.eval) (hi.map a.eval) (mx.map a.eval)).run P w = .ok y w := by
                    rw [e1]
                    simp only [Instr.sliceAt, Instr.slice, Sem.run_bind, run_underlying hd', Result.andThen_ok, hrun, hei'.run_sizeOf, Sem.run_pure]
                    exact ⟨_, rfl⟩
                  exact ⟨y, _, hy, hK, by simp only [repA, rep]⟩
                · exact h.elim
              · exact h.elim
            · exact h.elim
          · exact h.elim
        · exact h.elim
      · exact h.elim
    · exact h.elim
  · exact h.elim
theorem cSliceX_sound (g : Gam c R s a w) (hT : TabOk P T) {H : List (Nat × Box)} (hH : ∀ b box, lk H b = some box → lk s.hp b = some box) {t : TypeId} {x0 : Operand} {lo hi mx : Option Operand} {vs : List AV}
    {K : AV → List (Nat × Box) → Prop} (h : cSliceX T H t lo hi mx vs K)
    (hv : FL (repA (Nof c R s.hp) w s.hp R) vs ((x0 :: (lo.toList ++ (hi.toList ++ mx.toList))).map a.eval)) :
    ∃ y z ws R', (Instr.sliceAt t (a.eval x0) (lo.map a.eval) (hi.map a.eval) (mx.map a.eval)).run P w = .ok y w ∧ K z ws ∧ Gam c R' (s.app ws) a w ∧ repA (Nof c R' (ws ++ s.hp)) w (ws ++ s.hp) R' z y := by
  unfold cSliceX at h
  split at h
  · exact cSliceY_sound g hT hH h hv
  · split at h
    · obtain ⟨y, z, h1, h2, h3⟩ := cSubP_sound g hT hH h hv
      exact ⟨y, z, [], R, h1, h2, g, h3⟩
    · split at h
      · exact cSliceY_sound g hT hH h hv
      · obtain ⟨y, z, h1, h2, h3⟩ := cSub3_sound g hT hH h hv
        exact ⟨y, z, [], R, h1, h2, g, h3⟩
    · exact cSliceY_sound g hT hH h hv
end
end Go.AX
end
section
namespace Go.AX
def evo (tm : List (Nat × AV)) (x : Operand) : Option AV :=
  match x with
  | .tmp t => lk tm t
  | .const v => some (.pv (.sc v))
  | .func f => some (.pv (.fn (.func f) [] []))
  | .global _ => none
def evs (tm : List (Nat × AV)) : List Operand → Option (List AV)
  | [] => some []
  | x :: r => match evo tm x with
    | some v => match evs tm r with
      | some vs => some (v :: vs)
      | none => none
    | none => none
def firstRefs : List AV → List Nat
  | v :: _ => refs v
  | [] => []
def need (op : Op) (vs : List AV) : List Nat :=
  match op with
  | .load _ _ => refss vs
  | .store _ _ _ => firstRefs vs
  | .nilCheck _ => refss vs
  | .convert _ _ _ => refss vs
  | .makeFunc _ _ _ => refss vs
  | .slice _ _ _ _ _ => refss vs
  | .fieldAddr _ _ _ => refss vs
  | .indexAddr _ _ _ => refss vs
  | .buildSlice _ _ _ => refss vs
  | .call _ => refss vs
  | .unOp _ _ _ => refss vs
  | _ => []
def cUnY (H : List (Nat × Box)) (op : UnOp) (x : AV) (K : AV → Prop) : Prop :=
  match x with
  | .aptr b ver i off => match op with
    | .not => match lk H b with
      | some (.tr _ v _ st) => match st with
        | none => match Nat.beq ver v with
          | true => match off with
            | 0 => K (.aptr b ver i 1)
            | 1 => K (.aptr b ver i 0)
            | _ => False
          | false => False
        | some _ => False
      | _ => False
    | _ => False
  | x => cUn op x K
theorem cUnY_sound {P : Program} {w : World} {R : Real} {N : Nat → Prop} {hp : List (Nat × Box)} {H : List (Nat × Box)} (hH : ∀ b box, lk H b = some box → lk hp b = some box) {op : UnOp} {x : AV} {K : AV → Prop} (h : cUnY H op x K) {u : Value} (hx : repA N w hp R x u) :
    ∃ y v, (Op.unary op u).run P w = .ok y w ∧ K v ∧ repA N w hp R v y := by
  unfold cUnY at h
  split at h
  · rename_i b ver i off
    split at h
    · split at h
      · rename_i y v rest st hb
        split at h
        · split at h
          · rename_i hv
            have hb' := hH _ _ hb
            simp only [repA, hb', refAp] at hx
            obtain ⟨h1, h2, h3⟩ := hx
            have h3 := h3 (Nat.eq_of_beq_eq_true hv) (by trivial)
            subst h3
            split at h
            · refine ⟨.bool (!(R.nil b != Nat.beq 0 1)), _, by simp [Op.unary], h, ?_⟩
              simp only [repA, hb', refAp]
              exact ⟨h1, rfl, fun _ _ => by cases R.nil b <;> rfl⟩
            · refine ⟨.bool (!(R.nil b != Nat.beq 1 1)), _, by simp [Op.unary], h, ?_⟩
              simp only [repA, hb', refAp]
              exact ⟨h1, rfl, fun _ _ => by cases R.nil b <;> rfl⟩
            · exact h.elim
          · exact h.elim
        · exact h.elim
      · exact h.elim
    · exact h.elim
  · exact cUn_sound h hx
def nilOk (H : List (Nat × Box)) (v : AV) : Bool :=
  match v with
  | .ptr _ _ => true
  | .pv (.eptr _ _) => true
  | .pv (.fn (.func _) _ _) => true
  | .aptr b ver _ _ => match verOf (lk H b) with
    | some k => Nat.beq ver k
    | none => false
  | _ => false
def cop (P : Program) (T : Tab) (op : Op) (vs : List AV) (H : List (Nat × Box)) (id : Nat) (K : AV → List (Nat × Box) → Prop) : Prop :=
  match op with
  | .move _ => match vs with
    | [v] => K v []
    | _ => False
  | .assign _ => match vs with
    | [v] => K v []
    | _ => False
  | .pick _ _ _ => match vs with
    | [.pv (.sc (.bool c)), x, y] => match c with
      | true => K x []
      | false => K y []
    | _ => False
  | .alloc t => cAlloc T t id K
  | .box t _ => match vs with
    | [x] => cBox T t x id K
    | _ => False
  | .build t ps => cBuild T t (ps.toList.map (·.1)) vs fun v => K v []
  | .buildSlice t n ps => cBuildSl T H t n (ps.toList.map (·.1)) vs id K
  | .load t _ => match vs with
    | [x] => cLoad T H t x fun v => K v []
    | _ => False
  | .store t _ _ => match vs with
    | [x, y] => cStore T H t x y K
    | _ => False
  | .nilCheck _ => match vs with
    | [x] => match nilOk H x with
      | true => K x []
      | false => False
    | _ => False
  | .binOp op t _ _ _ => match vs with
    | [x, y] => cBin T op t x y fun v => K v []
    | _ => False
  | .unOp op _ _ => match vs with
    | [x] => cUnY H op x fun v => K v []
    | _ => False
  | .convert src dst _ => match vs with
    | [x] => cConvW T H src dst x K
    | _ => False
  | .makeFunc f first _ => cMkFn H f first.size vs K
  | .makeSlice t _ _ => cMake T t vs id K
  | .slice t _ l h m => cSliceX T H t l h m vs K
  | .fieldAddr t _ f => match vs with
    | [x] => cFieldAddr T H t x f fun v => K v []
    | _ => False
  | .field t _ f => match vs with
    | [x] => cFld T t x f fun v => K v []
    | _ => False
  | .indexAddr t _ _ => match vs with
    | [x, y] => cIndexAddr T H t x y fun v => K v []
    | _ => False
  | .index t _ _ => match vs with
    | [x, y] => cIndex T t x y fun v => K v []
    | _ => False
  | .extract _ i => match vs with
    | [x] => cExtract x i fun v => K v []
    | _ => False
  | .call c => match c.callee with
    | .value _ => cCall P H vs K
    | .builtin b => match b with
      | .append => match c.argTypes.toList with
        | [t, t'] => match Nat.beq t t' with
          | true => cAppY T H t vs id K
          | false => False
        | _ => False
      | .len => match c.argTypes.toList with
        | [t] => match vs with
          | [x] => cLen T H t x fun v => K v []
          | _ => False
        | _ => False
      | .clear => match c.argTypes.toList with
        | [t] => match vs with
          | [x] => cClear T H t x K
          | _ => False
        | _ => False
      | .max => cMM true vs fun v => K v []
      | .min => cMM false vs fun v => K v []
      | _ => False
    | .invoke _ _ => False
  | _ => False
def fcop (P : Program) (T : Tab) (op : Op) (vs : List AV) (hp : List (Nat × Box)) (id : Nat) (K : AV → List (Nat × Box) → List Nat → Prop) : Prop :=
  match need op vs with
  | ids => match fetch hp ids with
    | some H => cop P T op vs H id fun v ws => K v ws ids
    | none => False
def isCall (op : Op) : Bool :=
  match op with
  | .call c => match c.callee with
    | .value _ => true
    | _ => false
  | _ => false
def lC (P : Program) (T : Tab) (op : Op) (vs : List AV) (hp : List (Nat × Box)) (id : Nat) (K : AV → List (Nat × Box) → List Nat → Prop) : Prop :=
  match deepB hp vs with
  | true => dC P hp vs K
  | false => fcop P T op vs hp id K
def gen (T : Tab) : Bool :=
  match T with
  | (a, _) :: (b, _) :: (c, _) :: _ => match Nat.beq a b with
    | true => Nat.beq b c
    | false => false
  | _ => false
def mk3 (T : Tab) : Tab :=
  match T with
  | x :: r => x :: x :: x :: r
  | [] => []
theorem lk_mk3 (T : Tab) (t : Nat) : lk (mk3 T) t = lk T t := by
  cases T with
  | nil => rfl
  | cons x r =>
    obtain ⟨k, v⟩ := x
    simp only [mk3, lk_cons]
    split <;> rfl
theorem TabOk.mk3 {P : Program} {T : Tab} (h : TabOk P T) : TabOk P (mk3 T) := fun t i hi => h t i (by rw [← lk_mk3 T t]; exact hi)
def sop (P : Program) (T : Tab) (o : Oper) (tm : List (Nat × AV)) (hp : List (Nat × Box)) (id : Nat) (K : AV → List (Nat × Box) → List Nat → Prop) : Prop :=
  match evs tm (opnds o.op) with
  | some vs => match isCall o.op with
    | true => match isY vs with
      | true => yC P hp vs K
      | false => (lC P T o.op vs hp id K ∨ gC P hp id vs K) ∨ match gen T with
        | true => gI P hp id vs K
        | false => gV P hp id vs K
    | false => fcop P T o.op vs hp id K
  | none => False
theorem fetch_sound {hp : List (Nat × Box)} : ∀ {ids : List Nat} {H : List (Nat × Box)}, fetch hp ids = some H → ∀ b box, lk H b = some box → lk hp b = some box
  | [], H, h => by simp only [fetch, Option.some.injEq] at h; subst h; intro b box hb; simp [lk] at hb
  | i :: r, H, h => by
    simp only [fetch] at h
    split at h
    · rename_i bx hbx
      split at h
      · rename_i t ht
        simp only [Option.some.injEq] at h
        subst h
        intro b box hb
        rw [lk_cons] at hb
        split at hb
        · rename_i e; simp only [Option.some.injEq] at hb; rw [← e, ← hb]; exact hbx
        · exact fetch_sound ht b box hb
      · cases h
    · cases h
section
variable {P : Program} {T : Tab} {c : Ctx} {R : Real} {s : AS} {a : Act} {w : World}
theorem evo_sound (g : Gam c R s a w) {x : Operand} {v : AV} (h : evo s.tm x = some v) : repA (Nof c R s.hp) w s.hp R v (a.eval x) := by
  unfold evo at h
  split at h
  · rename_i t
    obtain ⟨y, h1, h2⟩ := g.slots t v h
    have : a.eval (.tmp t) = y := by simp [Act.eval, h1]
    rw [this]; exact h2
  · simp only [Option.some.injEq] at h
    subst h
    simp only [repA, rep, Act.eval]
  · simp only [Option.some.injEq] at h
    subst h
    simp only [repA, rep, Act.eval]
    exact ⟨#[], #[], rfl, rfl, rfl⟩
  · cases h
theorem evs_sound (g : Gam c R s a w) : ∀ {xs : List Operand} {vs : List AV}, evs s.tm xs = some vs → FL (repA (Nof c R s.hp) w s.hp R) vs (xs.map a.eval)
  | [], vs, h => by simp only [evs, Option.some.injEq] at h; subst h; rfl
  | x :: xs, vs, h => by
    simp only [evs] at h
    split at h
    · rename_i v hv
      split at h
      · rename_i vs' hvs
        simp only [Option.some.injEq] at h
        subst h
        exact ⟨_, _, rfl, evo_sound g hv, evs_sound g hvs⟩
      · cases h
    · cases h
def Nx (c : Ctx) (s : AS) (o : Oper) (K : AV → List (Nat × Box) → Prop) (a : Act) (w : World) : Prop :=
  ∃ R v ws, K v ws ∧ Gam c R ((s.app ws).put o.dst v) a w
theorem Nx_value {o : Oper} {K : AV → List (Nat × Box) → Prop} {Q : Exit → Act → World → Prop} (hd : ∀ t, o.dst = some t → t < c.n) {y : Value} {w' : World} {R' : Real} {v : AV} {ws : List (Nat × Box)}
    (hrun : (execOp a.eval o).run P w = .ok (.value y) w') (hK : K v ws) (g : Gam c R' (s.app ws) a w') (hr : repA (Nof c R' (ws ++ s.hp)) w' (ws ++ s.hp) R' v y) :
    o.wp P a w (Nx c s o K) Q := by
  unfold Oper.wp
  rw [hrun, Oper.upon_value]
  exact ⟨R', v, ws, hK, g.put o.dst hd hr⟩
theorem exec_v {o : Oper} {m : Sem Value} (he : execOp a.eval o = (do pure (.value (← m)))) {y : Value} {w' : World} (h : m.run P w = .ok y w') : (execOp a.eval o).run P w = .ok (.value y) w' := by
  rw [he]; simp [h]
theorem zip_map_parts (ps : Array (Nat × Operand)) (f : Operand → Value) : (ps.map fun (i, x) => (i, f x)) = ((ps.toList.map (·.1)).zip ((ps.toList.map (·.2)).map f)).toArray := by
  have : ∀ l : List (Nat × Operand), (l.map fun (x : Nat × Operand) => (x.1, f x.2)) = (l.map (·.1)).zip ((l.map (·.2)).map f) := by
    intro l
    induction l with
    | nil => rfl
    | cons x l ih => simp [ih]
  rw [← this]
  apply Array.ext'
  simp
def CopOK (P : Program) (T : Tab) (c : Ctx) (R : Real) (s : AS) (a : Act) (w : World) (id : Nat) (Q : Exit → Act → World → Prop) (op : Op) : Prop :=
  ∀ (o : Oper), o.op = op → (∀ t, o.dst = some t → t < c.n) → ∀ (vs : List AV) (H : List (Nat × Box)) (K : AV → List (Nat × Box) → Prop),
    (∀ b box, lk H b = some box → lk s.hp b = some box) → FL (repA (Nof c R s.hp) w s.hp R) vs ((opnds op).map a.eval) → cop P T op vs H id K → o.wp P a w (Nx c s o K) Q
section
variable (g : Gam c R s a w) (hT : TabOk P T) {id : Nat} (hf : lk s.hp id = none) (Q : Exit → Act → World → Prop)
include g hT hf
theorem pure_ok {o : Oper} (hd : ∀ t, o.dst = some t → t < c.n) {y : Value} {v : AV} {K : AV → List (Nat × Box) → Prop} (hK : K v []) (hr : repA (Nof c R s.hp) w s.hp R v y)
    (hrun : (execOp a.eval o).run P w = .ok (.value y) w) : o.wp P a w (Nx c s o K) Q := Nx_value (ws := []) hd hrun hK g hr
theorem ok_move (x : Operand) : CopOK P T c R s a w id Q (.move x) := by
  intro o ho hd vs H K hH hv h
  unfold cop at h
  simp only at h
  split at h
  · exact pure_ok g hT hf Q hd h (FL1 hv) (by simp [execOp, ho])
  · exact h.elim
theorem ok_assign (x : Operand) : CopOK P T c R s a w id Q (.assign x) := by
  intro o ho hd vs H K hH hv h
  unfold cop at h
  simp only at h
  split at h
  · exact pure_ok g hT hf Q hd h (FL1 hv) (by simp [execOp, ho])
  · exact h.elim
theorem ok_pick (x y z : Operand) : CopOK P T c R s a w id Q (.pick x y z) := by
  intro o ho hd vs H K hH hv h
  unfold cop at h
  simp only at h
  split at h
  · obtain ⟨h1, h2, h3⟩ := FL3 hv
    simp only [repA, rep] at h1
    split at h
    · exact pure_ok g hT hf Q hd h h2 (by simp [execOp, ho, h1, asBool])
    · exact pure_ok g hT hf Q hd h h3 (by simp [execOp, ho, h1, asBool])
  · exact h.elim
theorem ok_alloc (t : TypeId) : CopOK P T c R s a w id Q (.alloc t) := by
  intro o ho hd vs H K hH hv h
  unfold cop at h
  simp only at h
  obtain ⟨z, w', R', q, ws, h1, h2, h3, h4⟩ := cAlloc_sound g hT hf h
  exact Nx_value hd (exec_v (m := Instr.alloc t true (.tuple #[])) (by unfold execOp; rw [ho]) h1) h2 h3 h4
theorem ok_box (t : TypeId) (x : Operand) : CopOK P T c R s a w id Q (.box t x) := by
  intro o ho hd vs H K hH hv h
  unfold cop at h
  simp only at h
  split at h
  · obtain ⟨z, w', R', q, ws, h1, h2, h3, h4⟩ := cBox_sound g hT hf h (FL1 hv)
    exact Nx_value hd (exec_v (m := Instr.box t (a.eval x)) (by unfold execOp; rw [ho]) h1) h2 h3 h4
  · exact h.elim
theorem ok_build (t : TypeId) (ps : Array (Nat × Operand)) : CopOK P T c R s a w id Q (.build t ps) := by
  intro o ho hd vs H K hH hv h
  unfold cop at h
  simp only at h
  obtain ⟨y, z, h1, h2, h3⟩ := cBuild_sound hT h hv
  simp only [opnds] at h1
  exact pure_ok g hT hf Q hd h2 h3 (exec_v (m := Instr.build t (ps.map fun (i, x) => (i, a.eval x))) (by unfold execOp; rw [ho]) (by rw [zip_map_parts]; exact h1))
theorem ok_buildSlice (t : TypeId) (n : Nat) (ps : Array (Nat × Operand)) : CopOK P T c R s a w id Q (.buildSlice t n ps) := by
  intro o ho hd vs H K hH hv h
  unfold cop at h
  simp only at h
  obtain ⟨z, w', R', q, ws, h1, h2, h3, h4⟩ := cBuildSl_sound g hT hH hf h hv
  simp only [opnds] at h1
  exact Nx_value hd (exec_v (m := Instr.buildSlice t n (ps.map fun (i, x) => (i, a.eval x))) (by unfold execOp; rw [ho]) (by rw [zip_map_parts]; exact h1)) h2 h3 h4
theorem ok_load (t : TypeId) (x : Operand) : CopOK P T c R s a w id Q (.load t x) := by
  intro o ho hd vs H K hH hv h
  unfold cop at h
  simp only at h
  split at h
  · obtain ⟨y, v, h1, h2, h3⟩ := cLoad_sound g hT hH h (FL1 hv)
    exact pure_ok g hT hf Q hd h2 h3 (exec_v (m := Instr.loadAt t (a.eval x)) (by unfold execOp; rw [ho]) h1)
  · exact h.elim
theorem ok_store (t : TypeId) (x y : Operand) : CopOK P T c R s a w id Q (.store t x y) := by
  intro o ho hd vs H K hH hv h
  unfold cop at h
  simp only at h
  split at h
  · obtain ⟨hx, hy⟩ := FL2 hv
    obtain ⟨w', ws, h1, h2, h3⟩ := cStore_sound g hT hH h hx hy
    unfold Oper.wp
    have : (execOp a.eval o).run P w = .ok .skip w' := by unfold execOp; rw [ho]; simp [h1]
    rw [this, Oper.upon_skip]
    exact ⟨R, _, ws, h2, h3.put o.dst hd (by simp only [repA, rep])⟩
  · exact h.elim
theorem ok_nilCheck (x : Operand) : CopOK P T c R s a w id Q (.nilCheck x) := by
  intro o ho hd vs H K hH hv h
  unfold cop at h
  simp only at h
  split at h
  · rename_i v
    have hx := FL1 hv
    split at h
    · rename_i hn
      have key : (∃ ad, a.eval x = .pointer (some ad)) ∨ (∃ f p q, a.eval x = .func (.func f) p q) := by
        unfold nilOk at hn
        split at hn
        · exact .inl (repA_ptr (by rfl) hx)
        · exact .inl (repA_ptr (by rfl) hx)
        · simp only [repA, rep] at hx
          obtain ⟨fs, cs, h1, _⟩ := hx
          exact .inr ⟨_, _, _, h1⟩
        · rename_i b ver k off
          split at hn
          · rename_i k' hk
            simp only [repA] at hx
            cases hb : lk H b with
            | none => rw [hb] at hk; cases hk
            | some box =>
              rw [hb, ← hH _ _ hb] at hk
              obtain ⟨st, _, hu, _⟩ := verOf_ap hx hk (Nat.eq_of_beq_eq_true hn)
              exact .inl ⟨_, hu⟩
          · cases hn
        · cases hn
      rcases key with ⟨ad, hk⟩ | ⟨f, p, q, hk⟩
      · exact pure_ok g hT hf Q hd h hx (by simp [execOp, ho, hk])
      · exact pure_ok g hT hf Q hd h hx (by simp [execOp, ho, hk])
    · exact h.elim
  · exact h.elim
theorem ok_binOp (op : BinOp) (t : TypeId) (x y : Operand) (yt : TypeId) : CopOK P T c R s a w id Q (.binOp op t x y yt) := by
  intro o ho hd vs H K hH hv h
  unfold cop at h
  simp only at h
  split at h
  · obtain ⟨hx, hy⟩ := FL2 hv
    obtain ⟨r, h1, p, h2, h3⟩ := cBin_sound (xo := x) (yo := y) hT h hx hy
    exact pure_ok g hT hf Q hd h2 (by simpa only [repA] using h3) (exec_v (m := (do eqGuard op t x y (a.eval x) (a.eval y); binOp op t (a.eval x) (a.eval y))) (by unfold execOp; rw [ho]) h1)
  · exact h.elim
theorem ok_unOp (op : UnOp) (t : TypeId) (x : Operand) : CopOK P T c R s a w id Q (.unOp op t x) := by
  intro o ho hd vs H K hH hv h
  unfold cop at h
  simp only at h
  split at h
  · obtain ⟨y, v, h1, h2, h3⟩ := cUnY_sound (P := P) (w := w) hH h (FL1 hv)
    exact pure_ok g hT hf Q hd h2 h3 (exec_v (m := Op.unary op (a.eval x)) (by unfold execOp; rw [ho]) h1)
  · exact h.elim
theorem ok_convert (src dst : TypeId) (x : Operand) : CopOK P T c R s a w id Q (.convert src dst x) := by
  intro o ho hd vs H K hH hv h
  unfold cop at h
  simp only at h
  split at h
  · obtain ⟨z, w', R', q, ws, h1, h2, h3, h4⟩ := cConvW_sound g hT hH h (FL1 hv)
    exact Nx_value hd (exec_v (m := convert src dst (a.eval x)) (by unfold execOp; rw [ho]) h1) h2 h3 h4
  · exact h.elim
theorem ok_makeFunc (f : Fn) (first caps : Array Operand) : CopOK P T c R s a w id Q (.makeFunc f first caps) := by
  intro o ho hd vs H K hH hv h
  unfold cop at h
  simp only at h
  simp only [opnds, List.map_append, ← Array.toList_map] at hv
  rw [show first.size = (first.map a.eval).size from by simp] at h
  obtain ⟨z, ws, h1, h2, h3, h4⟩ := cMkFn_sound (P := P) g hH h hv
  exact Nx_value hd (exec_v (m := Instr.makeFunc f (first.map a.eval) (caps.map a.eval)) (by unfold execOp; rw [ho]) h1) h2 h3 h4
theorem ok_makeSlice (t : TypeId) (l n : Operand) : CopOK P T c R s a w id Q (.makeSlice t l n) := by
  intro o ho hd vs H K hH hv h
  unfold cop at h
  simp only at h
  simp only [opnds] at hv
  obtain ⟨x, y, rfl⟩ : ∃ x y, vs = [x, y] := by
    have := hv.length
    match vs with
    | [x, y] => exact ⟨x, y, rfl⟩
    | [] => simp at this
    | [_] => simp at this
    | _ :: _ :: _ :: _ => simp at this
  obtain ⟨hx, hy⟩ := FL2 hv
  obtain ⟨z, w', R', q, ws, h1, h2, h3, h4⟩ := cMake_sound g hT hf h hx hy
  exact Nx_value hd (exec_v (m := Instr.makeSlice t (a.eval l) (a.eval n)) (by unfold execOp; rw [ho]) h1) h2 h3 h4
theorem ok_slice (t : TypeId) (x : Operand) (l hi m : Option Operand) : CopOK P T c R s a w id Q (.slice t x l hi m) := by
  intro o ho hd vs H K hH hv h
  unfold cop at h
  simp only at h
  simp only [opnds] at hv
  obtain ⟨y, z, ws, R', h1, h2, h3, h4⟩ := cSliceX_sound g hT hH h hv
  exact Nx_value hd (exec_v (m := Instr.sliceAt t (a.eval x) (l.map a.eval) (hi.map a.eval) (m.map a.eval)) (by unfold execOp; rw [ho]) h1) h2 h3 h4
theorem ok_fieldAddr (t : TypeId) (x : Operand) (f : Nat) : CopOK P T c R s a w id Q (.fieldAddr t x f) := by
  intro o ho hd vs H K hH hv h
  unfold cop at h
  simp only at h
  split at h
  · obtain ⟨y, v, h1, h2, h3⟩ := cFieldAddr_sound (w := w) hT hH h (FL1 hv)
    exact pure_ok g hT hf Q hd h2 h3 (exec_v (m := Instr.fieldAt t (a.eval x) f) (by unfold execOp; rw [ho]) h1)
  · exact h.elim
theorem ok_field (t : TypeId) (x : Operand) (f : Nat) : CopOK P T c R s a w id Q (.field t x f) := by
  intro o ho hd vs H K hH hv h
  unfold cop at h
  simp only at h
  split at h
  · obtain ⟨y, v, h1, h2, h3⟩ := cFld_sound hT h (FL1 hv)
    exact pure_ok g hT hf Q hd h2 h3 (exec_v (m := Instr.field t (a.eval x) f) (by unfold execOp; rw [ho]) h1)
  · exact h.elim
theorem ok_indexAddr (t : TypeId) (x i : Operand) : CopOK P T c R s a w id Q (.indexAddr t x i) := by
  intro o ho hd vs H K hH hv h
  unfold cop at h
  simp only at h
  split at h
  · obtain ⟨hx, hy⟩ := FL2 hv
    obtain ⟨y, v, h1, h2, h3⟩ := cIndexAddr_sound g hT hH h hx hy
    exact pure_ok g hT hf Q hd h2 h3 (exec_v (m := Instr.indexAt t (a.eval x) (a.eval i)) (by unfold execOp; rw [ho]) h1)
  · exact h.elim
theorem ok_index (t : TypeId) (x i : Operand) : CopOK P T c R s a w id Q (.index t x i) := by
  intro o ho hd vs H K hH hv h
  unfold cop at h
  simp only at h
  split at h
  · obtain ⟨hx, hy⟩ := FL2 hv
    obtain ⟨y, v, h1, h2, h3⟩ := cIndex_sound hT h hx hy
    exact pure_ok g hT hf Q hd h2 h3 (exec_v (m := Instr.index t (a.eval x) (a.eval i)) (by unfold execOp; rw [ho]) h1)
  · exact h.elim
theorem ok_extract (x : Operand) (i : Nat) : CopOK P T c R s a w id Q (.extract x i) := by
  intro o ho hd vs H K hH hv h
  unfold cop at h
  simp only at h
  split at h
  · obtain ⟨y, v, h1, h2, h3⟩ := cExtract_sound (P := P) h (FL1 hv)
    exact pure_ok g hT hf Q hd h2 h3 (exec_v (m := Instr.extract (a.eval x) i) (by unfold execOp; rw [ho]) h1)
  · exact h.elim
theorem ok_call (cc : Call) : CopOK P T c R s a w id Q (.call cc) := by
  intro o ho hd vs H K hH hv h
  unfold cop at h
  simp only at h
  have hex : execOp a.eval o = (do let d ← resolve a.eval cc o.type; invoke d.target d.args) := by unfold execOp; rw [ho]
  split at h
  · -- of a function
    rename_i f hcal
    simp only [opnds, hcal, List.map_cons] at hv
    cases vs with
    | nil => exact h.elim
    | cons fv args =>
      obtain ⟨u, us, e1, hfv, hargs⟩ := hv
      simp only [List.cons.injEq] at e1
      obtain ⟨e1, rfl⟩ := e1
      obtain ⟨fid, first, caps, rfl, ⟨fn, hfn, hbody, hname⟩, hcalls⟩ := cCall_sound g hH h hfv hargs
      have hrun : (execOp a.eval o).run P w = .ok (.enter fid (first ++ (cc.args.toList.map a.eval).toArray ++ caps)) w := by
        rw [hex]
        have hb : fn.body.isNone = false := by cases hbb : fn.body <;> simp [hbb] at hbody ⊢
        have e3 : (cc.args.toList.map a.eval).toArray = cc.args.map a.eval := by rw [← Array.toList_map, Array.toArray_toList]
        simp only [resolve, hcal, e1, Deferred.ofValue, Sem.run_bind, Sem.run_pure, Result.andThen_ok, invoke, callFunc, run_program, hfn, hname, hb, e3]
        simp
      unfold Oper.wp
      rw [hrun, Oper.upon_enter]
      refine hcalls.mono ?_
      rintro e w' ⟨v, z, ws, rfl, hK, g2, hr⟩
      exact ⟨R, z, ws, hK, g2.put o.dst hd hr⟩
  · rename_i b hcal
    simp only [opnds, hcal] at hv
    have hrun : ∀ {y : Value} {w' : World}, (builtin b cc.argTypes o.type (cc.args.map fun | .const _ => true | _ => false) (cc.args.map a.eval)).run P w = .ok (.value y) w' → (execOp a.eval o).run P w = .ok (.value y) w' := by
      intro y w' hy
      rw [hex]
      simp only [resolve, hcal, Sem.run_bind, Sem.run_pure, Result.andThen_ok, invoke]
      exact hy
    have hargs : ∀ l : List Operand, cc.args.toList = l → cc.args.map a.eval = (l.map a.eval).toArray := by
      intro l hl
      rw [← hl, ← Array.toList_map, Array.toArray_toList]
    split at h
    · -- append
      split at h
      · rename_i t t' hts
        split at h
        · rename_i htt
          have htt := Nat.eq_of_beq_eq_true htt
          subst htt
          have hat : cc.argTypes = #[t, t] := by rw [← Array.toArray_toList (xs := cc.argTypes), hts]
          obtain ⟨d, x, rfl⟩ : ∃ x y, vs = [x, y] := by
            unfold cAppY at h
            split at h
            · exact ⟨_, _, rfl⟩
            · unfold cApp at h
              split at h
              · exact ⟨_, _, rfl⟩
              · exact h.elim
          have hl := hv.length
          obtain ⟨x1, x2, hal⟩ : ∃ x1 x2, cc.args.toList = [x1, x2] := by
            simp only [List.length_map] at hl
            match hm : cc.args.toList with
            | [x, y] => exact ⟨x, y, rfl⟩
            | [] => rw [hm] at hl; simp at hl
            | [_] => rw [hm] at hl; simp at hl
            | _ :: _ :: _ :: _ => rw [hm] at hl; simp at hl
          rw [hal] at hv
          obtain ⟨hx, hy⟩ := FL2 hv
          obtain ⟨z, w', R', q, ws, h1, h2, h3, h4⟩ := cAppY_sound (ty := o.type) g hT hH hf h hx hy
          refine Nx_value hd (hrun ?_) h2 h3 h4
          rw [hargs _ hal, hat]
          simp only [builtin, List.map_cons, List.map_nil, Sem.run_bind, h1, Result.andThen_ok, Sem.run_pure]
        · exact h.elim
      · exact h.elim
    · -- len
      split at h
      · rename_i t hts
        have hat : cc.argTypes = #[t] := by rw [← Array.toArray_toList (xs := cc.argTypes), hts]
        split at h
        · rename_i x
          have hl := hv.length
          obtain ⟨x1, hal⟩ : ∃ x1, cc.args.toList = [x1] := by
            simp only [List.length_map] at hl
            match hm : cc.args.toList with
            | [x] => exact ⟨x, rfl⟩
            | [] => rw [hm] at hl; simp at hl
            | _ :: _ :: _ => rw [hm] at hl; simp at hl
          rw [hal] at hv
          obtain ⟨y, v, h1, h2, h3⟩ := cLen_sound (ty := o.type) g hT hH h (FL1 hv)
          refine pure_ok g hT hf Q hd h2 h3 (hrun ?_)
          rw [hargs _ hal, hat]
          simp only [builtin, List.map_cons, List.map_nil, Sem.run_bind, h1, Result.andThen_ok, Sem.run_pure]
        · exact h.elim
      · exact h.elim
    · -- clear
      split at h
      · rename_i t hts
        have hat : cc.argTypes = #[t] := by rw [← Array.toArray_toList (xs := cc.argTypes), hts]
        split at h
        · rename_i x
          have hl := hv.length
          obtain ⟨x1, hal⟩ : ∃ x1, cc.args.toList = [x1] := by
            simp only [List.length_map] at hl
            match hm : cc.args.toList with
            | [x] => exact ⟨x, rfl⟩
            | [] => rw [hm] at hl; simp at hl
            | _ :: _ :: _ => rw [hm] at hl; simp at hl
          rw [hal] at hv
          obtain ⟨z, w', q, ws, h1, h2, h3, h4⟩ := cClear_sound (ty := o.type) g hT hH h (FL1 hv)
          refine Nx_value hd (hrun ?_) h2 h3 h4
          rw [hargs _ hal, hat]
          simp only [builtin, List.map_cons, List.map_nil, Sem.run_bind, h1, Result.andThen_ok, Sem.run_pure]
        · exact h.elim
      · exact h.elim
    · -- max
      obtain ⟨d, x, rfl⟩ : ∃ x y, vs = [x, y] := by
        unfold cMM at h
        split at h
        · exact ⟨_, _, rfl⟩
        · exact h.elim
      have hl := hv.length
      obtain ⟨x1, x2, hal⟩ : ∃ x1 x2, cc.args.toList = [x1, x2] := by
        simp only [List.length_map] at hl
        match hm : cc.args.toList with
        | [x, y] => exact ⟨x, y, rfl⟩
        | [] => rw [hm] at hl; simp at hl
        | [_] => rw [hm] at hl; simp at hl
        | _ :: _ :: _ :: _ => rw [hm] at hl; simp at hl
      rw [hal] at hv
      obtain ⟨hx, hy⟩ := FL2 hv
      obtain ⟨z, q, h1, h2, h3⟩ := cMM_sound (P := P) h hx hy cc.argTypes o.type
      refine pure_ok g hT hf Q hd h2 h3 (hrun ?_)
      rw [hargs _ hal]
      simp only [if_true] at h1
      simp only [builtin, List.map_cons, List.map_nil, Sem.run_bind, h1, Result.andThen_ok, Sem.run_pure]
    · obtain ⟨d, x, rfl⟩ : ∃ x y, vs = [x, y] := by
        unfold cMM at h
        split at h
        · exact ⟨_, _, rfl⟩
        · exact h.elim
      have hl := hv.length
      obtain ⟨x1, x2, hal⟩ : ∃ x1 x2, cc.args.toList = [x1, x2] := by
        simp only [List.length_map] at hl
        match hm : cc.args.toList with
        | [x, y] => exact ⟨x, y, rfl⟩
        | [] => rw [hm] at hl; simp at hl
        | [_] => rw [hm] at hl; simp at hl
        | _ :: _ :: _ :: _ => rw [hm] at hl; simp at hl
      rw [hal] at hv
      obtain ⟨hx, hy⟩ := FL2 hv
      obtain ⟨z, q, h1, h2, h3⟩ := cMM_sound (P := P) h hx hy cc.argTypes o.type
      refine pure_ok g hT hf Q hd h2 h3 (hrun ?_)
      rw [hargs _ hal]
      simp only [Bool.false_eq_true, if_false] at h1
      simp only [builtin, List.map_cons, List.map_nil, Sem.run_bind, h1, Result.andThen_ok, Sem.run_pure]
    · exact h.elim
  · exact h.elim
theorem cop_ok (op : Op) : CopOK P T c R s a w id Q op := by
  cases op with
  | move x => exact ok_move g hT hf Q x
  | assign x => exact ok_assign g hT hf Q x
  | pick x y z => exact ok_pick g hT hf Q x y z
  | alloc t => exact ok_alloc g hT hf Q t
  | box t x => exact ok_box g hT hf Q t x
  | build t ps => exact ok_build g hT hf Q t ps
  | buildSlice t n ps => exact ok_buildSlice g hT hf Q t n ps
  | load t x => exact ok_load g hT hf Q t x
  | store t x y => exact ok_store g hT hf Q t x y
  | nilCheck x => exact ok_nilCheck g hT hf Q x
  | binOp op t x y yt => exact ok_binOp g hT hf Q op t x y yt
  | unOp op t x => exact ok_unOp g hT hf Q op t x
  | convert src dst x => exact ok_convert g hT hf Q src dst x
  | makeFunc f first caps => exact ok_makeFunc g hT hf Q f first caps
  | makeSlice t l n => exact ok_makeSlice g hT hf Q t l n
  | slice t x l h m => exact ok_slice g hT hf Q t x l h m
  | fieldAddr t x f => exact ok_fieldAddr g hT hf Q t x f
  | field t x f => exact ok_field g hT hf Q t x f
  | indexAddr t x i => exact ok_indexAddr g hT hf Q t x i
  | index t x i => exact ok_index g hT hf Q t x i
  | extract x i => exact ok_extract g hT hf Q x i
  | call cc => exact ok_call g hT hf Q cc
  | _ => intro o ho hd vs H K hH hv h; exact h.elim
theorem gC_ok {o : Oper} (hd : ∀ t, o.dst = some t → t < c.n) (hc : isCall o.op = true) {vs : List AV} {K : AV → List (Nat × Box) → List Nat → Prop} (hv : FL (repA (Nof c R s.hp) w s.hp R) vs ((opnds o.op).map a.eval))
    (h : gC P s.hp id vs K) : o.wp P a w (Nx c s o fun v ws => ∃ ids, K v ws ids) Q := by
  cases ho : o.op <;> rw [ho] at hc <;> simp only [isCall] at hc <;> try (cases hc; done)
  rename_i cc
  split at hc
  · rename_i f hcal
    rw [ho] at hv
    simp only [opnds, hcal, List.map_cons] at hv
    cases vs with
    | nil => exact h.elim
    | cons fv args =>
      obtain ⟨u, us, e1, hfv, hargs⟩ := hv
      simp only [List.cons.injEq] at e1
      obtain ⟨e1, rfl⟩ := e1
      obtain ⟨fid, first, caps, rfl, ⟨fn, hfn, hbody, hname⟩, hcalls⟩ := gC_sound g h hfv hargs
      have hex : execOp a.eval o = (do let d ← resolve a.eval cc o.type; invoke d.target d.args) := by unfold execOp; rw [ho]
      have hrun : (execOp a.eval o).run P w = .ok (.enter fid (first ++ (cc.args.toList.map a.eval).toArray ++ caps)) w := by
        rw [hex]
        have hb : fn.body.isNone = false := by cases hbb : fn.body <;> simp [hbb] at hbody ⊢
        have e3 : (cc.args.toList.map a.eval).toArray = cc.args.map a.eval := by rw [← Array.toList_map, Array.toArray_toList]
        simp only [resolve, hcal, e1, Deferred.ofValue, Sem.run_bind, Sem.run_pure, Result.andThen_ok, invoke, callFunc, run_program, hfn, hname, hb, e3]
        simp
      unfold Oper.wp
      rw [hrun, Oper.upon_enter]
      refine hcalls.mono ?_
      rintro e w' ⟨v, z, ws, ids, R', rfl, hK, g2, hr⟩
      exact ⟨R', z, ws, ⟨ids, hK⟩, g2.put o.dst hd hr⟩
  · cases hc
theorem gV_ok {o : Oper} (hd : ∀ t, o.dst = some t → t < c.n) (hc : isCall o.op = true) {vs : List AV} {K : AV → List (Nat × Box) → List Nat → Prop} (hv : FL (repA (Nof c R s.hp) w s.hp R) vs ((opnds o.op).map a.eval))
    (h : gV P s.hp id vs K) : o.wp P a w (Nx c s o fun v ws => ∃ ids, K v ws ids) Q := by
  refine Oper.wp_mono ?_ (gC_ok g hT hf Q hd hc hv h)
  rintro a' w' ⟨R', v, ws, ⟨ids, hK⟩, g'⟩
  obtain ⟨h1, h2⟩ := sameF_spec hK
  refine ⟨R', v, [], ⟨ids, h1⟩, ?_⟩
  cases hdst : o.dst with
  | none =>
    rw [hdst] at g'
    exact g'.congr (fun _ => rfl) fun b => (h2 b).symm
  | some d =>
    rw [hdst] at g'
    exact g'.congr (fun _ => rfl) fun b => (h2 b).symm
theorem gI_ok {o : Oper} (hd : ∀ t, o.dst = some t → t < c.n) (hc : isCall o.op = true) {vs : List AV} {K : AV → List (Nat × Box) → List Nat → Prop} (hv : FL (repA (Nof c R s.hp) w s.hp R) vs ((opnds o.op).map a.eval))
    (h : gI P s.hp id vs K) : o.wp P a w (Nx c s o fun v ws => ∃ ids, K v ws ids) Q := by
  cases ho : o.op <;> rw [ho] at hc <;> simp only [isCall] at hc <;> try (cases hc; done)
  rename_i cc
  split at hc
  · rename_i f hcal
    rw [ho] at hv
    simp only [opnds, hcal, List.map_cons] at hv
    cases vs with
    | nil => exact h.elim
    | cons fv args =>
      obtain ⟨u, us, e1, hfv, hargs⟩ := hv
      simp only [List.cons.injEq] at e1
      obtain ⟨e1, rfl⟩ := e1
      obtain ⟨fid, first, caps, rfl, ⟨fn, hfn, hbody, hname⟩, hcalls⟩ := gI_sound g h hfv hargs
      have hex : execOp a.eval o = (do let d ← resolve a.eval cc o.type; invoke d.target d.args) := by unfold execOp; rw [ho]
      have hrun : (execOp a.eval o).run P w = .ok (.enter fid (first ++ (cc.args.toList.map a.eval).toArray ++ caps)) w := by
        rw [hex]
        have hb : fn.body.isNone = false := by cases hbb : fn.body <;> simp [hbb] at hbody ⊢
        have e3 : (cc.args.toList.map a.eval).toArray = cc.args.map a.eval := by rw [← Array.toList_map, Array.toArray_toList]
        simp only [resolve, hcal, e1, Deferred.ofValue, Sem.run_bind, Sem.run_pure, Result.andThen_ok, invoke, callFunc, run_program, hfn, hname, hb, e3]
        simp
      unfold Oper.wp
      rw [hrun, Oper.upon_enter]
      refine hcalls.mono ?_
      rintro e w' ⟨v, z, ws, ids, R', rfl, hK, g2, hr⟩
      exact ⟨R', z, ws, ⟨ids, hK⟩, g2.put o.dst hd hr⟩
  · cases hc
theorem dC_ok {o : Oper} (hd : ∀ t, o.dst = some t → t < c.n) (hc : isCall o.op = true) {vs : List AV} {K : AV → List (Nat × Box) → List Nat → Prop} (hv : FL (repA (Nof c R s.hp) w s.hp R) vs ((opnds o.op).map a.eval))
    (h : dC P s.hp vs K) : o.wp P a w (Nx c s o fun v ws => ∃ ids, K v ws ids) Q := by
  cases ho : o.op <;> rw [ho] at hc <;> simp only [isCall] at hc <;> try (cases hc; done)
  rename_i cc
  split at hc
  · rename_i f hcal
    rw [ho] at hv
    simp only [opnds, hcal, List.map_cons] at hv
    cases vs with
    | nil =>
      unfold dC at h
      simp only [mapO] at h
      split at h
      · simp at h
      · exact h.elim
    | cons fv args =>
      obtain ⟨u, us, e1, hfv, hargs⟩ := hv
      simp only [List.cons.injEq] at e1
      obtain ⟨e1, rfl⟩ := e1
      obtain ⟨fid, first, caps, rfl, ⟨fn, hfn, hbody, hname⟩, hcalls⟩ := dC_sound g h hfv hargs
      have hex : execOp a.eval o = (do let d ← resolve a.eval cc o.type; invoke d.target d.args) := by unfold execOp; rw [ho]
      have hrun : (execOp a.eval o).run P w = .ok (.enter fid (first ++ (cc.args.toList.map a.eval).toArray ++ caps)) w := by
        rw [hex]
        have hb : fn.body.isNone = false := by cases hbb : fn.body <;> simp [hbb] at hbody ⊢
        have e3 : (cc.args.toList.map a.eval).toArray = cc.args.map a.eval := by rw [← Array.toList_map, Array.toArray_toList]
        simp only [resolve, hcal, e1, Deferred.ofValue, Sem.run_bind, Sem.run_pure, Result.andThen_ok, invoke, callFunc, run_program, hfn, hname, hb, e3]
        simp
      unfold Oper.wp
      rw [hrun, Oper.upon_enter]
      refine hcalls.mono ?_
      rintro e w' ⟨v, z, ws, ids, R', rfl, hK, g2, hr⟩
      exact ⟨R', z, ws, ⟨ids, hK⟩, g2.put o.dst hd hr⟩
  · cases hc
theorem fcop_ok {o : Oper} (hd : ∀ t, o.dst = some t → t < c.n) {vs : List AV} {K : AV → List (Nat × Box) → List Nat → Prop} (hv : FL (repA (Nof c R s.hp) w s.hp R) vs ((opnds o.op).map a.eval))
    (h : fcop P T o.op vs s.hp id K) : o.wp P a w (Nx c s o fun v ws => ∃ ids, K v ws ids) Q := by
  unfold fcop at h
  simp only at h
  split at h
  · rename_i H hH
    refine Oper.wp_mono ?_ (cop_ok g hT hf Q o.op o rfl hd vs H _ (fetch_sound hH) hv h)
    rintro a w ⟨R, v, ws, hK, g2⟩
    exact ⟨R, v, ws, ⟨_, hK⟩, g2⟩
  · exact h.elim
theorem yC_ok {o : Oper} (hd : ∀ t, o.dst = some t → t < c.n) (hc : isCall o.op = true) {vs : List AV} {K : AV → List (Nat × Box) → List Nat → Prop} (hv : FL (repA (Nof c R s.hp) w s.hp R) vs ((opnds o.op).map a.eval))
    (ro : Option Nat) (h : yC P s.hp vs K) : o.wpIn (W1 ro) 0 P a w (Nx c s o fun v ws => ∃ ids, K v ws ids) Q := by
  cases ho : o.op <;> rw [ho] at hc <;> simp only [isCall] at hc <;> try (cases hc; done)
  rename_i cc
  split at hc
  · rename_i f hcal
    rw [ho] at hv
    simp only [opnds, hcal, List.map_cons] at hv
    unfold yC at h
    split at h
    · rename_i l args
      obtain ⟨u, us, e1, hfv, hargs⟩ := hv
      simp only [List.cons.injEq] at e1
      obtain ⟨e1, rfl⟩ := e1
      split at h
      · rename_i y ver rest st h9
        split at h
        · split at h
          · split at h
            · rename_i ps hps
              obtain ⟨rfl, x, r, rfl, hle, hK⟩ := h
              have hbx := g.boxes 999 _ h9
              obtain ⟨-, kh, k1, k2, k3, k4⟩ := hbx
              simp only [repA, rep] at hfv
              obtain ⟨fs, cs, rfl, hfs, hcs⟩ := hfv
              simp only [repL] at hfs hcs
              have hfs : fs = #[] := by simpa using hfs
              have hcs : cs = #[] := by simpa using hcs
              subst hfs hcs
              have hargs' : repL (Nof c R s.hp) w ps (cc.args.toList.map a.eval) := by
                have := (repAL_iff _ _ _ _ _ _).2 hargs
                rw [allPV_map hps] at this
                exact repL_of_map _ _ this
              have hx : repL (fun q => R.Y.D q ∨ othersOwn c R s.hp q) w x (cc.args.toList.map a.eval) := by
                refine leQsL_sound (N := Nof c R s.hp) (fun q hq => ?_) _ _ _ hle hargs'
                rcases hq with hq | hq
                · exact .inr ⟨999, by rw [h9]; exact hq⟩
                · exact hq.1
              obtain ⟨fn, tmps, assign, body, hrun, hround⟩ := kh x r R.Y.Z R.Y.D R.Y.wy w (othersOwn c R s.hp) _ (by simpa using k1) k2 k3 (fun q hq => (k4 q hq.1).resolve_left hq.2)
                (fun q hq => g.Nlt hq.1) (fun q hq => hq.2) hx
              have hex : execOp a.eval o = (do let d ← resolve a.eval cc o.type; invoke d.target d.args) := by unfold execOp; rw [ho]
              have e3 : (cc.args.toList.map a.eval).toArray = cc.args.map a.eval := by rw [← Array.toList_map, Array.toArray_toList]
              have hrun' : (execOp a.eval o).run P w = .ok (.round l fn tmps assign body) w := by
                rw [hex]
                rw [e3] at hrun
                simp only [resolve, hcal, e1, Deferred.ofValue, Sem.run_bind, Sem.run_pure, Result.andThen_ok, invoke]
                simpa using hrun
              have hsem : Oper.semAt ro a.eval o = execOp a.eval o := by
                cases ro with
                | none => rfl
                | some l => exact Oper.semAt_some l _ _ (fun c e => by rw [ho] at e; cases e)
              refine ⟨fun _ _ => trivial, ?_⟩
              show o.uponIn (W1 ro) 0 P a _ Q ((Oper.semAt ro a.eval o).run P w)
              rw [hsem, hrun', Oper.uponIn_round]
              refine ⟨fun e => (by cases e), ?_⟩
              refine (show RoundIn (W1 ro) 0 P l fn tmps assign body w _ from hround).mono ?_
              rintro e w' ⟨D', b, rfl, hE, hD1, hD2, hJ⟩
              obtain ⟨g2, hr⟩ := g.yielded h9 hE hD1 hD2 hJ
              exact ⟨_, _, _, ⟨_, hK⟩, g2.put o.dst hd hr⟩
            · exact h.elim
          · exact h.elim
        · exact h.elim
      · exact h.elim
    · exact h.elim
  · cases hc
theorem sop_sound (ro : Option Nat) {o : Oper} (hd : ∀ t, o.dst = some t → t < c.n) {K : AV → List (Nat × Box) → List Nat → Prop} (h : sop P T o s.tm s.hp id K) :
    o.wpIn (W1 ro) 0 P a w (Nx c s o fun v ws => ∃ ids, K v ws ids) Q := by
  have nd : ∀ {vs : List AV}, fcop P T o.op vs s.hp id K → ∀ c, o.op ≠ .defer c := by
    intro vs hf c e
    rw [e] at hf
    unfold fcop at hf
    simp only at hf
    split at hf
    · exact hf.elim
    · exact hf.elim
  have nd2 : isCall o.op = true → ∀ c, o.op ≠ .defer c := fun hc c e => by rw [e] at hc; cases hc
  unfold sop at h
  split at h
  · rename_i vs hvs
    split at h
    · rename_i hc
      split at h
      · exact yC_ok g hT hf Q hd hc (evs_sound g hvs) ro h
      · rcases h with (h | h) | h
        rotate_left 2
        · split at h
          · exact wpIn_of_wp ro (nd2 hc) (gI_ok g hT hf Q hd hc (evs_sound g hvs) h)
          · exact wpIn_of_wp ro (nd2 hc) (gV_ok g hT hf Q hd hc (evs_sound g hvs) h)
        · unfold lC at h
          split at h
          · exact wpIn_of_wp ro (nd2 hc) (dC_ok g hT hf Q hd hc (evs_sound g hvs) h)
          · exact wpIn_of_wp ro (nd h) (fcop_ok g hT hf Q hd (evs_sound g hvs) h)
        · exact wpIn_of_wp ro (nd2 hc) (gC_ok g hT hf Q hd hc (evs_sound g hvs) h)
    · exact wpIn_of_wp ro (nd h) (fcop_ok g hT hf Q hd (evs_sound g hvs) h)
  · exact h.elim
end
end
end Go.AX
end
section
namespace Go.AX
structure Ent where
  look : List Nat
  dst : Option Nat
  rd : List Nat
  wr : List Nat
def tmpsOf : List Operand → List Nat
  | [] => []
  | .tmp t :: r => t :: tmpsOf r
  | _ :: r => tmpsOf r
def putT (tm : List (Nat × AV)) (d : Option Nat) (v : AV) : List (Nat × AV) :=
  match d with
  | some d => (d, v) :: tm
  | none => tm
def guardSlot (ops : List Oper) (o : Oper) : Option Nat :=
  match o.guard with
  | none => none
  | some (j, _) => match nth ops j with
    | some oj => oj.dst
    | none => none
def gslots (ops : List Oper) (o : Oper) : List Nat :=
  match guardSlot ops o with
  | some d => [d]
  | none => []
abbrev RK := List (Nat × AV) → List (Nat × Box) → List Ent → Prop
abbrev RC := List (Nat × AV) → List (Nat × Box) → List Ent → List (Nat × Bool) → Prop
def putF (tm : List (Nat × AV)) (d : Option Nat) (v : AV) (K : List (Nat × AV) → Prop) : Prop :=
  match d with
  | some d => K ((d, v) :: tm)
  | none => K tm
theorem putF_eq (tm : List (Nat × AV)) (d : Option Nat) (v : AV) (K : List (Nat × AV) → Prop) : putF tm d v K = K (putT tm d v) := by cases d <;> rfl
def appF : List (Nat × Box) → List (Nat × Box) → (List (Nat × Box) → Prop) → Prop
  | [], hp, K => K hp
  | x :: r, hp, K => appF r hp fun h => K (x :: h)
theorem appF_eq : ∀ (ws hp : List (Nat × Box)) (K : List (Nat × Box) → Prop), appF ws hp K = K (ws ++ hp)
  | [], _, _ => rfl
  | x :: r, hp, K => by simp only [appF, appF_eq r hp]; rfl
def vex (P : Program) (T : Tab) (ops : List Oper) (base : Nat) (o : Oper) (i : Nat) (tm : List (Nat × AV)) (hp : List (Nat × Box)) (tr : List Ent) (kn : List (Nat × Bool)) (K : RC) : Prop :=
  match lk hp (base + i) with
  | some _ => False
  | none => sop P T o tm hp (base + i) fun v ws ids =>
    putF tm o.dst v fun tm => appF ws hp fun hp => K tm hp (⟨gslots ops o ++ tmpsOf (opnds o.op), o.dst, (base + i) :: ids, keys ws⟩ :: tr) kn
def vskip (ops : List Oper) (o : Oper) (tm : List (Nat × AV)) (hp : List (Nat × Box)) (tr : List Ent) (kn : List (Nat × Bool)) (K : RC) : Prop :=
  putF tm o.dst (.pv (.sc undef)) fun tm => K tm hp (⟨gslots ops o, o.dst, [], []⟩ :: tr) kn
def vgo (P : Program) (T : Tab) (ops : List Oper) (base : Nat) (o : Oper) (i : Nat) (wanted : Bool) (tm : List (Nat × AV)) (hp : List (Nat × Box)) (tr : List Ent) (kn : List (Nat × Bool)) (K : RC) : Prop :=
  match wanted with
  | true => vex P T ops base o i tm hp tr kn K
  | false => vskip ops o tm hp tr kn K
def vstep (P : Program) (T : Tab) (ops : List Oper) (base : Nat) (o : Oper) (i : Nat) (tm : List (Nat × AV)) (hp : List (Nat × Box)) (tr : List Ent) (kn : List (Nat × Bool)) (K : RC) : Prop :=
  match o.guard with
  | none => vex P T ops base o i tm hp tr kn K
  | some (j, want) => match guardSlot ops o with
    | none => False
    | some d => match lk tm d with
      | some (.pv (.sc v)) => match v with
        | .bool b => match lk kn j with
          | some _ => match b with
            | true => vgo P T ops base o i want tm hp tr kn K
            | false => vgo P T ops base o i (!want) tm hp tr kn K
          | none => (b = true → vgo P T ops base o i want ((d, .pv (.sc (.bool true))) :: tm) hp tr ((j, true) :: kn) K) ∧
            (b = false → vgo P T ops base o i (!want) ((d, .pv (.sc (.bool false))) :: tm) hp tr ((j, false) :: kn) K)
        | .tuple _ => vskip ops o tm hp tr kn K
        | _ => False
      | _ => False
def vops (P : Program) (T : Tab) (ops : List Oper) (base : Nat) : List Oper → Nat → List (Nat × AV) → List (Nat × Box) → List Ent → List (Nat × Bool) → RK → Prop
  | [], _, tm, hp, tr, _, K => K tm hp tr
  | o :: r, i, tm, hp, tr, kn, K => vstep P T ops base o i tm hp tr kn fun tm hp tr kn => vops P T ops base r (i + 1) tm hp tr kn K
section
variable {P : Program} {T : Tab} {c : Ctx} {R : Real} {s : AS} {a : Act} {w : World}
theorem Gam.tm_sub (g : Gam c R s a w) {tm : List (Nat × AV)} (h : ∀ t v, lk tm t = some v → lk s.tm t = some v) : Gam c R { s with tm := tm } a w :=
  ⟨fun t v hv => g.slots t v (h t v hv), g.size, g.lo, g.marks, g.fixed, g.boxes, g.inj, g.free, g.evo, g.own0, g.kept⟩
def dstOk (n : Nat) : List Oper → Bool
  | [] => true
  | o :: r => match o.dst with
    | some d => match Nat.blt d n with
      | true => dstOk n r
      | false => false
    | none => dstOk n r
theorem putT_eq (tm : List (Nat × AV)) (nx : Nat) (hp : List (Nat × Box)) (d : Option Nat) (v : AV) : (AS.mk tm nx hp).put d v = ⟨putT tm d v, nx, hp⟩ := by
  cases d <;> rfl
theorem nth_toList {α : Type} (a : Array α) (i : Nat) : nth a.toList i = a[i]? := by rw [nth_eq, Array.getElem?_toList]
theorem yielded_of {ops : Array Oper} {o : Oper} {j : Nat} {want : Bool} (ho : o.guard = some (j, want)) {d : Nat} (hs : guardSlot ops.toList o = some d) (tmps : Array Value) :
    yielded ops tmps j = match tmps[d]? with
      | some (.bool b) => some b
      | _ => none := by
  unfold guardSlot at hs
  rw [ho] at hs
  simp only [nth_toList] at hs
  split at hs
  · rename_i oj hoj
    unfold yielded
    simp only [hoj, Option.bind_some, hs]
    rfl
  · cases hs
theorem vstep_sound (g : Gam c R s a w) (hT : TabOk P T) {ops : Array Oper} {base i : Nat} (hid : base + i < s.nx) {o : Oper} (hd : ∀ t, o.dst = some t → t < c.n) {tr : List Ent} {kn : List (Nat × Bool)} {K : RC}
    (h : vstep P T ops.toList base o i s.tm s.hp tr kn K) (ro : Option Nat) (Q : Exit → Act → World → Prop) :
    if Region.wanted o (yielded ops a.tmps) then o.wpIn (W1 ro) 0 P a w (fun a' w' => ∃ R' tm hp tr' kn', K tm hp tr' kn' ∧ Gam c R' ⟨tm, s.nx, hp⟩ a' w') Q
    else ∃ tm hp tr' kn', K tm hp tr' kn' ∧ Gam c R ⟨tm, s.nx, hp⟩ (a.put o.dst undef) w := by
  have ex : ∀ (s' : AS), Gam c R s' a w → s'.nx = s.nx → ∀ kn, vex P T ops.toList base o i s'.tm s'.hp tr kn K →
      o.wpIn (W1 ro) 0 P a w (fun a' w' => ∃ R' tm hp tr' kn', K tm hp tr' kn' ∧ Gam c R' ⟨tm, s.nx, hp⟩ a' w') Q := by
    intro s' g' hn kn h
    unfold vex at h
    split at h
    · exact h.elim
    · rename_i hfr
      refine Oper.wpIn_mono ?_ (sop_sound g' hT hfr Q ro hd h)
      rintro a' w' ⟨R', v, ws, ⟨ids, hK⟩, g2⟩
      rw [putF_eq, appF_eq] at hK
      refine ⟨R', _, _, _, _, hK, ?_⟩
      rw [← hn, ← putT_eq]
      exact g2
  have sk : ∀ (s' : AS), Gam c R s' a w → s'.nx = s.nx → ∀ kn, vskip ops.toList o s'.tm s'.hp tr kn K →
      ∃ tm hp tr' kn', K tm hp tr' kn' ∧ Gam c R ⟨tm, s.nx, hp⟩ (a.put o.dst undef) w := by
    intro s' g' hn kn h
    unfold vskip at h
    rw [putF_eq] at h
    refine ⟨_, _, _, _, h, ?_⟩
    have := g'.put o.dst hd (v := .pv (.sc undef)) (x := undef) (by simp only [repA, rep])
    rw [← hn, ← putT_eq]
    exact this
  have go : ∀ (want b : Bool) (s' : AS), Gam c R s' a w → s'.nx = s.nx → ∀ kn wt, wt = (b == want) → vgo P T ops.toList base o i wt s'.tm s'.hp tr kn K → (Region.wanted o (yielded ops a.tmps) = (b == want)) →
      if Region.wanted o (yielded ops a.tmps) then o.wpIn (W1 ro) 0 P a w (fun a' w' => ∃ R' tm hp tr' kn', K tm hp tr' kn' ∧ Gam c R' ⟨tm, s.nx, hp⟩ a' w') Q
      else ∃ tm hp tr' kn', K tm hp tr' kn' ∧ Gam c R ⟨tm, s.nx, hp⟩ (a.put o.dst undef) w := by
    intro want b s' g' hn kn wt hw h hwant
    rw [hwant]
    subst hw
    cases hb : b == want with
    | true => rw [hb] at h; simp only [if_true]; exact ex s' g' hn kn h
    | false => rw [hb] at h; simp only [Bool.false_eq_true, if_false]; exact sk s' g' hn kn h
  unfold vstep at h
  split at h
  · rename_i hg
    simp only [Region.wanted, hg, if_true]
    exact ex s g rfl _ h
  · rename_i j want hg
    split at h
    · exact h.elim
    · rename_i d hsl
      have hy := yielded_of hg hsl a.tmps
      have hwd : Region.wanted o (yielded ops a.tmps) = (yielded ops a.tmps j == some want) := by simp [Region.wanted, hg]
      split at h
      · rename_i v hv
        obtain ⟨x, hx, hr⟩ := g.slots d _ hv
        simp only [repA, rep] at hr
        subst hr
        split at h
        · rename_i b
          have hyb : yielded ops a.tmps j = some b := by rw [hy, hx]
          have hwb : Region.wanted o (yielded ops a.tmps) = (b == want) := by rw [hwd, hyb]; cases b <;> cases want <;> rfl
          split at h
          · split at h
            · exact go want true s g rfl _ want (by cases want <;> rfl) h hwb
            · exact go want false s g rfl _ (!want) (by cases want <;> rfl) h hwb
          · obtain ⟨h1, h2⟩ := h
            have hsub : ∀ (b' : Bool), b = b' → Gam c R { s with tm := (d, .pv (.sc (.bool b'))) :: s.tm } a w := by
              rintro _ rfl
              refine g.tm_sub fun t u hu => ?_
              rw [lk_cons] at hu
              split at hu
              · rename_i e; rw [← e, ← hu]; exact hv
              · exact hu
            cases b with
            | true => exact go want true _ (hsub true rfl) rfl _ want (by cases want <;> rfl) (h1 rfl) hwb
            | false => exact go want false _ (hsub false rfl) rfl _ (!want) (by cases want <;> rfl) (h2 rfl) hwb
        · have hyn : yielded ops a.tmps j = none := by rw [hy, hx]
          have hwf : Region.wanted o (yielded ops a.tmps) = false := by rw [hwd, hyn]; rfl
          rw [hwf]
          simp only [Bool.false_eq_true, if_false]
          exact sk s g rfl _ h
        · exact h.elim
      · exact h.elim
theorem vops_sound (ro : Option Nat) (hT : TabOk P T) {ops : Array Oper} {base : Nat} {K : RK} {Q : Exit → Act → World → Prop} : ∀ (l : List Oper) (i : Nat) {R : Real} {s : AS} {a : Act} {w : World} {tr : List Ent} {kn : List (Nat × Bool)},
    Gam c R s a w → base + i + l.length ≤ s.nx → dstOk c.n l = true → vops P T ops.toList base l i s.tm s.hp tr kn K →
    (∀ R tm hp tr a w, K tm hp tr → Gam c R ⟨tm, s.nx, hp⟩ a w → Q .normal a w) → wpListIn (W1 ro) 0 P ops Q l a w
  | [], i, R, s, a, w, tr, kn, g, hl, hd, h, hQ => by
    exact wpListIn_nil (hQ R s.tm s.hp tr a w h g)
  | o :: r, i, R, s, a, w, tr, kn, g, hl, hd, h, hQ => by
    simp only [vops] at h
    simp only [List.length_cons] at hl
    have hd1 : ∀ t, o.dst = some t → t < c.n := by
      intro t ht
      simp only [dstOk, ht] at hd
      split at hd
      · rename_i hb; rw [Nat.blt_eq] at hb; exact hb
      · cases hd
    have hd2 : dstOk c.n r = true := by
      simp only [dstOk] at hd
      split at hd
      · split at hd
        · exact hd
        · cases hd
      · exact hd
    have hs := vstep_sound g hT (ops := ops) (by omega) hd1 h ro Q
    refine wpListIn_step fun K' hK' => ?_
    split
    · rename_i hw
      rw [if_pos hw] at hs
      refine Oper.wpIn_mono ?_ hs
      rintro a' w' ⟨R', tm, hp, tr', kn', h', g'⟩
      exact hK' _ _ (vops_sound ro hT r (i + 1) g' (by simp only; omega) hd2 h' hQ)
    · rename_i hw
      rw [if_neg hw] at hs
      obtain ⟨tm, hp, tr', kn', h', g'⟩ := hs
      exact ⟨fun _ _ => trivial, hK' _ _ (vops_sound ro hT r (i + 1) g' (by simp only; omega) hd2 h' hQ)⟩
end
end Go.AX
end
section
namespace Go.AX
section
variable {N N' : Nat → Prop} {w w' : World} (hN : ∀ r cur e fr, w.heap[r]? = some (.cells cur e fr) → N' r → N r)
  (hw : ∀ r cur e fr, w.heap[r]? = some (.cells cur e fr) → ¬ N r → w'.heap[r]? = some (.cells cur e fr))
include hN hw
mutual
theorem rep_mono2 : ∀ (p : PV) (v : Value), rep N w p v → rep N' w' p v
  | .sc x, v => by simp only [rep]; exact id
  | .agg cs, v => by simp only [rep]; rintro ⟨vs, h1, h2⟩; exact ⟨vs, h1, repC_mono2 cs _ h2⟩
  | .tup cs, v => by simp only [rep]; rintro ⟨vs, h1, h2⟩; exact ⟨vs, h1, repL_mono2 cs _ h2⟩
  | .sl nn st rows, v => by
    simp only [rep]
    rintro ⟨p, len, cap, h1, h2, h3, h4, h5⟩
    refine ⟨p, len, cap, h1, h2, h3, h4, fun a ha => ?_⟩
    rcases h5 a ha with h7 | ⟨h6, h7, cur, e, fr, h8, h9⟩
    · exact .inl h7
    · exact .inr ⟨h6, fun h => h7 (hN _ _ _ _ h8 h), cur, e, fr, hw _ _ _ _ h8 h7, repR_mono2 st rows _ h9⟩
  | .eptr row off, v => by
    simp only [rep]
    rintro ⟨g, base, cur, e, fr, h1, h7, h8, h9⟩
    exact ⟨g, base, cur, e, fr, h1, fun h => h7 (hN _ _ _ _ h8 h), hw _ _ _ _ h8 h7, repP_mono2 row _ h9⟩
  | .fn f first caps, v => by
    simp only [rep]; rintro ⟨fs, cs, h1, h2, h3⟩; exact ⟨fs, cs, h1, repL_mono2 _ _ h2, repL_mono2 _ _ h3⟩
  | .junk, v => by simp only [rep]; exact id
theorem repL_mono2 : ∀ (ps : List PV) (vs : List Value), repL N w ps vs → repL N' w' ps vs
  | [], vs => by simp only [repL]; exact id
  | p :: ps, vs => by simp only [repL]; rintro ⟨v, r, h1, h2, h3⟩; exact ⟨v, r, h1, rep_mono2 p v h2, repL_mono2 ps r h3⟩
theorem repC_mono2 : ∀ (ps : List PV) (vs : List Value), repC N w ps vs → repC N' w' ps vs
  | [], vs => by simp only [repC]; exact id
  | p :: ps, vs => by simp only [repC]; rintro ⟨v, r, h1, h0, h2, h3⟩; exact ⟨v, r, h1, h0, rep_mono2 p v h2, repC_mono2 ps r h3⟩
theorem repP_mono2 : ∀ (ps : List PV) (vs : List Value), repP N w ps vs → repP N' w' ps vs
  | [], vs => by simp only [repP]; exact id
  | p :: ps, vs => by simp only [repP]; rintro ⟨v, r, h1, h0, h2, h3⟩; exact ⟨v, r, h1, h0, rep_mono2 p v h2, repP_mono2 ps r h3⟩
theorem repR_mono2 (st : Nat) : ∀ (rows : List (List PV)) (vs : List Value), repR N w st rows vs → repR N' w' st rows vs
  | [], vs => by simp only [repR]; exact id
  | row :: rows, vs => by simp only [repR]; rintro ⟨h1, h2, h3⟩; exact ⟨h1, repP_mono2 row _ h2, repR_mono2 st rows _ h3⟩
end
variable {hp : List (Nat × Box)} {R : Real}
mutual
theorem repA_mono2 : ∀ (p : AV) (v : Value), repA N w hp R p v → repA N' w' hp R p v
  | .pv p, v => by simp only [repA]; exact rep_mono2 hN hw p v
  | .agg cs, v => by simp only [repA]; rintro ⟨vs, a, b⟩; exact ⟨vs, a, repAC_mono2 cs _ b⟩
  | .tup cs, v => by simp only [repA]; rintro ⟨vs, a, b⟩; exact ⟨vs, a, repAL_mono2 cs _ b⟩
  | .ptr b off, v => by simp only [repA]; exact id
  | .slw b ver, v => by simp only [repA]; exact id
  | .sub b ver st lo hi, v => by simp only [repA]; exact id
  | .aptr b ver i off, v => by simp only [repA]; exact id
  | .fn f first caps, v => by
    simp only [repA]; rintro ⟨fs, cs, a, b, c⟩; exact ⟨fs, cs, a, repAL_mono2 _ _ b, repAL_mono2 _ _ c⟩
theorem repAL_mono2 : ∀ (ps : List AV) (vs : List Value), repAL N w hp R ps vs → repAL N' w' hp R ps vs
  | [], vs => by simp only [repAL]; exact id
  | p :: ps, vs => by simp only [repAL]; rintro ⟨v, r, a, b, c⟩; exact ⟨v, r, a, repA_mono2 p v b, repAL_mono2 ps r c⟩
theorem repAC_mono2 : ∀ (ps : List AV) (vs : List Value), repAC N w hp R ps vs → repAC N' w' hp R ps vs
  | [], vs => by simp only [repAC]; exact id
  | p :: ps, vs => by simp only [repAC]; rintro ⟨v, r, a, d, b, c⟩; exact ⟨v, r, a, d, repA_mono2 p v b, repAC_mono2 ps r c⟩
end
end
theorem Hap.rebase {c1 c2 : Ctx} {R : Real} {hp : List (Nat × Box)} {w w' : World} (g : Hap c1 R hp w) (hnlt : ∀ r, Nof c1 R hp r → r < w.heap.size)
    (hK : ∀ v x, c2.K v x → repA (Nof c1 R hp) w hp R v x) (hF : ∀ r, r < w.heap.size → c2.F r → c1.F r)
    (hw : ∀ r o, w.heap[r]? = some o → (r < c1.n0.1 ∨ o.isCells = true ∨ owned R hp r) → ¬ c1.F r → w'.heap[r]? = some o)
    (hsz : w.heap.size ≤ w'.heap.size) (hos : w'.os = w.os ∧ w'.tape = w.tape ∧ w'.output = w.output)
    (hfree : ∀ r, owned R hp r → ¬ c2.F r) (hfix : Fixed c2.fix (owned R hp) w') (hevo : Evo c2.O c2.w w') (hown0 : ∀ r, owned R hp r → c2.O r ∨ c2.w.heap.size ≤ r) (hlo : c2.n0 = c1.n0 ∧ c2.n0.1 ≤ c2.lo ∧ c2.lo ≤ w'.heap.size) :
    Hap c2 R hp w' ∧ ∀ v x, repA (Nof c1 R hp) w hp R v x → repA (Nof c2 R hp) w' hp R v x := by
  have hN : ∀ r, r < w.heap.size → Nof c2 R hp r → Nof c1 R hp r := by
    rintro r hr (h | h)
    · exact .inl (hF r hr h)
    · exact .inr h
  have hN2 : ∀ r cur e fr, w.heap[r]? = some (.cells cur e fr) → Nof c2 R hp r → Nof c1 R hp r := fun r cur e fr h => hN r (size_of_getElem? h)
  have hw2 : ∀ r cur e fr, w.heap[r]? = some (.cells cur e fr) → ¬ Nof c1 R hp r → w'.heap[r]? = some (.cells cur e fr) := fun r cur e fr h hn => hw r _ h (.inr (.inl rfl)) fun hf => hn (.inl hf)
  have hwo : ∀ r o, w.heap[r]? = some o → owned R hp r → w'.heap[r]? = some o := fun r o h ho => hw r o h (.inr (.inr ho)) (g.free r ho)
  refine ⟨⟨?_, g.inj, hfree, hevo, hown0, fun v x h => repA_mono2 hN2 hw2 v x (hK v x h), hfix, ⟨by rw [hlo.1]; exact g.lo.1, hlo.2⟩⟩, fun v x h => repA_mono2 hN2 hw2 v x h⟩
  intro b box h
  have hr := g.boxes b box h
  have hkeep : ∀ r o, ownBox R b r (some box) → w.heap[r]? = some o → w'.heap[r]? = some o := fun r o ho hx => hwo r o hx ⟨b, by rw [h]; exact ho⟩
  cases box with
  | var cells =>
    obtain ⟨cur, e, h8, h9⟩ := hr
    exact ⟨cur, e, hkeep _ _ rfl h8, repAC_mono2 hN2 hw2 _ _ h9⟩
  | rov cells =>
    obtain ⟨cur, e, fr, h8, h7, h9⟩ := hr
    exact ⟨cur, e, fr, hw2 _ _ _ _ h8 h7, fun x => h7 (hN2 _ _ _ _ h8 x), repP_mono2 hN2 hw2 _ _ h9⟩
  | arr e ver st rows =>
    obtain ⟨xs, h8, h9⟩ := hr
    refine ⟨xs, ownsRow_kept h8 fun k hk => ?_, repR_mono2 hN2 hw2 _ _ _ h9⟩
    have hlt := (h8.lt k hk).2
    have hk' : ownBox R b k (some (.arr e ver st rows)) := by
      simp only [slv] at hk
      cases hnil : R.nil b with
      | true => simp [hnil, Value.ownBlock] at hk
      | false => simp [hnil, Value.ownBlock] at hk; exact ⟨hnil, hk⟩
    have hx : w.heap[k]? = some w.heap[k] := by simp [hlt]
    rw [hkeep k _ hk' hx, hx]
  | roa ver st rows => exact rep_mono2 hN2 hw2 _ _ hr
  | tr y ver rest st =>
    obtain ⟨k0, kh, k1, k2, k3, k4⟩ := hr
    refine ⟨k0, kh, k1, ⟨Nat.le_trans k2.size hsz, fun r o hro hz hc => ?_, hos.1.trans k2.os, hos.2.1.trans k2.tape, hos.2.2.trans k2.output⟩, k3, fun r hn => ?_⟩
    · have h2 := k2.keep r o hro hz hc
      have hD : ¬ c1.F r := fun hf => by
        rcases k4 r (.inl hf) with hd | hz' | hs
        · exact g.free r ⟨b, by rw [h]; exact hd⟩ hf
        · exact hz hz'
        · have := size_of_getElem? hro; omega
      exact hw r o h2 (hc.imp (fun hl => by rw [← g.lo.1]; exact hl) fun hc => hc.imp id fun hd => ⟨b, by rw [h]; exact hd⟩) hD
    · by_cases hlt : r < w.heap.size
      · exact k4 r (hN r hlt hn)
      · exact .inr (.inr (by have := k2.size; omega))
theorem Gam.rebase {c1 c2 : Ctx} {R : Real} {s : AS} {a a' : Act} {w w' : World} (g : Gam c1 R s a w) (hn : c2.n = c1.n) (ha : a'.tmps = a.tmps)
    (hK : ∀ v x, c2.K v x → repA (Nof c1 R s.hp) w s.hp R v x) (hF : ∀ r, r < w.heap.size → c2.F r → c1.F r)
    (hw : ∀ r o, w.heap[r]? = some o → (r < c1.n0.1 ∨ o.isCells = true ∨ owned R s.hp r) → ¬ c1.F r → w'.heap[r]? = some o)
    (hsz : w.heap.size ≤ w'.heap.size) (hos : w'.os = w.os ∧ w'.tape = w.tape ∧ w'.output = w.output)
    (hfree : ∀ r, owned R s.hp r → ¬ c2.F r) (hfix : Fixed c2.fix (owned R s.hp) w') (hevo : Evo c2.O c2.w w') (hown0 : ∀ r, owned R s.hp r → c2.O r ∨ c2.w.heap.size ≤ r) (hlo : c2.n0 = c1.n0 ∧ c2.n0.1 ≤ c2.lo ∧ c2.lo ≤ w'.heap.size)
    (hm : ∃ Ds, Marks c2.lo (owned R s.hp) w' a'.defers Ds) : Gam c2 R s a' w' := by
  obtain ⟨h, hmap⟩ := g.hap.rebase (fun r => g.Nlt) hK hF hw hsz hos hfree hfix hevo hown0 hlo
  refine h.gam (fun t v hv => ?_) (by rw [ha, hn]; exact g.size) hm
  obtain ⟨x, hx, hr⟩ := g.slots t v hv
  exact ⟨x, by rw [ha]; exact hx, hmap v x hr⟩
end Go.AX
end
section
namespace Go.AX
def SeqC (P : Program) (f : FuncId) (caps : List PV) (xs : List (List PV)) : Prop :=
  Enters P f ∧ ∀ (l : Nat) (J : List (List PV) → Bool → (Nat → Prop) → (Nat → Prop) → World → Prop) (D : Nat → Prop) (w : World) (cargs : Array Value), YH (P, l) w.heap.size J → (∀ r, D r → r < w.heap.size) →
    J xs false (fun _ => False) D w → repL D w caps cargs.toList →
    Calls P f (#[.func (.yield l) #[] #[]] ++ cargs) w fun e w' => (∃ v, e = .returned v) ∧ ∃ rest st Z D' wy, J rest st Z D' wy ∧ EvoC w.heap.size Z D' wy w' ∧ (st = true ∨ rest = [])
def Ent1 (s s' : AS) : Prop := ∀ (c : Ctx) (R : Real) (a : Act) (w : World), Gam c R s a w → ∃ R', Gam c R' s' a w
theorem Ent1.refl (s : AS) : Ent1 s s := fun c R a w g => ⟨R, g⟩
theorem Ent1.trans {s1 s2 s3 : AS} (h : Ent1 s1 s2) (h' : Ent1 s2 s3) : Ent1 s1 s3 := fun c R a w g => let ⟨R1, g1⟩ := h c R a w g; h' c R1 a w g1
mutual
def lowA : AV → Bool
  | .pv _ => true
  | .agg cs => lowAs cs
  | .tup cs => lowAs cs
  | .ptr b _ => Nat.blt b 1000
  | .aptr b _ _ _ => Nat.blt b 1000 && !Nat.beq b 999
  | .slw b _ => Nat.blt b 1000
  | .sub b _ _ _ _ => Nat.blt b 1000
  | .fn _ a c => lowAs a && lowAs c
def lowAs : List AV → Bool
  | [] => true
  | v :: r => lowA v && lowAs r
end
def lowTm : List (Nat × AV) → Bool
  | [] => true
  | (_, v) :: r => lowA v && lowTm r
theorem lowTm_spec : ∀ {tm : List (Nat × AV)} {t : Nat} {v : AV}, lowTm tm = true → lk tm t = some v → lowA v = true
  | [], t, v, _, h => by simp [lk] at h
  | (t', v') :: r, t, v, hl, h => by
    simp only [lowTm, Bool.and_eq_true] at hl
    rw [lk_cons] at h
    split at h
    · simp only [Option.some.injEq] at h; rw [← h]; exact hl.1
    · exact lowTm_spec hl.2 h
def prm : List Nat → List PV → List (Nat × AV) → Option (List (Nat × AV))
  | [], ps, tm => match ps with
    | [] => some tm
    | _ => none
  | p :: r, ps, tm => match ps with
    | v :: vs => prm r vs ((p, .pv v) :: tm)
    | [] => none
def jumpOf : Exit → Option Code
  | .ret => some .ret
  | .exit id => some (.exit id)
  | _ => none
def rfK (tm : List (Nat × AV)) (next : AS → Prop) (K : Exit → AS → Prop) (e : Exit) (s : AS) : Prop :=
  match e with
  | .normal => match s with
    | ⟨_, nx, hp⟩ => next ⟨tm, nx, hp⟩
  | .ret => match s with
    | ⟨_, nx, hp⟩ => K .ret ⟨tm, nx, hp⟩
  | .exit id => match s with
    | ⟨_, nx, hp⟩ => K (.exit id) ⟨tm, nx, hp⟩
  | _ => False
section
variable {N N' : Nat → Prop} {w w' : World} {hp hp' : List (Nat × Box)} {R R' : Real} (hN : ∀ r, r < w.heap.size → N' r → N r) (hw : ∀ r, r < w.heap.size → ¬ N r → w'.heap[r]? = w.heap[r]?)
  (hk : ∀ v x, lowRef v = true → repA N w hp R v x → repA N' w' hp' R' v x)
include hN hw hk
mutual
theorem low_keep : ∀ (v : AV) (x : Value), lowA v = true → repA N w hp R v x → repA N' w' hp' R' v x
  | .pv p, x, _, h => by simp only [repA] at h ⊢; exact rep_mono hN hw p x h
  | .agg cs, x, hl, h => by simp only [repA] at h ⊢; obtain ⟨vs, a, b⟩ := h; exact ⟨vs, a, low_keepC cs _ (by simpa only [lowA] using hl) b⟩
  | .tup cs, x, hl, h => by simp only [repA] at h ⊢; obtain ⟨vs, a, b⟩ := h; exact ⟨vs, a, low_keepL cs _ (by simpa only [lowA] using hl) b⟩
  | .ptr b off, x, hl, h => hk _ x (by simpa only [lowA, lowRef] using hl) h
  | .aptr b ver i off, x, hl, h => hk _ x (by simpa only [lowA, lowRef] using hl) h
  | .slw b ver, x, hl, h => hk _ x (by simpa only [lowA, lowRef] using hl) h
  | .sub b ver st lo hi, x, hl, h => by
    simp only [repA] at h ⊢
    obtain ⟨u, a, c⟩ := h
    have := hk (.slw b ver) u (by simpa only [lowA, lowRef] using hl) (by simpa only [repA] using a)
    simp only [repA] at this
    exact ⟨u, this, c⟩
  | .fn f a c, x, hl, h => by
    simp only [repA] at h ⊢
    simp only [lowA, Bool.and_eq_true] at hl
    obtain ⟨fs, cs, e, h1, h2⟩ := h
    exact ⟨fs, cs, e, low_keepL a _ hl.1 h1, low_keepL c _ hl.2 h2⟩
theorem low_keepL : ∀ (vs : List AV) (xs : List Value), lowAs vs = true → repAL N w hp R vs xs → repAL N' w' hp' R' vs xs
  | [], xs, _, h => by simpa only [repAL] using h
  | v :: r, xs, hl, h => by
    simp only [repAL] at h ⊢
    simp only [lowAs, Bool.and_eq_true] at hl
    obtain ⟨x, ys, e, h1, h2⟩ := h
    exact ⟨x, ys, e, low_keep v x hl.1 h1, low_keepL r ys hl.2 h2⟩
theorem low_keepC : ∀ (vs : List AV) (xs : List Value), lowAs vs = true → repAC N w hp R vs xs → repAC N' w' hp' R' vs xs
  | [], xs, _, h => by simpa only [repAC] using h
  | v :: r, xs, hl, h => by
    simp only [repAC] at h ⊢
    simp only [lowAs, Bool.and_eq_true] at hl
    obtain ⟨x, ys, e, h0, h1, h2⟩ := h
    exact ⟨x, ys, e, h0, low_keep v x hl.1 h1, low_keepC r ys hl.2 h2⟩
end
end
theorem repA_low {N N' : Nat → Prop} {w w' : World} {hp : List (Nat × Box)} {R : Real} {v : AV} {x : Value} (h : lowRef v = true) (hr : repA N w hp R v x) : repA N' w' hp R v x := by
  cases v <;> simp only [lowRef] at h <;> first
    | (simp only [repA] at hr ⊢; exact hr)
    | cases h
theorem prm_sound {c : Ctx} {R : Real} {w : World} {nx : Nat} {hp : List (Nat × Box)} : ∀ (ps : List Nat) (x : List PV) (tm tm' : List (Nat × AV)) (a : Act) (vs : List Value), (∀ t ∈ ps, t < c.n) → prm ps x tm = some tm' →
    repL (Nof c R hp) w x vs → Gam c R ⟨tm, nx, hp⟩ a w → vs.length = ps.length ∧ Gam c R ⟨tm', nx, hp⟩ { a with tmps := (ps.zip vs).foldl (fun t (p, v) => t.setIfInBounds p v) a.tmps } w
  | [], x, tm, tm', a, vs, _, h, hr, g => by
    cases x with
    | nil =>
      simp only [prm, Option.some.injEq] at h
      subst h
      simp only [repL] at hr
      subst hr
      exact ⟨rfl, g⟩
    | cons _ _ => simp [prm] at h
  | p :: ps, x, tm, tm', a, vs, hps, h, hr, g => by
    cases x with
    | nil => simp [prm] at h
    | cons y ys =>
      simp only [prm] at h
      simp only [repL] at hr
      obtain ⟨v, r, rfl, h1, h2⟩ := hr
      have g1 := g.put (some p) (fun t ht => by cases ht; exact hps p (by simp)) (v := .pv y) (x := v) (by simpa only [repA] using h1)
      obtain ⟨e, g2⟩ := prm_sound ps ys _ _ _ r (fun t ht => hps t (by simp [ht])) h h2 g1
      exact ⟨by simp [e], g2⟩
structure RoOk (c : Ctx) (ro : Option Nat) : Prop where
  lp : ∀ l0, ro = some l0 → ∃ r0, c.fix l0 = some (.loop r0)
  nc : ∀ r o, c.fix r = some o → o.isCells = false
def cbF (c : Ctx) (Z : Nat → Prop) (l : Nat) (wy : World) (r : Nat) : Prop := (c.F r ∨ Z r ∨ r = l) ∧ r < wy.heap.size
def cb (c : Ctx) (Z : Nat → Prop) (l : Nat) (wy : World) : Ctx where
  F := cbF c Z l wy
  O r := c.O r ∨ c.w.heap.size ≤ r
  w := wy
  n := c.n
  hF r h := h.2
  K := c.K
  hK := c.hK
  fix := c.fix
  n0 := c.n0
  lo := c.lo
def cr (c : Ctx) (Z : Nat → Prop) (l : Nat) (W : World) (own : Nat → Prop) (Kx : AV → Value → Prop) (hKx : ∀ v x, Kx v x → lowRef v = true) (fx : Nat → Option Obj) (lo : Nat) : Ctx where
  F := cbF c Z l W
  O r := own r ∨ r = l
  w := W
  n := c.n
  hF r h := h.2
  K v x := c.K v x ∨ Kx v x
  hK v x h := h.elim (c.hK v x) (hKx v x)
  fix := fx
  n0 := c.n0
  lo := lo
def fxOf (c : Ctx) (l : Nat) (o : Obj) (Dl : List Nat) (r : Nat) : Option Obj := if r = l then some o else if r ∈ Dl then some (.deferred (some [])) else c.fix r
def Dst (c : Ctx) (l : Nat) (Dl : List Nat) (R : Real) (hp : List (Nat × Box)) (r : Nat) : Prop := owned R hp r ∨ r = l ∨ (∃ o, c.fix r = some o) ∨ r ∈ Dl ∨ c.F r
structure RJ {ι : Type} (c : Ctx) (ao : Act) (l n1 : Nat) (Dl : List Nat) (rec : LoopState → Option Code → Loop) (xs : List (List PV)) (st : Nat → ι → AS) (K : Exit → AS → Prop)
    (R : Real) (s : AS) (rest : List (List PV)) (stp : Bool) (Z D : Nat → Prop) (wy : World) : Prop where
  zz : ∀ r, Z r → n1 ≤ r ∧ r < wy.heap.size ∧ ¬ D r
  n1 : n1 ≤ wy.heap.size
  evo : Evo c.O c.w wy
  dd : ∀ r, D r ↔ Dst c l Dl R s.hp r
  dlt : ∀ r, D r → r < wy.heap.size
  g : Gam (cb c Z l wy) R s ao wy
  mks : Marks c.lo (owned R s.hp) wy ao.defers Dl
  run : stp = false → ∃ k i, s = st k i ∧ rest = xs.drop k ∧ k ≤ xs.length ∧ wy.heap[l]? = some (.loop (rec .ready none))
  out : stp = true → ∃ e code, jumpOf e = some code ∧ K e s ∧ wy.heap[l]? = some (.loop (rec .done (some code)))
theorem round_sound {P : Program} {ι : Type} {c : Ctx} {ao : Act} {l n1 : Nat} {Dl : List Nat} {fn : FuncId} {ps : Array Tmp} {asg bdy : Code} {dfr : Nat} {xs : List (List PV)} {st : Nat → ι → AS} {K : Exit → AS → Prop}
    {rec : LoopState → Option Code → Loop} (hrec : ∀ s p, rec s p = { state := s, pending := p, fn := fn, tmps := ao.tmps, params := ps, assign := asg, body := bdy, defers := dfr })
    (hl1 : c.w.heap.size ≤ n1) (hln : c.w.heap.size ≤ l) (hlD : l ∉ Dl) (hlf : c.fix l = none) (hln1 : l < n1) (hn0 : c.n0.1 ≤ n1) (hlo : c.n0.1 ≤ c.lo) (hlo1 : c.lo ≤ n1)
    (hnc : ∀ r o, c.fix r = some o → o.isCells = false) (hps : ∀ t ∈ ps.toList, t < c.n) (hlow : ∀ k i, lowTm (st k i).tm = true) {A : Nat → ι → List PV → AS → Prop}
    (hasg : ∀ (c' : Ctx) (k : Nat) (i : ι) (x : List PV) (tm : List (Nat × AV)) (R : Real) (a : Act) (w : World), c'.n = c.n → RoOk c' (some l) → xs[k]? = some x → prm ps.toList x (st k i).tm = some tm →
      Gam c' R ⟨tm, (st k i).nx, (st k i).hp⟩ a w → asg.wpIn (W1 (some l)) 0 P (Exit.then (fun a1 w1 => ∃ R1 s1, A k i x s1 ∧ Gam c' R1 s1 a1 w1) (fun _ _ _ => False)) a w)
    (hbdy : ∀ (c' : Ctx) (k : Nat) (i : ι) (x : List PV) (s1 : AS) (R : Real) (a : Act) (w : World), c'.n = c.n → RoOk c' (some l) → xs[k]? = some x → A k i x s1 →
      Gam c' R s1 a w → bdy.wpIn (W1 (some l)) 0 P (fun e a' w' => ∃ R' s', rfK (st k i).tm (fun s'' => ∃ j, Ent1 s'' (st (k + 1) j)) K e s' ∧ Gam c' R' s' a' w') a w)
    (hprm : ∀ k i x, xs[k]? = some x → ∃ tm, prm ps.toList x (st k i).tm = some tm) :
    YH (P, l) n1 fun rest stp Z D wy => ∃ R s, RJ c ao l n1 Dl rec xs st K R s rest stp Z D wy := by
  rintro x rest Z D wy W Z' vs ⟨R0, s0, J⟩ hE hDlt hZ1 hZ2 hZ3 hvs
  obtain ⟨k, i, rfl, hrest, hkl, hlwy⟩ := J.run rfl
  have hxk : xs[k]? = some x := by
    have := congrArg (fun l => l[0]?) hrest
    simpa using this.symm
  have hrest' : rest = xs.drop (k + 1) := by
    have := congrArg List.tail hrest
    simpa using this
  have hklt : k < xs.length := (List.getElem?_eq_some_iff.1 hxk).1
  obtain ⟨tmx, htmx⟩ := hprm k i x hxk
  have g0 := J.g
  have hsz := hE.size
  have n1W : n1 ≤ W.heap.size := Nat.le_trans J.n1 hsz
  have hlW : l < W.heap.size := by omega
  have hlZ : ∀ (Z0 : Nat → Prop) (wz : World), l < wz.heap.size → cbF c Z0 l wz l := fun Z0 wz h => ⟨.inr (.inr rfl), h⟩
  have hownD : ∀ r, owned R0 (st k i).hp r → D r := fun r h => (J.dd r).2 (.inl h)
  have hlDD : D l := (J.dd l).2 (.inr (.inl rfl))
  have hZD : ∀ r, D r → ¬ Z r := fun r hd hz => (J.zz r hz).2.2 hd
  have cwW : c.w.heap.size ≤ W.heap.size := by omega
  have hF01 : ∀ r, r < wy.heap.size → cbF c Z' l W r → cbF c Z l wy r := by
    rintro r hr ⟨h, _⟩
    exact ⟨h.imp id fun h => h.imp (fun h => (hZ1 r h).resolve_right (by omega)) id, hr⟩
  have hl0 : W.heap[l]? = some (.loop (rec .ready none)) := hE.keep l _ hlwy (hZD l hlDD) (.inr (.inr hlDD))
  -- the state at the round's beginning
  let NW : Nat → Prop := fun r => cbF c Z' l W r ∨ owned R0 (st k i).hp r
  let Kx : AV → Value → Prop := fun v y => lowRef v = true ∧ repA NW W (st k i).hp R0 v y
  have hKx : ∀ v y, Kx v y → lowRef v = true := fun v y h => h.1
  let c1 : Ctx := cr c Z' l W (owned R0 (st k i).hp) Kx hKx (fxOf c l (.loop (rec .ready none)) Dl) W.heap.size
  have hDlne : ∀ d ∈ Dl, d ≠ l := fun d hd e => hlD (e ▸ hd)
  have hfixD : ∀ r o, c.fix r = some o → r ≠ l := fun r o h e => by rw [e, hlf] at h; cases h
  have hncx : ∀ (o' : Obj), o'.isCells = false → ∀ r o, fxOf c l o' Dl r = some o → o.isCells = false := by
    intro o' ho' r o h
    simp only [fxOf] at h
    split at h
    · simp only [Option.some.injEq] at h; rw [← h]; exact ho'
    · split at h
      · simp only [Option.some.injEq] at h; rw [← h]; rfl
      · exact hnc r o h
  have G1 : Gam c1 R0 (st k i) { tmps := ao.tmps, defers := [] } W := by
    refine g0.rebase (c2 := c1) rfl rfl ?_ hF01 ?_ hsz ⟨hE.os, hE.tape, hE.output⟩ ?_ ?_ (Evo.refl _ _) (fun r h => .inl (.inl h)) ⟨rfl, by show c.n0.1 ≤ W.heap.size; omega, Nat.le_refl _⟩ ⟨[], Marks.nil⟩
    · rintro v y (h | h)
      · exact g0.kept v y h
      · exact repA_low h.1 h.2
    · intro r o ho hc hf
      have hrz : ¬ Z r := fun hz => hf ⟨.inr (.inl hz), size_of_getElem? ho⟩
      exact hE.keep r o ho hrz (hc.imp (fun h => by have : r < c.n0.1 := h; omega) fun h => h.imp id (hownD r))
    · intro r ho hf
      exact g0.free r ho (hF01 r (hDlt r (hownD r ho)) hf)
    · refine ⟨fun r o h => ?_, fun r o h ho => ?_, hncx _ rfl⟩
      · simp only [c1, cr, fxOf] at h
        split at h
        · rename_i e
          simp only [Option.some.injEq] at h
          rw [e, ← h]; exact hl0
        · split at h
          · rename_i hd
            simp only [Option.some.injEq] at h
            have hD := (J.dd r).2 (.inr (.inr (.inr (.inl hd))))
            rw [← h]
            exact hE.keep r _ (J.mks.obj r hd) (hZD r hD) (.inr (.inr hD))
          · have hD := (J.dd r).2 (.inr (.inr (.inl ⟨o, h⟩)))
            exact hE.keep r _ (g0.fixed.obj r o h) (hZD r hD) (.inr (.inr hD))
      · simp only [c1, cr, fxOf] at h
        split at h
        · rename_i e
          subst e
          exact g0.free r ho (hlZ Z wy (hDlt _ hlDD))
        · split at h
          · rename_i hd; exact J.mks.free r hd ho
          · exact g0.fixed.free r o h ho
  have hvs1 : repL (Nof c1 R0 (st k i).hp) W x vs := by
    refine repL_mono (N := fun r => D r ∨ Z' r) (fun r _ h => ?_) (fun _ _ _ => rfl) _ _ hvs
    rcases h with ⟨h, _⟩ | h
    · rcases h with h | h | h
      · exact .inl ((J.dd r).2 (.inr (.inr (.inr (.inr h)))))
      · exact .inr h
      · exact .inl (h ▸ hlDD)
    · exact .inl (hownD r h)
  obtain ⟨hlen, G1p⟩ := prm_sound (c := c1) ps.toList x (st k i).tm tmx _ vs hps htmx hvs1 G1
  have hrun := run_yield (P := P) (args := vs.toArray) hl0 (by rw [hrec]; simpa using hlen)
  rw [hrec] at hrun
  refine ⟨fn, _, asg, bdy, hrun, roundIn_of_wpIn trivial ?_⟩
  have hroc : ∀ (r0 : Loop), RoOk (cr c Z' l W (owned R0 (st k i).hp) Kx hKx (fxOf c l (.loop r0) Dl) W.heap.size) (some l) := by
    intro r0
    refine ⟨fun l0 e => ?_, fun r o h => ?_⟩
    · simp only [Option.some.injEq] at e
      subst e
      exact ⟨r0, by simp [cr, fxOf]⟩
    · simp only [cr, fxOf] at h
      split at h
      · simp only [Option.some.injEq] at h; rw [← h]; rfl
      · split at h
        · simp only [Option.some.injEq] at h; rw [← h]; rfl
        · exact hnc r o h
  have hfx1 : c1.fix l = some (.loop (rec .ready none)) := by simp [c1, cr, fxOf]
  have htm : ((ps.zip vs.toArray).foldl (fun tmps (x : Nat × Value) => tmps.setIfInBounds x.1 x.2) ao.tmps) = (ps.toList.zip vs).foldl (fun t (x : Nat × Value) => t.setIfInBounds x.1 x.2) ao.tmps := by
    rw [← Array.foldl_toList, Array.toList_zip]
  simp only [] at htm ⊢
  rw [htm]
  refine wpIn_mono (hasg c1 k i x tmx R0 _ W rfl (hroc _) hxk htmx G1p) ?_
  rintro e a1 w1 h1
  cases e with
  | normal =>
    obtain ⟨R1, s1, hA, G2⟩ := h1
    have hl1' : w1.heap[l]? = some (.loop (rec .ready none)) := G2.fixed.obj l _ hfx1
    refine ⟨_, run_beginRound hl1' (by rw [hrec]), ?_⟩
    generalize hbusy : Obj.loop { rec .ready none with state := .busy } = ob
    let c2 : Ctx := cr c Z' l W (owned R0 (st k i).hp) Kx hKx (fxOf c l ob Dl) W.heap.size
    have hl1s : l < w1.heap.size := size_of_getElem? hl1'
    have G3 : Gam c2 R1 s1 a1 (w1.putObj l ob) := by
      refine G2.rebase (c2 := c2) rfl rfl (fun v y h => G2.kept v y h) (fun r _ h => h) ?_ (by simp) ⟨rfl, rfl, rfl⟩ (fun r h => G2.free r h) ?_ ?_ (fun r h => G2.own0 r h)
        ⟨rfl, by show c.n0.1 ≤ W.heap.size; omega, by rw [World.putObj_size]; exact G2.lo.2.2⟩ ?_
      · intro r o ho _ hf
        have hrl : r ≠ l := fun e => hf (e ▸ hlZ Z' W hlW)
        rw [World.putObj_heap_other hrl]; exact ho
      · refine ⟨fun r o h => ?_, fun r o h => ?_, hncx ob (by rw [← hbusy]; rfl)⟩
        · simp only [c2, cr, fxOf] at h
          by_cases e : r = l
          · subst e
            simp only [if_true, Option.some.injEq] at h
            rw [World.putObj_heap_same hl1s, h]
          · rw [World.putObj_heap_other e]
            refine G2.fixed.obj r o ?_
            simp only [c1, cr, fxOf]
            simpa only [if_neg e] using h
        · by_cases e : r = l
          · subst e
            exact fun ho => G2.free r ho (hlZ Z' W hlW)
          · refine G2.fixed.free r o ?_
            simp only [c2, cr, fxOf] at h
            simp only [c1, cr, fxOf]
            simpa only [if_neg e] using h
      · refine G2.evo.trans (O' := fun r => r = l) ⟨by simp, fun r _ hn => World.putObj_heap_other hn, rfl, rfl, rfl⟩ fun r _ h => .inr h
      · obtain ⟨Ds, hm⟩ := G2.marks
        refine ⟨Ds, hm.low, hm.eq, hm.nodup, fun d hd => ?_, hm.free⟩
        have := hm.obj d hd
        rw [World.putObj_heap_other]
        · exact this
        · rintro rfl
          rw [hl1'] at this; cases this
    have hfx2 : c2.fix l = some ob := by simp [c2, cr, fxOf]
    refine wpIn_mono (hbdy c2 k i x s1 R1 a1 _ rfl (by have := hroc { rec .ready none with state := .busy }; rw [hbusy] at this; exact this) hxk hA G3) ?_
    rintro e a' w' ⟨R', s', hK, G4⟩
    have hl4 : w'.heap[l]? = some (.loop { rec .ready none with state := .busy }) := by rw [hbusy]; exact G4.fixed.obj l _ hfx2
    have hl4s : l < w'.heap.size := size_of_getElem? hl4
    have hWw' : W.heap.size ≤ w'.heap.size := G4.evo.size
    -- behind the round: the record says how it ended
    let c3 : Ctx := cr c Z' l W (owned R0 (st k i).hp) (fun _ _ => False) (fun _ _ h => h.elim) c.fix c.lo
    have G5 : ∀ o', Gam c3 R' ⟨(st k i).tm, s'.nx, s'.hp⟩ ao (w'.putObj l o') ∧ Marks c.lo (owned R' s'.hp) (w'.putObj l o') ao.defers Dl := by
      intro o'
      have hmk : Marks c.lo (owned R' s'.hp) (w'.putObj l o') ao.defers Dl := by
        refine ⟨J.mks.low, J.mks.eq, J.mks.nodup, fun d hd => ?_, fun d hd => ?_⟩
        · rw [World.putObj_heap_other (hDlne d hd)]
          exact G4.fixed.obj d _ (by simp [c2, cr, fxOf, hDlne d hd, hd])
        · exact G4.fixed.free d (.deferred (some [])) (by simp [c2, cr, fxOf, hDlne d hd, hd])
      obtain ⟨H, hmap⟩ := G4.hap.rebase (c2 := c3) (w' := w'.putObj l o') (fun r => G4.Nlt) (fun v y h => by
          rcases h with h | h
          · exact G4.kept v y (.inl h)
          · exact h.elim) (fun r _ h => h) (fun r o ho _ hf => by
          have hrl : r ≠ l := fun e => hf (e ▸ hlZ Z' W hlW)
          rw [World.putObj_heap_other hrl]; exact ho) (by simp) ⟨rfl, rfl, rfl⟩ (fun r h => G4.free r h)
        ⟨fun r o h => by
            have hrl := hfixD r o h
            rw [World.putObj_heap_other hrl]
            by_cases hd : r ∈ Dl
            · have h1 := J.mks.obj r hd
              have h2 := g0.fixed.obj r o h
              rw [h1] at h2
              simp only [Option.some.injEq] at h2
              rw [← h2]
              exact G4.fixed.obj r _ (by simp [c2, cr, fxOf, hrl, hd])
            · exact G4.fixed.obj r o (by have h' : c.fix r = some o := h; simp [c2, cr, fxOf, hrl, hd, h']),
          fun r o h => by
            have hrl := hfixD r o h
            by_cases hd : r ∈ Dl
            · exact G4.fixed.free r (.deferred (some [])) (by simp [c2, cr, fxOf, hrl, hd])
            · exact G4.fixed.free r o (by have h' : c.fix r = some o := h; simp [c2, cr, fxOf, hrl, hd, h']), hnc⟩
        (G4.evo.trans (O' := fun r => r = l) ⟨by simp, fun r _ hn => World.putObj_heap_other hn, rfl, rfl, rfl⟩ fun r _ h => .inr h) (fun r h => G4.own0 r h)
        ⟨rfl, hlo, by show c.lo ≤ _; rw [World.putObj_size]; omega⟩
      refine ⟨H.gam (fun t v hv => ?_) G1.size ⟨Dl, hmk⟩, hmk⟩
      obtain ⟨y, hy, hr⟩ := G1.slots t v hv
      refine ⟨y, hy, hmap v y ?_⟩
      refine low_keep (N := NW) (w := W) (hp := (st k i).hp) (R := R0) (fun r hr h => ?_) (fun r hr hn => ?_) (fun v y hl h => G4.kept v y (.inr ⟨hl, h⟩)) v y (lowTm_spec (hlow k i) hv) hr
      · rcases h with h | h
        · exact .inl h
        · rcases G4.own0 r h with (h | h) | h
          · exact .inr h
          · exact .inl (h ▸ hlZ Z' W hlW)
          · exact absurd hr (Nat.not_lt.2 h)
      · refine G4.evo.keep r hr fun ho => ?_
        rcases ho with ho | ho
        · exact hn (.inr ho)
        · exact hn (.inl (ho ▸ hlZ Z' W hlW))
    have hfinJ : ∀ (o' : Obj) (R5 : Real) (s5 : AS) (stp : Bool) (_ : Gam c3 R5 s5 ao (w'.putObj l o')) (_ : Marks c.lo (owned R5 s5.hp) (w'.putObj l o') ao.defers Dl)
        (_ : stp = false → ∃ k i, s5 = st k i ∧ rest = xs.drop k ∧ k ≤ xs.length ∧ (w'.putObj l o').heap[l]? = some (.loop (rec .ready none)))
        (_ : stp = true → ∃ e code, jumpOf e = some code ∧ K e s5 ∧ (w'.putObj l o').heap[l]? = some (.loop (rec .done (some code)))),
        ∃ (D' : Nat → Prop), Evo D W (w'.putObj l o') ∧ (∀ r, D' r → D r ∨ W.heap.size ≤ r) ∧ (∀ r, D' r → r < (w'.putObj l o').heap.size) ∧
          ∃ R s, RJ c ao l n1 Dl rec xs st K R s rest stp Z' D' (w'.putObj l o') := by
      intro o' R5 s5 stp G6 mk6 hrun6 hout6
      have hW4 : W.heap.size ≤ (w'.putObj l o').heap.size := by simpa using hWw'
      have hD1 : ∀ r, Dst c l Dl R5 s5.hp r → D r ∨ W.heap.size ≤ r := by
        rintro r (h | h | h | h | h)
        · rcases G6.own0 r h with (h | h) | h
          · exact .inl (hownD r h)
          · exact .inl (h ▸ hlDD)
          · exact .inr h
        · exact .inl (h ▸ hlDD)
        · exact .inl ((J.dd r).2 (.inr (.inr (.inl h))))
        · exact .inl ((J.dd r).2 (.inr (.inr (.inr (.inl h)))))
        · exact .inl ((J.dd r).2 (.inr (.inr (.inr (.inr h)))))
      have hDl2 : ∀ r, Dst c l Dl R5 s5.hp r → r < (w'.putObj l o').heap.size := by
        intro r h
        rcases h with ⟨b, h⟩ | h
        · exact G6.own_lt h
        · have : D r := by
            rcases h with h | h | h | h
            · exact h ▸ hlDD
            · exact (J.dd r).2 (.inr (.inr (.inl h)))
            · exact (J.dd r).2 (.inr (.inr (.inr (.inl h))))
            · exact (J.dd r).2 (.inr (.inr (.inr (.inr h))))
          have := hDlt r this
          omega
      have hF3 : ∀ r, cbF c Z' l (w'.putObj l o') r → cbF c Z' l W r := by
        rintro r ⟨h, _⟩
        refine ⟨h, ?_⟩
        rcases h with h | h | h
        · have := c.hF r h; omega
        · exact hZ2 r h
        · omega
      refine ⟨Dst c l Dl R5 s5.hp, G6.evo.mono fun r h => h.elim (hownD r) fun h => h ▸ hlDD, hD1, hDl2, R5, s5, ?_⟩
      refine ⟨fun r hz => ⟨?_, ?_, fun hd => ?_⟩, by omega, ?_, fun r => Iff.rfl, hDl2, ?_, mk6, hrun6, hout6⟩
      · rcases hZ1 r hz with h | h
        · exact (J.zz r h).1
        · have := J.n1; omega
      · have := hZ2 r hz; omega
      · rcases hd with h | h
        · exact G6.free r h ⟨.inr (.inl hz), hZ2 r hz⟩
        · have : D r := by
            rcases h with h | h | h | h
            · exact h ▸ hlDD
            · exact (J.dd r).2 (.inr (.inr (.inl h)))
            · exact (J.dd r).2 (.inr (.inr (.inr (.inl h))))
            · exact (J.dd r).2 (.inr (.inr (.inr (.inr h))))
          exact hZ3 r hz this
      · have e1 : Evo c.O c.w W := by
          refine ⟨Nat.le_trans J.evo.size hsz, fun r hr hn => ?_, hE.os.trans J.evo.os, hE.tape.trans J.evo.tape, hE.output.trans J.evo.output⟩
          have h1 := J.evo.keep r hr hn
          have hx : c.w.heap[r]? = some c.w.heap[r] := by simp [hr]
          rw [hx] at h1 ⊢
          exact hE.keep r _ h1 (fun hz => by have := (J.zz r hz).1; omega) (.inl (by omega))
        refine e1.trans G6.evo fun r hr ho => ?_
        rcases ho with ho | ho
        · rcases g0.own0 r ho with (h | h) | h
          · exact h
          · omega
          · have h : wy.heap.size ≤ r := h
            have := J.n1; omega
        · omega
      · refine G6.rebase (c2 := cb c Z' l (w'.putObj l o')) rfl rfl (fun v y h => G6.kept v y (.inl h)) (fun r _ h => hF3 r h) (fun r o ho _ _ => ho) (Nat.le_refl _) ⟨rfl, rfl, rfl⟩ (fun r h hf => G6.free r h (hF3 r hf)) G6.fixed (Evo.refl _ _) ?_
          ⟨rfl, hlo, by show c.lo ≤ _; omega⟩ ⟨Dl, mk6⟩
        intro r h
        rcases G6.own0 r h with (h | h) | h
        · rcases g0.own0 r h with h | h
          · exact .inl h
          · refine .inl (.inr ?_)
            have h : wy.heap.size ≤ r := h
            have := J.n1; omega
        · exact .inl (.inr (by omega))
        · exact .inl (.inr (by have h : W.heap.size ≤ r := h; omega))
    cases e with
    | normal =>
      obtain ⟨tm', nx', hp'⟩ := s'
      obtain ⟨j, hj⟩ := hK
      have hend := run_endRound (P := P) none hl4
      refine ⟨_, _, hend, ?_⟩
      simp only [Option.isNone_none, if_true]
      have ho : ({ { rec .ready none with state := .busy } with state := .ready, pending := none } : Loop) = rec .ready none := by rw [hrec]
      rw [ho]
      obtain ⟨G6, mk6⟩ := G5 (.loop (rec .ready none))
      obtain ⟨R7, G7⟩ := hj c3 R' ao _ G6
      obtain ⟨Ds, mk7⟩ := G7.marks
      have hDs : Ds = Dl := by
        have := mk7.eq.symm.trans mk6.eq
        exact List.map_inj_right (fun a b h => by simpa [mark] using h) |>.1 this
      rw [hDs] at mk7
      obtain ⟨D', e1, e2, e3, R8, s8, J8⟩ := hfinJ _ R7 _ false G7 mk7 (fun _ => ⟨k + 1, j, rfl, hrest', hklt, World.putObj_heap_same hl4s⟩) (fun h => by cases h)
      exact ⟨D', true, rfl, e1, e2, e3, R8, s8, J8⟩
    | ret =>
      obtain ⟨tm', nx', hp'⟩ := s'
      have hend := run_endRound (P := P) (some .ret) hl4
      refine ⟨_, _, hend, ?_⟩
      have ho : ({ { rec .ready none with state := .busy } with state := .done, pending := some .ret } : Loop) = rec .done (some .ret) := by rw [hrec, hrec]
      simp only [Option.isNone_some, Bool.false_eq_true, if_false]
      rw [ho]
      obtain ⟨G6, mk6⟩ := G5 (.loop (rec .done (some .ret)))
      obtain ⟨D', e1, e2, e3, R8, s8, J8⟩ := hfinJ _ R' _ true G6 mk6 (fun h => by cases h) (fun _ => ⟨.ret, .ret, rfl, hK, World.putObj_heap_same hl4s⟩)
      exact ⟨D', false, rfl, e1, e2, e3, R8, s8, J8⟩
    | exit id =>
      obtain ⟨tm', nx', hp'⟩ := s'
      have hend := run_endRound (P := P) (some (.exit id)) hl4
      refine ⟨_, _, hend, ?_⟩
      have ho : ({ { rec .ready none with state := .busy } with state := .done, pending := some (.exit id) } : Loop) = rec .done (some (.exit id)) := by rw [hrec, hrec]
      simp only [Option.isNone_some, Bool.false_eq_true, if_false]
      rw [ho]
      obtain ⟨G6, mk6⟩ := G5 (.loop (rec .done (some (.exit id))))
      obtain ⟨D', e1, e2, e3, R8, s8, J8⟩ := hfinJ _ R' _ true G6 mk6 (fun h => by cases h) (fun _ => ⟨.exit id, .exit id, rfl, hK, World.putObj_heap_same hl4s⟩)
      exact ⟨D', false, rfl, e1, e2, e3, R8, s8, J8⟩
    | goto t => exact hK.elim
    | panic ch => exact hK.elim
    | outgrown => exact hK.elim
  | exit id => exact h1.elim
  | goto t => exact h1.elim
  | ret => exact h1.elim
  | panic ch => exact h1.elim
  | outgrown => exact h1.elim
end Go.AX
end
section
namespace Go.AX
theorem rf_sound {P : Program} {c : Ctx} {R : Real} {s : AS} {a : Act} {w : World} {ro : Option Nat} (g : Gam c R s a w) (hro : RoOk c ro)
    {go : Operand} {ps : Array Tmp} {asg bdy : Code} {f : FuncId} {caps : List PV} {xs : List (List PV)}  (hs : SeqC P f caps xs)
    (hps : ∀ t ∈ ps.toList, t < c.n) {ι : Type} {st : Nat → ι → AS} (hgo : ∀ i, evo (st 0 i).tm go = some (.pv (.fn (.func f) [] caps))) (h0 : ∃ i, Ent1 s (st 0 i)) (hlow : ∀ k i, lowTm (st k i).tm = true) {K : Exit → AS → Prop} {A : Nat → ι → List PV → AS → Prop}
    (hasg : ∀ (l : Nat) (c' : Ctx) (k : Nat) (i : ι) (x : List PV) (tm : List (Nat × AV)) (R : Real) (a : Act) (w : World), c'.n = c.n → RoOk c' (some l) → xs[k]? = some x → prm ps.toList x (st k i).tm = some tm →
      Gam c' R ⟨tm, (st k i).nx, (st k i).hp⟩ a w → asg.wpIn (W1 (some l)) 0 P (Exit.then (fun a1 w1 => ∃ R1 s1, A k i x s1 ∧ Gam c' R1 s1 a1 w1) (fun _ _ _ => False)) a w)
    (hbdy : ∀ (l : Nat) (c' : Ctx) (k : Nat) (i : ι) (x : List PV) (s1 : AS) (R : Real) (a : Act) (w : World), c'.n = c.n → RoOk c' (some l) → xs[k]? = some x → A k i x s1 →
      Gam c' R s1 a w → bdy.wpIn (W1 (some l)) 0 P (fun e a' w' => ∃ R' s', rfK (st k i).tm (fun s'' => ∃ j, Ent1 s'' (st (k + 1) j)) K e s' ∧ Gam c' R' s' a' w') a w)
    (hprm : ∀ k i x, xs[k]? = some x → ∃ tm, prm ps.toList x (st k i).tm = some tm) (hend : ∀ i, K .normal (st xs.length i)) :
    (Code.rangeFunc go ps asg bdy).wpIn (W1 ro) 0 P (fun e a' w' => ∃ R' s', K e s' ∧ Gam c R' s' a' w') a w := by
  obtain ⟨i0, h0⟩ := h0
  obtain ⟨R0, g0⟩ := h0 c R a w g
  have hfv := evo_sound g0 (hgo i0)
  obtain ⟨Ds, mk0⟩ := g0.marks
  refine wpIn_rangeFunc fun fn _ => ?_
  -- the record is laid
  have hent : ∃ (l dfr : Nat) (Dm : List Nat) (W1' : World), (Instr.enterLoop fn a.tmps ps asg bdy ro).run P w = .ok (l, Dm.map mark) W1' ∧
      (∀ r, r < w.heap.size → W1'.heap[r]? = w.heap[r]?) ∧ w.heap.size ≤ W1'.heap.size ∧ (W1'.os = w.os ∧ W1'.tape = w.tape ∧ W1'.output = w.output) ∧ w.heap.size ≤ l ∧ l < W1'.heap.size ∧
      W1'.heap[l]? = some (.loop { state := .ready, pending := none, fn := fn, tmps := a.tmps, params := ps, assign := asg, body := bdy, defers := dfr }) ∧ Dm.Nodup ∧
      (∀ d ∈ Dm, w.heap.size ≤ d ∧ W1'.heap[d]? = some (.deferred (some [])) ∧ d ≠ l) := by
    cases hr : ro with
    | none =>
      refine ⟨w.heap.size + 1, w.heap.size, [w.heap.size], _, run_enterLoop_outer _ _ _ _ _, fun r hr => ?_, by simp; omega, ⟨rfl, rfl, rfl⟩, by omega, by simp, ?_, by simp, ?_⟩
      · rw [Go.RowKit.Below.heap_alloc _ _ _ (by simp; omega), Go.RowKit.Below.heap_alloc _ _ _ hr]
      · have := World.alloc_heap_new (w.alloc (.deferred (some []))) (.loop { state := .ready, pending := none, fn := fn, tmps := a.tmps, params := ps, assign := asg, body := bdy, defers := w.heap.size })
        rwa [World.size_alloc] at this
      · intro d hd
        simp only [List.mem_singleton] at hd
        subst hd
        exact ⟨Nat.le_refl _, (Go.RowKit.Below.heap_alloc _ _ _ (by simp)).trans (World.alloc_heap_new w _), by omega⟩
    | some l0 =>
      obtain ⟨r0, hr0⟩ := hro.lp l0 hr
      have hl0 := g.fixed.obj l0 _ hr0
      refine ⟨w.heap.size, r0.defers, [], _, run_enterLoop_inner hl0 _ _ _ _ _, fun r hr => Go.RowKit.Below.heap_alloc _ _ _ hr, by simp, ⟨rfl, rfl, rfl⟩, Nat.le_refl _, by simp, World.alloc_heap_new w _, by simp, by simp⟩
  obtain ⟨l, dfr, Dm, W, hrun, hold, hsz, hos, hlw, hlW, hlrec, hDm1, hDm2⟩ := hent
  let rec_ : LoopState → Option Code → Loop := fun s p => { state := s, pending := p, fn := fn, tmps := a.tmps, params := ps, assign := asg, body := bdy, defers := dfr }
  simp only [repA, rep] at hfv
  obtain ⟨fs, cs, hval, hfs, hcs⟩ := hfv
  simp only [repL] at hfs
  have hfs : fs = #[] := by simpa using hfs
  subst hfs
  let ao : Act := { a with defers := Dm.map mark ++ a.defers }
  have hcw : c.w.heap.size ≤ w.heap.size := g.evo.size
  have hfixlt : ∀ r o, c.fix r = some o → r < w.heap.size := fun r o h => size_of_getElem? (g.fixed.obj r o h)
  have hlf : c.fix l = none := by
    cases h : c.fix l with
    | none => rfl
    | some o => have := hfixlt l o h; omega
  have hDs : ∀ d ∈ Ds, d < w.heap.size := fun d hd => size_of_getElem? (mk0.obj d hd)
  have hlD : l ∉ Dm ++ Ds := by
    intro h
    rcases List.mem_append.1 h with h | h
    · exact (hDm2 l h).2.2 rfl
    · have := hDs l h; omega
  have own_lt0 : ∀ r, owned R0 (st 0 i0).hp r → r < w.heap.size := fun r ⟨b, h⟩ => g0.own_lt h
  have own_lt : ∀ r, owned R s.hp r → r < w.heap.size := fun r ⟨b, h⟩ => g.own_lt h
  have hE : Evo (fun _ => False) w W := ⟨hsz, fun r hr _ => hold r hr, hos.1, hos.2.1, hos.2.2⟩
  have mkW : Marks c.lo (owned R0 (st 0 i0).hp) W ao.defers (Dm ++ Ds) := by
    refine ⟨fun d hd => ?_, ?_, ?_, fun d hd => ?_, fun d hd => ?_⟩
    · rcases List.mem_append.1 hd with h | h
      · exact Nat.le_trans g.lo.2.2 (hDm2 d h).1
      · exact mk0.low d h
    · simp only [ao, List.map_append, mk0.eq]
    · rw [List.nodup_append]
      refine ⟨hDm1, mk0.nodup, fun x hx y hy e => ?_⟩
      have h1 := (hDm2 x hx).1
      have h2 := hDs y hy
      omega
    · rcases List.mem_append.1 hd with h | h
      · exact (hDm2 d h).2.1
      · rw [hold d (hDs d h)]; exact mk0.obj d h
    · rcases List.mem_append.1 hd with h | h
      · exact fun ho => by have := own_lt0 d ho; have := (hDm2 d h).1; omega
      · exact mk0.free d h
  have hF0 : ∀ r, r < w.heap.size → cbF c (fun _ => False) l W r → c.F r := by
    rintro r hr ⟨h, _⟩
    rcases h with h | h | h
    · exact h
    · exact h.elim
    · omega
  have GW : Gam (cb c (fun _ => False) l W) R0 (st 0 i0) ao W := by
    refine g0.rebase (c2 := cb c (fun _ => False) l W) rfl rfl (fun v y h => g0.kept v y h) hF0 (fun r o ho _ _ => by rw [hold r (size_of_getElem? ho)]; exact ho) hsz hos
      (fun r ho hf => g0.free r ho (hF0 r (own_lt0 r ho) hf)) (g0.fixed.kept (fun r hr _ => hold r hr) (fun _ _ h => h)) (Evo.refl _ _) (fun r ho => .inl ?_) ⟨rfl, g.lo.2.1, Nat.le_trans g.lo.2.2 hsz⟩ ⟨_, mkW⟩
    exact g0.own0 r ho
  let D0 : Nat → Prop := Dst c l (Dm ++ Ds) R0 (st 0 i0).hp
  have hD0 : ∀ r, D0 r → r < W.heap.size := by
    rintro r (h | h | ⟨o, h⟩ | h | h)
    · have := own_lt0 r h; omega
    · omega
    · have := hfixlt r o h; omega
    · rcases List.mem_append.1 h with h | h
      · exact size_of_getElem? (hDm2 r h).2.1
      · have := hDs r h; omega
    · have := c.hF r h; omega
  have hJ0 : ∃ R s, RJ c ao l W.heap.size (Dm ++ Ds) rec_ xs st K R s xs false (fun _ => False) D0 W :=
    ⟨R0, st 0 i0, fun r h => h.elim, Nat.le_refl _, g.evo.trans hE fun _ _ h => h.elim, fun r => Iff.rfl, hD0, GW, mkW, fun _ => ⟨0, i0, rfl, by simp, Nat.zero_le _, hlrec⟩, fun h => by cases h⟩
  have hY : YH (P, l) W.heap.size fun rest stp Z D wy => ∃ R s, RJ c ao l W.heap.size (Dm ++ Ds) rec_ xs st K R s rest stp Z D wy :=
    round_sound (fn := fn) (dfr := dfr) (fun _ _ => rfl) (by omega) (by omega) hlD hlf hlW (by have := g.lo.2.1; have := g.lo.2.2; omega) g.lo.2.1 (by have := g.lo.2.2; omega) hro.nc hps hlow
      (fun c' k i x tm R a w h1 h2 h3 h4 h5 => hasg l c' k i x tm R a w h1 h2 h3 h4 h5) (fun c' k i x s1 R a w h1 h2 h3 h4 h5 => hbdy l c' k i x s1 R a w h1 h2 h3 h4 h5) hprm
  have hcs' : repL D0 W caps cs.toList := by
    refine repL_mono2 (N := Nof c R0 (st 0 i0).hp) (w := w) (fun r cur e fr h hd => ?_) (fun r cur e fr h _ => by rw [hold r (size_of_getElem? h)]; exact h) _ _ hcs
    have hr := size_of_getElem? h
    rcases hd with hd | hd | ⟨o, hd⟩ | hd | hd
    · exact .inr hd
    · omega
    · have h1 := g.fixed.obj r o hd
      rw [h] at h1
      simp only [Option.some.injEq] at h1
      have := hro.nc r o hd
      rw [← h1] at this
      cases this
    · rcases List.mem_append.1 hd with hd | hd
      · have := (hDm2 r hd).1; omega
      · have h1 := mk0.obj r hd
        rw [h] at h1
        cases h1
    · exact .inl hd
  obtain ⟨henters, hcall⟩ := hs
  obtain ⟨fnf, hff, hfb, hfnm⟩ := henters
  have hbn : fnf.body.isNone = false := by cases hbb : fnf.body <;> simp [hbb] at hfb ⊢
  have hC := hcall l _ D0 W cs hY hD0 hJ0 hcs'
  refine ⟨l, Dm.map mark, W, { target := .fn (.func f) cs, args := #[.func (.yield l) #[] #[]] }, W, f, #[.func (.yield l) #[] #[]] ++ cs, W, hrun, ?_, fun _ _ => trivial, ?_, fun e => (by cases e), ?_⟩
  · simp only [resolve, hval]
    simp [Deferred.ofValue, Act.eval]
  · simp only [invoke, callFunc, run_program, Sem.run_bind, Result.andThen_ok, hff, hfnm, hbn]
    simp
  · refine callsIn_W1 (hC.mono ?_)
    rintro e w3 ⟨⟨v, rfl⟩, rest, stp, Z, D, wy, ⟨R5, s5, J⟩, hE5, hdone⟩
    have hlDD : D l := (J.dd l).2 (.inr (.inl rfl))
    have hZD : ∀ r, D r → ¬ Z r := fun r hd hz => (J.zz r hz).2.2 hd
    have hcwy : c.w.heap.size ≤ wy.heap.size := J.evo.size
    have hn1 : c.w.heap.size ≤ W.heap.size := by omega
    -- back to ours, whatever the record says at the end
    have fin : ∀ (o o' : Obj), wy.heap[l]? = some o → o.isCells = false → w3.heap[l]? = some o ∧ Gam c R5 s5 ao (w3.putObj l o') := by
      intro o o' ho hoc
      have hl3 := hE5.keep l o ho (hZD l hlDD) (.inr (.inr hlDD))
      refine ⟨hl3, ?_⟩
      have hsz5 : wy.heap.size ≤ (w3.putObj l o').heap.size := by rw [World.putObj_size]; exact hE5.size
      have hFc : ∀ r, r < wy.heap.size → c.F r → cbF c Z l wy r := fun r hr h => ⟨.inl h, hr⟩
      have hkeep : ∀ r o, wy.heap[r]? = some o → (r < W.heap.size ∨ o.isCells = true ∨ D r) → ¬ Z r → r ≠ l → (w3.putObj l o').heap[r]? = some o := by
        intro r o hr hc hz hne
        rw [World.putObj_heap_other hne]
        exact hE5.keep r o hr hz hc
      refine J.g.rebase (c2 := c) rfl rfl (fun v y h => J.g.kept v y h) hFc ?_ hsz5 ⟨hE5.os, hE5.tape, hE5.output⟩ (fun r h hf => J.g.free r h (hFc r (J.dlt r ((J.dd r).2 (.inl h))) hf)) ?_ ?_ ?_ ⟨rfl, g.lo.2.1, ?_⟩ ⟨Dm ++ Ds, ?_⟩
      · intro r o hr hc hf
        refine hkeep r o hr (hc.imp (fun h => ?_) fun h => h.imp id fun h => (J.dd r).2 (.inl h)) (fun hz => hf ⟨.inr (.inl hz), size_of_getElem? hr⟩) fun e => hf ⟨.inr (.inr e), size_of_getElem? hr⟩
        have h : r < c.n0.1 := h
        have := g.lo.2.1; have := g.lo.2.2; omega
      · refine ⟨fun r o h => ?_, fun r o h => J.g.fixed.free r o h, hro.nc⟩
        have hD := (J.dd r).2 (.inr (.inr (.inl ⟨o, h⟩)))
        exact hkeep r o (J.g.fixed.obj r o h) (.inr (.inr hD)) (hZD r hD) fun e => by rw [e, hlf] at h; cases h
      · refine ⟨Nat.le_trans J.evo.size hsz5, fun r hr hn => ?_, hE5.os.trans J.evo.os, hE5.tape.trans J.evo.tape, hE5.output.trans J.evo.output⟩
        have h1 := J.evo.keep r hr hn
        have hx : c.w.heap[r]? = some c.w.heap[r] := by simp [hr]
        rw [hx] at h1 ⊢
        exact hkeep r _ h1 (.inl (by omega)) (fun hz => by have := (J.zz r hz).1; omega) (by omega)
      · intro r h
        rcases J.g.own0 r h with h | h
        · exact h
        · exact .inr (Nat.le_trans hcwy h)
      · have := g.lo.2.2; have := J.n1; omega
      · refine ⟨J.mks.low, J.mks.eq, J.mks.nodup, fun d hd => ?_, J.mks.free⟩
        have hD := (J.dd d).2 (.inr (.inr (.inr (.inl hd))))
        exact hkeep d _ (J.mks.obj d hd) (.inr (.inr hD)) (hZD d hD) fun e => hlD (e ▸ hd)
    cases stp with
    | false =>
      obtain ⟨k, i, rfl, hrest, hkl, hlr⟩ := J.run rfl
      have hrn : rest = [] := hdone.resolve_left (by simp)
      have hk : k = xs.length := by
        have := congrArg List.length hrest
        rw [hrn] at this
        simp at this
        omega
      subst hk
      obtain ⟨hl3, G⟩ := fin _ (.loop { rec_ .ready none with state := .exhausted }) hlr rfl
      refine ⟨none, _, run_endLoop (P := P) hl3 (by simp [rec_]), ?_⟩
      exact ⟨R5, _, hend i, G⟩
    | true =>
      obtain ⟨e, code, hj, hK, hlr⟩ := J.out rfl
      obtain ⟨hl3, G⟩ := fin _ (.loop { rec_ .done (some code) with state := .exhausted }) hlr rfl
      refine ⟨some code, _, run_endLoop (P := P) hl3 (by simp [rec_]), ?_⟩
      cases e with
      | ret =>
        simp only [jumpOf, Option.some.injEq] at hj
        subst hj
        exact wpIn_ret ⟨R5, _, hK, G⟩
      | exit id =>
        simp only [jumpOf, Option.some.injEq] at hj
        subst hj
        exact wpIn_exit ⟨R5, _, hK, G⟩
      | normal => cases hj
      | goto t => cases hj
      | panic ch => cases hj
      | outgrown => cases hj
end Go.AX
end
