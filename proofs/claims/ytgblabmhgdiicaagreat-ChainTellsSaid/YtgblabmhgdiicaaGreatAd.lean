/-
  Conditions: none. A framework for walks: abstract values, memory, and conditions that suffice; the chapters in plain terms.
-/
import Derived.Test.YtgblabmhgdiicaaGreatAc
import Derived.Deep.LoopGhost
import Derived.Sort.Walk13a
import Derived.Sort.AssemblyPlain
import Derived.Sort.LotD4
import Derived.Sort.LotD5
import Derived.Deep.Slices
import Derived.Carry
import Derived.Shelf.SlSortCmp.WholeK
set_option linter.unusedSectionVars false
set_option linter.unusedVariables false
set_option linter.unusedSimpArgs false
section
namespace Go.AX
def noGuard : List Oper → Bool
  | [] => true
  | o :: r => match o.guard with
    | none => noGuard r
    | some _ => false
def plainC : Code → Bool
  | .region _ ops draw => match draw with
    | true => false
    | false => noGuard ops.toList
  | .skip => true
  | _ => false
def cutK (ι : Type) (st : ι → AS) (K : Exit → AS → Prop) (e : Exit) (s : AS) : Prop :=
  match e with
  | .normal => ∃ i, Ent1 s (st i)
  | e => K e s
def seqK (X : AS → Prop) (K : Exit → AS → Prop) (e : Exit) (s : AS) : Prop :=
  match e with
  | .normal => X s
  | e => K e s
def blkK (id : Nat) (K : Exit → AS → Prop) (e : Exit) (s : AS) : Prop :=
  match e with
  | .exit i => match Nat.beq i id with
    | true => K .normal s
    | false => K e s
  | e => K e s
def meet : List Nat → List Nat → Bool
  | [], _ => false
  | x :: r, l => match memN x l with
    | true => true
    | false => meet r l
def dl (d : Option Nat) : List Nat :=
  match d with
  | some d => [d]
  | none => []
def confl (x y : Ent) : Bool := meet (dl x.dst) y.look || (meet (dl y.dst) x.look || (meet (dl x.dst) (dl y.dst) || (meet x.wr y.rd || (meet y.wr x.rd || meet x.wr y.wr))))
def ancs (tbl : List Nat) : List Edge → Nat
  | [] => 0
  | e :: r => match Region.binds .any e with
    | true => ((2 ^ e.on ||| (match nth tbl e.on with
      | some m => m
      | none => 0)) ||| ancs tbl r)
    | false => ancs tbl r
def edgesOk (i : Nat) : List Edge → Bool
  | [] => true
  | e :: r => match Region.binds .any e with
    | true => Nat.blt e.on i && edgesOk i r
    | false => edgesOk i r
def clearOf (e : Ent) (m : Nat) : List Ent → Nat → Bool
  | [], _ => true
  | x :: r, k => (!(confl x e) || m.testBit k) && clearOf e m r (k + 1)
def fpGo (all : List Ent) : List Oper → List Ent → Nat → List Nat → Bool
  | [], _, _, _ => true
  | o :: r, es, i, tbl => match es with
    | [] => false
    | e :: es => match ancs tbl o.after.toList with
      | m => edgesOk i o.after.toList && (clearOf e m (all.take i) 0 && fpGo all r es (i + 1) (tbl ++ [m]))
def fpOK (ops : List Oper) (tr : List Ent) : Bool := fpGo tr ops tr 0 []
def prmF (ps : List Nat) (x : List PV) (tm : List (Nat × AV)) (K : List (Nat × AV) → Prop) : Prop :=
  match prm ps x tm with
  | some tm => K tm
  | none => False
def seqF (X : AS → Prop) (e : Exit) (s : AS) : Prop :=
  match e with
  | .normal => X s
  | _ => False
def VC (P : Program) (T : Tab) : Code → AS → (Exit → AS → Prop) → Prop
  | .skip, s, K => K .normal s
  | .seq a b, s, K => match plainC a with
    | true => VC P T a s (seqK (fun s => VC P T b s K) K)
    | false => VC P T a s (seqK (fun s => VC P T b s K) K) ∨ ∃ (ι : Type) (st : ι → AS), VC P T a s (cutK ι st K) ∧ ∀ i, VC P T b (st i) K
  | .cond c x y, s, K => match evo s.tm c with
    | some (.pv (.sc v)) => match v with
      | .bool b => (b = true → VC P T x s K) ∧ (b = false → VC P T y s K)
      | _ => False
    | some (.aptr b ver _ off) => match s with
      | ⟨tm, nx, hp⟩ => match lk hp b with
        | some (.tr y' v rest st) => match st with
          | none => match Nat.beq ver v with
            | true => match off with
              | 0 => VC P T x ⟨tm, nx, (b, .tr y' v rest (some false)) :: hp⟩ K ∧ VC P T y ⟨tm, nx, (b, .tr y' v rest (some true)) :: hp⟩ K
              | 1 => VC P T x ⟨tm, nx, (b, .tr y' v rest (some true)) :: hp⟩ K ∧ VC P T y ⟨tm, nx, (b, .tr y' v rest (some false)) :: hp⟩ K
              | _ => False
            | false => False
          | some _ => False
        | _ => False
    | _ => False
  | .rangeFunc go ps asg bdy, s, K => ∃ (f : FuncId) (caps : List PV) (xs : List (List PV)), SeqC P f caps xs ∧ ∃ (ι : Type) (ok : Nat → ι → Prop) (st : Nat → ι → AS), (∃ i, Ent1 s (st 0 i)) ∧
      (∀ i, evo (st 0 i).tm go = some (.pv (.fn (.func f) [] caps))) ∧ (∀ k i, lowTm (st k i).tm = true) ∧
      (∀ k x i, xs[k]? = some x → prmF ps.toList x (st k i).tm fun tm => (k ≠ 0 → ok k i) → VC P T asg ⟨tm, (st k i).nx, (st k i).hp⟩ (seqF fun s1 => VC P T bdy s1 (rfK (st k i).tm (fun s2 => ∃ j, ok (k + 1) j ∧ Ent1 s2 (st (k + 1) j)) K))) ∧
      ∀ i, (xs.length ≠ 0 → ok xs.length i) → K .normal (st xs.length i)
  | .block id c, s, K => VC P T c s (blkK id K)
  | .exit id, s, K => K (.exit id) s
  | .ret, s, K => K .ret s
  | .loop c, s, K => ∃ (ι : Type) (st : ι → AS) (μ : ι → Nat), (∃ i, Ent1 s (st i)) ∧ ∀ i, VC P T c (st i) (seqK (fun s' => ∃ j, μ j < μ i ∧ Ent1 s' (st j)) K)
  | .region id ops draw, s, K => match s with
    | ⟨tm, nx, hp⟩ => match Nat.ble ((id + 2) * 1000 + ops.toList.length) nx with
      | true => match draw with
        | false => vops P (mk3 T) ops.toList ((id + 2) * 1000) ops.toList 0 tm hp [] [] fun tm hp tr => K .normal ⟨tm, nx, hp⟩
        | true => vops P T ops.toList ((id + 2) * 1000) ops.toList 0 tm hp [] [] fun tm hp tr => fpOK ops.toList tr.reverse = true ∧ K .normal ⟨tm, nx, hp⟩
      | false => False
  | _, _, _ => False
def codeOk (n : Nat) : Code → Bool
  | .seq a b => codeOk n a && codeOk n b
  | .cond _ a b => codeOk n a && codeOk n b
  | .block _ a => codeOk n a
  | .loop a => codeOk n a
  | .region _ ops _ => dstOk n ops.toList
  | .rangeFunc _ ps a b => ps.toList.all (fun t => Nat.blt t n) && (codeOk n a && codeOk n b)
  | _ => true
section
variable {P : Program} {T : Tab}
theorem wpIn_loop_ghost {F : Fence} {n : Nat} {P : Program} {Q : Exit → Act → World → Prop} {a : Act} {w : World} {c : Code} (I : Nat → Act → World → Prop) (n₀ : Nat) (h₀ : I n₀ a w)
    (round : ∀ m a w, I m a w → c.wpIn F n P (Exit.then (fun a' w' => ∃ n', n' < m ∧ I n' a' w') Q) a w) : (Code.loop c).wpIn F n P Q a w := by
  refine wpIn_loop (fun a w => ∃ n, I n a w) (fun a w => leastOf (fun n => I n a w)) ⟨n₀, h₀⟩ ?_
  intro a w hI
  refine Go.wpIn_mono (round _ a w (leastOf_spec hI).1) ?_
  intro e a' w' hq
  cases e with
  | normal =>
    obtain ⟨n', hlt, hI'⟩ := hq
    exact show (∃ n, I n a' w') ∧ leastOf (fun n => I n a' w') < leastOf (fun n => I n a w) from ⟨⟨n', hI'⟩, Nat.lt_of_le_of_lt ((leastOf_spec ⟨n', hI'⟩).2 n' hI') hlt⟩
  | exit id => exact hq
  | goto l => exact hq
  | ret => exact hq
  | panic ch => exact hq
  | outgrown => exact hq
def badS (s : AS) : AS := ⟨s.tm, s.nx, [(0, .arr 0 0 1 [[]])]⟩
theorem no_bad {c : Ctx} {R : Real} {s : AS} {a : Act} {w : World} (g : Gam c R (badS s) a w) : False := by
  obtain ⟨xs, _, h⟩ := g.boxes 0 (.arr 0 0 1 [[]]) rfl
  simp only [repR] at h
  exact absurd h.1 (by decide)
open Classical in
noncomputable def stB {ι : Type} (ok : Nat → ι → Prop) (st : Nat → ι → AS) (k : Nat) (i : ι) : AS := if k ≠ 0 → ok k i then st k i else badS (st k i)
theorem stB_ok {ι : Type} {ok : Nat → ι → Prop} {st : Nat → ι → AS} {k : Nat} {i : ι} (h : k ≠ 0 → ok k i) : stB ok st k i = st k i := if_pos h
theorem stB_bad {ι : Type} {ok : Nat → ι → Prop} {st : Nat → ι → AS} {k : Nat} {i : ι} (h : ¬ (k ≠ 0 → ok k i)) : stB ok st k i = badS (st k i) := if_neg h
theorem stB_tm {ι : Type} {ok : Nat → ι → Prop} {st : Nat → ι → AS} {k : Nat} {i : ι} : (stB ok st k i).tm = (st k i).tm := by
  unfold stB; split <;> rfl
theorem VC_sound (hT : TabOk P T) (hdraw : ∀ (c : Ctx) (R : Real) (s : AS) (a : Act) (w : World) (id : Nat) (ops : Array Oper) (K : Exit → AS → Prop) (ro : Option Nat), Gam c R s a w → dstOk c.n ops.toList = true →
      VC P T (.region id ops true) s K → (Code.region id ops true).wpIn (W1 ro) 0 P (fun e a' w' => ∃ R' s', K e s' ∧ Gam c R' s' a' w') a w) :
    ∀ (code : Code) {c : Ctx} {R : Real} {s : AS} {a : Act} {w : World} {K : Exit → AS → Prop} {ro : Option Nat}, RoOk c ro → Gam c R s a w → codeOk c.n code = true → VC P T code s K →
      code.wpIn (W1 ro) 0 P (fun e a' w' => ∃ R' s', K e s' ∧ Gam c R' s' a' w') a w
  | .skip, c, R, s, a, w, K, ro, hro, g, hok, h => wpIn_skip ⟨R, s, h, g⟩
  | .seq x y, c, R, s, a, w, K, ro, hro, g, hok, h => by
    simp only [codeOk, Bool.and_eq_true] at hok
    have direct : VC P T x s (seqK (fun s => VC P T y s K) K) → (Code.seq x y).wpIn (W1 ro) 0 P (fun e a' w' => ∃ R' s', K e s' ∧ Gam c R' s' a' w') a w := by
      intro h
      refine wpIn_seq (Go.wpIn_mono (VC_sound hT hdraw x hro g hok.1 h) ?_)
      rintro e a' w' ⟨R', s', hK, g'⟩
      cases e with
      | normal => exact VC_sound hT hdraw y hro g' hok.2 hK
      | exit i => exact ⟨R', s', hK, g'⟩
      | goto l => exact ⟨R', s', hK, g'⟩
      | ret => exact ⟨R', s', hK, g'⟩
      | panic ch => exact ⟨R', s', hK, g'⟩
      | outgrown => exact ⟨R', s', hK, g'⟩
    simp only [VC] at h
    split at h
    · exact direct h
    · rcases h with h | ⟨ι, st, h, h2⟩
      · exact direct h
      · refine wpIn_seq (Go.wpIn_mono (VC_sound hT hdraw x hro g hok.1 h) ?_)
        rintro e a' w' ⟨R', s', hK, g'⟩
        cases e with
        | normal =>
          obtain ⟨i, hi⟩ := hK
          obtain ⟨R2, g2⟩ := hi c R' a' w' g'
          exact VC_sound hT hdraw y hro g2 hok.2 (h2 i)
        | exit i => exact ⟨R', s', hK, g'⟩
        | goto l => exact ⟨R', s', hK, g'⟩
        | ret => exact ⟨R', s', hK, g'⟩
        | panic ch => exact ⟨R', s', hK, g'⟩
        | outgrown => exact ⟨R', s', hK, g'⟩
  | .cond cc x y, c, R, s, a, w, K, ro, hro, g, hok, h => by
    simp only [codeOk, Bool.and_eq_true] at hok
    simp only [VC] at h
    split at h
    · rename_i v hv
      have hr := evo_sound g hv
      simp only [repA, rep] at hr
      split at h
      · rename_i b
        refine wpIn_cond hr ?_
        cases b with
        | true => exact VC_sound hT hdraw x hro g hok.1 (h.1 rfl)
        | false => exact VC_sound hT hdraw y hro g hok.2 (h.2 rfl)
      · exact h.elim
    · rename_i b ver i off hv
      have hr := evo_sound g hv
      obtain ⟨tm, nx, hp⟩ := s
      simp only at h
      split at h
      · rename_i y' v rest st hb
        split at h
        · split at h
          · rename_i hver
            have hver := Nat.eq_of_beq_eq_true hver
            simp only [repA, hb, refAp] at hr
            have hval := hr.2.2 hver (by trivial)
            have e01 : Nat.beq 0 1 = false := rfl
            have e11 : Nat.beq 1 1 = true := rfl
            have hres : ∀ (q : Bool), R.nil b = (!q) → Gam c R ⟨tm, nx, (b, .tr y' v rest (some q)) :: hp⟩ a w := by
              intro q hq
              have hbx := g.boxes b _ hb
              refine g.upd (s := ⟨tm, nx, hp⟩) (R' := R) (w' := w) (b := b) (box' := .tr y' v rest (some q)) (nx' := nx) (fun _ _ => ⟨rfl, rfl, rfl⟩) (fun off v h => ?_) (fun ver v h => ?_) (fun ver i off v h => ?_) (fun r h => .inl ?_) (Evo.refl _ _) ?_
              · simp only [hb, refPtr] at h
              · simp only [hb, refSl] at h
              · simp only [hb, refAp] at h ⊢
                exact ⟨h.1, h.2.1, fun _ e => by cases e⟩
              · simp only [hb]; exact h
              · obtain ⟨k0, kh, k1, k2, k3, k4⟩ := hbx
                refine ⟨k0, kh, ?_, k2, k3, fun r hn => k4 r ?_⟩
                · simp only [Option.getD_none, hq, Bool.not_not] at k1
                  exact k1
                · rcases hn with hn | ⟨b2, ho⟩
                  · exact .inl hn
                  · refine .inr ⟨b2, ?_⟩
                    by_cases e : b2 = b
                    · subst e
                      rw [lk_cons, if_pos rfl] at ho
                      simp only [hb]; exact ho
                    · rw [lk_cons, if_neg (fun e' => e e'.symm)] at ho
                      exact ho
            split at h
            · refine wpIn_cond hval ?_
              cases hn : R.nil b with
              | true => simpa [hn, e01, e11] using VC_sound hT hdraw x hro (hres false (by simp [hn])) hok.1 h.1
              | false => simpa [hn, e01, e11] using VC_sound hT hdraw y hro (hres true (by simp [hn])) hok.2 h.2
            · refine wpIn_cond hval ?_
              cases hn : R.nil b with
              | true => simpa [hn, e01, e11] using VC_sound hT hdraw y hro (hres false (by simp [hn])) hok.2 h.2
              | false => simpa [hn, e01, e11] using VC_sound hT hdraw x hro (hres true (by simp [hn])) hok.1 h.1
            · exact h.elim
          · exact h.elim
        · exact h.elim
      · exact h.elim
    · exact h.elim
  | .block id x, c, R, s, a, w, K, ro, hro, g, hok, h => by
    simp only [codeOk] at hok
    simp only [VC] at h
    refine wpIn_block (Go.wpIn_mono (VC_sound hT hdraw x hro g hok h) ?_)
    rintro e a' w' ⟨R', s', hK, g'⟩
    cases e with
    | exit i =>
      simp only [Exit.inBlock]
      simp only [blkK] at hK
      split at hK
      · rename_i hb
        rw [if_pos (Nat.eq_of_beq_eq_true hb)]
        exact ⟨R', s', hK, g'⟩
      · rename_i hb
        rw [if_neg (Nat.ne_of_beq_eq_false hb)]
        exact ⟨R', s', hK, g'⟩
    | normal => exact ⟨R', s', hK, g'⟩
    | goto l => exact ⟨R', s', hK, g'⟩
    | ret => exact ⟨R', s', hK, g'⟩
    | panic ch => exact ⟨R', s', hK, g'⟩
    | outgrown => exact ⟨R', s', hK, g'⟩
  | .exit id, c, R, s, a, w, K, ro, hro, g, hok, h => wpIn_exit ⟨R, s, h, g⟩
  | .ret, c, R, s, a, w, K, ro, hro, g, hok, h => wpIn_ret ⟨R, s, h, g⟩
  | .loop x, c, R, s, a, w, K, ro, hro, g, hok, h => by
    simp only [codeOk] at hok
    simp only [VC] at h
    obtain ⟨ι, st, μ, ⟨i0, h0⟩, hr⟩ := h
    obtain ⟨R0, g0⟩ := h0 c R a w g
    refine wpIn_loop_ghost (fun n a w => ∃ i R, μ i = n ∧ Gam c R (st i) a w) (μ i0) ⟨i0, R0, rfl, g0⟩ ?_
    rintro n a' w' ⟨i, R1, rfl, g1⟩
    refine Go.wpIn_mono (VC_sound hT hdraw x hro g1 hok (hr i)) ?_
    rintro e a2 w2 ⟨R2, s2, hK, g2⟩
    cases e with
    | normal =>
      obtain ⟨j, hj, he⟩ := hK
      obtain ⟨R3, g3⟩ := he c R2 a2 w2 g2
      exact ⟨μ j, hj, j, R3, rfl, g3⟩
    | exit i => exact ⟨R2, s2, hK, g2⟩
    | goto l => exact ⟨R2, s2, hK, g2⟩
    | ret => exact ⟨R2, s2, hK, g2⟩
    | panic ch => exact ⟨R2, s2, hK, g2⟩
    | outgrown => exact ⟨R2, s2, hK, g2⟩
  | .region id ops draw, c, R, s, a, w, K, ro, hro, g, hok, h => by
    simp only [codeOk] at hok
    cases draw with
    | true => exact hdraw c R s a w id ops K ro g hok h
    | false =>
      simp only [VC] at h
      obtain ⟨tm, nx, hp⟩ := s
      simp only at h
      split at h
      · rename_i hb
        refine wpIn_region_list (vops_sound ro hT.mk3 ops.toList 0 (s := ⟨tm, nx, hp⟩) g (by simp only [Nat.add_zero]; exact Nat.le_of_ble_eq_true hb) hok h ?_)
        intro R' tm' hp' tr' a' w' hK g'
        exact ⟨R', _, hK, g'⟩
      · exact h.elim
  | .rangeFunc go ps asg bdy, c, R, s, a, w, K, ro, hro, g, hok, h => by
    simp only [codeOk, Bool.and_eq_true] at hok
    obtain ⟨hps, hok1, hok2⟩ := hok
    simp only [VC] at h
    obtain ⟨f, caps, xs, hs, ι, ok, st, h0, hgo, hlow, hround, hend⟩ := h
    refine Go.wpIn_mono (rf_sound (ps := ps) (asg := asg) (bdy := bdy) (st := stB ok st) (K := fun e s => K e s ∨ ∃ s0, s = badS s0)
      (A := fun k i x s1 => (k ≠ 0 → ok k i) ∧ VC P T bdy s1 (rfK (st k i).tm (fun s2 => ∃ j, ok (k + 1) j ∧ Ent1 s2 (st (k + 1) j)) K)) g hro hs (fun t ht => ?_) (fun i => by rw [stB_tm]; exact hgo i) (by rw [show stB ok st 0 = st 0 from funext fun i => stB_ok fun h => absurd rfl h]; exact h0)
      (fun k i => by rw [stB_tm]; exact hlow k i) (fun l c' k i x tm R a w hn hro' hx htm g' => ?_) (fun l c' k i x s1 R a w hn hro' hx hA g' => ?_) (fun k i x hx => ?_) (fun i => ?_)) ?_
    · have := List.all_eq_true.1 hps t ht
      rwa [Nat.blt_eq] at this
    · by_cases hv : k ≠ 0 → ok k i
      · rw [stB_tm] at htm
        rw [stB_ok hv] at g'
        have h1 := hround k x i hx
        simp only [prmF, htm] at h1
        refine Go.wpIn_mono (VC_sound hT hdraw asg hro' g' (by rw [hn]; exact hok1) (h1 hv)) ?_
        rintro e a' w' ⟨R', s', hK, g2⟩
        cases e with
        | normal => exact ⟨R', s', ⟨hv, hK⟩, g2⟩
        | exit i => exact hK.elim
        | goto l => exact hK.elim
        | ret => exact hK.elim
        | panic ch => exact hK.elim
        | outgrown => exact hK.elim
      · rw [stB_bad hv] at g'
        exact (no_bad (s := ⟨tm, _, []⟩) g').elim
    · refine Go.wpIn_mono (VC_sound hT hdraw bdy hro' g' (by rw [hn]; exact hok2) hA.2) ?_
      rintro e a' w' ⟨R', s', hK, g2⟩
      refine ⟨R', s', ?_, g2⟩
      rw [stB_tm]
      revert hK
      unfold rfK
      split
      · rintro ⟨j, hj, he⟩
        exact ⟨j, by rw [stB_ok fun _ => hj]; exact he⟩
      · exact .inl
      · exact .inl
      · exact id
    · rw [stB_tm]
      have h1 := hround k x i hx
      unfold prmF at h1
      split at h1
      · rename_i tm htm; exact ⟨tm, htm⟩
      · exact h1.elim
    · by_cases hv : xs.length ≠ 0 → ok xs.length i
      · rw [stB_ok hv]; exact .inl (hend i hv)
      · rw [stB_bad hv]; exact .inr ⟨_, rfl⟩
    · rintro e a' w' ⟨R', s', hK, g2⟩
      rcases hK with hK | ⟨s0, rfl⟩
      · exact ⟨R', s', hK, g2⟩
      · exact (no_bad g2).elim
  | .scope _, c, R, s, a, w, K, ro, hro, g, hok, h => by simp [VC] at h
  | .label _, c, R, s, a, w, K, ro, hro, g, hok, h => by simp [VC] at h
  | .goto _, c, R, s, a, w, K, ro, hro, g, hok, h => by simp [VC] at h
  | .refuse _, c, R, s, a, w, K, ro, hro, g, hok, h => by simp [VC] at h
def lits : List Nat := [0, 1, 2, 3, 4, 5, 6, 7, 8, 9, 10, 11, 12, 13, 14, 15]
def numb : List Nat → List PV → Option (List (Nat × AV))
  | _, [] => some []
  | [], _ :: _ => none
  | k :: ks, p :: r => match numb ks r with
    | some t => some ((k, .pv p) :: t)
    | none => none
def begF (args : List PV) (K : AS → Prop) : Prop :=
  match numb lits args with
  | some tm => K ⟨tm, 1000000000, []⟩
  | none => False
def resK (T : Tab) (s : AS) : List ResultVar → (List AV → Prop) → Prop
  | [], K => K []
  | rv :: r, K => match rv with
    | .tmp t => match lk s.tm t with
      | some v => resK T s r fun vs => K (v :: vs)
      | none => False
    | .cell x t => match lk s.tm x with
      | some v => match isPtr v with
        | true => cLoad T s.hp t v fun u => resK T s r fun vs => K (u :: vs)
        | false => False
      | none => False
def finK (hp : List (Nat × Box)) (vs : List AV) (Q : PV → Prop) : Prop :=
  match vs with
  | [v] => match vw hp v with
    | some p => Q p
    | none => False
  | _ => match vws hp vs with
    | some ps => Q (.tup ps)
    | none => False
def fnK (T : Tab) (rs : List ResultVar) (Q : PV → Prop) (e : Exit) (s : AS) : Prop :=
  match e with
  | .normal => resK T s rs fun vs => finK s.hp vs Q
  | .ret => resK T s rs fun vs => finK s.hp vs Q
  | _ => False
def resF (P : Program) (tmps : Array Value) : ResultVar → Sem Value
  | .tmp t => pure (tmps.getD t undef)
  | .cell a t => do loadVar t (← asAddr (tmps.getD a undef))
theorem resK_sound {c : Ctx} {R : Real} {s : AS} {a : Act} {w : World} (g : Gam c R s a w) (hT : TabOk P T) : ∀ (rs : List ResultVar) {K : List AV → Prop}, resK T s rs K →
    ∃ vs us, (rs.mapM (resF P a.tmps)).run P w = .ok us w ∧ K vs ∧ FL (repA (Nof c R s.hp) w s.hp R) vs us
  | [], K, h => ⟨[], [], by simp, h, rfl⟩
  | rv :: r, K, h => by
    simp only [resK] at h
    split at h
    · rename_i t
      split at h
      · rename_i v hv
        obtain ⟨vs, us, h1, h2, h3⟩ := resK_sound g hT r h
        obtain ⟨x, hx, hr⟩ := g.slots t v hv
        refine ⟨v :: vs, x :: us, ?_, h2, ⟨x, us, rfl, hr, h3⟩⟩
        simp [List.mapM_cons, resF, h1, hx]
      · exact h.elim
    · rename_i x t
      split at h
      · rename_i v hv
        split at h
        · rename_i hp'
          obtain ⟨xv, hx, hr⟩ := g.slots x v hv
          obtain ⟨y, z, h1, h2, h3⟩ := cLoad_sound g hT (fun b box hb => hb) h hr
          obtain ⟨vs, us, h4, h5, h6⟩ := resK_sound g hT r h2
          obtain ⟨ad, rfl⟩ := repA_ptr hp' hr
          refine ⟨z :: vs, y :: us, ?_, h5, ⟨y, us, rfl, h3, h6⟩⟩
          have h7 : (loadVar t ad).run P w = .ok y w := by simpa [Instr.loadAt, Instr.sureAddr] using h1
          simp [List.mapM_cons, resF, hx, asAddr, h7, h4]
        · exact h.elim
      · exact h.elim
theorem finK_sound {c : Ctx} {R : Real} {s : AS} {a : Act} {w : World} (g : Gam c R s a w) {vs : List AV} {us : List Value} {Q : PV → Prop} (h : finK s.hp vs Q)
    (hv : FL (repA (Nof c R s.hp) w s.hp R) vs us) : ∃ r v, (if hu : us.toArray.size = 1 then us.toArray[0] else .tuple us.toArray) = v ∧ Q r ∧ rep c.F w r v := by
  have hN : ∀ r, c.F r → Nof c R s.hp r := fun r h => .inl h
  have h2 : ∀ b, ∀ r, ownBox R b r (lk s.hp b) → ¬ c.F r := fun b r ho => g.free r ⟨b, ho⟩
  have hl := hv.length
  unfold finK at h
  split at h
  · rename_i v
    obtain ⟨u, r, rfl, hu, hr⟩ := hv
    simp only [FL] at hr
    subst hr
    split at h
    · rename_i p hp
      refine ⟨p, u, by simp, h, vw_sound g (fun b box hb => hb) hN v p u (fun b _ => h2 b) hp hu⟩
    · exact h.elim
  · rename_i hne
    split at h
    · rename_i ps hps
      have hsz : us.toArray.size ≠ 1 := by
        intro e
        simp only [List.size_toArray] at e
        rw [e] at hl
        match vs with
        | [v] => exact hne v rfl
        | [] => simp at hl
        | _ :: _ :: _ => simp at hl
      refine ⟨.tup ps, .tuple us.toArray, by rw [dif_neg hsz], h, ?_⟩
      simp only [rep]
      refine ⟨us.toArray, rfl, ?_⟩
      exact vwsL_sound g (fun b box hb => hb) hN vs ps _ (fun b _ => h2 b) hps (by rw [repAL_iff]; exact hv)
    · exact h.elim
theorem numb_lk : ∀ (ks : List Nat) (k : Nat) (args : List PV) (tm : List (Nat × AV)) (t : Nat) (v : AV), (∀ i x, ks[i]? = some x → x = k + i) → numb ks args = some tm → lk tm t = some v →
    k ≤ t ∧ ∃ p, args[t - k]? = some p ∧ v = .pv p
  | ks, k, [], tm, t, v, _, hn, h => by cases ks <;> simp only [numb, Option.some.injEq] at hn <;> subst hn <;> simp [lk] at h
  | [], k, p :: r, tm, t, v, _, hn, h => by simp [numb] at hn
  | k' :: ks, k, p :: r, tm, t, v, hk, hn, h => by
    simp only [numb] at hn
    split at hn
    · rename_i tm' htm
      simp only [Option.some.injEq] at hn
      subst hn
      have hk0 : k' = k := by simpa using hk 0 k' rfl
      subst hk0
      rw [lk_cons] at h
      split at h
      · rename_i e
        simp only [Option.some.injEq] at h
        subst e; subst h
        exact ⟨Nat.le_refl _, p, by simp, rfl⟩
      · rename_i e
        obtain ⟨h1, q, h2, h3⟩ := numb_lk ks (k' + 1) r tm' t v (fun i x hx => by have := hk (i + 1) x (by simpa using hx); omega) htm h
        refine ⟨by omega, q, ?_, h3⟩
        rw [show t - k' = (t - (k' + 1)) + 1 from by omega, List.getElem?_cons_succ]
        exact h2
    · cases hn
theorem lits_ok : ∀ i x, lits[i]? = some x → x = 0 + i := by
  intro i x h
  rcases i with _ | _ | _ | _ | _ | _ | _ | _ | _ | _ | _ | _ | _ | _ | _ | _ | i <;> simp [lits] at h <;> omega
def codeOf (fn : Func) : Code :=
  match fn.body with
  | some c => c
  | none => .skip
structure FnOk (P : Program) (f : FuncId) (fn : Func) : Prop where
  func : P.funcs[f]? = some fn
  body : fn.body.isSome = true
  name : (fn.name == "runtime.NumGoroutine") = false
  ok : codeOk fn.ntmps (codeOf fn) = true
theorem marks_gone {c : Ctx} {R : Real} {s : AS} (hwl : c.w.heap.size ≤ c.lo) (hfx : ∀ r o, c.fix r = some o → r < c.lo) {fn : Func} {Rr : Ending → World → Prop} : ∀ (Ds : List Nat) (a : Act) (w : World), Gam c R s a w → Marks c.lo (owned R s.hp) w a.defers Ds →
    ∃ w', w.heap.size ≤ w'.heap.size ∧ Gam c R s { a with defers := [] } w' ∧ (LeavesIn Fence.wide 0 P fn a.tmps Rr [] .returning w' → LeavesInM Fence.wide 0 P fn a.tmps Rr a.defers .returning w)
  | [], a, w, g, mk => by
    have e : a.defers = [] := by simpa using mk.eq
    have ea : ({ a with defers := [] } : Act) = a := by cases a; simp only at e; subst e; rfl
    refine ⟨w, Nat.le_refl _, by rw [ea]; exact g, fun h => by rw [e]; exact h⟩
  | D :: Ds, a, w, g, mk => by
    have e : a.defers = mark D :: Ds.map mark := by simpa using mk.eq
    have hD := mk.obj D (by simp)
    have hDlo := mk.low D (by simp)
    have hDf := mk.free D (by simp)
    have hnd := List.nodup_cons.1 mk.nodup
    let a1 : Act := { a with defers := Ds.map mark }
    have mk1 : Marks c.lo (owned R s.hp) (w.putObj D (.deferred none)) a1.defers Ds := by
      refine ⟨fun d hd => mk.low d (by simp [hd]), rfl, hnd.2, fun d hd => ?_, fun d hd => mk.free d (by simp [hd])⟩
      rw [World.putObj_heap_other (fun (e : d = D) => hnd.1 (by rw [← e]; exact hd))]
      exact mk.obj d (by simp [hd])
    have g1 : Gam c R s a1 (w.putObj D (.deferred none)) := by
      refine g.rebase (c2 := c) rfl rfl (fun v y h => g.kept v y h) (fun r _ h => h) (fun r o ho hc _ => ?_) (by simp) ⟨rfl, rfl, rfl⟩ g.free ?_ ?_ g.own0 ⟨rfl, g.lo.2.1, by rw [World.putObj_size]; exact g.lo.2.2⟩ ⟨Ds, mk1⟩
      · rw [World.putObj_heap_other]
        · exact ho
        · rintro rfl
          rcases hc with h | h | h
          · have := g.lo.2.1; omega
          · rw [hD] at ho
            simp only [Option.some.injEq] at ho
            rw [← ho] at h; cases h
          · exact hDf h
      · refine ⟨fun r o h => ?_, g.fixed.free, g.fixed.nc⟩
        have := hfx r o h
        rw [World.putObj_heap_other (by omega)]
        exact g.fixed.obj r o h
      · exact g.evo.trans (O' := fun r => r = D) ⟨by simp, fun r _ hn => World.putObj_heap_other hn, rfl, rfl, rfl⟩ fun r hr h => by omega
    obtain ⟨w2, hsz, g2, hl⟩ := marks_gone hwl hfx Ds a1 _ g1 mk1
    refine ⟨w2, Nat.le_trans (by simp) hsz, g2, fun h => ?_⟩
    rw [e]
    refine ⟨by simp, .inl ⟨D, _, rfl, run_takeDeferred hD, hl h⟩⟩
theorem PC_of_VC (hT : TabOk P T) (hdraw : ∀ (c : Ctx) (R : Real) (s : AS) (a : Act) (w : World) (id : Nat) (ops : Array Oper) (K : Exit → AS → Prop) (ro : Option Nat), Gam c R s a w → dstOk c.n ops.toList = true →
      VC P T (.region id ops true) s K → (Code.region id ops true).wpIn (W1 ro) 0 P (fun e a' w' => ∃ R' s', K e s' ∧ Gam c R' s' a' w') a w)
    {f : FuncId} {fn : Func} (hf : FnOk P f fn) {args : List PV} (hl : Nat.ble args.length fn.ntmps = true) {Q : PV → Prop}
    (h : begF args fun s => VC P T (codeOf fn) s (fnK T fn.results.toList Q)) : PC P f args Q := by
  unfold begF at h
  split at h
  case h_2 => exact h.elim
  rename_i tm0 htm0
  refine ⟨⟨fn, hf.func, hf.body, hf.name⟩, fun F w cargs hF hargs => ?_⟩
  have hbody : fn.body = some (codeOf fn) := by
    have := hf.body
    unfold codeOf
    cases hb : fn.body with
    | none => rw [hb] at this; cases this
    | some c => rfl
  have hl := Nat.le_of_ble_eq_true hl
  rw [repL_iff] at hargs
  have hcl : cargs.size = args.length := by have := hargs.length; simpa using this
  let c : Ctx := { F := F, O := fun _ => False, w := w, n := fn.ntmps, hF := hF, K := fun _ _ => False, hK := fun _ _ h => h.elim, fix := fun _ => none, n0 := (0, fun _ _ _ _ _ => False), lo := w.heap.size }
  let R : Real := ⟨fun _ => 0, fun _ => true, fun _ => 0, ⟨fun _ => False, fun _ => False, w, (0, fun _ _ _ _ _ => False)⟩⟩
  have hno : ∀ r, ¬ owned R [] r := by rintro r ⟨b, hb⟩; exact hb
  have hNF : ∀ r, Nof c R [] r → F r := fun r h => h.resolve_right (hno r)
  refine callsIn_wide.1 (callsIn_of_wp_marks (n := 0) hf.func hbody trivial ?_)
  have g : Gam c R ⟨tm0, 1000000000, []⟩ { tmps := cargs ++ Array.replicate (fn.ntmps - cargs.size) undef, defers := [] } w := by
    refine ⟨?_, ?_, ⟨rfl, Nat.zero_le _, Nat.le_refl _⟩, ⟨[], Marks.nil⟩, Fixed.none, ?_, ?_, ?_, Evo.refl _ _, ?_, fun _ _ h => h.elim⟩
    · intro t v hv
      obtain ⟨_, p, hp, rfl⟩ := numb_lk lits 0 args tm0 t v lits_ok htm0 hv
      obtain ⟨x, hx, hr⟩ := hargs.get hp
      have hx' : cargs[t]? = some x := by simpa using hx
      refine ⟨x, ?_, ?_⟩
      · have := size_of_getElem? hx'
        simp only
        rw [Array.getElem?_append_left this]
        exact hx'
      · simp only [repA]
        exact rep_mono (fun r _ h => hNF r h) (fun _ _ _ => rfl) _ _ hr
    · show (cargs ++ Array.replicate (fn.ntmps - cargs.size) undef).size = fn.ntmps
      simp
      omega
    · intro b box hb; simp [lk] at hb
    · intro b b' r hb; exact hb.elim
    · rintro r ⟨b, hb⟩; exact hb.elim
    · rintro r ⟨b, hb⟩; exact hb.elim
  refine Go.wpIn_mono (VC_sound (ro := none) hT hdraw (codeOf fn) ⟨fun _ h => (by cases h), fun _ _ h => (by cases h)⟩ g hf.ok h) ?_
  rintro e a' w0' ⟨R', s', hK, g0'⟩
  obtain ⟨Ds, mkD⟩ := g0'.marks
  obtain ⟨w', hszw, g', hleave⟩ := marks_gone (P := P) (fn := fn) (Rr := fun e w' => ∃ v r, e = .returned v ∧ Q r ∧ rep F w' r v ∧ Same w w') (Nat.le_refl _) (fun _ _ h => (by cases h)) Ds a' w0' g0' mkD
  have fin : (resK T s' fn.results.toList fun vs => finK s'.hp vs Q) → LeavesInM Fence.wide 0 P fn a'.tmps (fun e w' => ∃ v r, e = .returned v ∧ Q r ∧ rep F w' r v ∧ Same w w') a'.defers .returning w0' := by
    intro hK
    refine hleave ?_
    obtain ⟨vs, us, h1, h2, h3⟩ := resK_sound g' hT _ hK
    obtain ⟨r, v, h4, h5, h6⟩ := finK_sound g' h2 h3
    refine ⟨v, ?_, v, r, rfl, h5, h6, g'.evo⟩
    have hres : results fn a'.tmps = (fn.results.mapM (resF P a'.tmps) >>= fun vs => pure (if h : vs.size = 1 then vs[0] else .tuple vs)) := by
      unfold results
      congr 2
    have hm : (fn.results.mapM (resF P a'.tmps)).run P w' = .ok us.toArray w' := by
      rw [Array.mapM_eq_mapM_toList, Sem.run_map, h1]
      rfl
    rw [hres]
    simp only [Sem.run_bind, hm, Result.andThen_ok, Sem.run_pure]
    exact congrArg (fun x => Result.ok x w') h4
  cases e with
  | normal => exact fin hK
  | ret => exact fin hK
  | exit i => exact hK.elim
  | goto l => exact hK.elim
  | panic ch => exact hK.elim
  | outgrown => exact hK.elim
def numbA : List Nat → List AV → Option (List (Nat × AV))
  | _, [] => some []
  | [], _ :: _ => none
  | k :: ks, p :: r => match numbA ks r with
    | some t => some ((k, p) :: t)
    | none => none
def begG (args : List AV) (hp : List (Nat × Box)) (K : AS → Prop) : Prop :=
  match numbA lits args with
  | some tm => K ⟨tm, 1000000000, hp⟩
  | none => False
def mkTup (vs : List AV) : AV :=
  match allPV vs with
  | some ps => .pv (.tup ps)
  | none => .tup vs
def finG (hp : List (Nat × Box)) (vs : List AV) (Q : AV → List (Nat × Box) → Prop) : Prop :=
  match vs with
  | [v] => entR hp v Q
  | _ => match mkTup vs with
    | v => entR hp v Q
def fnG (T : Tab) (rs : List ResultVar) (Q : AV → List (Nat × Box) → Prop) (e : Exit) (s : AS) : Prop :=
  match e with
  | .normal => resK T s rs fun vs => finG s.hp vs Q
  | .ret => resK T s rs fun vs => finG s.hp vs Q
  | _ => False
theorem numbA_lk : ∀ (ks : List Nat) (k : Nat) (args : List AV) (tm : List (Nat × AV)) (t : Nat) (v : AV), (∀ i x, ks[i]? = some x → x = k + i) → numbA ks args = some tm → lk tm t = some v →
    k ≤ t ∧ args[t - k]? = some v
  | ks, k, [], tm, t, v, _, hn, h => by cases ks <;> simp only [numbA, Option.some.injEq] at hn <;> subst hn <;> simp [lk] at h
  | [], k, p :: r, tm, t, v, _, hn, h => by simp [numbA] at hn
  | k' :: ks, k, p :: r, tm, t, v, hk, hn, h => by
    simp only [numbA] at hn
    split at hn
    · rename_i tm' htm
      simp only [Option.some.injEq] at hn
      subst hn
      have hk0 : k' = k := by simpa using hk 0 k' rfl
      subst hk0
      rw [lk_cons] at h
      split at h
      · rename_i e
        simp only [Option.some.injEq] at h
        subst e; subst h
        exact ⟨Nat.le_refl _, by simp⟩
      · rename_i e
        obtain ⟨h1, h2⟩ := numbA_lk ks (k' + 1) r tm' t v (fun i x hx => by have := hk (i + 1) x (by simpa using hx); omega) htm h
        refine ⟨by omega, ?_⟩
        rw [show t - k' = (t - (k' + 1)) + 1 from by omega, List.getElem?_cons_succ]
        exact h2
    · cases hn
theorem finG_sound {c : Ctx} {R : Real} {hp : List (Nat × Box)} {w : World} (g : Hap c R hp w) {vs : List AV} {us : List Value} {Q : AV → List (Nat × Box) → Prop} (h : finG hp vs Q)
    (hv : FL (repA (Nof c R hp) w hp R) vs us) : ∃ r hp' R', Q r hp' ∧ Hap c R' hp' w ∧ repA (Nof c R' hp') w hp' R' r (if hu : us.toArray.size = 1 then us.toArray[0] else .tuple us.toArray) := by
  have hl := hv.length
  unfold finG at h
  split at h
  · rename_i v
    obtain ⟨u, r, rfl, hu, hr⟩ := hv
    simp only [FL] at hr
    subst hr
    exact entR_sound h g (by simpa using hu)
  · rename_i hne
    have hsz : us.toArray.size ≠ 1 := by
      intro e
      simp only [List.size_toArray] at e
      rw [e] at hl
      match vs with
      | [v] => exact hne v rfl
      | [] => simp at hl
      | _ :: _ :: _ => simp at hl
    rw [dif_neg hsz]
    refine entR_sound h g ?_
    have hv' := (repAL_iff _ _ _ _ _ _).2 hv
    unfold mkTup
    split
    · rename_i ps hps
      have := allPV_map hps
      subst this
      simp only [repA, rep]
      exact ⟨us.toArray, rfl, repL_of_map _ _ hv'⟩
    · simp only [repA]
      exact ⟨us.toArray, rfl, hv'⟩
theorem GC_of_VC (hT : TabOk P T) (hdraw : ∀ (c : Ctx) (R : Real) (s : AS) (a : Act) (w : World) (id : Nat) (ops : Array Oper) (K : Exit → AS → Prop) (ro : Option Nat), Gam c R s a w → dstOk c.n ops.toList = true →
      VC P T (.region id ops true) s K → (Code.region id ops true).wpIn (W1 ro) 0 P (fun e a' w' => ∃ R' s', K e s' ∧ Gam c R' s' a' w') a w)
    {f : FuncId} {fn : Func} (hf : FnOk P f fn) {args : List AV} {hp : List (Nat × Box)} (hl : Nat.ble args.length fn.ntmps = true) {Q : AV → List (Nat × Box) → Prop}
    (h : begG args hp fun s => VC P T (codeOf fn) s (fnG T fn.results.toList Q)) : GC P f args hp Q := by
  unfold begG at h
  split at h
  case h_2 => exact h.elim
  rename_i tm0 htm0
  refine ⟨⟨fn, hf.func, hf.body, hf.name⟩, fun c R w cargs hh hargs => ?_⟩
  have hbody : fn.body = some (codeOf fn) := by
    have := hf.body
    unfold codeOf
    cases hb : fn.body with
    | none => rw [hb] at this; cases this
    | some c => rfl
  have hl := Nat.le_of_ble_eq_true hl
  rw [repAL_iff] at hargs
  have hcl : cargs.size = args.length := by have := hargs.length; simpa using this
  let c' : Ctx := { c with n := fn.ntmps, lo := w.heap.size }
  have hh' : Hap c' R hp w := ⟨hh.boxes, hh.inj, hh.free, hh.evo, hh.own0, hh.kept, hh.fixed, ⟨hh.lo.1, Nat.le_trans hh.lo.2.1 hh.lo.2.2, Nat.le_refl _⟩⟩
  refine callsIn_wide.1 (callsIn_of_wp_marks (n := 0) hf.func hbody trivial ?_)
  have g : Gam c' R ⟨tm0, 1000000000, hp⟩ { tmps := cargs ++ Array.replicate (fn.ntmps - cargs.size) undef, defers := [] } w := by
    refine hh'.gam ?_ ?_ ⟨[], Marks.nil⟩
    · intro t v hv
      obtain ⟨_, hp⟩ := numbA_lk lits 0 args tm0 t v lits_ok htm0 hv
      obtain ⟨x, hx, hr⟩ := hargs.get hp
      have hx' : cargs[t]? = some x := by simpa using hx
      refine ⟨x, ?_, hr⟩
      have := size_of_getElem? hx'
      simp only
      rw [Array.getElem?_append_left this]
      exact hx'
    · show (cargs ++ Array.replicate (fn.ntmps - cargs.size) undef).size = fn.ntmps
      simp
      omega
  refine Go.wpIn_mono (VC_sound (c := c') (ro := none) hT hdraw (codeOf fn) ⟨fun _ h => (by cases h), hh.fixed.nc⟩ g hf.ok h) ?_
  rintro e a' w0' ⟨R', s', hK, g0'⟩
  obtain ⟨Ds, mkD⟩ := g0'.marks
  obtain ⟨w', hszw, g', hleave⟩ := marks_gone (c := c') (P := P) (fn := fn) (Rr := fun e w' => ∃ v r hp' R', e = .returned v ∧ Q r hp' ∧ Hap c R' hp' w' ∧ repA (Nof c R' hp') w' hp' R' r v) hh.evo.size (fun r o h => size_of_getElem? (hh.fixed.obj r o h)) Ds a' w0' g0' mkD
  have fin : (resK T s' fn.results.toList fun vs => finG s'.hp vs Q) → LeavesInM Fence.wide 0 P fn a'.tmps (fun e w' => ∃ v r hp' R', e = .returned v ∧ Q r hp' ∧ Hap c R' hp' w' ∧ repA (Nof c R' hp') w' hp' R' r v) a'.defers .returning w0' := by
    intro hK
    refine hleave ?_
    obtain ⟨vs, us, h1, h2, h3⟩ := resK_sound g' hT _ hK
    obtain ⟨r, hp', R2, h4, h5, h6⟩ := finG_sound g'.hap h2 h3
    refine ⟨_, ?_, _, r, hp', R2, rfl, h4, ⟨h5.boxes, h5.inj, h5.free, h5.evo, h5.own0, h5.kept, h5.fixed, ⟨h5.lo.1, hh.lo.2.1, ?_⟩⟩, h6⟩
    rotate_left
    · have h1 : w.heap.size ≤ w'.heap.size := h5.lo.2.2
      exact Nat.le_trans hh.lo.2.2 h1
    have hres : results fn a'.tmps = (fn.results.mapM (resF P a'.tmps) >>= fun vs => pure (if h : vs.size = 1 then vs[0] else .tuple vs)) := by
      unfold results
      congr 2
    have hm : (fn.results.mapM (resF P a'.tmps)).run P w' = .ok us.toArray w' := by
      rw [Array.mapM_eq_mapM_toList, Sem.run_map, h1]
      rfl
    rw [hres]
    simp only [Sem.run_bind, hm, Result.andThen_ok, Sem.run_pure]
  cases e with
  | normal => exact fin hK
  | ret => exact fin hK
  | exit i => exact hK.elim
  | goto l => exact hK.elim
  | panic ch => exact hK.elim
  | outgrown => exact hK.elim
def yEnd (o : Option Box) : Prop :=
  match o with
  | some (.tr _ _ rest st) => match st with
    | some true => True
    | some false => rest = []
    | none => rest = []
  | _ => False
def fnY (e : Exit) (s : AS) : Prop :=
  match e with
  | .normal => yEnd (lk s.hp 999)
  | .ret => yEnd (lk s.hp 999)
  | _ => False
def begY (P : Program) (l : Nat) (caps : List PV) (xs : List (List PV)) (K : AS → Prop) : Prop :=
  match numb lits (.fn (.yield l) [] [] :: caps) with
  | some tm => K ⟨tm, 1000000000, [(999, .tr (P, l) 0 xs (some false))]⟩
  | none => False
theorem SeqC_of_VC (hT : TabOk P T) (hdraw : ∀ (c : Ctx) (R : Real) (s : AS) (a : Act) (w : World) (id : Nat) (ops : Array Oper) (K : Exit → AS → Prop) (ro : Option Nat), Gam c R s a w → dstOk c.n ops.toList = true →
      VC P T (.region id ops true) s K → (Code.region id ops true).wpIn (W1 ro) 0 P (fun e a' w' => ∃ R' s', K e s' ∧ Gam c R' s' a' w') a w)
    {f : FuncId} {fn : Func} (hf : FnOk P f fn) {caps : List PV} {xs : List (List PV)} (hl : Nat.ble (caps.length + 1) fn.ntmps = true) (hres0 : fn.results.toList = [])
    (h : ∀ l, begY P l caps xs fun s => VC P T (codeOf fn) s fnY) : SeqC P f caps xs := by
  refine ⟨⟨fn, hf.func, hf.body, hf.name⟩, fun l J D w cargs hY hD hJ hcaps => ?_⟩
  have h := h l
  unfold begY at h
  split at h
  case h_2 => exact h.elim
  rename_i tm0 htm0
  have hbody : fn.body = some (codeOf fn) := by
    have := hf.body
    unfold codeOf
    cases hb : fn.body with
    | none => rw [hb] at this; cases this
    | some c => rfl
  have hl := Nat.le_of_ble_eq_true hl
  have hargs : repL D w (.fn (.yield l) [] [] :: caps) (#[Value.func (.yield l) #[] #[]] ++ cargs).toList := by
    simp only [repL, rep, Array.toList_append, List.cons_append, List.nil_append]
    exact ⟨_, _, rfl, ⟨#[], #[], rfl, rfl, rfl⟩, hcaps⟩
  generalize hca : #[Value.func (.yield l) #[] #[]] ++ cargs = ca at hargs
  rw [repL_iff] at hargs
  have hcl : ca.size = caps.length + 1 := by have := hargs.length; simpa using this
  let c : Ctx := { F := fun _ => False, O := D, w := w, n := fn.ntmps, hF := fun _ h => h.elim, K := fun _ _ => False, hK := fun _ _ h => h.elim, fix := fun _ => none, n0 := (w.heap.size, J), lo := w.heap.size }
  let R : Real := ⟨fun _ => 0, fun _ => true, fun _ => 0, ⟨fun _ => False, D, w, (w.heap.size, J)⟩⟩
  let hp0 : List (Nat × Box) := [(999, .tr (P, l) 0 xs (some false))]
  have hown : ∀ b r, ownBox R b r (lk hp0 b) → b = 999 ∧ D r := by
    intro b r h
    simp only [hp0, lk_cons] at h
    split at h
    · rename_i e; exact ⟨e.symm, h⟩
    · exact h.elim
  have hNF : ∀ r, Nof c R hp0 r → D r := fun r h => h.elim (fun h => h.elim) fun ⟨b, h⟩ => (hown b r h).2
  refine callsIn_wide.1 (callsIn_of_wp_marks (n := 0) hf.func hbody trivial ?_)
  have g : Gam c R ⟨tm0, 1000000000, hp0⟩ { tmps := ca ++ Array.replicate (fn.ntmps - ca.size) undef, defers := [] } w := by
    refine ⟨?_, ?_, ⟨rfl, Nat.le_refl _, Nat.le_refl _⟩, ⟨[], Marks.nil⟩, Fixed.none, ?_, ?_, fun _ _ h => h, Evo.refl _ _, ?_, fun _ _ h => h.elim⟩
    · intro t v hv
      obtain ⟨_, p, hp, rfl⟩ := numb_lk lits 0 _ tm0 t v lits_ok htm0 hv
      obtain ⟨x, hx, hr⟩ := hargs.get hp
      have hx' : ca[t]? = some x := by simpa using hx
      refine ⟨x, ?_, ?_⟩
      · have := size_of_getElem? hx'
        simp only
        rw [Array.getElem?_append_left this]
        exact hx'
      · simp only [repA]
        exact rep_mono (fun r _ h => hNF r h) (fun _ _ _ => rfl) _ _ hr
    · show (ca ++ Array.replicate (fn.ntmps - ca.size) undef).size = fn.ntmps
      simp
      omega
    · intro b box hb
      simp only [hp0, lk_cons] at hb
      split at hb
      · rename_i e
        subst e
        simp only [Option.some.injEq] at hb
        subst hb
        exact ⟨rfl, hY, hJ, EvoC.refl _ _ _ _, hD, fun r h => .inl (hNF r h)⟩
      · simp [lk] at hb
    · intro b b' r h h'
      rw [(hown b r h).1, (hown b' r h').1]
    · rintro r ⟨b, h⟩
      exact .inl (hown b r h).2
  refine Go.wpIn_mono (VC_sound (ro := none) hT hdraw (codeOf fn) ⟨fun _ h => (by cases h), fun _ _ h => (by cases h)⟩ g hf.ok h) ?_
  rintro e a' w0' ⟨R', s', hK, g0'⟩
  obtain ⟨Ds, mkD⟩ := g0'.marks
  obtain ⟨w', hszw, g', hleave⟩ := marks_gone (P := P) (fn := fn) (Rr := fun e w' => (∃ v, e = .returned v) ∧ ∃ rest st Z D' wy, J rest st Z D' wy ∧ EvoC w.heap.size Z D' wy w' ∧ (st = true ∨ rest = [])) (Nat.le_refl _) (fun _ _ h => (by cases h)) Ds a' w0' g0' mkD
  have fin : yEnd (lk s'.hp 999) → LeavesInM Fence.wide 0 P fn a'.tmps (fun e w' => (∃ v, e = .returned v) ∧ ∃ rest st Z D' wy, J rest st Z D' wy ∧ EvoC w.heap.size Z D' wy w' ∧ (st = true ∨ rest = [])) a'.defers .returning w0' := by
    intro hK
    refine hleave ?_
    have hres : (results fn a'.tmps).run P w' = .ok (.tuple #[]) w' := by
      have h1 : results fn a'.tmps = (fn.results.mapM (resF P a'.tmps) >>= fun vs => pure (if h : vs.size = 1 then vs[0] else .tuple vs)) := by
        unfold results
        congr 2
      have h2 : (fn.results.mapM (resF P a'.tmps)).run P w' = .ok #[] w' := by
        rw [Array.mapM_eq_mapM_toList, Sem.run_map, hres0]
        simp
      rw [h1]
      simp only [Sem.run_bind, h2, Result.andThen_ok, Sem.run_pure]
      simp
    refine ⟨_, hres, ⟨_, rfl⟩, ?_⟩
    unfold yEnd at hK
    split at hK
    · rename_i y ver rest st hb
      obtain ⟨_, _, k1, k2, _, _⟩ := g'.boxes 999 _ hb
      have hn := g'.lo.1
      rw [hn] at k1 k2
      refine ⟨rest, _, _, _, _, k1, k2, ?_⟩
      split at hK
      · exact .inl rfl
      · exact .inr hK
      · exact .inr hK
    · exact hK.elim
  cases e with
  | normal => exact fin hK
  | ret => exact fin hK
  | exit i => exact hK.elim
  | goto l => exact hK.elim
  | panic ch => exact hK.elim
  | outgrown => exact hK.elim
end
end Go.AX
end
section
namespace Go.AX
mutual
def flatK (P : Program) : Nat → TypeId → Option (List EK)
  | 0, _ => none
  | d + 1, t => match P.underlying t with
    | some .bool => some [.bool]
    | some (.int k) => some [.int k]
    | some .string => some [.str]
    | some (.struct fs) => match P.stoodInHeld t with
      | true => none
      | false => flatKs P d fs.toList 0
    | _ => none
def flatKs (P : Program) : Nat → List Field → Nat → Option (List EK)
  | _, [], _ => some []
  | 0, _ :: _, _ => none
  | d + 1, f :: fs, off => match f.name == "_", Nat.beq f.offset off with
    | false, true => match flatK P d f.type with
      | some a => match Nat.beq (P.cellsOf f.type) a.length, Nat.beq a.length 0 with
        | true, false => match flatKs P d fs (off + a.length) with
          | some b => some (a ++ b)
          | none => none
        | _, _ => none
      | none => none
    | _, _ => none
end
theorem eqVs_cons {k : EK} {ks : List EK} {x y : Value} {xs ys : List Value} {b : Bool} : eqVs (k :: ks) (x :: xs) (y :: ys) = some b ↔ ∃ a c, eqV k x y = some a ∧ eqVs ks xs ys = some c ∧ b = (a && c) := by
  simp only [eqVs]
  cases h : eqV k x y with
  | none => simp
  | some a =>
    simp only [Option.some.injEq]
    cases ks with
    | nil =>
      cases xs <;> cases ys <;> simp [eqVs]
      constructor
      · rintro rfl; rfl
      · rintro rfl; rfl
    | cons k2 ks =>
      simp only
      cases h2 : eqVs (k2 :: ks) xs ys with
      | none => simp
      | some c =>
        simp only [Option.some.injEq]
        constructor
        · rintro rfl; exact ⟨a, c, rfl, rfl, rfl⟩
        · rintro ⟨_, _, rfl, rfl, rfl⟩; rfl
theorem eqVs_len : ∀ {ks : List EK} {xs ys : List Value} {b : Bool}, eqVs ks xs ys = some b → xs.length = ks.length ∧ ys.length = ks.length
  | [], [], [], b, _ => ⟨rfl, rfl⟩
  | [], [], _ :: _, b, h => by simp [eqVs] at h
  | [], _ :: _, _, b, h => by simp [eqVs] at h
  | k :: ks, [], _, b, h => by simp [eqVs] at h
  | k :: ks, _ :: _, [], b, h => by simp [eqVs] at h
  | k :: ks, x :: xs, y :: ys, b, h => by
    obtain ⟨a, c, _, h2, _⟩ := eqVs_cons.1 h
    have := eqVs_len h2
    simp [this]
theorem eqVs_nil {xs ys : List Value} {b : Bool} (h : eqVs [] xs ys = some b) : b = true := by
  cases xs <;> cases ys <;> simp [eqVs] at h
  exact h
theorem eqVs_append : ∀ {k1 k2 : List EK} {xs ys : List Value} {b : Bool}, eqVs (k1 ++ k2) xs ys = some b →
    ∃ a c, eqVs k1 (xs.take k1.length) (ys.take k1.length) = some a ∧ eqVs k2 (xs.drop k1.length) (ys.drop k1.length) = some c ∧ b = (a && c)
  | [], k2, xs, ys, b, h => ⟨true, b, by simp [eqVs], by simpa using h, by simp⟩
  | k :: k1, k2, [], ys, b, h => by simp [eqVs] at h
  | k :: k1, k2, x :: xs, [], b, h => by simp [eqVs] at h
  | k :: k1, k2, x :: xs, y :: ys, b, h => by
    rw [List.cons_append] at h
    obtain ⟨a, c, h1, h2, rfl⟩ := eqVs_cons.1 h
    obtain ⟨a', c', h3, h4, rfl⟩ := eqVs_append h2
    refine ⟨a && a', c', ?_, by simpa using h4, by simp [Bool.and_assoc]⟩
    simp only [List.length_cons, List.take_succ_cons]
    exact eqVs_cons.2 ⟨a, a', h1, h3, rfl⟩
section
variable {P : Program}
def EqAll (P : Program) (d : Nat) : Prop := ∀ (t : TypeId) (ks : List EK) (n : Nat) (w : World), flatK P d t = some ks → d ≤ n →
  (∀ (x y : Value) (b : Bool), (match P.underlying t with | some (.struct _) => False | _ => True) → eqVs ks [x] [y] = some b → (Op.equalIn n t x y).run P w = .ok b w) ∧
  (∀ (xs ys : Array Value) (b : Bool), (match P.underlying t with | some (.struct _) => True | _ => False) → eqVs ks xs.toList ys.toList = some b → (Op.equalIn n t (.agg xs) (.agg ys)).run P w = .ok b w)
theorem eqAll : ∀ (d : Nat), EqAll P d := by
  intro d
  induction d using Nat.strongRecOn with
  | _ d ih =>
    intro t ks n w h hn
    cases d with
    | zero => simp [flatK] at h
    | succ d =>
      obtain ⟨m, rfl⟩ : ∃ m, n = m + 1 := ⟨n - 1, by omega⟩
      simp only [flatK] at h
      split at h
      · rename_i hu
        simp only [Option.some.injEq] at h
        subst h
        refine ⟨fun x y b _ hb => ?_, fun xs ys b hs => by rw [hu] at hs; exact hs.elim⟩
        obtain ⟨a, c, h1, h2, rfl⟩ := eqVs_cons.1 hb
        simp only [eqVs, Option.some.injEq] at h2
        subst h2
        cases x <;> cases y <;> simp [eqV] at h1
        subst h1
        simpa using run_equalIn_bool w m t _ _ hu
      · rename_i k hu
        simp only [Option.some.injEq] at h
        subst h
        refine ⟨fun x y b _ hb => ?_, fun xs ys b hs => by rw [hu] at hs; exact hs.elim⟩
        obtain ⟨a, c, h1, h2, rfl⟩ := eqVs_cons.1 hb
        simp only [eqVs, Option.some.injEq] at h2
        subst h2
        cases x <;> cases y <;> simp only [eqV] at h1 <;> try (cases h1; done)
        split at h1
        · rename_i e1 e2
          have e1 := of_decide_eq_true e1
          have e2 := of_decide_eq_true e2
          subst e1; subst e2
          simp only [Option.some.injEq] at h1
          subst h1
          simpa using run_equalIn_int w m t _ _ _ _ hu
        · cases h1
      · rename_i hu
        simp only [Option.some.injEq] at h
        subst h
        refine ⟨fun x y b _ hb => ?_, fun xs ys b hs => by rw [hu] at hs; exact hs.elim⟩
        obtain ⟨a, c, h1, h2, rfl⟩ := eqVs_cons.1 hb
        simp only [eqVs, Option.some.injEq] at h2
        subst h2
        cases x <;> cases y <;> simp only [eqV] at h1 <;> try (cases h1; done)
        simp only [Option.some.injEq] at h1
        subst h1
        simpa using run_equalIn_string w m t _ _ hu
      · rename_i fs hu
        split at h
        · cases h
        · rename_i hst
          refine ⟨fun x y b hs => by rw [hu] at hs; exact hs.elim, fun xs ys b _ hb => ?_⟩
          have hff : P.fieldsOf t = fs := by simp [Program.fieldsOf, hu]
          rw [run_equalIn_struct w m t xs ys (by rw [hff]; exact hu) hst, hff]
          have key : ∀ (d' : Nat) (fl : List Field) (off : Nat) (ks : List EK) (b : Bool), d' ≤ d → flatKs P d' fl off = some ks → eqVs ks (xs.toList.drop off) (ys.toList.drop off) = some b →
              (Op.eqFields m xs ys fl).run P w = .ok b w := by
            intro d'
            induction d' with
            | zero =>
              intro fl off ks b _ h hb
              cases fl with
              | nil =>
                simp only [flatKs, Option.some.injEq] at h
                subst h
                have := eqVs_nil hb
                subst this
                simp [Op.eqFields]
              | cons f fl => simp [flatKs] at h
            | succ d' ih2 =>
              intro fl off ks b hd' h hb
              cases fl with
              | nil =>
                simp only [flatKs, Option.some.injEq] at h
                subst h
                have := eqVs_nil hb
                subst this
                simp [Op.eqFields]
              | cons f fl =>
                simp only [flatKs] at h
                split at h
                · rename_i hnm hoff
                  have hoff := Nat.eq_of_beq_eq_true hoff
                  split at h
                  · rename_i ka hka
                    split at h
                    · rename_i hsz hk0
                      have hsz := Nat.eq_of_beq_eq_true hsz
                      have hk0 := Nat.ne_of_beq_eq_false hk0
                      split at h
                      · rename_i kb hkb
                        simp only [Option.some.injEq] at h
                        subst h
                        obtain ⟨a1, a2, q1, q2, rfl⟩ := eqVs_append hb
                        rw [List.drop_drop, List.drop_drop] at q2
                        have hrest := ih2 fl (off + ka.length) kb a2 (by omega) hkb q2
                        obtain ⟨e1, e2⟩ := ih d' (by omega) f.type ka m w hka (by omega)
                        have hne : (f.name ≠ "_") = True := by simp only [ne_eq, eq_iff_iff, iff_true]; intro e; rw [e] at hnm; simp at hnm
                        -- the part
                        have hlen := eqVs_len q1
                        have lx : off + ka.length ≤ xs.size := by have := hlen.1; simp at this; omega
                        have ly : off + ka.length ≤ ys.size := by have := hlen.2; simp at this; omega
                        obtain ⟨ii, hii⟩ : ∃ ii, P.info? f.type = some ii := by
                          cases hii : P.info? f.type with
                          | some ii => exact ⟨ii, rfl⟩
                          | none =>
                            have hun : P.underlying f.type = none := by unfold Program.underlying; rw [hii]
                            cases d' <;> simp [flatK, hun] at hka
                        have hsize : ii.size = ka.length := by rw [← hsz]; simp [Program.cellsOf, hii]
                        have hparts : ∃ x y, (Go.part f.type xs f.offset).run P w = .ok x w ∧ (Go.part f.type ys f.offset).run P w = .ok y w ∧ (Op.equalIn m f.type x y).run P w = .ok a1 w := by
                          cases hud : P.underlying f.type with
                          | none => cases d' <;> simp [flatK, hud] at hka
                          | some dd =>
                            have plain : (match dd with | .struct _ => False | .array _ _ => False | _ => True) → ka.length = 1 → ∃ x y, (Go.part f.type xs f.offset).run P w = .ok x w ∧ (Go.part f.type ys f.offset).run P w = .ok y w ∧
                                (Op.equalIn m f.type x y).run P w = .ok a1 w := by
                              intro hpl h1
                              have g1 : xs[off]? = some xs[off] := Array.getElem?_eq_getElem (by omega)
                              have g2 : ys[off]? = some ys[off] := Array.getElem?_eq_getElem (by omega)
                              refine ⟨xs[off], ys[off], ?_, ?_, e1 _ _ a1 (by rw [hud]; cases dd <;> first | trivial | exact hpl) ?_⟩
                              · rw [hoff]; cases dd <;> first | exact hpl.elim | simp [Go.part, isAgg, run_underlying hud, g1]
                              · rw [hoff]; cases dd <;> first | exact hpl.elim | simp [Go.part, isAgg, run_underlying hud, g2]
                              · rw [h1] at q1
                                have t1 : (xs.toList.drop off).take 1 = [xs[off]] := by
                                  rw [List.drop_eq_getElem_cons (by simpa using (by omega : off < xs.size))]; simp
                                have t2 : (ys.toList.drop off).take 1 = [ys[off]] := by
                                  rw [List.drop_eq_getElem_cons (by simpa using (by omega : off < ys.size))]; simp
                                rw [t1, t2] at q1
                                exact q1
                            cases d' with
                            | zero => simp [flatK] at hka
                            | succ d' =>
                              simp only [flatK, hud] at hka
                              cases dd <;> simp only at hka <;> try (cases hka; done)
                              · simp only [Option.some.injEq] at hka; exact plain trivial (by rw [← hka]; rfl)
                              · simp only [Option.some.injEq] at hka; exact plain trivial (by rw [← hka]; rfl)
                              · simp only [Option.some.injEq] at hka; exact plain trivial (by rw [← hka]; rfl)
                              · refine ⟨.agg (xs.extract off (off + ii.size)), .agg (ys.extract off (off + ii.size)), ?_, ?_, e2 _ _ a1 (by rw [hud]; trivial) ?_⟩
                                · rw [hoff]; simp [Go.part, isAgg, run_underlying hud, sizeOf, typeInfo, hii]
                                · rw [hoff]; simp [Go.part, isAgg, run_underlying hud, sizeOf, typeInfo, hii]
                                · have f1 : (xs.extract off (off + ii.size)).toList = (xs.toList.drop off).take ka.length := by simp [Array.toList_extract, List.extract, hsize]
                                  have f2 : (ys.extract off (off + ii.size)).toList = (ys.toList.drop off).take ka.length := by simp [Array.toList_extract, List.extract, hsize]
                                  rw [f1, f2]; exact q1
                        obtain ⟨x, y, p1, p2, p3⟩ := hparts
                        simp only [Op.eqFields, hne, if_true, Sem.run_bind, p1, p2, p3, Result.andThen_ok]
                        cases a1 with
                        | false => simp
                        | true => simpa using hrest
                      · cases h
                    · cases h
                  · cases h
                · cases h
          exact key d fs.toList 0 ks b (Nat.le_refl _) h (by simpa using hb)
      · cases h
theorem EqOK_of_flat {t : TypeId} {ks : List EK} (h : flatK P 20 t = some ks) (hs : (match P.underlying t with | some (.struct _) => true | _ => false) = true) : EqOK P t ks := by
  intro w xs ys b hb
  refine (eqAll 20 t ks 10000 w h (by omega)).2 xs ys b ?_ hb
  cases hu : P.underlying t with
  | none => rw [hu] at hs; cases hs
  | some d => rw [hu] at hs; cases d <;> first | trivial | cases hs
end
end Go.AX
namespace Go.AX
theorem lk_mem {α : Type} : ∀ {l : List (Nat × α)} {t : Nat} {v : α}, lk l t = some v → (t, v) ∈ l
  | [], t, v, h => by simp [lk] at h
  | (k, u) :: r, t, v, h => by
    rw [lk_cons] at h
    split at h
    · rename_i e
      simp only [Option.some.injEq] at h
      subst e; subst h
      exact List.mem_cons_self
    · exact List.mem_cons_of_mem _ (lk_mem h)
theorem TabOk_of_list {P : Program} {T : Tab} (h : ∀ x ∈ T, TIok P x.1 x.2) : TabOk P T := fun t i hl => h (t, i) (lk_mem hl)
end Go.AX
end
section
namespace Go.AX
def Det {α : Type} (m : (α → Prop) → Prop) : Prop := ∀ K, m K → ∃ x, K x ∧ ∀ K', K' x → m K'
theorem det_pure {α : Type} (x : α) : Det fun K => K x := fun K h => ⟨x, h, fun _ h => h⟩
theorem det_false {α : Type} : Det fun (_ : α → Prop) => False := fun _ h => h.elim
theorem det_and {α : Type} {p : Prop} {m : (α → Prop) → Prop} (h : p → Det m) : Det fun K => p ∧ m K := fun K ⟨hp, hm⟩ =>
  let ⟨x, h1, h2⟩ := h hp K hm; ⟨x, h1, fun K' h' => ⟨hp, h2 K' h'⟩⟩
theorem det_ex {α β : Type} {m : β → (α → Prop) → Prop} (h : ∀ b, Det (m b)) : Det fun K => ∃ b, m b K := fun K ⟨b, hm⟩ =>
  let ⟨x, h1, h2⟩ := h b K hm; ⟨x, h1, fun K' h' => ⟨b, h2 K' h'⟩⟩
theorem det_map {α β : Type} {m : (α → Prop) → Prop} (f : α → β) (h : Det m) : Det fun K => m fun x => K (f x) := fun K hm =>
  let ⟨x, h1, h2⟩ := h _ hm; ⟨f x, h1, fun K' h' => h2 _ h'⟩
theorem det_in {α : Type} {m : (α → Prop) → Prop} {lo : Int} {o : Option Int} {hi : Int} (h : Det m) : Det fun K => inB lo o hi (m K) := by
  intro K hm
  cases o with
  | none =>
    obtain ⟨x, h1, h2⟩ := h K (by simpa only [inB] using hm)
    exact ⟨x, h1, fun K' h' => by simpa only [inB] using h2 K' h'⟩
  | some i =>
    obtain ⟨a, b, hm⟩ := (by simpa only [inB] using hm : lo ≤ i ∧ i ≤ hi ∧ m K)
    obtain ⟨x, h1, h2⟩ := h K hm
    exact ⟨x, h1, fun K' h' => by simpa only [inB] using ⟨a, b, h2 K' h'⟩⟩
theorem det_cInt (op : BinOp) (k : IntKind) (a b : Int) : Det (cInt op k a b) := by
  unfold cInt
  cases op <;> first | exact det_pure _ | exact det_false | exact det_and fun _ => det_pure _
theorem det_cStr (op : BinOp) (a b : ByteArray) : Det (cStr op a b) := by
  unfold cStr
  cases op <;> first | exact det_pure _ | exact det_false | exact det_and fun _ => det_pure _
theorem det_cEq (op : BinOp) (b : Bool) : Det (cEq op b) := by
  unfold cEq
  cases op <;> first | exact det_pure _ | exact det_false
theorem det_leaf {α : Type} {m : (α → Prop) → Prop} {K : α → Prop} {x : α} (h : K x) (hm : ∀ K', K' x → m K') : ∃ x, K x ∧ ∀ K', K' x → m K' := ⟨x, h, hm⟩
theorem det_use {α : Type} {m m' : (α → Prop) → Prop} {K : α → Prop} (hd : Det m) (h : m K) (hm : ∀ K', m K' → m' K') : ∃ x, K x ∧ ∀ K', K' x → m' K' :=
  let ⟨x, h1, h2⟩ := hd K h; ⟨x, h1, fun K' h' => hm K' (h2 K' h')⟩
theorem det_cEqs (i : TI) (op : BinOp) (x y : AV) : Det (cEqs i op x y) := by
  intro K h
  unfold cEqs at h
  repeat' split at h
  all_goals first
    | exact h.elim
    | exact det_leaf h fun K' h' => by unfold cEqs; simp only [*] <;> first | exact h' | simp
    | exact det_use (det_cEq _ _) h fun K' h' => by unfold cEqs; simp only [*] <;> first | exact h' | simp
theorem det_cShift (op : BinOp) (k : IntKind) (a b : Int) : Det (cShift op k a b) := by
  intro K h
  unfold cShift at h
  split at h
  · exact ⟨_, h.2, fun K' h' => by unfold cShift; exact ⟨h.1, h'⟩⟩
  · exact ⟨_, h.2, fun K' h' => by unfold cShift; exact ⟨h.1, h'⟩⟩
  · exact h.elim
theorem det_cBin (T : Tab) (op : BinOp) (t : TypeId) (x y : AV) : Det (cBin T op t x y) := by
  intro K h
  unfold cBin at h
  repeat' split at h
  all_goals first
    | exact h.elim
    | exact det_leaf h fun K' h' => by unfold cBin; simp only [*] <;> first | exact h' | simp
    | exact det_use (det_cShift _ _ _ _) h fun K' h' => by unfold cBin; simp only [*] <;> first | exact h' | simp
    | exact det_use (det_cInt _ _ _ _) h fun K' h' => by unfold cBin; simp only [*] <;> first | exact h' | simp
    | exact det_use (det_cStr _ _ _) h fun K' h' => by unfold cBin; simp only [*] <;> first | exact h' | simp
    | exact det_use (det_cEqs _ _ _ _) h fun K' h' => by unfold cBin; simp only [*] <;> first | exact h' | simp
theorem det_outA (i : TI) (cs : List AV) : Det (outA i cs) := by
  intro K h
  unfold outA at h
  repeat' split at h
  all_goals first
    | exact h.elim
    | exact det_leaf h fun K' h' => by unfold outA; simp only [*] <;> first | exact h' | simp
theorem det_outP (i : TI) (cs : List PV) : Det (outP i cs) := by
  intro K h
  unfold outP at h
  repeat' split at h
  all_goals first
    | exact h.elim
    | exact det_leaf h fun K' h' => by unfold outP; simp only [*] <;> first | exact h' | simp
theorem det_part (off : Nat) (i : TI) (row : List PV) : Det fun K => match part off i.size row with
    | some cs => outP i cs K
    | none => False := by
  cases h : part off i.size row with
  | some cs => exact det_outP i cs
  | none => exact det_false
theorem det_set (off : Nat) (row cs : List PV) (F : List PV → AV × List (Nat × Box)) : Det fun K => match setX off row cs with
    | some row' => K (F row')
    | none => False := by
  cases h : setX off row cs with
  | some cs => exact det_pure _
  | none => exact det_false
theorem det_cLoad (T : Tab) (H : List (Nat × Box)) (t : TypeId) (x : AV) : Det (cLoad T H t x) := by
  intro K h
  unfold cLoad at h
  repeat' split at h
  all_goals first
    | exact h.elim
    | exact det_leaf h fun K' h' => by unfold cLoad; simp only [*] <;> first | exact h' | simp
    | exact det_use (det_outA _ _) h fun K' h' => by unfold cLoad; simp only [*] <;> first | exact h' | simp
    | exact det_use (det_ex fun _ => det_and fun _ => det_part _ _ _) h fun K' h' => by unfold cLoad; simp only [*] <;> first | exact h' | simp
    | exact det_use (det_outP _ _) h fun K' h' => by unfold cLoad; simp only [*] <;> first | exact h' | simp
theorem det_cFieldAddr (T : Tab) (H : List (Nat × Box)) (t : TypeId) (x : AV) (f : Nat) : Det (cFieldAddr T H t x f) := by
  intro K h
  unfold cFieldAddr at h
  repeat' split at h
  all_goals first
    | exact h.elim
    | exact det_leaf h fun K' h' => by unfold cFieldAddr; simp only [*] <;> first | exact h' | simp
theorem det_cFld (T : Tab) (t : TypeId) (x : AV) (f : Nat) : Det (cFld T t x f) := by
  intro K h
  unfold cFld at h
  repeat' split at h
  all_goals first
    | exact h.elim
    | exact det_leaf h fun K' h' => by unfold cFld; simp only [*] <;> first | exact h' | simp
    | exact det_use (det_outA _ _) h fun K' h' => by unfold cFld; simp only [*] <;> first | exact h' | simp
    | exact det_use (det_outP _ _) h fun K' h' => by unfold cFld; simp only [*] <;> first | exact h' | simp
theorem det_cIndexAddr (T : Tab) (H : List (Nat × Box)) (t : TypeId) (x ix : AV) : Det (cIndexAddr T H t x ix) := by
  intro K h
  unfold cIndexAddr at h
  repeat' split at h
  all_goals first
    | exact h.elim
    | exact det_leaf h fun K' h' => by unfold cIndexAddr; simp only [*] <;> first | exact h' | simp
    | exact det_use (det_and fun _ => det_pure _) h fun K' h' => by unfold cIndexAddr; simp only [*] <;> first | exact h' | simp
    | exact det_use (det_and fun _ => det_and fun _ => det_pure _) h fun K' h' => by unfold cIndexAddr; simp only [*] <;> first | exact h' | simp
    | exact det_use (det_ex fun _ => det_and fun _ => det_pure _) h fun K' h' => by unfold cIndexAddr; simp only [*] <;> first | exact h' | simp
    | exact det_use (det_and fun _ => det_ex fun _ => det_and fun _ => det_pure _) h fun K' h' => by unfold cIndexAddr; simp only [*] <;> first | exact h' | simp
    | exact det_use (det_and fun _ => det_and fun _ => det_and fun _ => det_and fun _ => det_pure _) h fun K' h' => by unfold cIndexAddr; simp only [*] <;> first | exact h' | simp
theorem det_cIndex (T : Tab) (t : TypeId) (x ix : AV) : Det (cIndex T t x ix) := by
  intro K h
  unfold cIndex at h
  repeat' split at h
  all_goals first
    | exact h.elim
    | exact det_leaf h fun K' h' => by unfold cIndex; simp only [*] <;> first | exact h' | simp
    | exact det_use (det_and fun _ => det_pure _) h fun K' h' => by unfold cIndex; simp only [*] <;> first | exact h' | simp
    | exact det_use (det_and fun _ => det_and fun _ => det_pure _) h fun K' h' => by unfold cIndex; simp only [*] <;> first | exact h' | simp
    | exact det_use (det_ex fun _ => det_and fun _ => det_pure _) h fun K' h' => by unfold cIndex; simp only [*] <;> first | exact h' | simp
    | exact det_use (det_and fun _ => det_ex fun _ => det_and fun _ => det_pure _) h fun K' h' => by unfold cIndex; simp only [*] <;> first | exact h' | simp
    | exact det_use (det_and fun _ => det_and fun _ => det_and fun _ => det_and fun _ => det_pure _) h fun K' h' => by unfold cIndex; simp only [*] <;> first | exact h' | simp
theorem det_cExtract (x : AV) (i : Nat) : Det (cExtract x i) := by
  intro K h
  unfold cExtract at h
  repeat' split at h
  all_goals first
    | exact h.elim
    | exact det_leaf h fun K' h' => by unfold cExtract; simp only [*] <;> first | exact h' | simp
theorem det_cUn (op : UnOp) (x : AV) : Det (cUn op x) := by
  intro K h
  unfold cUn at h
  repeat' split at h
  all_goals first
    | exact h.elim
    | exact det_leaf h fun K' h' => by unfold cUn; simp only [*] <;> first | exact h' | simp
theorem det_cConv (T : Tab) (H : List (Nat × Box)) (src dst : TypeId) (x : AV) : Det (cConv T H src dst x) := by
  intro K h
  unfold cConv at h
  repeat' split at h
  all_goals first
    | exact h.elim
    | exact det_leaf h fun K' h' => by unfold cConv; simp only [*] <;> first | exact h' | simp
    | exact det_use (det_and fun _ => det_pure _) h fun K' h' => by unfold cConv; simp only [*] <;> first | exact h' | simp
    | exact det_use (det_and fun _ => det_and fun _ => det_pure _) h fun K' h' => by unfold cConv; simp only [*] <;> first | exact h' | simp
    | exact det_use (det_ex fun _ => det_and fun _ => det_pure _) h fun K' h' => by unfold cConv; simp only [*] <;> first | exact h' | simp
    | exact det_use (det_and fun _ => det_ex fun _ => det_and fun _ => det_pure _) h fun K' h' => by unfold cConv; simp only [*] <;> first | exact h' | simp
    | exact det_use (det_and fun _ => det_and fun _ => det_and fun _ => det_and fun _ => det_pure _) h fun K' h' => by unfold cConv; simp only [*] <;> first | exact h' | simp
theorem det_cLen (T : Tab) (H : List (Nat × Box)) (t : TypeId) (x : AV) : Det (cLen T H t x) := by
  intro K h
  unfold cLen at h
  repeat' split at h
  all_goals first
    | exact h.elim
    | exact det_leaf h fun K' h' => by unfold cLen; simp only [*] <;> first | exact h' | simp
theorem det_cSlice (T : Tab) (t : TypeId) (lo hi mx : Option Operand) (vs : List AV) : Det (cSlice T t lo hi mx vs) := by
  intro K h
  unfold cSlice at h
  repeat' split at h
  all_goals first
    | exact h.elim
    | exact det_leaf h fun K' h' => by unfold cSlice; simp only [*] <;> first | exact h' | simp
    | exact det_use (det_in (det_in (det_pure _))) h fun K' h' => by unfold cSlice; simp only [*] <;> first | exact h' | simp
    | exact det_use (det_in (det_in (det_in (det_pure _)))) h fun K' h' => by unfold cSlice; simp only [*] <;> first | exact h' | simp
theorem det_cStore (T : Tab) (H : List (Nat × Box)) (t : TypeId) (x y : AV) : Det (fun (K : AV × List (Nat × Box) → Prop) => cStore T H t x y fun v ws => K (v, ws)) := by
  intro K h
  unfold cStore at h
  repeat' split at h
  all_goals first
    | exact h.elim
    | exact det_leaf h fun K' h' => by unfold cStore; simp only [*] <;> first | exact h' | simp
    | exact det_use (det_ex fun _ => det_and fun _ => det_set _ _ _ fun row => (.pv (.sc undef), [(_, .arr _ _ _ (List.set _ _ row))])) h fun K' h' => by unfold cStore; simp only [*] <;> first | exact h' | simp
theorem det_cApp (T : Tab) (H : List (Nat × Box)) (t : TypeId) (vs : List AV) (id : Nat) : Det (fun (K : AV × List (Nat × Box) → Prop) => cApp T H t vs id fun v ws => K (v, ws)) := by
  intro K h
  unfold cApp at h
  simp only [tiF_eq] at h
  repeat' split at h
  all_goals first
    | exact h.elim
    | exact det_leaf h fun K' h' => by unfold cApp; simp only [tiF_eq, *] <;> first | exact h' | simp
    | exact det_use (det_and fun _ => det_pure _) h fun K' h' => by unfold cApp; simp only [tiF_eq, *] <;> first | exact h' | simp
    | exact det_use (det_and fun _ => det_and fun _ => det_pure _) h fun K' h' => by unfold cApp; simp only [tiF_eq, *] <;> first | exact h' | simp
    | exact det_use (det_ex fun _ => det_and fun _ => det_pure _) h fun K' h' => by unfold cApp; simp only [tiF_eq, *] <;> first | exact h' | simp
    | exact det_use (det_and fun _ => det_ex fun _ => det_and fun _ => det_pure _) h fun K' h' => by unfold cApp; simp only [tiF_eq, *] <;> first | exact h' | simp
    | exact det_use (det_and fun _ => det_and fun _ => det_and fun _ => det_and fun _ => det_pure _) h fun K' h' => by unfold cApp; simp only [tiF_eq, *] <;> first | exact h' | simp
theorem det_cMkFn (H : List (Nat × Box)) (f : Fn) (nf : Nat) (vs : List AV) : Det (fun (K : AV × List (Nat × Box) → Prop) => cMkFn H f nf vs fun v ws => K (v, ws)) := by
  intro K h
  unfold cMkFn at h
  repeat' split at h
  all_goals first
    | exact h.elim
    | exact det_leaf h fun K' h' => by unfold cMkFn; simp only [*] <;> first | exact h' | simp
theorem det_cBuild (T : Tab) (t : TypeId) (ks : List Nat) (vs : List AV) : Det (cBuild T t ks vs) := by
  intro K h
  unfold cBuild at h
  repeat' split at h
  all_goals first
    | exact h.elim
    | exact det_leaf h fun K' h' => by unfold cBuild; simp only [*] <;> first | exact h' | simp
theorem det_cBuildSl (T : Tab) (H : List (Nat × Box)) (t : TypeId) (len : Nat) (ks : List Nat) (vs : List AV) (id : Nat) : Det (fun (K : AV × List (Nat × Box) → Prop) => cBuildSl T H t len ks vs id fun v ws => K (v, ws)) := by
  intro K h
  unfold cBuildSl at h
  simp only [tiF_eq] at h
  repeat' split at h
  all_goals first
    | exact h.elim
    | exact det_leaf h fun K' h' => by unfold cBuildSl; simp only [tiF_eq, *] <;> first | exact h' | simp
theorem det_cMake (T : Tab) (t : TypeId) (vs : List AV) (id : Nat) : Det (fun (K : AV × List (Nat × Box) → Prop) => cMake T t vs id fun v ws => K (v, ws)) := by
  intro K h
  unfold cMake at h
  simp only [tiF_eq] at h
  repeat' split at h
  all_goals first
    | exact h.elim
    | exact det_leaf h fun K' h' => by unfold cMake; simp only [tiF_eq, *] <;> first | exact h' | simp
    | exact det_use (det_and fun _ => det_pure _) h fun K' h' => by unfold cMake; simp only [tiF_eq, *] <;> first | exact h' | simp
    | exact det_use (det_and fun _ => det_and fun _ => det_pure _) h fun K' h' => by unfold cMake; simp only [tiF_eq, *] <;> first | exact h' | simp
    | exact det_use (det_ex fun _ => det_and fun _ => det_pure _) h fun K' h' => by unfold cMake; simp only [tiF_eq, *] <;> first | exact h' | simp
    | exact det_use (det_and fun _ => det_ex fun _ => det_and fun _ => det_pure _) h fun K' h' => by unfold cMake; simp only [tiF_eq, *] <;> first | exact h' | simp
    | exact det_use (det_and fun _ => det_and fun _ => det_and fun _ => det_and fun _ => det_pure _) h fun K' h' => by unfold cMake; simp only [tiF_eq, *] <;> first | exact h' | simp
theorem det_cAlloc (T : Tab) (t : TypeId) (id : Nat) : Det (fun (K : AV × List (Nat × Box) → Prop) => cAlloc T t id fun v ws => K (v, ws)) := by
  intro K h
  unfold cAlloc at h
  repeat' split at h
  all_goals first
    | exact h.elim
    | exact det_leaf h fun K' h' => by unfold cAlloc; simp only [*] <;> first | exact h' | simp
theorem det_cBox (T : Tab) (t : TypeId) (x : AV) (id : Nat) : Det (fun (K : AV × List (Nat × Box) → Prop) => cBox T t x id fun v ws => K (v, ws)) := by
  intro K h
  unfold cBox at h
  repeat' split at h
  all_goals first
    | exact h.elim
    | exact det_leaf h fun K' h' => by unfold cBox; simp only [*] <;> first | exact h' | simp
theorem det_cConvW (T : Tab) (H : List (Nat × Box)) (src dst : TypeId) (x : AV) : Det (fun (K : AV × List (Nat × Box) → Prop) => cConvW T H src dst x fun v ws => K (v, ws)) := by
  intro K h
  unfold cConvW at h
  repeat' split at h
  all_goals first
    | exact h.elim
    | exact det_leaf h fun K' h' => by unfold cConvW; simp only [*] <;> first | exact h' | simp
    | exact det_use (det_and fun _ => det_pure _) h fun K' h' => by unfold cConvW; simp only [*] <;> first | exact h' | simp
    | exact det_use (det_map (fun v => (v, [])) (det_cConv T H src dst x)) h fun K' h' => by unfold cConvW; simp only [*] <;> first | exact h' | simp
theorem det_cSliceW (T : Tab) (H : List (Nat × Box)) (t : TypeId) (lo hi mx : Option Operand) (vs : List AV) : Det (fun (K : AV × List (Nat × Box) → Prop) => cSliceW T H t lo hi mx vs fun v ws => K (v, ws)) := by
  intro K h
  unfold cSliceW at h
  repeat' split at h
  all_goals first
    | exact h.elim
    | exact det_leaf h fun K' h' => by unfold cSliceW; simp only [*] <;> first | exact h' | simp
    | exact det_use (det_map (fun v => (v, _)) (det_cSlice T t lo hi mx _)) h fun K' h' => by unfold cSliceW; simp only [*] <;> first | exact h' | simp
theorem det_cSub (tw : Bool) (rows : List (List PV)) (b ver : Nat) (e : TypeId) (st : Nat) (l h : Option Int) : Det (fun (K : AV × List (Nat × Box) → Prop) => cSub tw rows b ver e st l h fun v ws => K (v, ws)) := by
  intro K hk
  unfold cSub at hk
  repeat' split at hk
  all_goals first
    | exact hk.elim
    | exact det_leaf hk fun K' h' => by unfold cSub; exact h'
    | exact det_use (det_and fun _ => det_and fun _ => det_pure _) hk fun K' h' => by unfold cSub; exact h'
    | exact det_use (det_and fun _ => det_and fun _ => det_and fun _ => det_and fun _ => det_pure _) hk fun K' h' => by unfold cSub; exact h'
theorem det_cSliceY (T : Tab) (H : List (Nat × Box)) (t : TypeId) (lo hi mx : Option Operand) (vs : List AV) : Det (fun (K : AV × List (Nat × Box) → Prop) => cSliceY T H t lo hi mx vs fun v ws => K (v, ws)) := by
  intro K h
  unfold cSliceY at h
  repeat' split at h
  all_goals first
    | exact h.elim
    | exact det_use (det_cSliceW T H t lo hi mx _) h fun K' h' => by unfold cSliceY; simp only [*] <;> first | exact h' | simp
    | exact det_use (det_cSub _ _ _ _ _ _ _ _) h fun K' h' => by unfold cSliceY; simp only [*] <;> first | exact h' | simp
theorem det_cClear (T : Tab) (H : List (Nat × Box)) (t : TypeId) (x : AV) : Det (fun (K : AV × List (Nat × Box) → Prop) => cClear T H t x fun v ws => K (v, ws)) := by
  intro K h
  unfold cClear at h
  repeat' split at h
  all_goals first
    | exact h.elim
    | exact det_leaf h fun K' h' => by unfold cClear; simp only [*] <;> first | exact h' | simp
theorem det_cAppY (T : Tab) (H : List (Nat × Box)) (t : TypeId) (vs : List AV) (id : Nat) : Det (fun (K : AV × List (Nat × Box) → Prop) => cAppY T H t vs id fun v ws => K (v, ws)) := by
  intro K h
  unfold cAppY at h
  repeat' split at h
  all_goals first
    | exact h.elim
    | exact det_use (det_cApp T H t _ id) h fun K' h' => by unfold cAppY; simp only [*] <;> first | exact h' | simp
    | exact det_use (det_and fun _ => det_pure _) h fun K' h' => by unfold cAppY; simp only [*] <;> first | exact h' | simp
theorem det_cSubP (T : Tab) (H : List (Nat × Box)) (t : TypeId) (lo hi mx : Option Operand) (b ver st l0 : Nat) (r : List AV) : Det (fun (K : AV × List (Nat × Box) → Prop) => cSubP T H t lo hi mx b ver st l0 r fun v ws => K (v, ws)) := by
  intro K h
  unfold cSubP at h
  repeat' split at h
  all_goals first
    | exact h.elim
    | exact det_use (det_and fun _ => det_and fun _ => det_and fun _ => det_and fun _ => det_pure _) h fun K' h' => by unfold cSubP; simp only [*] <;> first | exact h' | simp
theorem det_cSub3 (T : Tab) (H : List (Nat × Box)) (t : TypeId) (lo hi mx : Option Operand) (b ver : Nat) (r : List AV) : Det (fun (K : AV × List (Nat × Box) → Prop) => cSub3 T H t lo hi mx b ver r fun v ws => K (v, ws)) := by
  intro K h
  unfold cSub3 at h
  repeat' split at h
  all_goals first
    | exact h.elim
    | exact det_use (det_and fun _ => det_and fun _ => det_and fun _ => det_and fun _ => det_and fun _ => det_and fun _ => det_pure _) h fun K' h' => by unfold cSub3; simp only [*] <;> first | exact h' | simp
theorem det_cSliceX (T : Tab) (H : List (Nat × Box)) (t : TypeId) (lo hi mx : Option Operand) (vs : List AV) : Det (fun (K : AV × List (Nat × Box) → Prop) => cSliceX T H t lo hi mx vs fun v ws => K (v, ws)) := by
  intro K h
  unfold cSliceX at h
  repeat' split at h
  all_goals first
    | exact h.elim
    | exact det_use (det_cSliceY T H t lo hi mx _) h fun K' h' => by unfold cSliceX; simp only [*] <;> first | exact h' | simp
    | exact det_use (det_cSubP _ _ _ _ _ _ _ _ _ _ _) h fun K' h' => by unfold cSliceX; simp only [*] <;> first | exact h' | simp
    | exact det_use (det_cSub3 _ _ _ _ _ _ _ _ _) h fun K' h' => by unfold cSliceX; simp only [*] <;> first | exact h' | simp
theorem det_cMM (mx : Bool) (vs : List AV) : Det (cMM mx vs) := by
  intro K h
  unfold cMM at h
  repeat' split at h
  all_goals first
    | exact h.elim
    | exact det_leaf h fun K' h' => by unfold cMM; simp only [*] <;> first | exact h' | simp
end Go.AX
end
section
namespace Go.AX
theorem det_scal (r : PV) (H : List (Nat × Box)) (ids : List Nat) : Det fun (K : AV × List (Nat × Box) → Prop) => match scal r with
      | true => K (.pv r, [])
      | false => match frz H ids with
        | some fs => K (.pv r, fs)
        | none => False := by
  cases h : scal r with
  | true => exact det_pure _
  | false => cases h2 : frz H ids with
    | some fs => exact det_pure _
    | none => exact det_false
theorem det_cCall (P : Program) (H : List (Nat × Box)) (vs : List AV) : Det fun (K : AV × List (Nat × Box) → Prop) => cCall P H vs fun v ws => K (v, ws) := by
  intro K h
  unfold cCall at h
  split at h
  · split at h
    · exact det_use (det_ex fun r => det_and fun _ => det_scal r _ _) h fun K' h' => by unfold cCall; simp only [*] <;> first | exact h' | simp
    · exact h.elim
  · exact h.elim
theorem det_v {m : (AV → Prop) → Prop} (h : Det m) : Det fun (K : AV × List (Nat × Box) → Prop) => m fun v => K (v, []) := det_map (fun v => (v, [])) h
theorem det_cUnY (H : List (Nat × Box)) (op : UnOp) (x : AV) : Det (cUnY H op x) := by
  cases x with
  | aptr b ver i off =>
    intro K h
    unfold cUnY at h
    simp only at h
    repeat' split at h
    all_goals first
      | exact h.elim
      | exact det_leaf h fun K' h' => by unfold cUnY; simp only [*] <;> first | exact h' | simp
  | _ => exact det_cUn op _
theorem det_cop (P : Program) (T : Tab) (op : Op) (vs : List AV) (H : List (Nat × Box)) (id : Nat) : Det fun (K : AV × List (Nat × Box) → Prop) => cop P T op vs H id fun v ws => K (v, ws) := by
  intro K h
  unfold cop at h
  repeat' split at h
  all_goals first
    | exact h.elim
    | exact det_leaf h fun K' h' => by unfold cop; simp only [*] <;> first | exact h' | simp
    | exact det_use (det_cAlloc T _ id) h fun K' h' => by unfold cop; simp only [*] <;> first | exact h' | simp
    | exact det_use (det_cBox T _ _ id) h fun K' h' => by unfold cop; simp only [*] <;> first | exact h' | simp
    | exact det_use (det_v (det_cBuild T _ _ _)) h fun K' h' => by unfold cop; simp only [*] <;> first | exact h' | simp
    | exact det_use (det_cBuildSl T H _ _ _ _ id) h fun K' h' => by unfold cop; simp only [*] <;> first | exact h' | simp
    | exact det_use (det_v (det_cLoad T H _ _)) h fun K' h' => by unfold cop; simp only [*] <;> first | exact h' | simp
    | exact det_use (det_cStore T H _ _ _) h fun K' h' => by unfold cop; simp only [*] <;> first | exact h' | simp
    | exact det_use (det_v (det_cBin T _ _ _ _)) h fun K' h' => by unfold cop; simp only [*] <;> first | exact h' | simp
    | exact det_use (det_v (det_cUnY H _ _)) h fun K' h' => by unfold cop; simp only [*] <;> first | exact h' | simp
    | exact det_use (det_cConvW T H _ _ _) h fun K' h' => by unfold cop; simp only [*] <;> first | exact h' | simp
    | exact det_use (det_cMkFn H _ _ _) h fun K' h' => by unfold cop; simp only [*] <;> first | exact h' | simp
    | exact det_use (det_cMake T _ _ id) h fun K' h' => by unfold cop; simp only [*] <;> first | exact h' | simp
    | exact det_use (det_cSliceX T H _ _ _ _ _) h fun K' h' => by unfold cop; simp only [*] <;> first | exact h' | simp
    | exact det_use (det_v (det_cFieldAddr T H _ _ _)) h fun K' h' => by unfold cop; simp only [*] <;> first | exact h' | simp
    | exact det_use (det_v (det_cFld T _ _ _)) h fun K' h' => by unfold cop; simp only [*] <;> first | exact h' | simp
    | exact det_use (det_v (det_cIndexAddr T H _ _ _)) h fun K' h' => by unfold cop; simp only [*] <;> first | exact h' | simp
    | exact det_use (det_v (det_cIndex T _ _ _)) h fun K' h' => by unfold cop; simp only [*] <;> first | exact h' | simp
    | exact det_use (det_v (det_cExtract _ _)) h fun K' h' => by unfold cop; simp only [*] <;> first | exact h' | simp
    | exact det_use (det_cCall P H _) h fun K' h' => by unfold cop; simp only [*] <;> first | exact h' | simp
    | exact det_use (det_cAppY T H _ _ id) h fun K' h' => by unfold cop; simp only [*] <;> first | exact h' | simp
    | exact det_use (det_v (det_cLen T H _ _)) h fun K' h' => by unfold cop; simp only [*] <;> first | exact h' | simp
    | exact det_use (det_cClear T H _ _) h fun K' h' => by unfold cop; simp only [*] <;> first | exact h' | simp
    | exact det_use (det_v (det_cMM _ _)) h fun K' h' => by unfold cop; simp only [*] <;> first | exact h' | simp
theorem evs_congr {tm tm' : List (Nat × AV)} : ∀ {xs : List Operand} {vs : List AV}, (∀ t ∈ tmpsOf xs, lk tm' t = lk tm t) → evs tm xs = some vs → evs tm' xs = some vs
  | [], vs, _, h => h
  | x :: xs, vs, hs, h => by
    simp only [evs] at h ⊢
    split at h
    · rename_i v hv
      have hv' : evo tm' x = some v := by
        rw [← hv]
        unfold evo
        cases x with
        | tmp t => exact hs t (by simp [tmpsOf])
        | const v => rfl
        | func f => rfl
        | «global» g => rfl
      split at h
      · rename_i vs' hvs
        rw [hv']
        simp only
        rw [evs_congr (fun t ht => hs t (by cases x <;> simp [tmpsOf, ht])) hvs]
        exact h
      · cases h
    · cases h
theorem fetch_congr {hp hp' : List (Nat × Box)} : ∀ {ids : List Nat} {H : List (Nat × Box)}, (∀ b ∈ ids, lk hp' b = lk hp b) → fetch hp ids = some H → fetch hp' ids = some H
  | [], H, _, h => h
  | i :: r, H, hs, h => by
    simp only [fetch] at h ⊢
    rw [hs i (by simp)]
    split at h
    · rename_i bx hbx
      split at h
      · rename_i t ht
        rw [fetch_congr (fun b hb => hs b (by simp [hb])) ht]
        exact h
      · cases h
    · cases h
theorem fcop_det {P : Program} {T : Tab} {op : Op} {vs : List AV} {hp : List (Nat × Box)} {id : Nat} {K : AV → List (Nat × Box) → List Nat → Prop} (h : fcop P T op vs hp id K) :
    ∃ v ws ids, K v ws ids ∧ ∀ (hp' : List (Nat × Box)), (∀ b ∈ ids, lk hp' b = lk hp b) → ∀ K' : AV → List (Nat × Box) → List Nat → Prop, K' v ws ids → fcop P T op vs hp' id K' := by
  unfold fcop at h
  simp only at h
  split at h
  · rename_i H hH
    obtain ⟨⟨v, ws⟩, h1, h2⟩ := det_cop P T op vs H id (fun x => K x.1 x.2 (need op vs)) h
    refine ⟨v, ws, need op vs, h1, fun hp' hb K' hK' => ?_⟩
    unfold fcop
    simp only
    rw [fetch_congr hb hH]
    exact h2 (fun x => K' x.1 x.2 (need op vs)) hK'
  · exact h.elim
theorem fcop_det' {P : Program} {T : Tab} {op : Op} {vs : List AV} {hp : List (Nat × Box)} {id : Nat} {K : AV → List (Nat × Box) → List Nat → Prop} (h : fcop P T op vs hp id K) :
    ∃ v ws ids, K v ws ids ∧ ids = need op vs ∧ ∀ (hp' : List (Nat × Box)), (∀ b ∈ ids, lk hp' b = lk hp b) → ∀ K' : AV → List (Nat × Box) → List Nat → Prop, K' v ws ids → fcop P T op vs hp' id K' := by
  unfold fcop at h
  simp only at h
  split at h
  · rename_i H hH
    obtain ⟨⟨v, ws⟩, h1, h2⟩ := det_cop P T op vs H id (fun x => K x.1 x.2 (need op vs)) h
    refine ⟨v, ws, need op vs, h1, rfl, fun hp' hb K' hK' => ?_⟩
    unfold fcop
    simp only
    rw [fetch_congr hb hH]
    exact h2 (fun x => K' x.1 x.2 (need op vs)) hK'
  · exact h.elim
theorem snoc_mem {x y : Nat} : ∀ {l : List Nat}, x ∈ snoc l y ↔ x ∈ l ∨ x = y
  | [] => by simp [snoc]
  | z :: l => by simp [snoc, snoc_mem (l := l), or_assoc]
theorem clos_sub {hp : List (Nat × Box)} : ∀ {n : Nat} {todo seen : List Nat}, ∀ b ∈ seen, b ∈ clos hp n todo seen
  | 0, _, _, b, h => h
  | _ + 1, [], _, b, h => h
  | n + 1, x :: todo, seen, b, h => by
    simp only [clos]
    split
    · exact clos_sub b h
    · split
      · exact clos_sub b (snoc_mem.2 (.inl h))
      · exact clos_sub b (snoc_mem.2 (.inl h))
theorem clos_congr {hp hp' : List (Nat × Box)} : ∀ {n : Nat} {todo seen : List Nat}, (∀ b ∈ clos hp n todo seen, lk hp' b = lk hp b) → clos hp' n todo seen = clos hp n todo seen
  | 0, _, _, _ => rfl
  | _ + 1, [], _, _ => rfl
  | n + 1, x :: todo, seen, h => by
    simp only [clos] at h ⊢
    cases hm : memN x seen with
    | true =>
      simp only [hm] at h ⊢
      exact clos_congr h
    | false =>
      simp only [hm] at h ⊢
      have hx : lk hp' x = lk hp x := by
        refine h x ?_
        split <;> exact clos_sub x (snoc_mem.2 (.inr rfl))
      rw [hx]
      split
      · rename_i cells hc
        rw [hc] at h
        exact clos_congr h
      · rename_i hne
        refine clos_congr fun b hb => h b ?_
        split
        · rename_i cells hc; exact (hne cells hc).elim
        · exact hb
theorem allNone_congr {hp hp' : List (Nat × Box)} : ∀ {l : List Nat}, (∀ b ∈ l, lk hp' b = lk hp b) → allNone hp' l = allNone hp l
  | [], _ => rfl
  | x :: r, h => by
    simp only [allNone]
    rw [h x (by simp), allNone_congr fun b hb => h b (by simp [hb])]
theorem gC_det {P : Program} {vs : List AV} {hp : List (Nat × Box)} {id : Nat} {K : AV → List (Nat × Box) → List Nat → Prop} (h : gC P hp id vs K) :
    ∃ v ws ids, K v ws ids ∧ ∀ (hp' : List (Nat × Box)), (∀ b ∈ ids, lk hp' b = lk hp b) → ∀ K' : AV → List (Nat × Box) → List Nat → Prop, K' v ws ids → gC P hp' id vs K' := by
  unfold gC at h
  split at h
  · rename_i fv args
    split at h
    · rename_i f first caps hfn
      simp only at h
      split at h
      · rename_i H hH
        obtain ⟨r, h1, hgc, h⟩ := h
        split at h
        · rename_i hok
          have h0 := h
          rw [outF_eq, renF_eq] at h
          have h := renHF_eq _ _ _ h
          refine ⟨_, _, _, h, fun hp' hb K' hK' => ?_⟩
          have hb1 := fun b hb' => hb b (List.mem_append_left _ hb')
          have hb2 := fun b hb' => hb b (List.mem_append_right _ hb')
          unfold gC
          simp only [hfn]
          rw [clos_congr hb1, fetch_congr hb1 hH]
          simp only
          refine ⟨r, h1, hgc, ?_⟩
          have : gOk (mkInv 1 H) (mkFwd 1 H) id hp' h1 = gOk (mkInv 1 H) (mkFwd 1 H) id hp h1 := by
            unfold gOk
            rw [allNone_congr hb2]
          rw [this, hok]
          simp only
          rw [outF_eq, renF_eq] at h0 ⊢
          exact renHF_congr _ _ _ h0 hK'
        · exact h.elim
      · exact h.elim
    · exact h.elim
  · exact h.elim
theorem gV_det {P : Program} {vs : List AV} {hp : List (Nat × Box)} {id : Nat} {K : AV → List (Nat × Box) → List Nat → Prop} (h : gV P hp id vs K) :
    ∃ v ws ids, K v ws ids ∧ ∀ (hp' : List (Nat × Box)), (∀ b ∈ ids, lk hp' b = lk hp b) → ∀ K' : AV → List (Nat × Box) → List Nat → Prop, K' v ws ids → gV P hp' id vs K' := by
  obtain ⟨v, ws, ids, h1, h2⟩ := gC_det h
  refine ⟨v, [], ids, (sameF_spec h1).1, fun hp' hb K' hK' => ?_⟩
  exact h2 hp' hb _ (sameF_congr hb h1 hK')
theorem dC_det {P : Program} {vs : List AV} {hp : List (Nat × Box)} {K : AV → List (Nat × Box) → List Nat → Prop} (h : dC P hp vs K) :
    ∃ v ws ids, K v ws ids ∧ (∀ b ∈ refss vs, b ∈ ids) ∧ ∀ (hp' : List (Nat × Box)), (∀ b ∈ ids, lk hp' b = lk hp b) → ∀ K' : AV → List (Nat × Box) → List Nat → Prop, K' v ws ids → dC P hp' vs K' := by
  unfold dC at h
  simp only at h
  split at h
  · rename_i H hH
    split at h
    · rename_i f first caps ps hm
      obtain ⟨r, hpc, h⟩ := h
      split at h
      · rename_i hs
        refine ⟨_, _, _, h, fun b hb => List.mem_append_left _ hb, fun hp' hb K' hK' => ?_⟩
        have hb1 := fun b hb' => hb b (List.mem_append_right _ hb')
        unfold dC
        simp only
        rw [clos_congr hb1, fetch_congr hb1 hH]
        simp only [hm]
        refine ⟨r, hpc, ?_⟩
        rw [hs]
        exact hK'
      · exact h.elim
    · exact h.elim
  · exact h.elim
theorem fetch_none {hp hp' : List (Nat × Box)} : ∀ {ids : List Nat}, (∀ b ∈ ids, lk hp' b = lk hp b) → fetch hp' ids = fetch hp ids
  | [], _ => rfl
  | i :: r, h => by
    simp only [fetch]
    rw [h i (by simp), fetch_none fun b hb => h b (by simp [hb])]
theorem deepB_congr {hp hp' : List (Nat × Box)} {vs : List AV} (h : ∀ b ∈ refss vs, lk hp' b = lk hp b) : deepB hp' vs = deepB hp vs := by
  unfold deepB
  split
  · rename_i p args
    rw [fetch_none fun b hb => h b (by simp only [refss, refs, List.nil_append]; exact hb)]
  · rfl
theorem lC_det {P : Program} {T : Tab} {op : Op} (hc : isCall op = true) {vs : List AV} {hp : List (Nat × Box)} {id : Nat} {K : AV → List (Nat × Box) → List Nat → Prop} (h : lC P T op vs hp id K) :
    ∃ v ws ids, K v ws ids ∧ ∀ (hp' : List (Nat × Box)), (∀ b ∈ ids, lk hp' b = lk hp b) → ∀ K' : AV → List (Nat × Box) → List Nat → Prop, K' v ws ids → lC P T op vs hp' id K' := by
  unfold lC at h
  split at h
  · rename_i hd
    obtain ⟨v, ws, ids, h1, h2, h3⟩ := dC_det h
    refine ⟨v, ws, ids, h1, fun hp' hb K' hK' => ?_⟩
    unfold lC
    rw [deepB_congr fun b hb' => hb b (h2 b hb'), hd]
    exact h3 hp' hb K' hK'
  · rename_i hd
    have hn : need op vs = refss vs := by
      cases op <;> simp only [isCall] at hc <;> first | rfl | (cases hc; done)
    obtain ⟨v, ws, ids, h1, h2, h3⟩ := fcop_det' h
    rw [hn] at h2
    subst h2
    refine ⟨v, ws, _, h1, fun hp' hb K' hK' => ?_⟩
    unfold lC
    rw [deepB_congr hb, hd]
    exact h3 hp' hb K' hK'
theorem yC_det {P : Program} {vs : List AV} {hp : List (Nat × Box)} {K : AV → List (Nat × Box) → List Nat → Prop} (h : yC P hp vs K) :
    ∃ v ws ids, K v ws ids ∧ ∀ (hp' : List (Nat × Box)), (∀ b ∈ ids, lk hp' b = lk hp b) → ∀ K' : AV → List (Nat × Box) → List Nat → Prop, K' v ws ids → yC P hp' vs K' := by
  unfold yC at h
  split at h
  · split at h
    · rename_i y ver rest st h9
      split at h
      · split at h
        · split at h
          · rename_i ps hps
            obtain ⟨e, x, r, e2, hle, hK⟩ := h
            refine ⟨_, _, _, hK, fun hp' hb K' hK' => ?_⟩
            unfold yC
            simp only [hb 999 (by simp), h9, hps]
            exact ⟨e, x, r, e2, hle, hK'⟩
          · exact h.elim
        · exact h.elim
      · exact h.elim
    · exact h.elim
  · exact h.elim
theorem sop_det {P : Program} {T : Tab} (hg : gen T = false) {o : Oper} {tm : List (Nat × AV)} {hp : List (Nat × Box)} {id : Nat} {K : AV → List (Nat × Box) → List Nat → Prop} (h : sop P T o tm hp id K) :
    ∃ v ws ids, K v ws ids ∧ ∀ (tm' : List (Nat × AV)) (hp' : List (Nat × Box)), (∀ t ∈ tmpsOf (opnds o.op), lk tm' t = lk tm t) → (∀ b ∈ ids, lk hp' b = lk hp b) →
      ∀ K' : AV → List (Nat × Box) → List Nat → Prop, K' v ws ids → sop P T o tm' hp' id K' := by
  unfold sop at h
  split at h
  · rename_i vs hvs
    split at h
    · rename_i hc
      split at h
      · rename_i hy
        obtain ⟨v, ws, ids, h1, h2⟩ := yC_det h
        refine ⟨v, ws, ids, h1, fun tm' hp' ht hb K' hK' => ?_⟩
        unfold sop
        rw [evs_congr ht hvs]
        simp only [hc, hy]
        exact h2 hp' hb K' hK'
      rename_i hy
      rw [hg] at h
      rcases h with (h | h) | h
      rotate_left 2
      · obtain ⟨v, ws, ids, h1, h2⟩ := gV_det h
        refine ⟨v, ws, ids, h1, fun tm' hp' ht hb K' hK' => ?_⟩
        unfold sop
        rw [evs_congr ht hvs, hg]
        simp only [hc, hy]
        exact .inr (h2 hp' hb K' hK')
      · obtain ⟨v, ws, ids, h1, h2⟩ := lC_det hc h
        refine ⟨v, ws, ids, h1, fun tm' hp' ht hb K' hK' => ?_⟩
        unfold sop
        rw [evs_congr ht hvs]
        simp only [hc, hy]
        exact .inl (.inl (h2 hp' hb K' hK'))
      · obtain ⟨v, ws, ids, h1, h2⟩ := gC_det h
        refine ⟨v, ws, ids, h1, fun tm' hp' ht hb K' hK' => ?_⟩
        unfold sop
        rw [evs_congr ht hvs]
        simp only [hc, hy]
        exact .inl (.inr (h2 hp' hb K' hK'))
    · rename_i hc
      obtain ⟨v, ws, ids, h1, h2⟩ := fcop_det h
      refine ⟨v, ws, ids, h1, fun tm' hp' ht hb K' hK' => ?_⟩
      unfold sop
      rw [evs_congr ht hvs]
      simp only [hc]
      exact h2 hp' hb K' hK'
  · exact h.elim
end Go.AX
end
section
namespace Go.AX
section
variable {α : Type}
def acc (S : Nat → Bool) : List (List (Nat × α)) → Nat → List (Nat × α) → List (Nat × α)
  | [], _, s => s
  | ws :: r, i, s => acc S r (i + 1) (if S i then ws ++ s else s)
theorem lk_append_none {ws s : List (Nat × α)} {t : Nat} (h : t ∉ keys ws) : lk (ws ++ s) t = lk s t := by
  induction ws with
  | nil => rfl
  | cons x ws ih =>
    obtain ⟨k, v⟩ := x
    simp only [keys, List.mem_cons, not_or] at h
    rw [List.cons_append, lk_cons, if_neg (Ne.symm h.1), ih h.2]
theorem lk_append_some {ws s s' : List (Nat × α)} {t : Nat} (h : t ∈ keys ws) : lk (ws ++ s) t = lk (ws ++ s') t := by
  induction ws with
  | nil => simp [keys] at h
  | cons x ws ih =>
    obtain ⟨k, v⟩ := x
    simp only [keys, List.mem_cons] at h
    rw [List.cons_append, List.cons_append, lk_cons, lk_cons]
    split
    · rfl
    · rename_i hk
      exact ih (h.resolve_left (Ne.symm hk))
theorem lk_append_congr {ws s s' : List (Nat × α)} {t : Nat} (h : lk s t = lk s' t) : lk (ws ++ s) t = lk (ws ++ s') t := by
  by_cases hk : t ∈ keys ws
  · exact lk_append_some hk
  · rw [lk_append_none hk, lk_append_none hk, h]
theorem acc_false : ∀ (l : List (List (Nat × α))) (i : Nat) (s : List (Nat × α)), acc (fun _ => false) l i s = s
  | [], _, _ => rfl
  | ws :: r, i, s => by simp only [acc, Bool.false_eq_true, if_false, acc_false r]
theorem acc_congr {S S' : Nat → Bool} (t : Nat) : ∀ (l : List (List (Nat × α))) (i : Nat) (s s' : List (Nat × α)), lk s t = lk s' t →
    (∀ k ws, l[k]? = some ws → t ∈ keys ws → S (i + k) = S' (i + k)) → lk (acc S l i s) t = lk (acc S' l i s') t
  | [], _, _, _, h, _ => h
  | ws :: r, i, s, s', h, hS => by
    simp only [acc]
    refine acc_congr t r (i + 1) _ _ ?_ fun k ws' hk ht => by
      have := hS (k + 1) ws' (by simpa using hk) ht
      rwa [show i + (k + 1) = i + 1 + k from by omega] at this
    by_cases hk : t ∈ keys ws
    · have := hS 0 ws rfl hk
      simp only [Nat.add_zero] at this
      rw [this]
      split
      · exact lk_append_congr h
      · exact h
    · have h1 : lk (ws ++ s) t = lk s t := lk_append_none hk
      have h2 : lk (ws ++ s') t = lk s' t := lk_append_none hk
      split <;> split <;> simp [h1, h2, h]
theorem acc_last {S : Nat → Bool} (t : Nat) : ∀ (l : List (List (Nat × α))) (i : Nat) (s : List (Nat × α)) (j : Nat) (ws : List (Nat × α)), l[j]? = some ws → t ∈ keys ws → S (i + j) = true →
    (∀ k ws', l[k]? = some ws' → t ∈ keys ws' → S (i + k) = true → k ≤ j) → ∀ s', lk (acc S l i s) t = lk (ws ++ s') t
  | [], _, _, j, _, h, _, _, _, _ => by simp at h
  | w0 :: r, i, s, 0, ws, h, ht, hS, hk, s' => by
    simp only [List.getElem?_cons_zero, Option.some.injEq] at h
    subst h
    simp only [Nat.add_zero] at hS
    simp only [acc, hS, if_true]
    rw [acc_congr (S' := fun _ => false) t r (i + 1) _ (w0 ++ s) rfl ?_, acc_false]
    · exact lk_append_some ht
    · intro k ws' hk' ht'
      cases hb : S (i + 1 + k) with
      | false => rfl
      | true =>
        have := hk (k + 1) ws' (by simpa using hk') ht' (by rw [show i + (k + 1) = i + 1 + k from by omega]; exact hb)
        omega
  | w0 :: r, i, s, j + 1, ws, h, ht, hS, hk, s' => by
    simp only [acc]
    refine acc_last t r (i + 1) _ j ws (by simpa using h) ht (by rw [show i + 1 + j = i + (j + 1) from by omega]; exact hS) (fun k ws' hk' ht' hS' => ?_) s'
    have := hk (k + 1) ws' (by simpa using hk') ht' (by rw [show i + (k + 1) = i + 1 + k from by omega]; exact hS')
    omega
theorem acc_put {S S' : Nat → Bool} {l : List (List (Nat × α))} {s : List (Nat × α)} {j : Nat} {ws : List (Nat × α)} (hj : l[j]? = some ws) (hS : ∀ k, S' k = (S k || Nat.beq k j)) (t : Nat)
    (hw : ∀ k ws', l[k]? = some ws' → t ∈ keys ws → t ∈ keys ws' → S k = true → k < j) : lk (acc S' l 0 s) t = lk (ws ++ acc S l 0 s) t := by
  by_cases ht : t ∈ keys ws
  · refine acc_last t l 0 s j ws hj ht (by rw [hS]; simp) (fun k ws' hk ht' hSk => ?_) _
    rw [Nat.zero_add, hS, Bool.or_eq_true] at hSk
    rcases hSk with h | h
    · exact Nat.le_of_lt (hw k ws' hk ht ht' h)
    · exact Nat.le_of_eq (Nat.eq_of_beq_eq_true h)
  · rw [lk_append_none ht]
    refine acc_congr t l 0 s s rfl fun k ws' hk ht' => ?_
    rw [Nat.zero_add, hS]
    cases hb : Nat.beq k j with
    | false => simp
    | true =>
      have := Nat.eq_of_beq_eq_true hb
      subst this
      rw [hj] at hk
      cases hk
      exact absurd ht' ht
theorem acc_shift {S : Nat → Bool} : ∀ (l : List (List (Nat × α))) (i : Nat) (s : List (Nat × α)), acc S l (i + 1) s = acc (fun k => S (k + 1)) l i s
  | [], _, _ => rfl
  | ws :: r, i, s => by simp only [acc]; rw [acc_shift r]
end
def wsT (d : Option Nat) (v : AV) : List (Nat × AV) :=
  match d with
  | some d => [(d, v)]
  | none => []
theorem putT_wsT (tm : List (Nat × AV)) (d : Option Nat) (v : AV) : putT tm d v = wsT d v ++ tm := by cases d <;> rfl
section
variable {P : Program} {T : Tab} {c : Ctx}
def OKop (P : Program) (c : Ctx) (ops : Array Oper) (base : Nat) (o : Oper) (i : Nat) (v : AV) (ws : List (Nat × Box)) (e : Ent) (tm : List (Nat × AV)) (hp : List (Nat × Box)) : Prop :=
  ∀ (R : Real) (tm' : List (Nat × AV)) (hp' : List (Nat × Box)) (nx : Nat) (a : Act) (w : World), (∀ t ∈ e.look, lk tm' t = lk tm t) → (∀ b ∈ e.rd, lk hp' b = lk hp b) → base + i < nx →
    (∀ t, o.dst = some t → t < c.n) → Gam c R ⟨tm', nx, hp'⟩ a w → ∀ (ro : Option Nat) (Q : Exit → Act → World → Prop),
      if Region.wanted o (yielded ops a.tmps) then o.wpIn (W1 ro) 0 P a w (fun a' w' => ∃ R', Gam c R' ⟨wsT o.dst v ++ tm', nx, ws ++ hp'⟩ a' w') Q
      else ∃ R', Gam c R' ⟨wsT o.dst v ++ tm', nx, ws ++ hp'⟩ (a.put o.dst undef) w
theorem OKop.congr {ops : Array Oper} {base : Nat} {o : Oper} {i : Nat} {v : AV} {ws : List (Nat × Box)} {e : Ent} {tm tm2 : List (Nat × AV)} {hp hp2 : List (Nat × Box)}
    (h : OKop P c ops base o i v ws e tm hp) (ht : ∀ t, lk tm2 t = lk tm t) (hh : ∀ b, lk hp2 b = lk hp b) : OKop P c ops base o i v ws e tm2 hp2 := by
  intro R tm' hp' nx a w h1 h2 h3 h4 g ro Q
  exact h R tm' hp' nx a w (fun t htl => (h1 t htl).trans (ht t)) (fun b hb => (h2 b hb).trans (hh b)) h3 h4 g ro Q
theorem vex_det (hgen : gen T = false) {ops : List Oper} {base : Nat} {o : Oper} {i : Nat} {tm : List (Nat × AV)} {hp : List (Nat × Box)} {tr : List Ent} {kn : List (Nat × Bool)} {K : RC}
    (h : vex P T ops base o i tm hp tr kn K) : ∃ v ws e, K (wsT o.dst v ++ tm) (ws ++ hp) (e :: tr) kn ∧ e.dst = o.dst ∧ e.wr = keys ws ∧ (∀ d ∈ gslots ops o, d ∈ e.look) ∧
      ∀ tm' hp' tr', (∀ t ∈ e.look, lk tm' t = lk tm t) → (∀ b ∈ e.rd, lk hp' b = lk hp b) → ∀ K' : RC, K' (wsT o.dst v ++ tm') (ws ++ hp') (e :: tr') kn → vex P T ops base o i tm' hp' tr' kn K' := by
  unfold vex at h
  split at h
  · exact h.elim
  · rename_i hn
    obtain ⟨v, ws, ids, h1, h2⟩ := sop_det hgen h
    simp only [putF_eq, appF_eq, putT_wsT] at h1
    refine ⟨v, ws, _, h1, rfl, rfl, fun d hd => List.mem_append_left _ hd, fun tm' hp' tr' ht hb K' hK' => ?_⟩
    unfold vex
    rw [hb (base + i) (by simp), hn]
    simp only
    refine h2 tm' hp' (fun t hx => ht t (List.mem_append_right _ hx)) (fun b hx => hb b (List.mem_cons_of_mem _ hx)) _ ?_
    simp only [putF_eq, appF_eq, putT_wsT]
    exact hK'
theorem vskip_det {ops : List Oper} {o : Oper} {tm : List (Nat × AV)} {hp : List (Nat × Box)} {tr : List Ent} {kn : List (Nat × Bool)} {K : RC}
    (h : vskip ops o tm hp tr kn K) : ∃ v ws e, K (wsT o.dst v ++ tm) (ws ++ hp) (e :: tr) kn ∧ e.dst = o.dst ∧ e.wr = keys ws ∧ (∀ d ∈ gslots ops o, d ∈ e.look) ∧
      ∀ tm' hp' tr', (∀ t ∈ e.look, lk tm' t = lk tm t) → (∀ b ∈ e.rd, lk hp' b = lk hp b) → ∀ K' : RC, K' (wsT o.dst v ++ tm') (ws ++ hp') (e :: tr') kn → vskip ops o tm' hp' tr' kn K' := by
  unfold vskip at h
  simp only [putF_eq, putT_wsT] at h
  refine ⟨_, [], _, h, rfl, rfl, fun d hd => hd, fun tm' hp' tr' ht hb K' hK' => ?_⟩
  unfold vskip
  simp only [putF_eq, putT_wsT]
  exact hK'
theorem vgo_det (hgen : gen T = false) {ops : List Oper} {base : Nat} {o : Oper} {i : Nat} {wt : Bool} {tm : List (Nat × AV)} {hp : List (Nat × Box)} {tr : List Ent} {kn : List (Nat × Bool)} {K : RC}
    (h : vgo P T ops base o i wt tm hp tr kn K) : ∃ v ws e, K (wsT o.dst v ++ tm) (ws ++ hp) (e :: tr) kn ∧ e.dst = o.dst ∧ e.wr = keys ws ∧ (∀ d ∈ gslots ops o, d ∈ e.look) ∧
      ∀ tm' hp' tr', (∀ t ∈ e.look, lk tm' t = lk tm t) → (∀ b ∈ e.rd, lk hp' b = lk hp b) → ∀ K' : RC, K' (wsT o.dst v ++ tm') (ws ++ hp') (e :: tr') kn → vgo P T ops base o i wt tm' hp' tr' kn K' := by
  cases wt with
  | true => exact vex_det hgen h
  | false => exact vskip_det h
theorem vstep_det (hgen : gen T = false) {ops : List Oper} {base : Nat} {o : Oper} {i : Nat} {tm : List (Nat × AV)} {hp : List (Nat × Box)} {tr : List Ent} {kn : List (Nat × Bool)} {K : RC}
    (h : vstep P T ops base o i tm hp tr kn K) : ∃ v ws e kn' tm1, (∀ t, lk tm1 t = lk tm t) ∧ K (wsT o.dst v ++ tm1) (ws ++ hp) (e :: tr) kn' ∧ e.dst = o.dst ∧ e.wr = keys ws ∧
      ∀ tm' hp' tr', (∀ t ∈ e.look, lk tm' t = lk tm t) → (∀ b ∈ e.rd, lk hp' b = lk hp b) → ∀ K' : RC, (∀ tm1', (∀ t, lk tm1' t = lk tm' t) → K' (wsT o.dst v ++ tm1') (ws ++ hp') (e :: tr') kn') →
        vstep P T ops base o i tm' hp' tr' kn K' := by
  unfold vstep at h
  split at h
  · rename_i hg
    obtain ⟨v, ws, e, h1, h2, h3, h4, h5⟩ := vex_det hgen h
    refine ⟨v, ws, e, kn, tm, fun _ => rfl, h1, h2, h3, fun tm' hp' tr' ht hb K' hK' => ?_⟩
    unfold vstep
    rw [hg]
    exact h5 tm' hp' tr' ht hb K' (hK' tm' fun _ => rfl)
  · rename_i j want hg
    split at h
    · exact h.elim
    · rename_i d hd
      have hmem : d ∈ gslots ops o := by simp [gslots, hd]
      split at h
      · rename_i vv hv
        split at h
        · rename_i b
          split at h
          · rename_i kb hkn
            cases b with
            | true =>
              obtain ⟨v, ws, e, h1, h2, h3, h4, h5⟩ := vgo_det hgen h
              refine ⟨v, ws, e, kn, tm, fun _ => rfl, h1, h2, h3, fun tm' hp' tr' ht hb K' hK' => ?_⟩
              unfold vstep
              simp only [hg, hd, ht d (h4 d hmem), hv, hkn]
              exact h5 tm' hp' tr' ht hb K' (hK' tm' fun _ => rfl)
            | false =>
              obtain ⟨v, ws, e, h1, h2, h3, h4, h5⟩ := vgo_det hgen h
              refine ⟨v, ws, e, kn, tm, fun _ => rfl, h1, h2, h3, fun tm' hp' tr' ht hb K' hK' => ?_⟩
              unfold vstep
              simp only [hg, hd, ht d (h4 d hmem), hv, hkn]
              exact h5 tm' hp' tr' ht hb K' (hK' tm' fun _ => rfl)
          · rename_i hkn
            have same : ∀ (b' : Bool) (tm' : List (Nat × AV)), lk tm' d = some (.pv (.sc (.bool b'))) → ∀ t, lk ((d, AV.pv (.sc (.bool b'))) :: tm') t = lk tm' t := by
              intro b' tm' hb' t
              rw [lk_cons]
              split
              · rename_i e; rw [← e, hb']
              · rfl
            cases b with
            | true =>
              obtain ⟨v, ws, e, h1, h2, h3, h4, h5⟩ := vgo_det hgen (h.1 rfl)
              refine ⟨v, ws, e, _, _, same true tm hv, h1, h2, h3, fun tm' hp' tr' ht hb K' hK' => ?_⟩
              have hv' : lk tm' d = some (.pv (.sc (.bool true))) := (ht d (h4 d hmem)).trans hv
              unfold vstep
              simp only [hg, hd, hv', hkn]
              refine ⟨fun _ => h5 _ hp' tr' (fun t hx => ?_) hb K' (hK' _ (same true tm' hv')), fun h => (by cases h)⟩
              rw [same true tm' hv', same true tm hv]
              exact ht t hx
            | false =>
              obtain ⟨v, ws, e, h1, h2, h3, h4, h5⟩ := vgo_det hgen (h.2 rfl)
              refine ⟨v, ws, e, _, _, same false tm hv, h1, h2, h3, fun tm' hp' tr' ht hb K' hK' => ?_⟩
              have hv' : lk tm' d = some (.pv (.sc (.bool false))) := (ht d (h4 d hmem)).trans hv
              unfold vstep
              simp only [hg, hd, hv', hkn]
              refine ⟨fun h => (by cases h), fun _ => h5 _ hp' tr' (fun t hx => ?_) hb K' (hK' _ (same false tm' hv'))⟩
              rw [same false tm' hv', same false tm hv]
              exact ht t hx
        · obtain ⟨v, ws, e, h1, h2, h3, h4, h5⟩ := vskip_det h
          refine ⟨v, ws, e, kn, tm, fun _ => rfl, h1, h2, h3, fun tm' hp' tr' ht hb K' hK' => ?_⟩
          unfold vstep
          simp only [hg, hd, ht d (h4 d hmem), hv]
          exact h5 tm' hp' tr' ht hb K' (hK' tm' fun _ => rfl)
        · exact h.elim
      · exact h.elim
theorem vstep_ok (hT : TabOk P T) (hgen : gen T = false) {ops : Array Oper} {base : Nat} {o : Oper} {i : Nat} {tm : List (Nat × AV)} {hp : List (Nat × Box)} {tr : List Ent} {kn : List (Nat × Bool)} {K : RC}
    (h : vstep P T ops.toList base o i tm hp tr kn K) : ∃ v ws e kn' tm1, (∀ t, lk tm1 t = lk tm t) ∧ K (wsT o.dst v ++ tm1) (ws ++ hp) (e :: tr) kn' ∧ e.dst = o.dst ∧ e.wr = keys ws ∧
      OKop P c ops base o i v ws e tm hp := by
  obtain ⟨v, ws, e, kn', tm1, h1, h2, h3, h4, h5⟩ := vstep_det hgen h
  refine ⟨v, ws, e, kn', tm1, h1, h2, h3, h4, fun R tm' hp' nx a w ht hb hn hd g ro Q => ?_⟩
  have hv := h5 tm' hp' [] ht hb (fun tm2 hp2 _ _ => (∀ t, lk tm2 t = lk (wsT o.dst v ++ tm') t) ∧ hp2 = ws ++ hp') fun tm1' ht' => ⟨fun t => lk_append_congr (ht' t), rfl⟩
  have hs := vstep_sound (s := ⟨tm', nx, hp'⟩) g hT (ops := ops) hn hd hv ro Q
  split
  · rename_i hw
    rw [if_pos hw] at hs
    refine Oper.wpIn_mono ?_ hs
    rintro a' w' ⟨R', tm2, hp2, tr', kn2, ⟨hk, rfl⟩, g'⟩
    exact ⟨R', g'.congr (fun t => (hk t).symm) fun _ => rfl⟩
  · rename_i hw
    rw [if_neg hw] at hs
    obtain ⟨tm2, hp2, tr', kn2, ⟨hk, rfl⟩, g'⟩ := hs
    exact ⟨R, g'.congr (fun t => (hk t).symm) fun _ => rfl⟩
end
end Go.AX
end
section
namespace Go.AX
theorem memN_iff {x : Nat} : ∀ {l : List Nat}, memN x l = true ↔ x ∈ l
  | [] => by simp [memN]
  | y :: r => by
    simp only [memN, List.mem_cons]
    split
    · rename_i h; simp [Nat.eq_of_beq_eq_true h]
    · rename_i h
      have := Nat.ne_of_beq_eq_false h
      simp [this, memN_iff]
theorem meet_of {x : Nat} : ∀ {l l' : List Nat}, x ∈ l → x ∈ l' → meet l l' = true
  | [], _, h, _ => by simp at h
  | y :: r, l', h, h' => by
    simp only [meet]
    split
    · rfl
    · rename_i hm
      rcases List.mem_cons.1 h with rfl | h
      · rw [memN_iff.2 h'] at hm; cases hm
      · exact meet_of h h'
theorem keys_wsT (d : Option Nat) (v : AV) : keys (wsT d v) = dl d := by cases d <;> rfl
section
variable {P : Program} {T : Tab} {c : Ctx}
theorem vops_lex (hT : TabOk P T) (hg : gen T = false) {ops : Array Oper} {base : Nat} {K : RK} : ∀ (l : List Oper) (i : Nat) {tm : List (Nat × AV)} {hp : List (Nat × Box)} {tr : List Ent} {kn : List (Nat × Bool)},
    vops P T ops.toList base l i tm hp tr kn K → ∃ (wT : List (List (Nat × AV))) (wH : List (List (Nat × Box))) (es : List Ent) (tmf : List (Nat × AV)) (hpf : List (Nat × Box)),
      wT.length = l.length ∧ wH.length = l.length ∧ es.length = l.length ∧ K tmf hpf (es.reverse ++ tr) ∧ (∀ t, lk tmf t = lk (acc (fun _ => true) wT 0 tm) t) ∧ (∀ b, lk hpf b = lk (acc (fun _ => true) wH 0 hp) b) ∧
      ∀ k o, l[k]? = some o → ∃ v ws e, wT[k]? = some (wsT o.dst v) ∧ wH[k]? = some ws ∧ es[k]? = some e ∧ e.dst = o.dst ∧ e.wr = keys ws ∧
        OKop P c ops base o (i + k) v ws e (acc (fun x => Nat.blt x k) wT 0 tm) (acc (fun x => Nat.blt x k) wH 0 hp)
  | [], i, tm, hp, tr, kn, h => ⟨[], [], [], tm, hp, rfl, rfl, rfl, h, fun _ => rfl, fun _ => rfl, fun k o hk => by simp at hk⟩
  | o :: r, i, tm, hp, tr, kn, h => by
    simp only [vops] at h
    obtain ⟨v, ws, e, kn', tm1, h1, h2, h3, h4, h5⟩ := vstep_ok (c := c) hT hg h
    obtain ⟨wT, wH, es, tmf, hpf, l1, l2, l3, hK, hf, hf', hall⟩ := vops_lex hT hg r (i + 1) h2
    have e0 : (fun x => Nat.blt x 0) = fun _ => false := by
      funext x
      cases hb : Nat.blt x 0 with
      | false => rfl
      | true => rw [Nat.blt_eq] at hb; omega
    have e1 : ∀ k, (fun x => Nat.blt (x + 1) (k + 1)) = fun x => Nat.blt x k := by
      intro k
      funext x
      rw [Bool.eq_iff_iff, Nat.blt_eq, Nat.blt_eq]; omega
    have e2 : ∀ k, Nat.blt 0 (k + 1) = true := by intro k; rw [Nat.blt_eq]; omega
    have hst : ∀ (S : Nat → Bool) t, lk (acc S wT 0 (wsT o.dst v ++ tm1)) t = lk (acc S wT 0 (wsT o.dst v ++ tm)) t := fun S t => acc_congr t wT 0 _ _ (lk_append_congr (h1 t)) fun _ _ _ _ => rfl
    refine ⟨wsT o.dst v :: wT, ws :: wH, e :: es, tmf, hpf, by simp [l1], by simp [l2], by simp [l3], ?_, ?_, ?_, ?_⟩
    · simpa using hK
    · intro t
      rw [hf t, hst]
      simp only [acc, if_true, acc_shift]
    · intro b
      rw [hf' b]
      simp only [acc, if_true, acc_shift]
    · intro k o' hk
      cases k with
      | zero =>
        simp only [List.getElem?_cons_zero, Option.some.injEq] at hk
        subst hk
        refine ⟨v, ws, e, rfl, rfl, rfl, h3, h4, ?_⟩
        rw [e0, acc_false, acc_false]
        exact h5
      | succ k =>
        obtain ⟨v', ws', e', a1, a2, a3, a4, a5, a6⟩ := hall k o' (by simpa using hk)
        refine ⟨v', ws', e', by simpa using a1, by simpa using a2, by simpa using a3, a4, a5, ?_⟩
        rw [show i + (k + 1) = i + 1 + k from by omega]
        refine a6.congr (fun t => ?_) fun b => ?_
        · simp only [acc, e2, if_true, acc_shift, e1]
          exact (hst _ t).symm
        · simp only [acc, e2, if_true, acc_shift, e1]
theorem nth_append_lt {α : Type} {l l' : List α} {k : Nat} (h : k < l.length) : nth (l ++ l') k = nth l k := by
  rw [nth_eq, nth_eq, List.getElem?_append_left h]
def Closed (ops : List Oper) (S : Nat → Bool) : Prop := ∀ k o, ops[k]? = some o → S k = true → ∀ e ∈ o.after.toList, Region.binds .any e = true → S e.on = true
theorem ancs_closed {S : Nat → Bool} {tbl : List Nat} (htbl : ∀ k m, nth tbl k = some m → S k = true → ∀ x, m.testBit x = true → S x = true) : ∀ (es : List Edge),
    (∀ e ∈ es, Region.binds .any e = true → S e.on = true) → ∀ x, (ancs tbl es).testBit x = true → S x = true
  | [], _, x, h => by simp [ancs] at h
  | e :: r, hS, x, h => by
    simp only [ancs] at h
    split at h
    · rename_i hb
      have hon := hS e (by simp) hb
      rw [Nat.testBit_or, Nat.testBit_or, Bool.or_eq_true, Bool.or_eq_true] at h
      rcases h with (h | h) | h
      · rw [Nat.testBit_two_pow] at h
        simp only [decide_eq_true_eq] at h
        rw [← h]; exact hon
      · split at h
        · rename_i m hm
          exact htbl e.on m hm hon x h
        · simp at h
      · exact ancs_closed htbl r (fun e' he' => hS e' (by simp [he'])) x h
    · exact ancs_closed htbl r (fun e' he' => hS e' (by simp [he'])) x h
theorem edgesOk_spec {i : Nat} : ∀ {es : List Edge}, edgesOk i es = true → ∀ e ∈ es, Region.binds .any e = true → e.on < i
  | [], _, e, he, _ => by simp at he
  | x :: r, h, e, he, hb => by
    simp only [edgesOk] at h
    split at h
    · rw [Bool.and_eq_true] at h
      rcases List.mem_cons.1 he with rfl | he
      · have := h.1; rwa [Nat.blt_eq] at this
      · exact edgesOk_spec h.2 e he hb
    · rename_i hx
      rcases List.mem_cons.1 he with rfl | he
      · rw [hb] at hx; cases hx
      · exact edgesOk_spec h e he hb
theorem clearOf_spec {e : Ent} {m : Nat} : ∀ {l : List Ent} {k0 : Nat}, clearOf e m l k0 = true → ∀ k x, l[k]? = some x → confl x e = true → m.testBit (k0 + k) = true
  | [], _, _, k, x, hk, _ => by simp at hk
  | y :: r, k0, h, k, x, hk, hc => by
    simp only [clearOf, Bool.and_eq_true, Bool.or_eq_true, Bool.not_eq_true'] at h
    cases k with
    | zero =>
      simp only [List.getElem?_cons_zero, Option.some.injEq] at hk
      subst hk
      exact h.1.resolve_left (by simp [hc])
    | succ k =>
      have := clearOf_spec h.2 k x (by simpa using hk) hc
      rwa [show k0 + 1 + k = k0 + (k + 1) from by omega] at this
def Sep (ops : List Oper) (es : List Ent) (S : Nat → Bool) (i : Nat) (o : Oper) (e : Ent) : Prop :=
  (∀ ed ∈ o.after.toList, Region.binds .any ed = true → ed.on < i) ∧
  ((∀ ed ∈ o.after.toList, Region.binds .any ed = true → S ed.on = true) → ∀ k x, k < i → es[k]? = some x → confl x e = true → S k = true)
theorem fpGo_spec {ops : List Oper} {all : List Ent} {S : Nat → Bool} (hS : Closed ops S) : ∀ (r : List Oper) (es : List Ent) (i : Nat) (tbl : List Nat), fpGo all r es i tbl = true →
    ops.drop i = r → all.drop i = es → tbl.length = i → (∀ k m, nth tbl k = some m → S k = true → ∀ x, m.testBit x = true → S x = true) →
    ∀ k o, r[k]? = some o → ∃ e, es[k]? = some e ∧ Sep ops all S (i + k) o e
  | [], es, i, tbl, _, _, _, _, _, k, o, hk => by simp at hk
  | o0 :: r, es, i, tbl, h, hops, hes, hlen, htbl, k, o, hk => by
    simp only [fpGo] at h
    cases es with
    | nil => simp at h
    | cons e0 es =>
      simp only [Bool.and_eq_true] at h
      obtain ⟨h1, h2, h3⟩ := h
      have ho0 : ops[i]? = some o0 := by
        have := congrArg (fun l => l[0]?) hops
        simpa using this
      have hanc : (∀ e ∈ o0.after.toList, Region.binds .any e = true → S e.on = true) → ∀ x, (ancs tbl o0.after.toList).testBit x = true → S x = true := fun he => ancs_closed htbl _ he
      cases k with
      | zero =>
        simp only [List.getElem?_cons_zero, Option.some.injEq] at hk
        subst hk
        refine ⟨e0, rfl, fun ed hed hb => edgesOk_spec h1 ed hed hb, fun he k x hki hx hc => ?_⟩
        have := clearOf_spec h2 k x (by rw [List.getElem?_take]; simp only [Nat.add_zero] at hki; rw [if_pos hki]; exact hx) hc
        rw [Nat.zero_add] at this
        exact hanc he k this
      | succ k =>
        obtain ⟨e, he, hsep⟩ := fpGo_spec hS r es (i + 1) (tbl ++ [ancs tbl o0.after.toList]) h3 (by rw [← List.drop_drop, hops]; rfl) (by rw [← List.drop_drop, hes]; rfl) (by simp [hlen])
          (fun k' m hk' hSk x hx => by
            rcases Nat.lt_or_ge k' tbl.length with hlt | hge
            · rw [nth_append_lt hlt] at hk'
              exact htbl k' m hk' hSk x hx
            · rw [nth_eq, List.getElem?_append_right hge] at hk'
              have : k' - tbl.length = 0 := by
                rcases Nat.eq_zero_or_pos (k' - tbl.length) with h | h
                · exact h
                · rw [List.getElem?_eq_none (by simp; omega)] at hk'; cases hk'
              rw [this] at hk'
              simp only [List.getElem?_cons_zero, Option.some.injEq] at hk'
              subst hk'
              have hki : k' = i := by omega
              subst hki
              exact hanc (fun ed hed hb => hS _ o0 ho0 hSk ed hed hb) x hx)
          k o (by simpa using hk)
        refine ⟨e, by simpa using he, ?_⟩
        rw [show i + (k + 1) = i + 1 + k from by omega]
        exact hsep
end
end Go.AX
end
section
namespace Go.AX
section
variable {P : Program} {T : Tab} {c : Ctx}
theorem dstOk_spec {n : Nat} : ∀ {l : List Oper}, dstOk n l = true → ∀ (k : Nat) (o : Oper), l[k]? = some o → ∀ t, o.dst = some t → t < n
  | [], _, k, o, hk, _, _ => by simp at hk
  | x :: r, h, k, o, hk, t, ht => by
    simp only [dstOk] at h
    cases k with
    | zero =>
      simp only [List.getElem?_cons_zero, Option.some.injEq] at hk
      subst hk
      rw [ht] at h
      simp only at h
      split at h
      · rename_i hb; rwa [Nat.blt_eq] at hb
      · cases h
    | succ k =>
      refine dstOk_spec (l := r) ?_ k o (by simpa using hk) t ht
      split at h
      · split at h
        · exact h
        · cases h
      · exact h
theorem confl_look {x y : Ent} {t : Nat} (h : t ∈ dl x.dst) (h' : t ∈ y.look) : confl x y = true ∧ confl y x = true := by
  constructor <;> simp [confl, meet_of h h']
theorem confl_dst {x y : Ent} {t : Nat} (h : t ∈ dl x.dst) (h' : t ∈ dl y.dst) : confl x y = true ∧ confl y x = true := by
  constructor <;> simp [confl, meet_of h h', meet_of h' h]
theorem confl_rd {x y : Ent} {t : Nat} (h : t ∈ x.wr) (h' : t ∈ y.rd) : confl x y = true ∧ confl y x = true := by
  constructor <;> simp [confl, meet_of h h']
theorem confl_wr {x y : Ent} {t : Nat} (h : t ∈ x.wr) (h' : t ∈ y.wr) : confl x y = true ∧ confl y x = true := by
  constructor <;> simp [confl, meet_of h h', meet_of h' h]
theorem any_ok {ops : Array Oper} {base nx : Nat} {tm : List (Nat × AV)} {hp : List (Nat × Box)} {wT : List (List (Nat × AV))} {wH : List (List (Nat × Box))} {es : List Ent} {Q : Exit → Act → World → Prop}
    (hall : ∀ k o, ops.toList[k]? = some o → ∃ v ws e, wT[k]? = some (wsT o.dst v) ∧ wH[k]? = some ws ∧ es[k]? = some e ∧ e.dst = o.dst ∧ e.wr = keys ws ∧
        OKop P c ops base o k v ws e (acc (fun x => Nat.blt x k) wT 0 tm) (acc (fun x => Nat.blt x k) wH 0 hp))
    (hlT : wT.length = ops.size) (hlH : wH.length = ops.size) (hfp : fpOK ops.toList es = true) (hn : base + ops.size ≤ nx) (hd : dstOk c.n ops.toList = true)
    (ro : Option Nat) (hfin : ∀ R a w, Gam c R ⟨acc (fun _ => true) wT 0 tm, nx, acc (fun _ => true) wH 0 hp⟩ a w → Q .normal a w) :
    ∀ (fuel : Nat) (listed : Array Bool) (R : Real) (a : Act) (w : World), listed.size = ops.size → Closed ops.toList (fun k => listed.getD k false) → listed.toList.count false ≤ fuel →
      Gam c R ⟨acc (fun k => listed.getD k false) wT 0 tm, nx, acc (fun k => listed.getD k false) wH 0 hp⟩ a w → wpAnyIn (W1 ro) 0 P .any ops Q fuel listed a w := by
  -- nothing is ready: all is done
  have hedge : ∀ k o, ops[k]? = some o → ∀ ed ∈ o.after.toList, Region.binds .any ed = true → ed.on < k := by
    intro k o ho
    obtain ⟨e, _, hs⟩ := fpGo_spec (S := fun _ => true) (fun _ _ _ _ _ _ _ => rfl) ops.toList es 0 [] hfp rfl rfl rfl (fun _ m h => by simp [nth] at h) k o (by rw [Array.getElem?_toList]; exact ho)
    have := hs.1
    rwa [Nat.zero_add] at this
  have hdone : ∀ listed : Array Bool, listed.size = ops.size → Region.ready .any ops listed = [] → ∀ k, k < ops.size → listed.getD k false = true := by
    intro listed hsz hr k
    induction k using Nat.strongRecOn with
    | ind k ih =>
      intro hk
      cases hb : listed.getD k false with
      | true => rfl
      | false =>
        exfalso
        have : k ∈ Region.ready .any ops listed := by
          rw [mem_ready]
          refine ⟨?_, ops[k], by simp [hk], fun ed hed hbd => ?_⟩
          · have hk' : k < listed.size := by omega
            simp [hk'] at hb ⊢
            exact hb
          · have hlt := hedge k ops[k] (by simp [hk]) ed (by simpa using hed) hbd
            exact ih ed.on hlt (by omega)
        rw [hr] at this
        simp at this
  have hend : ∀ (listed : Array Bool) (R : Real) (a : Act) (w : World), listed.size = ops.size → Region.ready .any ops listed = [] →
      Gam c R ⟨acc (fun k => listed.getD k false) wT 0 tm, nx, acc (fun k => listed.getD k false) wH 0 hp⟩ a w → Q .normal a w := by
    intro listed R a w hsz hr g
    refine hfin R a w (g.congr (fun t => acc_congr t wT 0 _ _ rfl fun k ws hk _ => ?_) fun b => acc_congr b wH 0 _ _ rfl fun k ws hk _ => ?_)
    · rw [Nat.zero_add]
      exact (hdone listed hsz hr k (by rw [← hlT]; exact (List.getElem?_eq_some_iff.1 hk).1)).symm
    · rw [Nat.zero_add]
      exact (hdone listed hsz hr k (by rw [← hlH]; exact (List.getElem?_eq_some_iff.1 hk).1)).symm
  intro fuel
  induction fuel with
  | zero =>
    intro listed R a w hsz hcl hc g
    have hr : Region.ready .any ops listed = [] := by
      cases hr : Region.ready .any ops listed with
      | nil => rfl
      | cons j r =>
        exfalso
        have hj : j ∈ Region.ready .any ops listed := by rw [hr]; simp
        rw [mem_ready] at hj
        obtain ⟨h0, o, ho, _⟩ := hj
        have hjl : j < listed.size := by rw [hsz]; exact (Array.getElem?_eq_some_iff.1 ho).1
        have : false ∈ listed.toList := by
          have : listed[j] = false := by simpa [hjl] using h0
          rw [← this]; simp
        have := List.count_pos_iff.2 this
        omega
    exact ⟨hr, hend listed R a w hsz hr g⟩
  | succ fuel ih =>
    intro listed R a w hsz hcl hc g
    refine ⟨fun hr => hend listed R a w hsz hr g, fun i hi => ?_⟩
    rw [mem_ready] at hi
    obtain ⟨h0, o, ho, hpre⟩ := hi
    have hio : i < ops.size := (Array.getElem?_eq_some_iff.1 ho).1
    have hil : i < listed.size := by omega
    have hif : listed.getD i false = false := by simpa [hil] using h0
    have hol : ops.toList[i]? = some o := by rw [Array.getElem?_toList]; exact ho
    obtain ⟨v, ws, e, a1, a2, a3, a4, a5, a6⟩ := hall i o hol
    have hsep : ∀ k o', ops.toList[k]? = some o' → ∃ e, es[k]? = some e ∧ Sep ops.toList es (fun k => listed.getD k false) k o' e := by
      intro k o' hk
      have := fpGo_spec hcl ops.toList es 0 [] hfp rfl rfl rfl (fun _ m h => by simp [nth] at h) k o' hk
      rwa [Nat.zero_add] at this
    -- who runs into operation i is done when it is ahead of it in the text, and is not when it is behind
    have hS : ∀ k x, es[k]? = some x → k < ops.size → confl x e = true → confl e x = true → listed.getD k false = Nat.blt k i := by
      intro k x hx hk hc1 hc2
      rcases Nat.lt_trichotomy k i with hlt | heq | hgt
      · obtain ⟨e', he', hs⟩ := hsep i o hol
        rw [a3] at he'; cases he'
        have hk1 : listed.getD k false = true := hs.2 (fun ed hed hb => hpre ed (by simpa using hed) hb) k x hlt hx hc1
        have hk2 : Nat.blt k i = true := by rw [Nat.blt_eq]; exact hlt
        rw [hk1, hk2]
      · subst heq
        rw [hif]
        cases hb : Nat.blt k k with
        | false => rfl
        | true => rw [Nat.blt_eq] at hb; omega
      · have hb' : Nat.blt k i = false := by
          cases hb : Nat.blt k i with
          | false => rfl
          | true => rw [Nat.blt_eq] at hb; omega
        rw [hb']
        cases hb : listed.getD k false with
        | false => rfl
        | true =>
          exfalso
          have hok : ops.toList[k]? = some ops[k] := by simp [hk]
          obtain ⟨e', he', hs⟩ := hsep k ops[k] hok
          rw [hx] at he'; cases he'
          have := hs.2 (fun ed hed hbd => hcl k ops[k] hok hb ed hed hbd) i e hgt a3 hc2
          simp only at this
          rw [hif] at this
          cases this
    have hents : ∀ k, k < ops.size → ∃ o' v' ws' e', ops[k]? = some o' ∧ wT[k]? = some (wsT o'.dst v') ∧ wH[k]? = some ws' ∧ es[k]? = some e' ∧ e'.dst = o'.dst ∧ e'.wr = keys ws' := by
      intro k hk
      obtain ⟨v', ws', e', b1, b2, b3, b4, b5, _⟩ := hall k ops[k] (by simp [hk])
      exact ⟨ops[k], v', ws', e', by simp [hk], b1, b2, b3, b4, b5⟩
    have hTk : ∀ k ws', wT[k]? = some ws' → ∃ e', es[k]? = some e' ∧ k < ops.size ∧ keys ws' = dl e'.dst := by
      intro k ws' hk
      have hkn : k < ops.size := by rw [← hlT]; exact (List.getElem?_eq_some_iff.1 hk).1
      obtain ⟨o', v', w', e', _, b1, _, b3, b4, _⟩ := hents k hkn
      rw [hk] at b1
      simp only [Option.some.injEq] at b1
      exact ⟨e', b3, hkn, by rw [b1, keys_wsT, b4]⟩
    have hHk : ∀ k ws', wH[k]? = some ws' → ∃ e', es[k]? = some e' ∧ k < ops.size ∧ keys ws' = e'.wr := by
      intro k ws' hk
      have hkn : k < ops.size := by rw [← hlH]; exact (List.getElem?_eq_some_iff.1 hk).1
      obtain ⟨o', v', w', e', _, _, b2, b3, _, b5⟩ := hents k hkn
      rw [hk] at b2
      simp only [Option.some.injEq] at b2
      exact ⟨e', b3, hkn, by rw [b2, b5]⟩
    have hop := a6 R _ _ nx a w (fun t ht => acc_congr (S := fun k => listed.getD k false) t wT 0 tm tm rfl fun k ws' hk htk => by
        obtain ⟨e', he', hkn, hke⟩ := hTk k ws' hk
        rw [Nat.zero_add]
        rw [hke] at htk
        exact hS k e' he' hkn (confl_look htk ht).1 (confl_look htk ht).2)
      (fun b hb => acc_congr (S := fun k => listed.getD k false) b wH 0 hp hp rfl fun k ws' hk htk => by
        obtain ⟨e', he', hkn, hke⟩ := hHk k ws' hk
        rw [Nat.zero_add]
        rw [hke] at htk
        exact hS k e' he' hkn (confl_rd htk hb).1 (confl_rd htk hb).2)
      (by omega) (fun t ht => dstOk_spec hd i o hol t ht) g ro Q
    have hS' : ∀ k, (listed.setIfInBounds i true).getD k false = (listed.getD k false || Nat.beq k i) := by
      intro k
      by_cases hki : k = i
      · subst hki
        simp [hil]
      · rw [getD_set_ne false (Ne.symm hki)]
        cases hb : Nat.beq k i with
        | false => simp
        | true => exact absurd (Nat.eq_of_beq_eq_true hb) hki
    have hnext : ∀ R' a' w', Gam c R' ⟨wsT o.dst v ++ acc (fun k => listed.getD k false) wT 0 tm, nx, ws ++ acc (fun k => listed.getD k false) wH 0 hp⟩ a' w' →
        wpAnyIn (W1 ro) 0 P .any ops Q fuel (listed.setIfInBounds i true) a' w' := by
      intro R' a' w' g'
      refine ih _ R' a' w' (by simp [hsz]) ?_ ?_ (g'.congr (fun t => ?_) fun b => ?_)
      · intro k o' hk hSk ed hed hb
        simp only at hSk ⊢
        rw [hS', Bool.or_eq_true] at hSk ⊢
        rcases hSk with h | h
        · exact .inl (hcl k o' hk h ed hed hb)
        · have := Nat.eq_of_beq_eq_true h
          subst this
          rw [hol] at hk
          cases hk
          exact .inl (hpre ed (by simpa using hed) hb)
      · rw [Array.toList_setIfInBounds, List.count_set (by simpa using hil)]
        have : listed.toList[i]'(by simpa using hil) = false := by simpa [hil] using h0
        have hm : false ∈ listed.toList := by rw [← this]; simp
        have hp := List.count_pos_iff.2 hm
        rw [this]
        show listed.toList.count false - 1 + 0 ≤ fuel
        omega
      · refine acc_put a1 hS' t fun k ws' hk ht ht' hSk => ?_
        obtain ⟨e', he', hkn, hke⟩ := hTk k ws' hk
        rw [hke] at ht'
        rw [keys_wsT, ← a4] at ht
        rw [hS k e' he' hkn (confl_dst ht' ht).1 (confl_dst ht' ht).2] at hSk
        rwa [Nat.blt_eq] at hSk
      · refine acc_put a2 hS' b fun k ws' hk ht ht' hSk => ?_
        obtain ⟨e', he', hkn, hke⟩ := hHk k ws' hk
        rw [hke] at ht'
        rw [← a5] at ht
        rw [hS k e' he' hkn (confl_wr ht' ht).1 (confl_wr ht' ht).2] at hSk
        rwa [Nat.blt_eq] at hSk
    unfold wpOpIn
    rw [ho]
    simp only
    split
    · rename_i hw
      rw [if_pos hw] at hop
      exact Oper.wpIn_mono (fun a' w' ⟨R', g'⟩ => hnext R' a' w' g') hop
    · rename_i hw
      rw [if_neg hw] at hop
      obtain ⟨R', g'⟩ := hop
      exact ⟨fun _ _ => trivial, hnext R' _ w g'⟩
theorem Gam.drawn {R : Real} {s : AS} {a : Act} {w : World} (g : Gam c R s a w) (n : Nat) : Gam c R s a { w with drawn := n } := by
  have hN : ∀ r, r < w.heap.size → Nof c R s.hp r → Nof c R s.hp r := fun r _ h => h
  have hw : ∀ r, r < w.heap.size → ¬ Nof c R s.hp r → ({ w with drawn := n } : World).heap[r]? = w.heap[r]? := fun _ _ _ => rfl
  have h1 : ∀ b off v, refPtr R b off v (lk s.hp b) → refPtr R b off v (lk s.hp b) := fun b off v h => h
  have h2 : ∀ b ver v, refSl R b ver v (lk s.hp b) → refSl R b ver v (lk s.hp b) := fun b ver v h => h
  have h3 : ∀ b ver i off v, refAp R b ver i off v (lk s.hp b) → refAp R b ver i off v (lk s.hp b) := fun b ver i off v h => h
  refine ⟨fun t v hv => ?_, g.size, g.lo, g.marks.imp fun Ds hm => hm.kept (fun _ _ _ => rfl) (fun _ _ h => h), g.fixed.kept (fun _ _ _ => rfl) (fun _ _ h => h), fun b box hb => ?_, g.inj, g.free, ⟨g.evo.size, g.evo.keep, g.evo.os, g.evo.tape, g.evo.output⟩, g.own0, fun v x h => repA_mono hN hw h1 h2 h3 v x (g.kept v x h)⟩
  · obtain ⟨x, hx, hr⟩ := g.slots t v hv
    exact ⟨x, hx, repA_mono hN hw h1 h2 h3 v x hr⟩
  · have hr := g.boxes b box hb
    cases box with
    | var cells =>
      simp only [realz] at hr ⊢
      obtain ⟨cur, e, ha, hb⟩ := hr
      exact ⟨cur, e, ha, repAC_mono hN hw h1 h2 h3 cells _ hb⟩
    | rov cells =>
      simp only [realz] at hr ⊢
      obtain ⟨cur, e, fr, ha, hn, hb⟩ := hr
      exact ⟨cur, e, fr, ha, hn, repP_mono hN hw cells _ hb⟩
    | arr e ver st rows =>
      simp only [realz] at hr ⊢
      obtain ⟨xs, ha, hb⟩ := hr
      exact ⟨xs, ha, repR_mono hN hw st rows xs hb⟩
    | roa ver st rows =>
      simp only [realz] at hr ⊢
      exact rep_mono hN hw _ _ hr
    | tr y ver rest st =>
      obtain ⟨k0, kh, k1, k2, k3, k4⟩ := hr
      exact ⟨k0, kh, k1, ⟨k2.size, k2.keep, k2.os, k2.tape, k2.output⟩, k3, k4⟩
theorem draw_ok (hm : P.follows .mixedOrders = true) (hT : TabOk P T) (hg : gen T = false := by rfl) : ∀ (c : Ctx) (R : Real) (s : AS) (a : Act) (w : World) (id : Nat) (ops : Array Oper) (K : Exit → AS → Prop) (ro : Option Nat), Gam c R s a w → dstOk c.n ops.toList = true →
      VC P T (.region id ops true) s K → (Code.region id ops true).wpIn (W1 ro) 0 P (fun e a' w' => ∃ R' s', K e s' ∧ Gam c R' s' a' w') a w := by
  intro c R s a w id ops K ro g hd h
  simp only [VC] at h
  obtain ⟨tm, nx, hp⟩ := s
  simp only at h
  split at h
  · rename_i hb
    have hb := Nat.le_of_ble_eq_true hb
    obtain ⟨wT, wH, es, tmf, hpf, l1, l2, l3, ⟨hfp, hK⟩, hf, hf', hall⟩ := vops_lex (c := c) hT hg ops.toList 0 h
    simp only [List.append_nil, List.reverse_reverse] at hfp
    have g0 : Gam c R ⟨tm, nx, hp⟩ a { w with drawn := w.drawn + 1 } := g.drawn _
    have hfalse : (fun k => (Array.replicate ops.size false).getD k false) = fun _ => false := by
      funext k
      simp only [Array.getD_eq_getD_getElem?, Array.getElem?_replicate]
      split <;> rfl
    refine wpIn_region_any hm (any_ok (hall := fun k o hk => by
      have := hall k o hk
      rwa [Nat.zero_add] at this) (by simpa using l1) (by simpa using l2) hfp (by simpa using hb) hd ro ?_ ops.size _ R a _ (by simp) ?_ ?_ ?_)
    · intro R' a' w' g'
      exact ⟨R', _, hK, g'.congr hf hf'⟩
    · intro k o hk hS
      have := congrFun hfalse k
      rw [hfalse] at hS
      cases hS
    · simp
    · rw [hfalse, acc_false, acc_false]
      exact g0
  · exact h.elim
end
end Go.AX
end
section
namespace Go.AX
section
variable {P : Program} {T : Tab}
theorem PC.mono {f : FuncId} {args : List PV} {Q Q' : PV → Prop} (h : PC P f args Q) (hq : ∀ r, Q r → Q' r) : PC P f args Q' :=
  ⟨h.1, fun F w cargs hF ha => (h.2 F w cargs hF ha).mono fun e w' ⟨v, r, a, b, c, d⟩ => ⟨v, r, a, hq r b, c, d⟩⟩
theorem PC.le {f : FuncId} {args : List PV} {r : PV} (h : PC P f args fun x => leQ x r) : PCx P f args r :=
  ⟨h.1, fun F w cargs hF ha => (h.2 F w cargs hF ha).mono fun e w' ⟨v, x, a, b, c, d⟩ => ⟨v, r, a, rfl, leQ_sound (fun _ h => h) _ _ _ b c, d⟩⟩
theorem PCx_pre {f : FuncId} {args args0 : List PV} {r : PV} (h : PCx P f args0 r) (e : leQs args args0) : PCx P f args r :=
  ⟨h.1, fun F w cargs hF ha => h.2 F w cargs hF (leQsL_sound (fun _ h => h) _ _ _ e ha)⟩
def entG (args : List AV) (hp : List (Nat × Box)) (args0 : List AV) (hp0 : List (Nat × Box)) : Prop :=
  match lowRho hp with
  | ρ0 => match mt hp hp0 1000 ρ0 (lowPairs hp hp0 ρ0 (pairs args args0 [])) with
    | some ρ => match rhoFit ρ hp hp0 with
      | true => leHs ρ hp hp0 (les ρ args args0)
      | false => False
    | none => False
theorem GCx_pre {f : FuncId} {args args0 : List AV} {hp hp0 : List (Nat × Box)} {r : AV} {hp' : List (Nat × Box)} (h : GCx P f args0 hp0 r hp') (e : entG args hp args0 hp0) : GCx P f args hp r hp' := by
  refine ⟨h.1, fun c R w cargs hh ha => ?_⟩
  simp only [entG] at e
  split at e
  · rename_i ρ _
    split at e
    · rename_i hf
      have H := leH_of hf e
      exact h.2 c (renR ρ R) w cargs (hh.weaken H) (lesL_sound H _ _ _ (leHs_out e) ha)
    · exact e.elim
  · exact e.elim
theorem rep_nn {N : Nat → Prop} {w : World} {st : Nat} {rows : List (List PV)} {v : Value} (h : rep N w (.sl false st rows) v) :
    rep N w (.sl true st rows) v ∨ (rows = [] ∧ rep N w (.sc (.slice none 0 0)) v) := by
  simp only [rep] at h ⊢
  obtain ⟨p, len, cap, rfl, h2, h3, h4, h5⟩ := h
  cases p with
  | none =>
    obtain ⟨_, h6⟩ := h4 rfl
    subst h6
    have : len = 0 := by omega
    subst this
    exact .inr ⟨List.eq_nil_of_length_eq_zero h2.symm, rfl⟩
  | some a => exact .inl ⟨some a, len, cap, rfl, h2, h3, fun h => (by cases h), h5⟩
theorem repL_nn {N : Nat → Prop} {w : World} {st : Nat} {rows : List (List PV)} {b : List PV} : ∀ {a : List PV} {vs : List Value}, repL N w (a ++ .sl false st rows :: b) vs →
    repL N w (a ++ .sl true st rows :: b) vs ∨ (rows = [] ∧ repL N w (a ++ .sc (.slice none 0 0) :: b) vs)
  | [], vs, h => by
    simp only [List.nil_append, repL] at h ⊢
    obtain ⟨v, r, e, h1, h2⟩ := h
    rcases rep_nn h1 with h1 | ⟨h0, h1⟩
    · exact .inl ⟨v, r, e, h1, h2⟩
    · exact .inr ⟨h0, v, r, e, h1, h2⟩
  | x :: a, vs, h => by
    simp only [List.cons_append, repL] at h ⊢
    obtain ⟨v, r, e, h1, h2⟩ := h
    rcases repL_nn h2 with h2 | ⟨h0, h2⟩
    · exact .inl ⟨v, r, e, h1, h2⟩
    · exact .inr ⟨h0, v, r, e, h1, h2⟩
theorem PC_nn {f : FuncId} (a : List PV) {b : List PV} {st : Nat} {rows : List (List PV)} {Q : PV → Prop} (h1 : PC P f (a ++ .sl true st rows :: b) Q)
    (h2 : rows = [] → PC P f (a ++ .sc (.slice none 0 0) :: b) Q) : PC P f (a ++ .sl false st rows :: b) Q :=
  ⟨h1.1, fun F w cargs hF ha => by
    rcases repL_nn ha with h | ⟨h0, h⟩
    · exact h1.2 F w cargs hF h
    · exact (h2 h0).2 F w cargs hF h⟩
theorem repAL_nn {N : Nat → Prop} {w : World} {hp : List (Nat × Box)} {R : Real} {st : Nat} {rows : List (List PV)} {b : List AV} : ∀ {a : List AV} {vs : List Value}, repAL N w hp R (a ++ .pv (.sl false st rows) :: b) vs →
    repAL N w hp R (a ++ .pv (.sl true st rows) :: b) vs ∨ (rows = [] ∧ repAL N w hp R (a ++ .pv (.sc (.slice none 0 0)) :: b) vs)
  | [], vs, h => by
    simp only [List.nil_append, repAL] at h ⊢
    obtain ⟨v, r, e, h1, h2⟩ := h
    simp only [repA] at h1 ⊢
    rcases rep_nn h1 with h1 | ⟨h0, h1⟩
    · exact .inl ⟨v, r, e, h1, h2⟩
    · exact .inr ⟨h0, v, r, e, h1, h2⟩
  | x :: a, vs, h => by
    simp only [List.cons_append, repAL] at h ⊢
    obtain ⟨v, r, e, h1, h2⟩ := h
    rcases repAL_nn h2 with h2 | ⟨h0, h2⟩
    · exact .inl ⟨v, r, e, h1, h2⟩
    · exact .inr ⟨h0, v, r, e, h1, h2⟩
theorem GC_nn {f : FuncId} (a : List AV) {b : List AV} {hp : List (Nat × Box)} {st : Nat} {rows : List (List PV)} {Q : AV → List (Nat × Box) → Prop} (h1 : GC P f (a ++ .pv (.sl true st rows) :: b) hp Q)
    (h2 : rows = [] → GC P f (a ++ .pv (.sc (.slice none 0 0)) :: b) hp Q) : GC P f (a ++ .pv (.sl false st rows) :: b) hp Q :=
  ⟨h1.1, fun c R w cargs hh ha => by
    rcases repAL_nn ha with h | ⟨h0, h⟩
    · exact h1.2 c R w cargs hh h
    · exact (h2 h0).2 c R w cargs hh h⟩
mutual
def bdP : PV → Prop
  | .sl _ _ rows => rows.length ≤ 9223372036854775807
  | .agg cs => bdL cs
  | _ => True
def bdL : List PV → Prop
  | [] => True
  | p :: r => bdP p ∧ bdL r
end
mutual
theorem bdP_of {N : Nat → Prop} {w : World} : ∀ (p : PV) (v : Value), rep N w p v → bdP p
  | .sl _ _ rows, v, h => by
    simp only [rep] at h
    obtain ⟨p, len, cap, _, h2, h3, _⟩ := h
    simp only [bdP]; omega
  | .agg cs, v, h => by
    simp only [rep] at h
    obtain ⟨vs, _, h⟩ := h
    simp only [bdP]
    exact bdC_of cs _ h
  | .sc _, _, _ => by simp only [bdP]
  | .tup _, _, _ => by simp only [bdP]
  | .eptr _ _, _, _ => by simp only [bdP]
  | .fn _ _ _, _, _ => by simp only [bdP]
  | .junk, _, _ => by simp only [bdP]
theorem bdC_of {N : Nat → Prop} {w : World} : ∀ (ps : List PV) (vs : List Value), repC N w ps vs → bdL ps
  | [], _, _ => trivial
  | p :: ps, vs, h => by
    simp only [repC] at h
    obtain ⟨v, r, _, _, h1, h2⟩ := h
    exact ⟨bdP_of p v h1, bdC_of ps r h2⟩
end
theorem bdL_of {N : Nat → Prop} {w : World} : ∀ (ps : List PV) (vs : List Value), repL N w ps vs → bdL ps
  | [], _, _ => trivial
  | p :: ps, vs, h => by
    simp only [repL] at h
    obtain ⟨v, r, _, h1, h2⟩ := h
    exact ⟨bdP_of p v h1, bdL_of ps r h2⟩
theorem FnOk.enters {f : FuncId} {fn : Func} (h : FnOk P f fn) : Enters P f := ⟨fn, h.func, h.body, h.name⟩
theorem PC_bd {f : FuncId} {fn : Func} (he : FnOk P f fn) {args : List PV} {Q : PV → Prop} (h : bdL args → PC P f args Q) : PC P f args Q :=
  ⟨he.enters, fun F w cargs hF ha => (h (bdL_of args _ ha)).2 F w cargs hF ha⟩
theorem rowK {α : Type} (f : α → List PV) (l : List α) (k : Nat) (h : k < l.length) : (l.map f)[((k : Nat) : Int).toNat]? = some (f l[k]) := by
  simp [h]
theorem rowE {α : Type} (f : α → List PV) (l : List α) {i : Int} {k : Nat} (e : i = (k : Int)) (h : k < l.length) : (l.map f)[i.toNat]? = some (f l[k]) := by
  subst e; simp [h]
theorem dec_lt {k n : Nat} (h : k < n) : n - (k + 1) < n - k := by omega
theorem wrapU {n : Int} (h0 : 0 ≤ n) (h : n ≤ 18446744073709551615) : IntKind.u64.wrap n = n := by
  simp [IntKind.wrap, IntKind.bits, IntKind.signed]; omega
theorem wrapI {n : Int} (h0 : -9223372036854775808 ≤ n) (h : n ≤ 9223372036854775807) : IntKind.i64.wrap n = n := by
  simp [IntKind.wrap, IntKind.bits, IntKind.signed]; omega
end
theorem fk {b : Bool} {p q : Prop} (h : b = true → p) (k : b = false → q) : (b = true → p) ∧ (b = false → q) := ⟨h, k⟩
theorem lr (l : List (List PV)) : leRs' l l := leRs_refl l
theorem zol {P : Program} {T : Tab} {c : Code} {s : AS} {K : Exit → AS → Prop} {X : Prop} (h : VC P T c s K) : VC P T c s K ∨ X := Or.inl h
theorem zor {P : Program} {T : Tab} {i : Nat} {o : Array Oper} {d : Bool} {s : AS} {K : Exit → AS → Prop} {X : Prop} (h : VC P T (Code.region i o d) s K) : VC P T (Code.region i o d) s K ∨ X := Or.inl h
theorem zoc {P : Program} {T : Tab} {a : Operand} {b c : Code} {s : AS} {K : Exit → AS → Prop} {X : Prop} (h : VC P T (Code.cond a b c) s K) : VC P T (Code.cond a b c) s K ∨ X := Or.inl h
theorem zos {P : Program} {T : Tab} {b c : Code} {s : AS} {K : Exit → AS → Prop} {X : Prop} (h : VC P T (Code.seq b c) s K) : VC P T (Code.seq b c) s K ∨ X := Or.inl h
theorem zll {a b c : Prop} (h : a) : (a ∨ b) ∨ c := .inl (.inl h)
theorem zlr {a b c : Prop} (h : b) : (a ∨ b) ∨ c := .inl (.inr h)
theorem znb {m n : Nat} (h : Nat.ble m n = true) : m ≤ n := Nat.le_of_ble_eq_true h
theorem zlc {α : Type} {a : α} {l : List α} : (a :: l).length = l.length + 1 := rfl
theorem zln {α : Type} : ([] : List α).length = 0 := rfl
theorem zlm {α β : Type} {f : α → β} {l : List α} : (l.map f).length = l.length := List.length_map ..
theorem zla {α : Type} {a b : List α} : (a ++ b).length = a.length + b.length := List.length_append
theorem zdt {p : Prop} [Decidable p] : (decide p = true) = p := decide_eq_true_eq
theorem zdf {p : Prop} [Decidable p] : (decide p = false) = ¬ p := propext decide_eq_false_iff_not
end Go.AX
end
section
universe u
variable {α : Type}
namespace Go.AX
abbrev uu (n : Int) : PV := .sc (.int .u64 n)
abbrev ii (n : Int) : PV := .sc (.int .i64 n)
abbrev bl (b : Bool) : PV := .sc (.bool b)
abbrev nilS : PV := .sc (.slice none 0 0)
abbrev unit : PV := .tup []
structure Pl where
  node : Int
  serial : Int
deriving DecidableEq, Inhabited
def Pl.c (x : Pl) : List PV := [ii x.node, uu x.serial]
def slP (l : List Pl) : PV := .sl false 2 (l.map Pl.c)
structure Fr where
  first : Int
  bookies : List Pl
deriving DecidableEq, Inhabited
def Fr.c (f : Fr) : List PV := [uu f.first, slP f.bookies]
def slF (l : List Fr) : PV := .sl false 2 (l.map Fr.c)
structure Lg where
  id : Int
  w : Int
  a : Int
  frags : List Fr
  closed : Int
  last : Int
deriving DecidableEq, Inhabited
def Lg.c (l : Lg) : List PV := [uu l.id, ii l.w, ii l.a, slF l.frags, ii l.closed, uu l.last]
def bys (l : List UInt8) : PV := .sl false 1 (l.map byteRow)
structure Ft where
  ledger : Int
  n : Int
  set : List Pl
  at_ : Int
  since : Int
  tag : Int
  done : Int
  body : List UInt8
deriving DecidableEq, Inhabited
def Ft.c (f : Ft) : List PV := [uu f.ledger, uu f.n, slP f.set, ii f.at_, uu f.since, uu f.tag, ii f.done, bys f.body]
structure Rq where
  to : Pl
  kind : Int
  ledger : Int
  n : Int
  epoch : Int
  sure : Int
  copy : Int
  body : List UInt8
  keep : List Int
deriving DecidableEq, Inhabited
def uRow (n : Int) : List PV := [uu n]
def slU (l : List Int) : PV := .sl false 1 (l.map uRow)
def Rq.c (r : Rq) : List PV := [ii r.to.node, uu r.to.serial, ii r.kind, uu r.ledger, uu r.n, uu r.epoch, uu r.sure, ii r.copy, bys r.body, slU r.keep]
structure Rs where
  from_ : Pl
  kind : Int
  code : Int
  ledger : Int
  n : Int
  epoch : Int
  sure : Int
  body : List UInt8
deriving DecidableEq, Inhabited
def Rs.c (r : Rs) : List PV := [ii r.from_.node, uu r.from_.serial, ii r.kind, ii r.code, uu r.ledger, uu r.n, uu r.epoch, uu r.sure, bys r.body]
def ixP {α : Type} (p : α → Bool) : List α → Int
  | [] => -1
  | x :: r => match p x with
    | true => 0
    | false => match ixP p r with
      | .ofNat n => n + 1
      | .negSucc _ => -1
theorem ixP_none {α : Type} (p : α → Bool) : ∀ {l : List α}, (∀ x ∈ l, p x = false) → ixP p l = -1
  | [], _ => rfl
  | x :: r, h => by
    have e := ixP_none p (l := r) fun y hy => h y (by simp [hy])
    simp only [ixP, h x (by simp), e]
    rfl
theorem ixP_at {α : Type} (p : α → Bool) : ∀ {l : List α} {k : Nat} (hk : k < l.length), (∀ j (hj : j < l.length), j < k → p l[j] = false) → p l[k] = true → ixP p l = k
  | [], k, hk, _, _ => by simp at hk
  | x :: r, 0, _, _, h => by
    simp only [List.getElem_cons_zero] at h
    simp [ixP, h]
  | x :: r, k + 1, hk, h, h' => by
    have h0 := h 0 (by simp) (by omega)
    simp only [List.getElem_cons_zero] at h0
    simp only [List.getElem_cons_succ] at h'
    have := ixP_at p (l := r) (k := k) (by simpa using hk) (fun j hj hlt => by
      have := h (j + 1) (by simpa using hj) (by omega)
      simpa using this) h'
    simp only [ixP, h0, this]
    show ((k : Int) + 1 = _)
    omega
theorem ixP_spec {α : Type} (p : α → Bool) : ∀ (l : List α), (ixP p l = -1 ∧ ∀ x ∈ l, p x = false) ∨ ∃ k, ∃ hk : k < l.length, ixP p l = (k : Nat) ∧ p l[k] = true ∧ ∀ j (hj : j < l.length), j < k → p l[j] = false
  | [] => .inl ⟨rfl, by simp⟩
  | x :: r => by
    cases hx : p x with
    | true =>
      refine .inr ⟨0, by simp, ?_, by simpa using hx, by simp⟩
      simp [ixP, hx]
    | false =>
      rcases ixP_spec p r with ⟨h1, h2⟩ | ⟨k, hk, h1, h2, h3⟩
      · refine .inl ⟨?_, ?_⟩
        · simp only [ixP, hx, h1]; rfl
        · intro y hy
          rcases List.mem_cons.1 hy with rfl | hy
          · exact hx
          · exact h2 y hy
      · refine .inr ⟨k + 1, by simpa using hk, ?_, by simpa using h2, ?_⟩
        · simp only [ixP, hx, h1]
          show ((k : Int) + 1 = _)
          omega
        · intro j hj hlt
          cases j with
          | zero => simpa using hx
          | succ j => simpa using h3 j (by simpa using hj) (by omega)
theorem ixP_ge {α : Type} (p : α → Bool) (l : List α) : decide (ixP p l ≥ 0) = l.any p := by
  rw [Bool.eq_iff_iff]
  simp only [decide_eq_true_eq, List.any_eq_true]
  rcases ixP_spec p l with ⟨h1, h2⟩ | ⟨k, hk, h1, h2, h3⟩
  · rw [h1]
    constructor
    · intro h; omega
    · rintro ⟨x, hx, hp⟩; rw [h2 x hx] at hp; cases hp
  · rw [h1]
    exact ⟨fun _ => ⟨l[k], List.getElem_mem hk, h2⟩, fun _ => by omega⟩
theorem Pl.eta (x : Pl) : (⟨x.node, x.serial⟩ : Pl) = x := rfl
theorem Pl.beq (x y : Pl) : ((x.node == y.node) && (x.serial == y.serial)) = (x == y) := by
  rw [Bool.eq_iff_iff]
  simp only [Bool.and_eq_true, beq_iff_eq]
  cases x; cases y; simp
theorem step_lt {k : Nat} {l : List α} {q : (j : Nat) → j < l.length → Prop} (h : ∀ j (hj : j < l.length), j < k → q j hj) (hk : ∀ (hj : k < l.length), q k hj) : ∀ j (hj : j < l.length), j < k + 1 → q j hj := by
  intro j hj hjk
  rcases Nat.lt_succ_iff_lt_or_eq.1 hjk with hj' | rfl
  · exact h j hj hj'
  · exact hk hj
theorem all_of {l : List α} {q : α → Prop} (h : ∀ j (hj : j < l.length), j < l.length → q l[j]) : ∀ x ∈ l, q x := by
  intro x hx
  obtain ⟨j, hj, rfl⟩ := List.getElem_of_mem hx
  exact h j hj hj
end Go.AX
end
section
namespace Go.AX
section
variable {P : Program} {T : Tab}
end
end Go.AX
end
section
namespace Go.AX
section
variable {P : Program} {c : Ctx} {R : Real} {s : AS} {a : Act} {w : World}
end
end Go.AX
end
section
namespace Go.AX
section
variable {P : Program} {c : Ctx} {R : Real} {s : AS} {a : Act} {w : World}
end
end Go.AX
end
section
namespace Go.AX
open Go.Sort
def uA (A : Array Int) : List (List PV) := A.toList.map uRow
theorem uA_len (A : Array Int) : (uA A).length = A.size := by simp [uA]
theorem uA_nat (A : Array Int) (i : Nat) (h : i < A.size) : (uA A)[i]? = some (uRow A[i]!) := by
  simp [uA, getElem!_pos A i h, h]
theorem uA_get (A : Array Int) {n : Int} (i : Nat) (e : n = (i : Int)) (h : i < A.size) : (uA A)[n.toNat]? = some (uRow A[i]!) := by
  subst e
  exact uA_nat A i h
theorem uA_set (A : Array Int) {n : Int} (i : Nat) (v : Int) (e : n = (i : Int)) : (uA A).set n.toNat (uRow v) = uA (A.setIfInBounds i v) := by
  subst e
  rw [Int.toNat_natCast]
  simp [uA, List.map_set]
theorem uA_swp (A : Array Int) (i j : Nat) : ((uA A).set i (uRow A[j]!)).set j (uRow A[i]!) = uA (swp A i j) := by
  simp [uA, List.map_set, swp]
theorem uA_rd (A : Array Int) (k : Nat) (h : k < A.size) : (uA A)[((k : Nat) : Int).toNat]? = some (uRow A[k]!) := uA_get A k rfl h
theorem uA_st (A : Array Int) (k : Nat) (v : Int) : (uA A).set ((k : Nat) : Int).toNat [uu v] = uA (A.setIfInBounds k v) := uA_set A k v rfl
theorem ltI (x y : Int) : ltInt x y = decide (x < y) := rfl
theorem ax_scanUp_le2 (p : Int → Bool) (d : Array Int) (j : Nat) : ∀ (n i : Nat), j + 2 - i ≤ n → i ≤ j + 2 → scanUp p d j i ≤ j + 2
  | 0, i, h, h2 => by
    rw [scanUp, if_neg (by simp; omega)]; exact h2
  | n + 1, i, h, h2 => by
    rw [scanUp]
    split
    · rename_i hc
      simp only [Bool.and_eq_true, decide_eq_true_eq] at hc
      exact ax_scanUp_le2 p d j n (i + 1) (by omega) (by omega)
    · exact h2
theorem ax_scanDown_ge2 (p : Int → Bool) (d : Array Int) (i a : Nat) (h : a < i) : ∀ j, a ≤ j → a ≤ scanDown p d i j
  | 0, hj => hj
  | j + 1, hj => by
    rw [scanDown]
    split
    · rename_i hc
      simp only [Bool.and_eq_true, decide_eq_true_eq] at hc
      exact ax_scanDown_ge2 p d i a h j (by omega)
    · exact hj
theorem ax_scanUp_one {p : Int → Bool} {d : Array Int} {j i : Nat} (h : i ≤ j) (h2 : p d[i]! = true) : scanUp p d j i = scanUp p d j (i + 1) := by
  rw [scanUp, if_pos (by simp [h, h2])]
theorem ax_scanUp_end {p : Int → Bool} {d : Array Int} {j i : Nat} (h : ¬ i ≤ j ∨ p d[i]! = false) : scanUp p d j i = i := by
  rw [scanUp, if_neg (by rcases h with h | h <;> simp [h])]
theorem ax_scanDown_one {p : Int → Bool} {d : Array Int} {j i : Nat} (h : i ≤ j + 1) (h2 : p d[j + 1]! = true) : scanDown p d i (j + 1) = scanDown p d i j := by
  rw [scanDown, if_pos (by simp [h, h2])]
theorem ax_scanDown_end {p : Int → Bool} {d : Array Int} {j i : Nat} (h : ¬ i ≤ j ∨ p d[j]! = false) : scanDown p d i j = j := by
  cases j with
  | zero => rfl
  | succ j => rw [scanDown, if_neg (by rcases h with h | h <;> simp [h])]
theorem ax_scanSorted_in (lt : Int → Int → Bool) (d : Array Int) (b : Nat) : ∀ (n i : Nat), b - i ≤ n → i ≤ b → i ≤ scanSorted lt d b i ∧ scanSorted lt d b i ≤ b
  | 0, i, h, h2 => by
    rw [scanSorted, if_neg (by simp; omega)]; omega
  | n + 1, i, h, h2 => by
    rw [scanSorted]
    split
    · rename_i hc
      simp only [Bool.and_eq_true, decide_eq_true_eq] at hc
      have := ax_scanSorted_in lt d b n (i + 1) (by omega) (by omega)
      omega
    · omega
theorem ax_size_shiftDown (lt : Int → Int → Bool) : ∀ (j : Nat) (d : Array Int), (shiftDown lt j d).size = d.size
  | 0, d => rfl
  | j + 1, d => by
    rw [shiftDown]
    split
    · rfl
    · rw [ax_size_shiftDown lt j, size_swp]
theorem ax_size_shiftUp (lt : Int → Int → Bool) (b : Nat) : ∀ (n j : Nat) (d : Array Int), b - j ≤ n → (shiftUp lt b j d).size = d.size
  | 0, j, d, h => by rw [shiftUp, if_neg (by omega)]
  | n + 1, j, d, h => by
    rw [shiftUp]
    split
    · split
      · rfl
      · rw [ax_size_shiftUp lt b n (j + 1) _ (by omega), size_swp]
    · rfl
theorem ax_sizeSift (lt : Int → Int → Bool) (hi F : Nat) : ∀ (n root : Nat) (d : Array Int), hi - root ≤ n → (siftDown lt hi F root d).size = d.size := by
  intro n
  induction n with
  | zero => intro root d h; rw [siftDown, dif_pos (by omega)]
  | succ n ih =>
    intro root d h
    rw [siftDown]
    split
    · rfl
    · split
      · split
        · rfl
        · split
          · rw [ih _ _ (by omega), size_swp]
          · rfl
      · split
        · rfl
        · rw [ih _ _ (by omega), size_swp]
end Go.AX
end
section
namespace Go.AX
def N0 : Nat → Prop := fun _ => False
def Rd (P : Program) (w : World) (t : TypeId) (n : Nat) (Q : List PV → Prop) : Prop :=
  P.cellsOf t = n ∧ ∀ (H : Type) (enc : TypeId × Value → H) (base : Nat) (spare : Nat → Bool) (held : Bool) (fuel : Nat) (cs : List Value) (x : DataW H × List MemPlace),
    DataW.trod enc P w base spare held fuel t cs = some x → ∃ row, row.length = n ∧ repC N0 w row cs ∧ Q row
section
variable {P : Program} {w : World} {t e : TypeId} {n : Nat} {Q Q' : List PV → Prop}
theorem Rd.imp (h : Rd P w t n Q) (hq : ∀ row, row.length = n → Q row → Q' row) : Rd P w t n Q' :=
  ⟨h.1, fun H enc base spare held fuel cs x hx => by
    obtain ⟨row, h1, h2, h3⟩ := h.2 H enc base spare held fuel cs x hx
    exact ⟨row, h1, h2, hq row h1 h3⟩⟩
theorem rd_int {k : IntKind} (hu : P.underlying t = some (.int k)) (hc : P.cellsOf t = 1) : Rd P w t 1 (fun row => ∃ i, row = [.sc (.int k i)] ∧ (Lit.int k i).wf = true) :=
  ⟨hc, fun H enc base spare held fuel cs x hx => by
    obtain ⟨i, rfl, _, hw⟩ := DataW.trod_int hu hx
    exact ⟨[.sc (.int k i)], rfl, ⟨_, _, rfl, rfl, by simp only [rep], by simp only [repC]⟩, i, rfl, hw⟩⟩
theorem repR_of {N : Nat → Prop} {st : Nat} : ∀ {rows : List (List PV)} {vs : List Value}, (∀ i (h : i < rows.length), rows[i].length = st ∧ repP N w rows[i] (vs.drop (i * st))) → repR N w st rows vs
  | [], vs, _ => by simp only [repR]
  | r :: rows, vs, h => by
    have h0 := h 0 (by simp)
    simp only [List.getElem_cons_zero, Nat.zero_mul, List.drop_zero] at h0
    refine ⟨h0.1, h0.2, repR_of fun i hi => ?_⟩
    have := h (i + 1) (by simpa using hi)
    simp only [List.getElem_cons_succ] at this
    rw [List.drop_drop, show st + i * st = (i + 1) * st from by rw [Nat.add_mul]; omega]
    exact this
theorem rd_slice (hu : P.underlying t = some (.slice e)) (hc : P.cellsOf t = 1) (hn : 0 < n) (he : Rd P w e n Q) : Rd P w t 1 (fun row => ∃ rows, row = [.sl false n rows] ∧ ∀ r ∈ rows, r.length = n ∧ Q r) :=
  ⟨hc, fun H enc base spare held fuel cs x hx => by
    rcases Deep.open_slice hu hx with ⟨rfl, _⟩ | ⟨a, len, cap, m, fu, D, Pl, rfl, hb, hl, hm, hmm, _, hel⟩
    · refine ⟨[.sl false n []], rfl, ⟨_, _, rfl, rfl, ?_, by simp only [repC]⟩, [], rfl, by simp⟩
      simp only [rep]
      exact ⟨none, 0, 0, rfl, rfl, ⟨Nat.le_refl _, by omega⟩, fun _ => (by simp), fun a ha => (by cases ha)⟩
    · have hlm : len ≤ m := by rw [hmm]; split <;> omega
      have ex : ∀ i, i < len → ∃ row : List PV, row.length = n ∧ Q row ∧ ∃ cs', cs'.length = n ∧ (∀ j, j < n → w.cell? ((a.add (i * n)).add j) = cs'[j]?) ∧ repC N0 w row cs' := by
        intro i hi
        obtain ⟨cs', h1, h2⟩ := hel i (by omega)
        rw [he.1] at h1
        obtain ⟨row, q1, q2, q3⟩ := he.2 H enc base spare held _ _ _ h2
        obtain ⟨_, h3, h4⟩ := World.cells?_some h1
        exact ⟨row, q1, q3, cs', h3, h4, q2⟩
      have ⟨f, hf⟩ : ∃ f : Nat → List PV, ∀ i, i < len → (f i).length = n ∧ Q (f i) ∧ ∃ cs', cs'.length = n ∧ (∀ j, j < n → w.cell? ((a.add (i * n)).add j) = cs'[j]?) ∧ repC N0 w (f i) cs' := by
        refine ⟨fun i => if h : i < len then (ex i h).choose else [], fun i hi => ?_⟩
        simp only [hi, dif_pos]
        exact (ex i hi).choose_spec
      refine ⟨[.sl false n ((List.range len).map f)], rfl, ⟨_, _, rfl, rfl, ?_, by simp only [repC]⟩, _, rfl, ?_⟩
      · simp only [rep]
        refine ⟨some a, len, cap, rfl, by simp, ⟨hl, by unfold maxLen at hm; omega⟩, fun h => (by cases h), fun a' ha => ?_⟩
        simp only [Option.some.injEq] at ha
        subst ha
        by_cases h0 : len = 0
        · subst h0; exact .inl rfl
        · right
          have hfirst := (hf 0 (by omega)).2.2
          obtain ⟨cs', h1, h2, _⟩ := hfirst
          have h2 := h2 0 hn
          simp only [Nat.zero_mul] at h2
          have hcell : (w.cell? ((a.add 0).add 0)).isSome = true := by rw [h2]; simp; omega
          have e0 : (a.add 0).add 0 = a := by simp [Addr.add]
          rw [e0] at hcell
          obtain ⟨blk, off, spot⟩ := a
          unfold World.cell? at hcell
          simp only at hcell
          split at hcell
          · rename_i cur ty fr hg
            have hs : spot = none := by
              cases spot with
              | none => rfl
              | some _ => simp at hcell
            subst hs
            refine ⟨rfl, id, cur, ty, fr, hg, repR_of fun i hi => ?_⟩
            simp only [List.length_map, List.length_range] at hi
            simp only [List.getElem_map, List.getElem_range]
            obtain ⟨q1, q2, cs', q3, q4, q5⟩ := hf i hi
            refine ⟨q1, ?_⟩
            rw [repC_iff] at q5
            rw [repP_iff]
            have e1 : cs' = ((cur.toList.drop off).drop (i * n)).take n := by
              apply List.ext_getElem?
              intro j
              by_cases hj : j < n
              · rw [← q4 j hj, addr_add, addr_add]
                simp only [World.cell?, hg, List.getElem?_take, hj, if_true, List.getElem?_drop, Option.isSome_none, Bool.false_eq_true, if_false]
                rw [← Nat.add_assoc, Array.getElem?_toList]
              · rw [List.getElem?_eq_none (by omega), List.getElem?_eq_none (by simp; omega)]
            have := q5.fp.app (((cur.toList.drop off).drop (i * n)).drop n)
            rw [e1, List.take_append_drop] at this
            exact this
          · simp at hcell
      · intro r hr
        obtain ⟨i, hi, rfl⟩ := List.mem_map.1 hr
        simp only [List.mem_range] at hi
        exact ⟨(hf i hi).1, (hf i hi).2.1⟩⟩
def QF : List (Nat × (List PV → Prop)) → List PV → Prop
  | [], row => row = []
  | (n, Q) :: r, row => ∃ a b, row = a ++ b ∧ a.length = n ∧ Q a ∧ QF r b
def szF : List (Nat × (List PV → Prop)) → Nat
  | [] => 0
  | (n, _) :: r => n + szF r
def RdF (P : Program) (w : World) : Nat → List Field → List (Nat × (List PV → Prop)) → Prop
  | _, [], [] => True
  | off, f :: fs, (n, Q) :: r => f.offset = off ∧ Rd P w f.type n Q ∧ RdF P w (off + n) fs r
  | _, _, _ => False
theorem FC_app {α : Type} {R : α → Value → Prop} : ∀ {l l' : List α} {m m' : List Value}, FC R l m → FC R l' m' → FC R (l ++ l') (m ++ m')
  | [], l', m, m', h, h' => by simp only [FC] at h; subst h; exact h'
  | p :: ps, l', m, m', h, h' => by obtain ⟨v, r, rfl, h1, h2, h3⟩ := h; exact ⟨v, r ++ m', rfl, h1, h2, FC_app h3 h'⟩
theorem rd_fields {H : Type} {enc : TypeId × Value → H} {base : Nat} {spare : Nat → Bool} {held : Bool} {fu : Nat} {cs : List Value} : ∀ {fs : List Field} {sp : List (Nat × (List PV → Prop))} {off : Nat},
    RdF P w off fs sp → (∀ f ∈ fs, ∃ y, DataW.trod enc P w base spare held fu f.type ((cs.drop f.offset).take (P.cellsOf f.type)) = some y) → cs.length = off + szF sp →
    ∃ row, row.length = szF sp ∧ repC N0 w row (cs.drop off) ∧ QF sp row
  | [], [], off, _, _, hl => by
    refine ⟨[], rfl, ?_, rfl⟩
    simp only [repC]
    exact List.drop_eq_nil_of_le (by simp only [szF] at hl; omega)
  | [], _ :: _, _, h, _, _ => h.elim
  | _ :: _, [], _, h, _, _ => h.elim
  | f :: fs, (n, Q) :: r, off, h, hx, hl => by
    obtain ⟨rfl, h1, h2⟩ := h
    obtain ⟨y, hy⟩ := hx f (by simp)
    obtain ⟨a, a1, a2, a3⟩ := h1.2 H enc base spare held _ _ _ hy
    rw [h1.1] at a2
    obtain ⟨b, b1, b2, b3⟩ := rd_fields h2 (fun g hg => hx g (by simp [hg])) (by simp only [szF] at hl; omega)
    refine ⟨a ++ b, by simp only [List.length_append, szF]; omega, ?_, a, b, rfl, a1, a3, b3⟩
    rw [repC_iff] at a2 b2 ⊢
    have := FC_app a2 b2
    rw [show cs.drop (f.offset + n) = (cs.drop f.offset).drop n from by rw [List.drop_drop], List.take_append_drop] at this
    exact this
theorem rd_struct {fs : Array Field} {sp : List (Nat × (List PV → Prop))} (hu : P.underlying t = some (.struct fs)) (hc : P.cellsOf t = szF sp) (hf : RdF P w 0 fs.toList sp) : Rd P w t (szF sp) (QF sp) :=
  ⟨hc, fun H enc base spare held fuel cs x hx => by
    obtain ⟨xs, fu, rfl, _, hl, hlen, hel⟩ := DataW.trod_struct hu hx
    have := rd_fields (H := H) (enc := enc) (base := base) (spare := spare) (held := held) (fu := fu) (cs := cs) hf (fun f hf => by
      obtain ⟨i, hi, rfl⟩ := List.getElem_of_mem hf
      simp only [Array.length_toList] at hi
      refine ⟨xs[i]'(by omega), ?_⟩
      rw [hel i _ (by simp [hi])]
      simp) (by omega)
    simpa using this⟩
theorem okWide_notAgg {H : Reach} {base : Nat} {v : Value} (hu : (match P.underlying t with | some (.struct _) => false | some (.array _ _) => false | some .bool => true | some (.int _) => true | some .string => true | some (.slice _) => true | _ => false) = true)
    (h : Value.okWide P w H base t v) : ∀ cs, v ≠ .agg cs := by
  rintro cs rfl
  unfold Value.okWide at h
  split at h
  · rename_i e; rw [e] at hu; simp at hu
  · rename_i e; rw [e] at hu; simp at hu
  · unfold Cell.okWide at h
    split at h <;> simp_all [Cell.ok]
theorem arg_one {H : Type} {enc : TypeId × Value → H} {base : Nat} {spare : Nat → Bool} {held : Bool} {v : Value} {d : DataW H} {ps : List MemPlace} (hr : Rd P w t 1 Q) (hv : ∀ cs, v ≠ .agg cs)
    (h : DataW.Trod enc P w base spare held t v d ps) : ∃ p, Q [p] ∧ rep N0 w p v := by
  obtain ⟨fuel, h⟩ := h
  have e : v.cells = #[v] := by cases v <;> first | rfl | exact absurd rfl (hv _)
  rw [e] at h
  obtain ⟨row, h1, h2, h3⟩ := hr.2 _ _ _ _ _ _ _ _ h
  match row, h1 with
  | [p], _ =>
    obtain ⟨x, r, hx, _, hp, _⟩ := h2
    simp only [List.cons.injEq] at hx
    obtain ⟨rfl, _⟩ := hx
    exact ⟨p, h3, hp⟩
theorem arg_agg {H : Type} {enc : TypeId × Value → H} {base base' : Nat} {r : Reach} {spare : Nat → Bool} {held : Bool} {v : Value} {d : DataW H} {ps : List MemPlace} {fs : Array Field} (hu : P.underlying t = some (.struct fs)) (hr : Rd P w t n Q)
    (hv : Value.okWide P w r base' t v) (h : DataW.Trod enc P w base spare held t v d ps) : ∃ row, Q row ∧ rep N0 w (.agg row) v := by
  obtain ⟨fuel, h⟩ := h
  have ⟨cs, e⟩ : ∃ cs, v = .agg cs := by
    unfold Value.okWide at hv
    rw [hu] at hv
    obtain ⟨cs, e, _⟩ := hv
    exact ⟨cs, e⟩
  subst e
  obtain ⟨row, h1, h2, h3⟩ := hr.2 _ _ _ _ _ _ _ _ h
  exact ⟨row, h3, by simp only [rep]; exact ⟨cs, rfl, h2⟩⟩
end
end Go.AX
end
section
namespace Go.AX
open Go.Sort Go.Shelf Go.Proofs
theorem repP_vals {N : Nat → Prop} {w : World} : ∀ {vals vs : List Value}, (∀ v ∈ vals, v.oneCell' = true) → (∀ j, j < vals.length → vs[j]? = vals[j]?) → repP N w (vals.map .sc) vs
  | [], vs, _, _ => by simp only [List.map_nil, repP]
  | v :: r, vs, h1, h => by
    have h0 := h 0 (by simp)
    match vs, h0 with
    | v' :: vs', h0 =>
      simp only [List.getElem?_cons_zero, Option.some.injEq] at h0
      subst h0
      refine ⟨v', vs', rfl, h1 v' (by simp), by simp only [rep], repP_vals (fun u hu => h1 u (by simp [hu])) fun j hj => ?_⟩
      have := h (j + 1) (by simpa using hj)
      simpa using this
theorem vals_repP {N : Nat → Prop} {w : World} : ∀ {vals vs : List Value}, repP N w (vals.map .sc) vs → ∀ j, j < vals.length → vs[j]? = vals[j]?
  | [], vs, _, j, hj => by simp at hj
  | v :: r, vs, h, j, hj => by
    obtain ⟨v', vs', rfl, _, hv, h⟩ := h
    simp only [rep] at hv
    subst hv
    cases j with
    | zero => rfl
    | succ j => simpa using vals_repP h j (by simpa using hj)
section
variable {α : Type} [Inhabited α] {P : Program} {f g : Nat} {enc : α → List Value} {st : Nat} {e : TypeId}
theorem GC_sort (sorted : Array α → Array α) (h0 : 0 < st) (hl : ∀ x, (enc x).length = st) (h1 : ∀ x, ∀ v ∈ enc x, v.oneCell' = true) (hsz : ∀ d, (sorted d).size = d.size)
    (hsort : ∀ (blk cap : Nat) (d : Array α) (w : World), HoldsK enc st w blk 0 d → blk < w.heap.size → d.size < 4611686018427387904 →
      Calls P f #[.slice (some ⟨blk, 0, none⟩) d.size cap, .func (.func g) #[] #[]] w fun e w' => e = .returned (.tuple #[]) ∧ ∃ n os, w' = sortWorldK enc st w blk 0 n (sorted d) os)
    (hnil : PCx P f [.sc (.slice none 0 0), .fn (.func g) [] []] (.tup [])) (l : List α) (hll : l.length < 4611686018427387904) :
    GCx P f [.slw 1 0, .pv (.fn (.func g) [] [])] [(1, .arr e 0 st (l.map fun x => (enc x).map .sc))] (.pv (.tup [])) [(1, .arr e 0 st ((sorted l.toArray).toList.map fun x => (enc x).map .sc))] := by
  refine ⟨hnil.1, fun c R w cargs hh ha => ?_⟩
  obtain ⟨a, ha1, ha2⟩ : ∃ a : Act, a.tmps.size = c.n ∧ a.defers = [] := ⟨{ tmps := Array.replicate c.n undef, defers := [] }, by simp, rfl⟩
  have gm := hh.gam (tm := []) (nx := 0) (a := a) (fun t v h => by simp [lk] at h) ha1 (by rw [ha2]; exact ⟨[], Marks.nil⟩)
  have hbx := hh.boxes 1 _ (show lk [(1, _)] 1 = some _ from rfl)
  obtain ⟨v1, r1, e1, hv1, v2, r2, rfl, hv2, rfl⟩ := ha
  have hcargs : cargs = #[v1, v2] := by rw [← Array.toList_inj, e1]
  subst hcargs
  simp only [repA, lk, Nat.beq, refSl] at hv1
  have hv1 := hv1.2.2 trivial
  have hv2' : v2 = .func (.func g) #[] #[] := by
    simp only [repA, rep, repL] at hv2
    obtain ⟨fs, cs, rfl, h3, h4⟩ := hv2
    rw [Array.toList_eq_nil_iff] at h3 h4
    subst h3; subst h4; rfl
  subst hv2'
  cases hn : R.nil 1 with
  | true =>
    obtain ⟨xs, ⟨_, h3⟩, _⟩ := hbx
    have hlz : l = [] := by
      rcases h3 with ⟨_, h3⟩ | ⟨g', cap, cur, e1, _⟩
      · simpa using h3
      · simp [slv, hn] at e1
    subst hlz
    have hsl : v1 = .slice none 0 0 := by rw [hv1]; simp [slv, hn]
    subst hsl
    refine (hnil.2 (fun _ => False) w _ (fun r h => h.elim) ?_).mono fun e' w' ⟨v, r, he, hr, hrep, hsame⟩ => ?_
    · exact ⟨_, _, rfl, by simp only [rep], _, _, rfl, by simp only [rep]; exact ⟨#[], #[], rfl, by simp only [repL], by simp only [repL]⟩, by simp only [repL]⟩
    · subst hr
      have hs0 : (sorted (#[] : Array α)).toList = [] := by
        have := hsz #[]
        exact List.eq_nil_of_length_eq_zero (by simpa using this)
      refine ⟨v, _, _, R, he, ⟨rfl, rfl⟩, ?_, ?_⟩
      · simp only [show ([] : List α).toArray = #[] from rfl, hs0]
        exact (gm.grow hsame).hap
      · simp only [repA]
        simp only [rep] at hrep ⊢
        obtain ⟨vs, h5, h6⟩ := hrep
        simp only [repL] at h6 ⊢
        exact ⟨vs, h5, h6⟩
  | false =>
    obtain ⟨cur, hg, hs, hle, hm, hr, _⟩ := arr_block hbx hn
    simp only [List.length_map] at hle hv1
    have hsl : v1 = .slice (some ⟨R.blk 1, 0, none⟩) l.toArray.size (R.cap 1) := by rw [hv1]; simp [slv, hn]
    subst hsl
    have hcell : ∀ i (hi : i < l.length) j, j < st → cur[i * st + j]? = (enc l[i])[j]? := by
      intro i hi j hj
      obtain ⟨_, q⟩ := repR_get (i := i) (row := (enc l[i]).map .sc) hr (by simp [hi])
      have := vals_repP q j (by rw [hl]; exact hj)
      rw [List.getElem?_drop, Array.getElem?_toList] at this
      exact this
    have hK : HoldsK enc st w (R.blk 1) 0 l.toArray := by
      intro j hj
      rw [size_flatK] at hj
      rw [get_flatK _ _ _ _ hj]
      have hi : j / st < l.length := (Nat.div_lt_iff_lt_mul h0).2 hj
      have hm : j % st < st := Nat.mod_lt _ h0
      have := hcell _ hi _ hm
      rw [show j / st * st + j % st = j from by rw [Nat.mul_comm]; exact Nat.div_add_mod j st] at this
      refine ⟨?_, by simp [World.frozen?, hg]⟩
      simp only [World.cell?, hg, Option.isSome_none, Bool.false_eq_true, if_false, Nat.zero_add, this, id]
      rw [getElem!_pos l.toArray _ (by simpa using hi), getElem!_pos _ _ (by simp only [List.getElem_toArray]; rw [hl]; exact hm)]
      simp only [List.getElem_toArray]
      rw [List.getElem?_eq_getElem (by rw [hl]; exact hm)]
    have hblk : R.blk 1 < w.heap.size := size_of_getElem? hg
    refine (hsort (R.blk 1) (R.cap 1) l.toArray w hK hblk (by simpa using hll)).mono fun e' w' ⟨he, n, os, hw⟩ => ?_
    have hheap : w'.heap = (w.heap.modify (R.blk 1) (onCells (putCells id 0 (Go.Sort.flatK enc st (sorted l.toArray))))) ++ os := by subst hw; rfl
    have hbk : w'.heap[R.blk 1]? = some (.cells (putCells id 0 (Go.Sort.flatK enc st (sorted l.toArray)) cur) e (0, 0)) := by
      rw [hheap, Array.getElem?_append_left (by simpa using hblk), Array.getElem?_modify, if_pos rfl, hg]
      rfl
    have hother : ∀ r, r < w.heap.size → r ≠ R.blk 1 → w'.heap[r]? = w.heap[r]? := by
      intro r hr hne
      rw [hheap, Array.getElem?_append_left (by simpa using hr), Array.getElem?_modify, if_neg (fun h => hne h.symm)]
    have hworld : Evo (fun r => ownBox R 1 r (lk [(1, Box.arr e 0 st (l.map fun x => (enc x).map .sc))] 1)) w w' := by
      refine ⟨by rw [hheap]; simp, fun r hr hno => hother r hr fun h => hno ?_, by subst hw; rfl, by subst hw; rfl, by subst hw; rfl⟩
      subst h
      exact ⟨hn, rfl⟩
    have hlen : (sorted l.toArray).size = l.length := by rw [hsz]; simp
    have hR : ∀ b', b' ≠ 1 → R.blk b' = R.blk b' ∧ R.nil b' = R.nil b' ∧ R.cap b' = R.cap b' := fun _ _ => ⟨rfl, rfl, rfl⟩
    have hll' : ((sorted l.toArray).toList.map fun x => (enc x).map PV.sc).length = (l.map fun x => (enc x).map PV.sc).length := by simp [hlen]
    have r1 : ∀ off v, refPtr R 1 off v (lk [(1, Box.arr e 0 st (l.map fun x => (enc x).map .sc))] 1) → refPtr R 1 off v (some (.arr e 0 st ((sorted l.toArray).toList.map fun x => (enc x).map .sc))) := fun off v h => h
    have r2 : ∀ ver v, refSl R 1 ver v (lk [(1, Box.arr e 0 st (l.map fun x => (enc x).map .sc))] 1) → refSl R 1 ver v (some (.arr e 0 st ((sorted l.toArray).toList.map fun x => (enc x).map .sc))) := fun ver v h => by
      simp only [lk, Nat.beq, refSl, hll'] at h ⊢; exact h
    have r3 : ∀ ver i off v, refAp R 1 ver i off v (lk [(1, Box.arr e 0 st (l.map fun x => (enc x).map .sc))] 1) → refAp R 1 ver i off v (some (.arr e 0 st ((sorted l.toArray).toList.map fun x => (enc x).map .sc))) := fun ver i off v h => h
    have hown : ∀ r, ownBox R 1 r (some (.arr e 0 st ((sorted l.toArray).toList.map fun x => (enc x).map .sc))) → ownBox R 1 r (lk [(1, Box.arr e 0 st (l.map fun x => (enc x).map .sc))] 1) ∨ w.heap.size ≤ r := fun r h => .inl h
    have gm' := gm.upd (nx' := 0) hR r1 r2 r3 hown hworld (by
      refine ⟨(putCells id 0 (Go.Sort.flatK enc st (sorted l.toArray)) cur).toList.take ((sorted l.toArray).size * st), ⟨?_, .inr ⟨R.blk 1, R.cap 1, _, by simp [slv, hn], Nat.zero_le _, hbk, by simp only [List.length_map, Array.length_toList, hlen]; exact hle, hm, ?_, by simp⟩⟩, repR_of fun i hi => ?_⟩
      · simp only [List.length_take, Array.length_toList, putCells, Array.size_mapIdx, List.length_map]
        have : (sorted l.toArray).size * st ≤ R.cap 1 * st := Nat.mul_le_mul_right _ (by omega)
        omega
      · simp only [putCells, Array.size_mapIdx]; exact hs
      · simp only [List.length_map, Array.length_toList] at hi
        simp only [List.getElem_map, Array.getElem_toList, List.length_map]
        refine ⟨hl _, repP_vals (h1 _) fun j hj => ?_⟩
        rw [hl] at hj
        have hij : i * st + j < (sorted l.toArray).size * st := by
          have : (i + 1) * st ≤ (sorted l.toArray).size * st := Nat.mul_le_mul_right _ hi
          rw [Nat.add_mul] at this
          omega
        have hcs : i * st + j < cur.size := by
          have : (sorted l.toArray).size * st ≤ R.cap 1 * st := Nat.mul_le_mul_right _ (by omega)
          omega
        rw [List.getElem?_drop, List.getElem?_take, if_pos hij, Array.getElem?_toList]
        simp only [putCells, Array.getElem?_mapIdx, size_flatK, Nat.zero_le, Nat.zero_add, true_and, hij, if_true, Nat.sub_zero, id]
        rw [Array.getElem?_eq_getElem hcs]
        simp only [Option.map_some]
        rw [get_flatK _ _ _ _ hij]
        have e3 : (i * st + j) / st = i := by rw [Nat.mul_comm, Nat.mul_add_div h0, Nat.div_eq_of_lt hj, Nat.add_zero]
        have e4 : (i * st + j) % st = j := by rw [Nat.mul_comm, Nat.mul_add_mod, Nat.mod_eq_of_lt hj]
        rw [e3, e4, getElem!_pos (sorted l.toArray) _ hi, getElem!_pos (enc (sorted l.toArray)[i]) _ (by rw [hl]; exact hj), List.getElem?_eq_getElem (by rw [hl]; exact hj)])
    have H : LeH [(1, .old 1 0)] ((1, Box.arr e 0 st ((sorted l.toArray).toList.map fun x => (enc x).map .sc)) :: [(1, Box.arr e 0 st (l.map fun x => (enc x).map .sc))]) [(1, Box.arr e 0 st ((sorted l.toArray).toList.map fun x => (enc x).map .sc))] := by
      refine leH_of (X := True) rfl ?_
      repeat' first | exact True.intro | exact rfl | exact id | exact leRs_refl _ | ((conv => whnf); with_reducible apply And.intro) | ((conv => whnf); exact True.intro)
    refine ⟨_, _, [(1, .arr e 0 st ((sorted l.toArray).toList.map fun x => (enc x).map .sc))], _, he, ⟨rfl, rfl⟩, gm'.hap.weaken H, ?_⟩
    · simp only [repA, rep, repL]
      exact ⟨#[], rfl, rfl⟩
end
end Go.AX
end
section
namespace Go.AX
def fromZ (n l m : Int) : Bool := decide (l ≤ n) && decide (n ≤ m)
def mayPl (x : Pl) : Bool := fromZ x.node 1 15 && fromZ x.serial 1 4611686018427387903
def mayFr (w : Int) (f : Fr) : Bool := fromZ f.first 1 9 && (fromZ f.bookies.length w 5 && (f.bookies.all mayPl && decide (f.bookies.map (·.node)).Nodup))
def first1 (l : List Fr) : Bool :=
  match l with
  | [] => false
  | f :: _ => f.first == 1
def mayFrs (w : Int) (l : List Fr) : Bool := fromZ l.length 1 6 && (first1 l && (l.all (mayFr w) && decide (l.Pairwise fun a b => a.first < b.first)))
def mayLg (l : Lg) : Bool := fromZ l.id 1 4611686018427387903 && (fromZ l.a 1 l.w && (decide (l.w ≤ 5) && (mayFrs l.w l.frags && (fromZ l.closed 0 1 && decide (l.last ≤ 8 * l.closed)))))
theorem adj_pairwise {α : Type} {key : α → Int} {l : List α} (h : ∀ j (hj : j + 1 < l.length), key (l[j]'(by omega)) < key l[j + 1]) : l.Pairwise fun a b => key a < key b := by
  rw [List.pairwise_iff_getElem]
  intro i j hi hj hij
  induction j with
  | zero => omega
  | succ j ih =>
    by_cases e : i = j
    · subst e; exact h i hj
    · exact Int.lt_trans (ih (by omega) (by omega)) (h j hj)
def cmpPl (x y : Pl) : Int := Go.Lib.compareInt x.node y.node
def sortA (d : Array Pl) : Array Pl := Go.Sort.pdq (Go.Proofs.ltOf cmpPl) d 0 d.size (Go.Lib.bitLen d.size) true true
def sortPl (l : List Pl) : List Pl := (sortA l.toArray).toList
theorem ltPl (x y : Pl) : Go.Proofs.ltOf cmpPl x y = decide (x.node < y.node) := by
  unfold Go.Proofs.ltOf cmpPl Go.Lib.compareInt
  by_cases h1 : x.node < y.node
  · simp [h1]
  · by_cases h2 : y.node < x.node <;> simp [h1, h2]
theorem swoPl : Go.Sort.SWO (Go.Proofs.ltOf cmpPl) where
  irrefl x := by rw [ltPl]; simp
  trans x y z h1 h2 := by rw [ltPl] at *; simp at *; omega
  ntrans x y z h1 h2 := by rw [ltPl] at *; simp at *; omega
theorem sortA_sorts (d : Array Pl) : Go.Sort.PermIn 0 d.size d (sortA d) ∧ Go.Sort.SortedIn (Go.Proofs.ltOf cmpPl) 0 d.size (sortA d) :=
  Go.Sort.pdq_sorts (Go.Proofs.ltOf cmpPl) swoPl d 0 d.size (Go.Lib.bitLen d.size) true true (Nat.zero_le _) (Nat.le_refl _) (Or.inl rfl)
theorem sortA_size (d : Array Pl) : (sortA d).size = d.size := (sortA_sorts d).1.1
theorem sortPl_perm (l : List Pl) : (sortPl l).Perm l := by
  have h := (sortA_sorts l.toArray).1
  have h1 := h.1
  have h2 := h.2.2
  rw [show (sortA l.toArray).extract 0 l.toArray.size = sortA l.toArray from by rw [← h1]; simp, show l.toArray.extract 0 l.toArray.size = l.toArray from by simp] at h2
  exact h2
theorem sortPl_sorted (l : List Pl) : (sortPl l).Pairwise fun a b => a.node ≤ b.node := by
  have h := (sortA_sorts l.toArray).2
  have h1 := sortA_size l.toArray
  rw [List.pairwise_iff_getElem]
  intro i j hi hj hij
  simp only [sortPl, Array.length_toList] at hi hj
  have := h i j (Nat.zero_le _) hij (by omega)
  rw [ltPl, getElem!_pos (sortA l.toArray) j hj, getElem!_pos (sortA l.toArray) i hi] at this
  simp only [sortPl, Array.getElem_toList]
  simp at this
  exact this
theorem sortPl_rise (l : List Pl) : decide ((sortPl l).Pairwise fun a b => a.node < b.node) = decide (l.map (·.node)).Nodup := by
  rw [decide_eq_decide]
  have hp := (sortPl_perm l).map (·.node)
  rw [← hp.nodup_iff]
  unfold List.Nodup
  rw [List.pairwise_map]
  constructor
  · intro h; exact h.imp fun {a b} h => by omega
  · intro h; exact ((sortPl_sorted l).and h).imp fun {a b} h => by omega
def Lg.ok (l : Lg) : Prop := ∀ x ∈ l.frags, x.bookies.length ≤ 8796093022208
end Go.AX
end
section
namespace Go.AX
variable {α : Type}
def Fr.ok (f : Fr) : Prop := 0 ≤ f.first ∧ f.first ≤ 18446744073709551615 ∧ f.bookies.length ≤ 8796093022208
def reqOf (f : Ft) : Rq := { to := f.set[f.at_.toNat]!, kind := 3, ledger := f.ledger, n := f.n, epoch := f.tag, sure := 0, copy := 0, body := [], keep := [] }
structure Hd (p : Prop) : Prop where
  out : p
def frGood (w : Int) (l : List Fr) (j : Nat) (hj : j < l.length) : Prop :=
  l[j].first ≤ 9 ∧ (∀ h : 0 < j, (l[j - 1]'(by omega)).first < l[j].first) ∧ w ≤ l[j].bookies.length ∧ l[j].bookies.length ≤ 5 ∧ l[j].bookies.all mayPl = true ∧ (l[j].bookies.map (·.node)).Nodup
theorem first1_iff (l : List Fr) : first1 l = true ↔ ∃ h : 0 < l.length, l[0].first = 1 := by
  cases l with
  | nil => simp [first1]
  | cons f r => simp [first1]
theorem mayFrs_iff (w : Int) (l : List Fr) : mayFrs w l = true ↔ 1 ≤ l.length ∧ l.length ≤ 6 ∧ first1 l = true ∧ ∀ j (hj : j < l.length), frGood w l j hj := by
  simp only [mayFrs, Bool.and_eq_true, fromZ, decide_eq_true_eq, List.all_eq_true]
  constructor
  · rintro ⟨⟨h1, h2⟩, h3, h4, h5⟩
    refine ⟨by omega, by omega, h3, fun j hj => ?_⟩
    have := h4 l[j] (List.getElem_mem hj)
    simp only [mayFr, Bool.and_eq_true, fromZ, decide_eq_true_eq, List.all_eq_true] at this
    obtain ⟨⟨a1, a2⟩, ⟨a3, a4⟩, a5, a6⟩ := this
    refine ⟨a2, fun h => ?_, a3, by omega, List.all_eq_true.2 a5, a6⟩
    exact List.pairwise_iff_getElem.1 h5 (j - 1) j (by omega) hj (by omega)
  · rintro ⟨h1, h2, h3, h4⟩
    refine ⟨⟨by omega, by omega⟩, h3, fun x hx => ?_, ?_⟩
    · obtain ⟨j, hj, rfl⟩ := List.getElem_of_mem hx
      obtain ⟨a2, a1, a3, a4, a5, a6⟩ := h4 j hj
      simp only [mayFr, Bool.and_eq_true, fromZ, decide_eq_true_eq]
      refine ⟨⟨?_, a2⟩, ⟨a3, by omega⟩, a5, a6⟩
      obtain ⟨h0, e0⟩ := (first1_iff l).1 h3
      have : ∀ j (hj : j < l.length), 1 ≤ l[j].first := by
        intro j
        induction j with
        | zero => intro hj; omega
        | succ j ih =>
          intro hj
          have := ih (by omega)
          have := (h4 (j + 1) hj).2.1 (by omega)
          simp only [Nat.add_sub_cancel] at this
          omega
      exact this j hj
    · exact adj_pairwise (key := fun f : Fr => f.first) fun j hj => by
        have := (h4 (j + 1) hj).2.1 (by omega)
        simp only [Nat.add_sub_cancel] at this
        exact this
theorem mayFrs_not {w : Int} {l : List Fr} {j : Nat} (hj : j < l.length) (h : ¬ frGood w l j hj) : mayFrs w l = false := by
  cases e : mayFrs w l with
  | false => rfl
  | true => exact absurd (((mayFrs_iff w l).1 e).2.2.2 j hj) h
theorem nodup_take {l : List Pl} {k : Nat} (hk : k < l.length) (h : ((l.take k).map (·.node)).Nodup) (h' : ∀ i (hi : i < l.length), i < k → l[i].node ≠ l[k].node) : ((l.take (k + 1)).map (·.node)).Nodup := by
  rw [List.take_succ_eq_append_getElem hk, List.map_append]
  rw [List.nodup_append]
  refine ⟨h, by simp, ?_⟩
  intro a ha b hb
  simp only [List.map_cons, List.map_nil, List.mem_singleton] at hb
  subst hb
  obtain ⟨x, hx, rfl⟩ := List.mem_map.1 ha
  obtain ⟨i, hi, rfl⟩ := List.getElem_of_mem hx
  rw [List.length_take] at hi
  rw [List.getElem_take]
  exact h' i (by omega) (by omega)
end Go.AX
end
section
namespace Go.AX
structure Cl where
  what : Int
  own : Int
  now : Int
  r : Rs
  l : Lg
deriving DecidableEq, Inhabited
def Cl.c (x : Cl) : List PV := [ii x.what, ii x.own, uu x.now, ii x.r.from_.node, uu x.r.from_.serial, ii x.r.kind, ii x.r.code, uu x.r.ledger, uu x.r.n, uu x.r.epoch, uu x.r.sure, bys x.r.body,
  uu x.l.id, ii x.l.w, ii x.l.a, slF x.l.frags, ii x.l.closed, uu x.l.last]
def longF (l : List Fr) : Bool := decide (l.length > 30) || l.any fun f => decide ((f.bookies.length : Int) > 30)
def u64R (n : Int) : Prop := 0 ≤ n ∧ n ≤ 18446744073709551615
def i64R (n : Int) : Prop := -9223372036854775808 ≤ n ∧ n ≤ 9223372036854775807
def lgR (l : Lg) : Prop := u64R l.id ∧ i64R l.w ∧ i64R l.a ∧ i64R l.closed ∧ u64R l.last ∧ ∀ f ∈ l.frags, u64R f.first
structure GoodF (n : Int) (f : Ft) : Prop where
  n : f.n = n
  pos : 0 < f.set.length
  len : f.set.length ≤ 5
  at0 : 0 ≤ f.at_
  at1 : f.at_ < f.set.length
  body : f.body.length ≤ 5000
  since : u64R f.since
  done : f.done = 0 ∨ f.done = 1
theorem GoodF.sm {n : Int} {f : Ft} (h : GoodF n f) : f.set.length ≤ 8796093022208 ∧ f.body.length ≤ 140737488355328 := ⟨by have := h.len; omega, by have := h.body; omega⟩
end Go.AX
end
section
namespace Go.AX
structure Mk where
  producer : Int
  seq : Int
  offset : Int
deriving DecidableEq, Inhabited
def Mk.c (x : Mk) : List PV := [ii x.producer, uu x.seq, uu x.offset]
def slM (l : List Mk) : PV := .sl false 3 (l.map Mk.c)
structure Cu where
  sub : Int
  at_ : Int
deriving DecidableEq, Inhabited
def Cu.c (x : Cu) : List PV := [ii x.sub, uu x.at_]
def slK (l : List Cu) : PV := .sl false 2 (l.map Cu.c)
structure Ch where
  epoch : Int
  owner : Int
  inc : Int
  renewed : Int
  first : Int
  trim : Int
  ledgers : List Int
  seen : List Mk
  cursors : List Cu
deriving DecidableEq, Inhabited
def Ch.c (x : Ch) : List PV := [uu x.epoch, ii x.owner, uu x.inc, uu x.renewed, uu x.first, uu x.trim, slU x.ledgers, slM x.seen, slK x.cursors]
def slH (l : List Ch) : PV := .sl false 9 (l.map Ch.c)
def slLg (l : List Lg) : PV := .sl false 6 (l.map Lg.c)
structure Oc where
  code : Int
  epoch : Int
  at_ : Int
  ledger : Int
  owner : Int
deriving DecidableEq, Inhabited
def Oc.c (x : Oc) : List PV := [ii x.code, uu x.epoch, uu x.at_, uu x.ledger, ii x.owner]
structure Pa where
  who : Int
  inc : Int
  n : Int
  out : Oc
deriving DecidableEq, Inhabited
def Pa.c (x : Pa) : List PV := [ii x.who, uu x.inc, uu x.n, ii x.out.code, uu x.out.epoch, uu x.out.at_, uu x.out.ledger, ii x.out.owner]
def slA (l : List Pa) : PV := .sl false 8 (l.map Pa.c)
structure Pn where
  version : Int
  next : Int
  channels : List Ch
  ledgers : List Lg
  past : List Pa
deriving DecidableEq, Inhabited
def Pn.c (x : Pn) : List PV := [uu x.version, uu x.next, slH x.channels, slLg x.ledgers, slA x.past]
def cnt (n : Int) : Bool := !decide (n > 4611686018427387903)
def lg0 : Lg := ⟨0, 0, 0, [], 0, 0⟩
def findP (p : Pn) (id : Int) : Option Lg := p.ledgers.find? fun l => l.id == id
def idsP (p : Pn) : List Int := p.ledgers.map (·.id)
def namedP (p : Pn) : List Int := p.channels.flatMap (·.ledgers)
def addU (a b : Int) : Int := IntKind.u64.wrap (a + b)
def endC (p : Pn) (c : Ch) : Int := c.ledgers.foldl (fun e id => addU e ((findP p id).getD lg0).last) c.first
def openC (p : Pn) (c : Ch) : Option Lg :=
  match c.ledgers.getLast? with
  | none => none
  | some id => match findP p id with
    | none => none
    | some l => if l.closed == 0 then some l else none
def hasP (p : Pn) (n : Int) : Bool := decide (n ≥ 1) && decide (n ≤ (p.channels.length : Int))
def chP (p : Pn) (n : Int) : Ch := p.channels[(n - 1).toNat]!
def endP (p : Pn) (n : Int) : Int := if hasP p n then endC p (chP p n) else 0
def openP (p : Pn) (n : Int) : Option Lg := if hasP p n then openC p (chP p n) else none
def ownedC (c : Ch) : Bool :=
  if c.epoch == 0 then (c.owner == 0 && (c.inc == 0 && decide ((c.ledgers.length : Int) = 0))) else fromZ c.owner 1 15 && fromZ c.inc 1 4611686018427387903
def riseZ (l : List Int) : Bool := decide (l.Pairwise (· < ·))
def sortU (l : List Int) : List Int := l.mergeSort fun x y => decide (x ≤ y)
def markOk (c : Ch) (x : Mk) : Bool := fromZ x.producer 1 15 && (fromZ x.seq 1 4611686018427387903 && decide (x.offset < c.first))
def seenC (c : Ch) : Bool := decide ((c.seen.length : Int) ≤ 6) && (riseZ (c.seen.map (·.producer)) && (decide (c.seen.map (·.offset)).Nodup && c.seen.all (markOk c)))
def cursOk (x : Cu) : Bool := fromZ x.sub 1 3 && cnt x.at_
def ledsOk (p : Pn) : List Int → Bool
  | [] => true
  | id :: r => (match findP p id with
    | none => false
    | some l => !(l.closed == 0 && !r.isEmpty)) && ledsOk p r
def mostC (p : Pn) (c : Ch) : Int := if (openC p c).isSome then addU (endC p c) 8 else endC p c
def chanOk (p : Pn) (c : Ch) : Bool :=
  (cnt c.epoch && (cnt c.renewed && cnt c.first)) && (ownedC c && (decide ((c.ledgers.length : Int) ≤ 8) && (riseZ c.ledgers && (fromZ c.trim c.first (mostC p c) && (cnt (addU (endC p c) 8) &&
  (ledsOk p c.ledgers && (seenC c && (decide ((c.cursors.length : Int) ≤ 3) && (riseZ (c.cursors.map (·.sub)) && c.cursors.all cursOk)))))))))
def pastOk (x : Pa) : Bool := fromZ x.who 1 15 && (fromZ x.inc 1 4611686018427387903 && (fromZ x.n 1 4611686018427387903 && (fromZ x.out.code 0 9 && (fromZ x.out.owner 0 15 && (cnt x.out.epoch && (cnt x.out.at_ && cnt x.out.ledger))))))
def mayPn (p : Pn) : Bool :=
  cnt p.version && (fromZ p.next 1 4611686018427387904 && (fromZ p.channels.length 1 3 && (p.ledgers.all (fun l => mayLg l && decide (l.id < p.next)) && (riseZ (idsP p) && (decide (sortU (namedP p) = idsP p) &&
  (p.channels.all (chanOk p) && (riseZ (p.past.map (·.who)) && p.past.all pastOk)))))))
structure Sp where
  offset : Int
  ledger : Int
  n : Int
deriving DecidableEq, Inhabited
def Sp.c (x : Sp) : List PV := [uu x.offset, uu x.ledger, uu x.n]
def slS (l : List Sp) : PV := .sl false 3 (l.map Sp.c)
end Go.AX
end
