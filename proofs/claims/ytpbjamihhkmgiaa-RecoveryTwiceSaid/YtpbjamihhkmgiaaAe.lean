/-
  Conditions: none. A framework for walks: abstract values, memory, and conditions that suffice; the chapters in plain terms.
-/
import Derived.Test.YtpbjamihhkmgiaaAd
import Derived.ProofKit
import Derived.OpenShut
set_option linter.unusedSectionVars false
set_option linter.unusedVariables false
set_option linter.unusedSimpArgs false
section
namespace Go.AX
def oth (l : Lg) (from_ : Pl) (n : Int) : List Pl := (setOf l.frags l.w n).filter fun p => !(p == from_)
def getR (l : Lg) (n : Int) (p : Pl) : Rq := ⟨p, 3, l.id, n, 0, 0, 0, [], []⟩
def addR (l : Lg) (to : Pl) (n : Int) (b : List UInt8) : Rq := ⟨to, 1, l.id, n, 0, l.last, 1, b, []⟩
theorem filter_any_nil (l : List Pl) : (l.filter fun p => !([] : List Pl).any (· == p)) = l := by simp
theorem onC_cons {c : Cp} {n : Int} {r : List Int} (h : hadL c.l c.from_ c.n = n :: r) (now : Int) :
    onC c now = (⟨c.l, c.from_, c.to, 1, n, [], [], now, now⟩, (oth c.l c.from_ n).map (getR c.l n)) := by
  unfold onC
  rw [h]
  simp only [askC]
  rw [if_neg (by omega)]
  simp only [ite_self, filter_any_nil]
  rfl
theorem onC_nil {c : Cp} (h : hadL c.l c.from_ c.n = []) (now : Int) : onC c now = (⟨c.l, c.from_, c.to, 3, 0, [], [], c.born, c.since⟩, []) := by
  unfold onC
  rw [h]
theorem hadFrom_next {l : Lg} {f : Pl} : ∀ (m k : Nat) {b n : Int} {r : List Int}, (l.last - b).toNat - k = m → hadFrom l f b k = n :: r → b < n ∧ n ≤ l.last ∧ hadFrom l f n 0 = r := by
  intro m
  induction m with
  | zero =>
    intro k b n r hm h
    rw [hadFrom_end l f b k (by omega)] at h
    cases h
  | succ m ih =>
    intro k b n r hm h
    rw [hadFrom_step l f b k (by omega)] at h
    split at h
    · rename_i hp
      simp only [List.cons.injEq] at h
      obtain ⟨rfl, rfl⟩ := h
      refine ⟨by omega, by omega, ?_⟩
      unfold hadFrom
      congr 1
      apply List.ext_getElem
      · simp only [List.length_map, List.length_range']; omega
      · intro i h1 h2
        simp only [List.getElem_map, List.getElem_range']
        omega
    · exact ih (k + 1) (by omega) h
theorem hadL_next {l : Lg} {f : Pl} {b n : Int} {r : List Int} (h : hadL l f b = n :: r) : hadL l f n = r := by
  unfold hadL at h
  split at h
  · rename_i hc
    simp only [Bool.and_eq_true, decide_eq_true_eq] at hc
    obtain ⟨h1, h2, h3⟩ := hadFrom_next _ 0 rfl h
    unfold hadL
    split
    · exact h3
    · rename_i hn
      simp only [Bool.and_eq_true, decide_eq_true_eq] at hn
      have : ¬ n < l.last := fun hlt => hn ⟨hc.1, hlt⟩
      rw [hadFrom_end l f n 0 (by omega)] at h3
      exact h3
  · cases h
def bodyL (n : Int) : List UInt8 := [101, UInt8.ofNat (48 + (n % 10).toNat)]
def ansC (l : Lg) (lost fresh : Pl) (has : List ByteArray) (r : Rq) : Rs × List ByteArray :=
  if r.to == fresh && r.kind == 1 then (⟨r.to, r.kind, 0, r.ledger, r.n, r.epoch, 0, []⟩, if decide (r.n < has.length) then has.set r.n.toNat ⟨r.body.toArray⟩ else has)
  else if r.to == lost || r.to == fresh then (⟨r.to, r.kind, 4, r.ledger, r.n, r.epoch, 0, []⟩, has)
  else if r.kind == 3 && (setOf l.frags l.w r.n).any (· == r.to) then (⟨r.to, r.kind, 0, r.ledger, r.n, r.epoch, 0, bodyL r.n⟩, has)
  else (⟨r.to, r.kind, 3, r.ledger, r.n, r.epoch, 0, []⟩, has)
theorem getElem!_mem' {l : List Pl} (h : 0 < l.length) (k : Nat) : l[k % l.length]! ∈ l := by
  rw [getElem!_pos l _ (Nat.mod_lt _ h)]
  exact List.getElem_mem _
theorem setOf_frag {l : Lg} {n : Int} {p : Pl} (h : p ∈ setOf l.frags l.w n) : ∃ f ∈ l.frags, (∀ q ∈ setOf l.frags l.w n, q ∈ f.bookies) := by
  unfold setOf at h ⊢
  split at h
  · simp at h
  · rename_i f hf
    refine ⟨f, (lastP_mem _ _ _ hf).1, ?_⟩
    intro q hq
    split at hq
    · rename_i hw
      simp only [fromPl, List.mem_map] at hq
      obtain ⟨i, _, rfl⟩ := hq
      exact getElem!_mem' (by omega) _
    · simp at hq
theorem fits_ne {l : Lg} {f t : Pl} (hF : cFits l f t = true) {n : Int} (hf : (setOf l.frags l.w n).any (· == f) = true) {p : Pl} (hp : p ∈ setOf l.frags l.w n) (hne : p ≠ f) : p ≠ t := by
  rintro rfl
  obtain ⟨g, hg, hall⟩ := setOf_frag hp
  obtain ⟨q, hq, e⟩ := List.any_eq_true.1 hf
  obtain rfl : q = f := by simpa using e
  have h1 : g.bookies.any (· == q) = true := List.any_eq_true.2 ⟨q, hall q hq, by simp⟩
  have h2 : hasOther g.bookies q p = true := List.any_eq_true.2 ⟨p, hall p hp, by simp [hne]⟩
  obtain ⟨i, hi, rfl⟩ := List.getElem_of_mem hg
  rw [cFits_no i hi h1 h2] at hF
  cases hF
theorem oth_pos {l : Lg} (h : mayLg l = true) (hw : l.w ≠ 1) {n : Int} (hn : 1 ≤ n) (f : Pl) : ∃ p r, oth l f n = p :: r := by
  obtain ⟨hlen, hw1, hw5⟩ := setOf_len h hn
  have hw2 : 2 ≤ l.w := by omega
  cases ho : oth l f n with
  | cons p r => exact ⟨p, r, rfl⟩
  | nil =>
    exfalso
    have hall : ∀ x ∈ setOf l.frags l.w n, x = f := by
      intro x hx
      have := List.filter_eq_nil_iff.1 ho x hx
      simpa using this
    simp only [mayLg, Bool.and_eq_true, fromZ, decide_eq_true_eq] at h
    obtain ⟨_, _, _, a6, _⟩ := h
    obtain ⟨g, hg, hm⟩ := fragAt_may a6 hn
    obtain ⟨j, hj, e⟩ := List.getElem_of_mem hm
    have hgood := ((mayFrs_iff _ _).1 a6).2.2.2 j hj
    simp only [setOf, hg] at hall
    have hlw : l.w ≤ g.bookies.length := by
      simp only [frGood] at hgood
      rw [e] at hgood
      exact hgood.2.2.1
    rw [if_pos ⟨by omega, hlw⟩] at hall
    obtain ⟨k, hk⟩ : ∃ k, k = ((n - g.first) % g.bookies.length).toNat := ⟨_, rfl⟩
    rw [← hk] at hall
    have hpos : 0 < g.bookies.length := by omega
    have h0 := hall (g.bookies[(k + 0) % g.bookies.length]!) (List.mem_map.2 ⟨0, by simp; omega, rfl⟩)
    have h1 := hall (g.bookies[(k + 1) % g.bookies.length]!) (List.mem_map.2 ⟨1, by simp; omega, rfl⟩)
    rw [getElem!_pos g.bookies _ (Nat.mod_lt _ hpos)] at h0 h1
    have hnd : (g.bookies.map (·.node)).Nodup := by
      simp only [frGood] at hgood
      rw [e] at hgood
      exact hgood.2.2.2.2.2
    have hlt0 := Nat.mod_lt (k + 0) hpos
    have hlt1 := Nat.mod_lt (k + 1) hpos
    have hne : (k + 0) % g.bookies.length ≠ (k + 1) % g.bookies.length := by
      rw [Nat.add_zero, mod_succ k _ hpos]
      split <;> omega
    rcases Nat.lt_or_gt_of_ne hne with hlt | hlt
    · have := List.pairwise_iff_getElem.1 hnd _ _ (by simpa using hlt0) (by simpa using hlt1) hlt
      simp only [List.getElem_map, h0, h1, ne_eq, not_true_eq_false] at this
    · have := List.pairwise_iff_getElem.1 hnd _ _ (by simpa using hlt1) (by simpa using hlt0) hlt
      simp only [List.getElem_map, h0, h1, ne_eq, not_true_eq_false] at this
inductive EndInv (l : Lg) (f t : Pl) (now : Int) : Nat → Cp → List Rq → Prop
  | get (m : Int) (R : List Int) (hR : hadL l f m = R) (hm : m ∈ hadL l f 0) : EndInv l f t now (2 * R.length + 2) ⟨l, f, t, 1, m, [], [], now, now⟩ ((oth l f m).map (getR l m))
  | add (m : Int) (R : List Int) (b : List UInt8) (hb : b.length = 2) (hR : hadL l f m = R) (hm : m ∈ hadL l f 0) : EndInv l f t now (2 * R.length + 1) ⟨l, f, t, 2, m, [], b, now, now⟩ [addR l t m b]
  | done (born since : Int) : EndInv l f t now 0 ⟨l, f, t, 3, 0, [], [], born, since⟩ []
theorem EndInv.zero {l : Lg} {f t : Pl} {now : Int} {c : Cp} {q : List Rq} (h : EndInv l f t now 0 c q) : c.phase = 3 ∧ q = [] := by
  generalize hk : 0 = k at h
  cases h with
  | get => omega
  | add => omega
  | done => exact ⟨rfl, rfl⟩
theorem EndInv.step {l : Lg} {f t : Pl} {now : Int} (hmay : mayLg l = true) (hF : cFits l f t = true) (hw : l.w ≠ 1) {k : Nat} {c : Cp} {q : List Rq} (h : EndInv l f t now (k + 1) c q) (has : List ByteArray) :
    ∃ q0 r, q = q0 :: r ∧ (c.phase = 1 ∨ c.phase = 2) ∧ (ansC l f t has q0).1.body.length ≤ 2 ∧ q0.body.length ≤ 2 ∧ (0 ≤ q0.n ∧ q0.n ≤ 8) ∧ EndInv l f t now k (takeC c now (ansC l f t has q0).1).1 (takeC c now (ansC l f t has q0).1).2 := by
  have hft : f ≠ t := by
    simp only [cFits, Bool.and_eq_true, bne_iff_ne] at hF
    exact hF.2
  generalize hk : k + 1 = k1 at h
  cases h with
  | get m R hR hm =>
    have hmm := hadL_mem hm
    obtain ⟨p, r, hp⟩ := oth_pos hmay hw (n := m) (by omega) f
    have hpm : p ∈ oth l f m := by rw [hp]; simp
    have hpm' := hpm
    simp only [oth, List.mem_filter, Bool.not_eq_true', beq_eq_false_iff_ne] at hpm'
    have hpt := fits_ne hF hmm.2.2.2 hpm'.1 hpm'.2
    have hans : ansC l f t has (getR l m p) = (⟨p, 3, 0, l.id, m, 0, 0, bodyL m⟩, has) := by
      unfold ansC
      rw [if_neg (by simp [getR]), if_neg (by simp [getR, hpm'.2, hpt]), if_pos]
      · rfl
      simp only [Bool.and_eq_true]
      exact ⟨by simp [getR], List.any_eq_true.2 ⟨p, hpm'.1, by simp [getR]⟩⟩
    refine ⟨getR l m p, r.map (getR l m), by rw [hp]; rfl, .inl rfl, by rw [hans]; simp [bodyL], by simp [getR], by simp only [getR]; omega, ?_⟩
    rw [hans]
    have hothers : (others ⟨l, f, t, 1, m, [], [], now, now⟩).any (· == p) = true := List.any_eq_true.2 ⟨p, hpm, by simp⟩
    have htake : takeC ⟨l, f, t, 1, m, [], [], now, now⟩ now ⟨p, 3, 0, l.id, m, 0, 0, bodyL m⟩ = (⟨l, f, t, 2, m, [], bodyL m, now, now⟩, [addR l t m (bodyL m)]) := by
      unfold takeC
      rw [if_neg (by simp), if_pos (by simp only [hothers]; simp), if_pos (by simp)]
      unfold askC
      rw [if_pos rfl]
      rfl
    rw [htake]
    obtain rfl : k = 2 * R.length + 1 := by omega
    exact EndInv.add m R (bodyL m) (by simp [bodyL]) hR hm
  | add m R b hb hR hm =>
    have hmm := hadL_mem hm
    have hans : (ansC l f t has (addR l t m b)).1 = ⟨t, 1, 0, l.id, m, 0, 0, []⟩ := by
      unfold ansC
      rw [if_pos (by simp [addR])]
      rfl
    refine ⟨addR l t m b, [], rfl, .inr rfl, by rw [hans]; simp, by simp [addR]; omega, by simp only [addR]; omega, ?_⟩
    rw [hans]
    have htake : takeC ⟨l, f, t, 2, m, [], b, now, now⟩ now ⟨t, 1, 0, l.id, m, 0, 0, []⟩ = onC ⟨l, f, t, 2, m, [], b, now, now⟩ now := by
      unfold takeC
      rw [if_neg (by simp), if_neg (by simp), if_pos (by simp), if_pos (by simp)]
    rw [htake]
    obtain rfl : k = 2 * R.length := by omega
    cases R with
    | nil =>
      rw [onC_nil (c := ⟨l, f, t, 2, m, [], b, now, now⟩) hR]
      exact EndInv.done now now
    | cons n r =>
      rw [onC_cons (c := ⟨l, f, t, 2, m, [], b, now, now⟩) hR]
      exact EndInv.get n r (hadL_next hR) (by
        have h1 : n ∈ hadL l f m := by rw [hR]; simp
        unfold hadL at h1 ⊢
        split at h1
        · rename_i hc
          simp only [Bool.and_eq_true, decide_eq_true_eq] at hc
          rw [if_pos (by simp only [Bool.and_eq_true, decide_eq_true_eq]; exact ⟨hc.1, by omega⟩)]
          obtain ⟨g1, g2, g3⟩ := hadFrom_mem h1
          unfold hadFrom
          rw [List.mem_filter, List.mem_map]
          refine ⟨⟨(n - 0 - 1).toNat, ?_, by omega⟩, g3⟩
          rw [List.mem_range'_1]
          omega
        · simp at h1)
  | done => omega
end Go.AX
end
section
namespace Go.AX
def cntK (set among : List Pl) : Nat → Nat
  | 0 => 0
  | k + 1 => cntK set among k + (if h : k < set.length then (if among.any (· == set[k]) && !(set.take k).any (· == set[k]) then 1 else 0) else 0)
def cntP (set among : List Pl) : Nat := cntK set among set.length
theorem cntK_succ (set among : List Pl) (k : Nat) (h : k < set.length) : cntK set among (k + 1) = cntK set among k + (if among.any (· == set[k]) && !(set.take k).any (· == set[k]) then 1 else 0) := by
  rw [cntK, dif_pos h]
theorem cntK_le (set among : List Pl) (k : Nat) : cntK set among k ≤ k := by
  induction k with
  | zero => exact Nat.le_refl _
  | succ k ih =>
    rw [cntK]
    split
    · split <;> omega
    · omega
def ackedP (set : List Pl) (a : Int) (from_ : List Pl) : Bool := decide (a ≥ 1) && decide ((cntP set from_ : Int) ≥ a)
def missingP (set : List Pl) (w a : Int) (from_ : List Pl) : Bool := decide (w < a) || decide (w - a < (cntP set from_ : Int))
def setsP (f : Fr) (w : Int) : List (List Pl) := (List.range f.bookies.length).map fun k => fromPl f.bookies k w.toNat
def coveredP (f : Fr) (w a : Int) (from_ : List Pl) : Bool :=
  if decide (w < 1) || decide (w > (f.bookies.length : Int)) then false else (setsP f w).all fun s => missingP s w a from_
structure Rv where
  l : Lg
  epoch : Int
  phase : Int
  heard : List Pl
  sure : Int
  n : Int
  none : List Pl
  has : List Pl
  body : List UInt8
  frags : List Fr
  bad : List Pl
  born : Int
  since : Int
def Rv.c (x : Rv) : List PV := [uu x.l.id, ii x.l.w, ii x.l.a, slF x.l.frags, ii x.l.closed, uu x.l.last, uu x.epoch, ii x.phase, slP x.heard, uu x.sure, uu x.n, slP x.none, slP x.has, bys x.body, slF x.frags, slP x.bad, uu x.born, uu x.since]
def Rv.v (x : Rv) (heard none has frags bad out : AV) : List AV :=
  [.pv (uu x.l.id), .pv (ii x.l.w), .pv (ii x.l.a), .pv (slF x.l.frags), .pv (ii x.l.closed), .pv (uu x.l.last), .pv (uu x.epoch), .pv (ii x.phase), heard, .pv (uu x.sure), .pv (uu x.n), none, has, .pv (bys x.body), frags, bad, .pv (uu x.born), .pv (uu x.since), out]
def readsR (x : Rv) : List Pl := setOf x.l.frags x.l.w x.n
def writesR (x : Rv) : List Pl := setOf x.frags x.l.w x.n
def lastF (x : Rv) : Fr := x.l.frags[x.l.frags.length - 1]!
def fenceR (x : Rv) (p : Pl) : Rq := ⟨p, 2, x.l.id, 0, x.epoch, 0, 0, [], []⟩
def entryR (x : Rv) (p : Pl) : Rq := ⟨p, 3, x.l.id, x.n, x.epoch, 0, 0, [], []⟩
def copyR (x : Rv) (p : Pl) : Rq := ⟨p, 1, x.l.id, x.n, x.epoch, x.sure, 0, x.body, []⟩
def fencesQ (x : Rv) (l : List Pl) : List Rq := (l.filter fun p => !x.heard.any (· == p)).map (fenceR x)
def asksQ (x : Rv) (l : List Pl) : List Rq := (l.filter fun p => x.heard.any (· == p) && !x.none.any (· == p)).map (entryR x)
def copiesQ (x : Rv) (l : List Pl) : List Rq := (l.filter fun p => !x.has.any (· == p)).map (copyR x)
theorem filter_map_take {α β : Type} (p : α → Bool) (f : α → β) (l : List α) (k : Nat) (h : k < l.length) : ((l.take (k + 1)).filter p).map f = if p l[k] then ((l.take k).filter p).map f ++ [f l[k]] else ((l.take k).filter p).map f := by
  rw [List.take_succ_eq_append_getElem h, List.filter_append, List.map_append]
  cases hp : p l[k] <;> simp [hp]
theorem filter_map_len {α β : Type} (p : α → Bool) (f : α → β) (l : List α) (k : Nat) : (((l.take k).filter p).map f).length ≤ l.length := by
  rw [List.length_map]
  exact Nat.le_trans (List.length_filter_le _ _) (by rw [List.length_take]; omega)
end Go.AX
end
section
namespace Go.AX
section
variable (b n : Nat)
mutual
def mvA : AV → AV
  | .pv p => .pv p
  | .agg cs => .agg (mvL cs)
  | .tup cs => .tup (mvL cs)
  | .ptr x o => .ptr x o
  | .slw x v => match Nat.beq x b with
    | true => .slw n 0
    | false => .slw x v
  | .sub x v st lo hi => match Nat.beq x b with
    | true => .pv .junk
    | false => .sub x v st lo hi
  | .aptr x v i o => match Nat.beq x b with
    | true => .pv .junk
    | false => .aptr x v i o
  | .fn f a c => .fn f (mvL a) (mvL c)
def mvL : List AV → List AV
  | [] => []
  | x :: r => mvA x :: mvL r
end
def mvB (x : Nat) (box : Box) : Box :=
  match box with
  | .var cells => .var (mvL b n cells)
  | .arr e v st rows => match Nat.beq x b with
    | true => .roa 1 st []
    | false => .arr e v st rows
  | .rov cells => .rov cells
  | .roa v st rows => .roa v st rows
  | .tr y v rest st => .tr y v rest st
def mvH : List (Nat × Box) → List (Nat × Box)
  | [] => []
  | (x, box) :: r => (x, mvB b n x box) :: mvH r
end
theorem nbeq_false {x y : Nat} (h : x ≠ y) : Nat.beq x y = false := by
  cases h' : Nat.beq x y with
  | false => rfl
  | true => exact absurd (Nat.eq_of_beq_eq_true h') h
def mvM (b n : Nat) (hp : List (Nat × Box)) (K : List (Nat × Box) → Prop) : Prop :=
  match lk hp b with
  | some (.arr e v st rows) => match v with
    | 0 => match lk hp n with
      | none => K ((n, .arr e 0 st rows) :: mvH b n hp)
      | some _ => False
    | _ => False
  | _ => False
theorem lk_mvH (b n : Nat) : ∀ (hp : List (Nat × Box)) (x : Nat), lk (mvH b n hp) x = (lk hp x).map (mvB b n x)
  | [], x => rfl
  | (y, box) :: r, x => by
    simp only [mvH, lk_cons]
    split
    · rename_i e; subst e; rfl
    · exact lk_mvH b n r x
def mvR (b n : Nat) (R : Real) : Real where
  blk x := if x = n then R.blk b else R.blk x
  nil x := if x = n then R.nil b else R.nil x
  cap x := if x = n then R.cap b else R.cap x
  Y := R.Y
section
variable {N : Nat → Prop} {w : World} {hp : List (Nat × Box)} {R : Real} {b n : Nat} {e : TypeId} {st : Nat} {rows : List (List PV)}
variable (hb : lk hp b = some (.arr e 0 st rows)) (hn : lk hp n = none)
include hb hn
theorem mv_other {x : Nat} (h : x ≠ n) : (mvR b n R).blk x = R.blk x ∧ (mvR b n R).nil x = R.nil x ∧ (mvR b n R).cap x = R.cap x := by simp [mvR, h]
omit hn in
theorem mv_n : (mvR b n R).blk n = R.blk b ∧ (mvR b n R).nil n = R.nil b ∧ (mvR b n R).cap n = R.cap b := by simp [mvR]
theorem mv_lk (x : Nat) (h : x ≠ n) : lk ((n, .arr e 0 st rows) :: mvH b n hp) x = (lk hp x).map (mvB b n x) := by
  rw [lk_cons, if_neg (fun h' => h h'.symm), lk_mvH]
omit hb hn in
theorem slv_eq3 {R R' : Real} {x y k : Nat} (h1 : R'.blk y = R.blk x) (h2 : R'.nil y = R.nil x) (h3 : R'.cap y = R.cap x) : slv R' y k = slv R x k := by
  simp only [slv, h1, h2, h3]
mutual
theorem mv_rep : ∀ (v : AV) (x : Value), repA N w hp R v x → repA N w ((n, .arr e 0 st rows) :: mvH b n hp) (mvR b n R) (mvA b n v) x
  | .pv p, x, h => by simpa only [repA, mvA] using h
  | .agg cs, x, h => by
    simp only [repA, mvA] at h ⊢
    obtain ⟨vs, h1, h2⟩ := h
    exact ⟨vs, h1, mv_repC cs _ h2⟩
  | .tup cs, x, h => by
    simp only [repA, mvA] at h ⊢
    obtain ⟨vs, h1, h2⟩ := h
    exact ⟨vs, h1, mv_repL cs _ h2⟩
  | .fn f a c, x, h => by
    simp only [repA, mvA] at h ⊢
    obtain ⟨fs, cs, h1, h2, h3⟩ := h
    exact ⟨fs, cs, h1, mv_repL a _ h2, mv_repL c _ h3⟩
  | .ptr y o, x, h => by
    simp only [repA, mvA] at h ⊢
    by_cases hyn : y = n
    · subst hyn; rw [hn] at h; exact h.elim
    rw [mv_lk hb hn y hyn]
    obtain ⟨e1, e2, e3⟩ := mv_other (R := R) hb hn hyn
    cases hy : lk hp y with
    | none => rw [hy] at h; exact h.elim
    | some box =>
      rw [hy] at h
      cases box with
      | var cells => simpa only [Option.map_some, mvB, refPtr, e1] using h
      | rov cells => simpa only [Option.map_some, mvB, refPtr, e1] using h
      | arr _ _ _ _ => exact h.elim
      | roa _ _ _ => exact h.elim
      | tr _ _ _ _ => exact h.elim
  | .slw y v, x, h => by
    simp only [repA, mvA] at h ⊢
    by_cases hyb : y = b
    · subst hyb
      rw [hb] at h
      obtain ⟨h1, h2, h3⟩ := h
      have hv : v = 0 := by omega
      subst hv
      rw [show Nat.beq y y = true from Nat.beq_refl y]
      simp only [repA, lk_cons, if_true]
      refine ⟨Nat.le_refl _, h2, fun _ => ?_⟩
      obtain ⟨e1, e2, e3⟩ := mv_n (R := R) (n := n) hb
      rw [slv_eq3 e1 e2 e3]
      exact h3 rfl
    · rw [show Nat.beq y b = false from nbeq_false hyb]
      simp only [repA]
      by_cases hyn : y = n
      · subst hyn; rw [hn] at h; exact h.elim
      rw [mv_lk hb hn y hyn]
      obtain ⟨e1, e2, e3⟩ := mv_other (R := R) hb hn hyn
      cases hy : lk hp y with
      | none => rw [hy] at h; exact h.elim
      | some box =>
        rw [hy] at h
        cases box with
        | var cells => exact h.elim
        | rov cells => exact h.elim
        | arr e' v' st' rows' =>
          simp only [Option.map_some, mvB, show Nat.beq y b = false from nbeq_false hyb, refSl, slv_eq3 e1 e2 e3] at h ⊢
          exact h
        | roa v' st' rows' =>
          simp only [Option.map_some, mvB, refSl, slv_eq3 e1 e2 e3] at h ⊢
          exact h
        | tr _ _ _ _ => exact h.elim
  | .sub y v st' lo hi, x, h => by
    simp only [mvA]
    by_cases hyb : y = b
    · subst hyb
      rw [show Nat.beq y y = true from Nat.beq_refl y]
      simp only [repA, rep]
    · rw [show Nat.beq y b = false from nbeq_false hyb]
      simp only [repA] at h ⊢
      obtain ⟨u, h, h2, h3⟩ := h
      refine ⟨u, ?_, h2, h3⟩
      by_cases hyn : y = n
      · subst hyn; rw [hn] at h; exact h.elim
      rw [mv_lk hb hn y hyn]
      obtain ⟨e1, e2, e3⟩ := mv_other (R := R) hb hn hyn
      cases hy : lk hp y with
      | none => rw [hy] at h; exact h.elim
      | some box =>
        rw [hy] at h
        cases box with
        | var cells => exact h.elim
        | rov cells => exact h.elim
        | arr e' v' st' rows' =>
          simp only [Option.map_some, mvB, show Nat.beq y b = false from nbeq_false hyb, refSl, slv_eq3 e1 e2 e3] at h ⊢
          exact h
        | roa v' st' rows' =>
          simp only [Option.map_some, mvB, refSl, slv_eq3 e1 e2 e3] at h ⊢
          exact h
        | tr _ _ _ _ => exact h.elim
  | .aptr y v i o, x, h => by
    simp only [mvA]
    by_cases hyb : y = b
    · subst hyb
      rw [show Nat.beq y y = true from Nat.beq_refl y]
      simp only [repA, rep]
    · rw [show Nat.beq y b = false from nbeq_false hyb]
      simp only [repA] at h ⊢
      by_cases hyn : y = n
      · subst hyn; rw [hn] at h; exact h.elim
      rw [mv_lk hb hn y hyn]
      obtain ⟨e1, e2, e3⟩ := mv_other (R := R) hb hn hyn
      cases hy : lk hp y with
      | none => rw [hy] at h; exact h.elim
      | some box =>
        rw [hy] at h
        cases box with
        | var cells => exact h.elim
        | rov cells => exact h.elim
        | arr e' v' st' rows' =>
          simp only [Option.map_some, mvB, show Nat.beq y b = false from nbeq_false hyb, refAp, e1, e2] at h ⊢
          exact h
        | roa v' st' rows' =>
          simp only [Option.map_some, mvB, refAp, e1, e2] at h ⊢
          exact h
        | tr _ _ _ _ =>
          simp only [Option.map_some, mvB, refAp, e1, e2] at h ⊢
          exact h
theorem mv_repL : ∀ (vs : List AV) (xs : List Value), repAL N w hp R vs xs → repAL N w ((n, .arr e 0 st rows) :: mvH b n hp) (mvR b n R) (mvL b n vs) xs
  | [], xs, h => by simpa only [repAL, mvL] using h
  | v :: vs, xs, h => by
    simp only [repAL, mvL] at h ⊢
    obtain ⟨x, r, h1, h2, h3⟩ := h
    exact ⟨x, r, h1, mv_rep v x h2, mv_repL vs r h3⟩
theorem mv_repC : ∀ (vs : List AV) (xs : List Value), repAC N w hp R vs xs → repAC N w ((n, .arr e 0 st rows) :: mvH b n hp) (mvR b n R) (mvL b n vs) xs
  | [], xs, h => by simpa only [repAC, mvL] using h
  | v :: vs, xs, h => by
    simp only [repAC, mvL] at h ⊢
    obtain ⟨x, r, h1, h0, h2, h3⟩ := h
    exact ⟨x, r, h1, h0, mv_rep v x h2, mv_repC vs r h3⟩
end
theorem mv_own (y r : Nat) : ownBox (mvR b n R) y r (lk ((n, .arr e 0 st rows) :: mvH b n hp) y) ↔ (y = n ∧ ownBox R b r (lk hp b)) ∨ (y ≠ n ∧ y ≠ b ∧ ownBox R y r (lk hp y)) := by
  by_cases hyn : y = n
  · subst hyn
    obtain ⟨e1, e2, e3⟩ := mv_n (R := R) (n := y) hb
    simp only [lk_cons, if_true, ownBox, hb, e1, e2, true_and, not_true_eq_false, false_and, or_false, ne_eq]
  · rw [mv_lk hb hn y hyn]
    obtain ⟨e1, e2, e3⟩ := mv_other (R := R) hb hn hyn
    by_cases hyb : y = b
    · subst hyb
      rw [hb]
      simp only [Option.map_some, mvB, show Nat.beq y y = true from Nat.beq_refl y, ownBox, hyn, false_and, ne_eq, not_true_eq_false, and_false, or_self]
    · cases hy : lk hp y with
      | none => simp [ownBox, hyn]
      | some box =>
        cases box with
        | var cells => simp [mvB, ownBox, hyn, hyb, e1]
        | rov cells => simp [mvB, ownBox, hyn]
        | arr e' v' st' rows' => simp [mvB, ownBox, hyn, hyb, e1, e2, show Nat.beq y b = false from nbeq_false hyb]
        | roa v' st' rows' => simp [mvB, ownBox, hyn]
        | tr _ _ _ _ => simp [mvB, ownBox, hyn, hyb, mvR]
theorem mv_owned (r : Nat) : owned (mvR b n R) ((n, .arr e 0 st rows) :: mvH b n hp) r ↔ owned R hp r := by
  constructor
  · rintro ⟨y, hy⟩
    rcases (mv_own hb hn y r).1 hy with ⟨_, h⟩ | ⟨_, _, h⟩
    · exact ⟨b, h⟩
    · exact ⟨y, h⟩
  · rintro ⟨y, hy⟩
    by_cases hyb : y = b
    · subst hyb; exact ⟨n, (mv_own hb hn n r).2 (.inl ⟨rfl, hy⟩)⟩
    · by_cases hyn : y = n
      · subst hyn; rw [hn] at hy; exact hy.elim
      · exact ⟨y, (mv_own hb hn y r).2 (.inr ⟨hyn, hyb, hy⟩)⟩
theorem mv_Hap {c : Ctx} (hn1 : 1000 ≤ n) (h : Hap c R hp w) : Hap c (mvR b n R) ((n, .arr e 0 st rows) :: mvH b n hp) w := by
  have hown := mv_owned (R := R) hb hn
  have hNof : ∀ r, Nof c (mvR b n R) ((n, .arr e 0 st rows) :: mvH b n hp) r ↔ Nof c R hp r := fun r => by
    simp only [Nof, hown]
  have hNeq : Nof c (mvR b n R) ((n, .arr e 0 st rows) :: mvH b n hp) = Nof c R hp := funext fun r => propext (hNof r)
  have hOeq : owned (mvR b n R) ((n, .arr e 0 st rows) :: mvH b n hp) = owned R hp := funext fun r => propext (hown r)
  have hbx := h.boxes b _ hb
  refine ⟨?_, ?_, ?_, h.evo, ?_, ?_, by rw [hOeq]; exact h.fixed, h.lo⟩
  · intro y box hy
    rw [hNeq]
    by_cases hyn : y = n
    · subst hyn
      simp only [lk_cons, if_true, Option.some.injEq] at hy
      subst hy
      obtain ⟨xs, h1, h2⟩ := hbx
      obtain ⟨e1, e2, e3⟩ := mv_n (R := R) (n := y) hb
      exact ⟨xs, by rw [slv_eq3 e1 e2 e3]; exact h1, h2⟩
    · rw [mv_lk hb hn y hyn] at hy
      obtain ⟨e1, e2, e3⟩ := mv_other (R := R) hb hn hyn
      cases hl : lk hp y with
      | none => rw [hl] at hy; cases hy
      | some bx =>
        rw [hl] at hy
        simp only [Option.map_some, Option.some.injEq] at hy
        subst hy
        have hr := h.boxes y _ hl
        cases bx with
        | var cells =>
          obtain ⟨cur, t, h1, h2⟩ := hr
          exact ⟨cur, t, by rw [e1]; exact h1, mv_repC hb hn cells _ h2⟩
        | rov cells =>
          obtain ⟨cur, t, fr, h1, h2, h3⟩ := hr
          exact ⟨cur, t, fr, by rw [e1]; exact h1, by rw [e1]; exact h2, h3⟩
        | arr e' v' st' rows' =>
          simp only [mvB]
          by_cases hyb : y = b
          · subst hyb
            rw [show Nat.beq y y = true from Nat.beq_refl y]
            rw [hb] at hl
            cases hl
            simp only [realz, slv_eq3 e1 e2 e3]
            obtain ⟨xs, ⟨_, h3⟩, _⟩ := hbx
            unfold slv
            split
            · simp only [rep]
              exact ⟨none, 0, 0, rfl, rfl, ⟨Nat.le_refl _, by omega⟩, fun _ => ⟨by trivial, by trivial⟩, fun a ha => by cases ha⟩
            · rename_i hnil
              rcases h3 with ⟨h3, _⟩ | ⟨g', cap, cur, e4, _, hg, hle, hm, _⟩
              · simp [slv, hnil] at h3
              · simp only [slv, hnil, Bool.false_eq_true, if_false, Value.slice.injEq] at e4
                simp only [rep]
                refine ⟨_, 0, R.cap y, rfl, rfl, ⟨Nat.zero_le _, ?_⟩, fun hh => (by cases hh), fun a ha => .inl (by trivial)⟩
                have := e4.2.2
                unfold maxLen at hm
                omega
          · rw [nbeq_false hyb]
            obtain ⟨xs, h1, h2⟩ := hr
            exact ⟨xs, by rw [slv_eq3 e1 e2 e3]; exact h1, h2⟩
        | roa v' st' rows' =>
          simp only [mvB, realz, slv_eq3 e1 e2 e3] at hr ⊢
          exact hr
        | tr y' v' rest st' =>
          simp only [mvB, realz, e2] at hr ⊢
          exact hr
  · intro y y' r h1 h2
    rw [mv_own hb hn] at h1 h2
    rcases h1 with ⟨rfl, h1⟩ | ⟨a1, a2, h1⟩ <;> rcases h2 with ⟨rfl, h2⟩ | ⟨b1, b2, h2⟩
    · rfl
    · exact absurd (h.inj _ _ _ h1 h2).symm b2
    · exact absurd (h.inj _ _ _ h1 h2) a2
    · exact h.inj _ _ _ h1 h2
  · intro r hr
    exact h.free r ((hown r).1 hr)
  · intro r hr
    exact h.own0 r ((hown r).1 hr)
  · intro v x hk
    have hlow := c.hK v x hk
    have hold := h.kept v x hk
    rw [hNeq]
    have key : ∀ y, y < 1000 → y ≠ n := fun y hy => by omega
    cases v with
    | ptr y o =>
      have := mv_rep (b := b) (n := n) hb hn _ _ hold
      simpa only [mvA] using this
    | slw y v =>
      simp only [lowRef, Nat.blt_eq] at hlow
      by_cases hyb : y = b
      · subst hyb
        simp only [repA, hb, refSl] at hold
        simp only [repA]
        rw [mv_lk hb hn y (key y hlow), hb]
        simp only [Option.map_some, mvB, show Nat.beq y y = true from Nat.beq_refl y, refSl]
        exact ⟨by omega, hold.2.1, fun hh => by omega⟩
      · have := mv_rep (b := b) (n := n) hb hn _ _ hold
        simpa only [mvA, nbeq_false hyb] using this
    | aptr y v i o =>
      simp only [lowRef, Bool.and_eq_true, Nat.blt_eq] at hlow
      by_cases hyb : y = b
      · subst hyb
        simp only [repA, hb, refAp] at hold
        simp only [repA]
        rw [mv_lk hb hn y (key y hlow.1), hb]
        simp only [Option.map_some, mvB, show Nat.beq y y = true from Nat.beq_refl y, refAp]
        exact ⟨by omega, hold.2.1, fun hh => by omega⟩
      · have := mv_rep (b := b) (n := n) hb hn _ _ hold
        simpa only [mvA, nbeq_false hyb] using this
    | pv p => cases hlow
    | agg cs => cases hlow
    | tup cs => cases hlow
    | sub y v st lo hi => cases hlow
    | fn f a c => cases hlow
end
theorem GC_mv {P : Program} {f : FuncId} {args : List AV} {hp : List (Nat × Box)} {Q : AV → List (Nat × Box) → Prop} (b n : Nat) (hn1 : Nat.ble 1000 n = true)
    (h : mvM b n hp fun hp2 => GC P f (mvL b n args) hp2 Q) : GC P f args hp Q := by
  unfold mvM at h
  split at h
  · rename_i e v st rows hb
    split at h
    · split at h
      · rename_i hn
        refine ⟨h.1, fun c R w cargs hh hargs => ?_⟩
        have hh2 := mv_Hap hb hn (Nat.le_of_ble_eq_true hn1) hh
        have hN : Nof c (mvR b n R) ((n, .arr e 0 st rows) :: mvH b n hp) = Nof c R hp := funext fun r => propext (by simp only [Nof, mv_owned (R := R) hb hn])
        refine h.2 c (mvR b n R) w cargs hh2 ?_
        rw [hN]
        exact mv_repL hb hn _ _ hargs
      · exact h.elim
    · exact h.elim
  · exact h.elim
end Go.AX
end
section
namespace Go.AX
def dropK (k : Nat) : List (Nat × Box) → List (Nat × Box)
  | [] => []
  | (x, b) :: r => match Nat.beq x k with
    | true => dropK k r
    | false => (x, b) :: dropK k r
def ddp : List (Nat × Box) → List (Nat × Box)
  | [] => []
  | (k, b) :: r => (k, b) :: dropK k (ddp r)
theorem lk_dropK (k : Nat) : ∀ (l : List (Nat × Box)) (t : Nat), t ≠ k → lk (dropK k l) t = lk l t
  | [], t, _ => rfl
  | (x, b) :: r, t, h => by
    simp only [dropK]
    split
    · rename_i e
      have := Nat.eq_of_beq_eq_true e
      subst this
      rw [lk_cons, if_neg (fun e => h e.symm)]
      exact lk_dropK x r t h
    · rw [lk_cons, lk_cons]
      split
      · rfl
      · exact lk_dropK k r t h
theorem lk_ddp : ∀ (l : List (Nat × Box)) (t : Nat), lk (ddp l) t = lk l t
  | [], t => rfl
  | (k, b) :: r, t => by
    simp only [ddp, lk_cons]
    split
    · rfl
    · rename_i h
      rw [lk_dropK k _ t (fun e => h e.symm)]
      exact lk_ddp r t
def finI (hp : List (Nat × Box)) (vs : List AV) (Q : AV → List (Nat × Box) → Prop) : Prop :=
  match vs with
  | [v] => Q v (ddp hp)
  | _ => match mkTup vs with
    | v => Q v (ddp hp)
def fnI (T : Tab) (rs : List ResultVar) (Q : AV → List (Nat × Box) → Prop) (e : Exit) (s : AS) : Prop :=
  match e with
  | .normal => resK T s rs fun vs => finI s.hp vs Q
  | .ret => resK T s rs fun vs => finI s.hp vs Q
  | _ => False
theorem hp_congr {c : Ctx} {R : Real} {hp hp' : List (Nat × Box)} {w : World} (hh : ∀ b, lk hp' b = lk hp b) (g : Hap c R hp w) :
    Hap c R hp' w ∧ ∀ v x, repA (Nof c R hp) w hp R v x → repA (Nof c R hp') w hp' R v x := by
  have ho : ∀ r, owned R hp' r ↔ owned R hp r := fun r => by simp only [owned, hh]
  have hN : ∀ r, r < w.heap.size → Nof c R hp' r → Nof c R hp r := fun r _ h => h.imp id (ho r).1
  have hw : ∀ r, r < w.heap.size → ¬ Nof c R hp r → w.heap[r]? = w.heap[r]? := fun _ _ _ => rfl
  have h1 : ∀ b off v, refPtr R b off v (lk hp b) → refPtr R b off v (lk hp' b) := fun b off v h => by rw [hh]; exact h
  have h2 : ∀ b ver v, refSl R b ver v (lk hp b) → refSl R b ver v (lk hp' b) := fun b ver v h => by rw [hh]; exact h
  have h3 : ∀ b ver i off v, refAp R b ver i off v (lk hp b) → refAp R b ver i off v (lk hp' b) := fun b ver i off v h => by rw [hh]; exact h
  have hr := repA_mono hN hw h1 h2 h3
  obtain ⟨a, ha1, ha2⟩ : ∃ a : Act, a.tmps.size = c.n ∧ a.defers = [] := ⟨{ tmps := Array.replicate c.n undef, defers := [] }, by simp, rfl⟩
  have gm := g.gam (tm := []) (nx := 0) (a := a) (fun t v h => by simp [lk] at h) ha1 (by rw [ha2]; exact ⟨[], Marks.nil⟩)
  exact ⟨(gm.congr (tm' := []) (hp' := hp') (fun _ => rfl) hh).hap, hr⟩
theorem finI_sound {c : Ctx} {R : Real} {hp : List (Nat × Box)} {w : World} (g : Hap c R hp w) {vs : List AV} {us : List Value} {Q : AV → List (Nat × Box) → Prop} (h : finI hp vs Q)
    (hv : FL (repA (Nof c R hp) w hp R) vs us) : ∃ r hp' R', Q r hp' ∧ Hap c R' hp' w ∧ repA (Nof c R' hp') w hp' R' r (if hu : us.toArray.size = 1 then us.toArray[0] else .tuple us.toArray) := by
  obtain ⟨g', hr⟩ := hp_congr (lk_ddp hp) g
  have hl := hv.length
  unfold finI at h
  split at h
  · rename_i v
    obtain ⟨u, r, rfl, hu, hx⟩ := hv
    simp only [FL] at hx
    subst hx
    exact ⟨_, _, R, h, g', hr _ _ (by simpa using hu)⟩
  · rename_i hne
    have hsz : us.toArray.size ≠ 1 := by
      intro e
      simp only [List.size_toArray] at e
      rw [e] at hl
      match vs with
      | [v] => exact hne v rfl
      | [] => simp at hl
      | _ :: _ :: _ => simp at hl
    rw [dif_neg hsz]
    refine ⟨_, _, R, h, g', hr _ _ ?_⟩
    have hv' := (repAL_iff _ _ _ _ _ _).2 hv
    unfold mkTup
    split
    · rename_i ps hps
      have := allPV_map hps
      subst this
      simp only [repA, rep]
      exact ⟨us.toArray, rfl, repL_of_map _ _ hv'⟩
    · simp only [repA]
      exact ⟨us.toArray, rfl, hv'⟩
section
variable {P : Program} {T : Tab}
theorem GI_of_VC (hT : TabOk P T) (hdraw : ∀ (c : Ctx) (R : Real) (s : AS) (a : Act) (w : World) (id : Nat) (ops : Array Oper) (K : Exit → AS → Prop) (ro : Option Nat), Gam c R s a w → dstOk c.n ops.toList = true →
      VC P T (.region id ops true) s K → (Code.region id ops true).wpIn (W1 ro) 0 P (fun e a' w' => ∃ R' s', K e s' ∧ Gam c R' s' a' w') a w)
    {f : FuncId} {fn : Func} (hf : FnOk P f fn) {args : List AV} {hp : List (Nat × Box)} (hl : Nat.ble args.length fn.ntmps = true) {Q : AV → List (Nat × Box) → Prop}
    (h : begG args hp fun s => VC P T (codeOf fn) s (fnI T fn.results.toList Q)) : GC P f args hp Q := by
  unfold begG at h
  split at h
  case h_2 => exact h.elim
  rename_i tm0 htm0
  refine ⟨⟨fn, hf.func, hf.body, hf.name⟩, fun c R w cargs hh hargs => ?_⟩
  have hbody : fn.body = some (codeOf fn) := by
    have := hf.body
    unfold codeOf
    cases hb : fn.body with
    | none => rw [hb] at this; cases this
    | some c => rfl
  have hl := Nat.le_of_ble_eq_true hl
  rw [repAL_iff] at hargs
  have hcl : cargs.size = args.length := by have := hargs.length; simpa using this
  let c' : Ctx := { c with n := fn.ntmps, lo := w.heap.size }
  have hh' : Hap c' R hp w := ⟨hh.boxes, hh.inj, hh.free, hh.evo, hh.own0, hh.kept, hh.fixed, ⟨hh.lo.1, Nat.le_trans hh.lo.2.1 hh.lo.2.2, Nat.le_refl _⟩⟩
  refine callsIn_wide.1 (callsIn_of_wp_marks (n := 0) hf.func hbody trivial ?_)
  have g : Gam c' R ⟨tm0, 1000000000, hp⟩ { tmps := cargs ++ Array.replicate (fn.ntmps - cargs.size) undef, defers := [] } w := by
    refine hh'.gam ?_ ?_ ⟨[], Marks.nil⟩
    · intro t v hv
      obtain ⟨_, hp⟩ := numbA_lk lits 0 args tm0 t v lits_ok htm0 hv
      obtain ⟨x, hx, hr⟩ := hargs.get hp
      have hx' : cargs[t]? = some x := by simpa using hx
      refine ⟨x, ?_, hr⟩
      have := size_of_getElem? hx'
      simp only
      rw [Array.getElem?_append_left this]
      exact hx'
    · show (cargs ++ Array.replicate (fn.ntmps - cargs.size) undef).size = fn.ntmps
      simp
      omega
  refine Go.wpIn_mono (VC_sound (c := c') (ro := none) hT hdraw (codeOf fn) ⟨fun _ h => (by cases h), hh.fixed.nc⟩ g hf.ok h) ?_
  rintro e a' w0' ⟨R', s', hK, g0'⟩
  obtain ⟨Ds, mkD⟩ := g0'.marks
  obtain ⟨w', hszw, g', hleave⟩ := marks_gone (c := c') (P := P) (fn := fn) (Rr := fun e w' => ∃ v r hp' R', e = .returned v ∧ Q r hp' ∧ Hap c R' hp' w' ∧ repA (Nof c R' hp') w' hp' R' r v) hh.evo.size (fun r o h => size_of_getElem? (hh.fixed.obj r o h)) Ds a' w0' g0' mkD
  have fin : (resK T s' fn.results.toList fun vs => finI s'.hp vs Q) → LeavesInM Fence.wide 0 P fn a'.tmps (fun e w' => ∃ v r hp' R', e = .returned v ∧ Q r hp' ∧ Hap c R' hp' w' ∧ repA (Nof c R' hp') w' hp' R' r v) a'.defers .returning w0' := by
    intro hK
    refine hleave ?_
    obtain ⟨vs, us, h1, h2, h3⟩ := resK_sound g' hT _ hK
    obtain ⟨r, hp', R2, h4, h5, h6⟩ := finI_sound g'.hap h2 h3
    refine ⟨_, ?_, _, r, hp', R2, rfl, h4, ⟨h5.boxes, h5.inj, h5.free, h5.evo, h5.own0, h5.kept, h5.fixed, ⟨h5.lo.1, hh.lo.2.1, ?_⟩⟩, h6⟩
    rotate_left
    · have h1 : w.heap.size ≤ w'.heap.size := h5.lo.2.2
      exact Nat.le_trans hh.lo.2.2 h1
    have hres : results fn a'.tmps = (fn.results.mapM (resF P a'.tmps) >>= fun vs => pure (if h : vs.size = 1 then vs[0] else .tuple vs)) := by
      unfold results
      congr 2
    have hm : (fn.results.mapM (resF P a'.tmps)).run P w' = .ok us.toArray w' := by
      rw [Array.mapM_eq_mapM_toList, Sem.run_map, h1]
      rfl
    rw [hres]
    simp only [Sem.run_bind, hm, Result.andThen_ok, Sem.run_pure]
  cases e with
  | normal => exact fin hK
  | ret => exact fin hK
  | exit i => exact hK.elim
  | goto l => exact hK.elim
  | panic ch => exact hK.elim
  | outgrown => exact hK.elim
end
end Go.AX
end
section
namespace Go.AX
def thSl (H : List (Nat × Box)) (b ver : Nat) : AV :=
  match lk H b with
  | some (.roa v st rows) => match Nat.beq ver v with
    | true => .pv (.sl false st rows)
    | false => .slw b ver
  | _ => .slw b ver
def thC (H : List (Nat × Box)) : List AV → List AV
  | [] => []
  | .slw b ver :: r => thSl H b ver :: thC H r
  | x :: r => x :: thC H r
section
variable {P : Program} {c : Ctx} {R : Real} {s : AS} {a : Act} {w : World}
theorem thSl_sound (g : Gam c R s a w) {b ver : Nat} {u : Value} (h : repA (Nof c R s.hp) w s.hp R (.slw b ver) u) : repA (Nof c R s.hp) w s.hp R (thSl s.hp b ver) u := by
  unfold thSl
  split
  · rename_i v st rows hb
    split
    · rename_i hv
      simp only [repA] at h ⊢
      exact vwSl_sound (N' := Nof c R s.hp) g (b := b) (ver := ver) (by rw [hb]; simp [vwSl, hv]) (fun r h => h) (fun r ho => by rw [hb] at ho; exact ho.elim) h
    · exact h
  · exact h
theorem thC_sound (g : Gam c R s a w) : ∀ {cs : List AV} {us : List Value}, FC (repA (Nof c R s.hp) w s.hp R) cs us → FC (repA (Nof c R s.hp) w s.hp R) (thC s.hp cs) us
  | [], us, h => h
  | x :: r, us, h => by
    obtain ⟨v, t, e, h1, h2, h3⟩ := h
    cases x with
    | slw b ver => exact ⟨v, t, e, h1, thSl_sound g h2, thC_sound g h3⟩
    | _ => exact ⟨v, t, e, h1, h2, thC_sound g h3⟩
end
end Go.AX
end
section
namespace Go.AX
def thB (H : List (Nat × Box)) (box : Box) : Box :=
  match box with
  | .var cells => .var (thC H cells)
  | .rov cells => .rov cells
  | .arr e v st rows => .arr e v st rows
  | .roa v st rows => .roa v st rows
  | .tr y v rest st => .tr y v rest st
def thH (H : List (Nat × Box)) : List (Nat × Box) → List (Nat × Box)
  | [] => []
  | (k, box) :: r => (k, thB H box) :: thH H r
theorem lk_thH (H : List (Nat × Box)) : ∀ (hp : List (Nat × Box)) (x : Nat), lk (thH H hp) x = (lk hp x).map (thB H)
  | [], x => rfl
  | (y, box) :: r, x => by
    simp only [thH, lk_cons]
    split
    · rfl
    · exact lk_thH H r x
section
variable {P : Program} {c : Ctx} {R : Real} {s : AS} {a : Act} {w : World}
theorem thH_sound (g : Gam c R s a w) : Gam c R ⟨s.tm, s.nx, thH s.hp s.hp⟩ a w ∧ ∀ v x, repA (Nof c R s.hp) w s.hp R v x → repA (Nof c R (thH s.hp s.hp)) w (thH s.hp s.hp) R v x := by
  have hk : ∀ b, lk (thH s.hp s.hp) b = (lk s.hp b).map (thB s.hp) := lk_thH s.hp s.hp
  have hob : ∀ b r, ownBox R b r (lk (thH s.hp s.hp) b) ↔ ownBox R b r (lk s.hp b) := fun b r => by
    rw [hk]
    cases lk s.hp b with
    | none => exact Iff.rfl
    | some box => cases box <;> exact Iff.rfl
  have ho : ∀ r, owned R (thH s.hp s.hp) r ↔ owned R s.hp r := fun r => by simp only [owned, hob]
  have hN : ∀ r, r < w.heap.size → Nof c R (thH s.hp s.hp) r → Nof c R s.hp r := fun r _ h => h.imp id (ho r).1
  have hw : ∀ r, r < w.heap.size → ¬ Nof c R s.hp r → w.heap[r]? = w.heap[r]? := fun _ _ _ => rfl
  have h1 : ∀ b off v, refPtr R b off v (lk s.hp b) → refPtr R b off v (lk (thH s.hp s.hp) b) := fun b off v h => by
    rw [hk]
    cases hb : lk s.hp b with
    | none => rw [hb] at h; exact h.elim
    | some box => rw [hb] at h; cases box <;> exact h
  have h2 : ∀ b ver v, refSl R b ver v (lk s.hp b) → refSl R b ver v (lk (thH s.hp s.hp) b) := fun b ver v h => by
    rw [hk]
    cases hb : lk s.hp b with
    | none => rw [hb] at h; exact h.elim
    | some box => rw [hb] at h; cases box <;> exact h
  have h3 : ∀ b ver i off v, refAp R b ver i off v (lk s.hp b) → refAp R b ver i off v (lk (thH s.hp s.hp) b) := fun b ver i off v h => by
    rw [hk]
    cases hb : lk s.hp b with
    | none => rw [hb] at h; exact h.elim
    | some box => rw [hb] at h; cases box <;> exact h
  have hr := repA_mono hN hw h1 h2 h3
  refine ⟨⟨fun t v hv => ?_, g.size, g.lo, g.marks.imp fun Ds hm => hm.kept (fun _ _ _ => rfl) (fun r _ h => (ho r).1 h), g.fixed.kept (fun _ _ _ => rfl) (fun r _ h => (ho r).1 h), fun b box hb => ?_, fun b b' r hb hb' => ?_, fun r hr => g.free r ((ho r).1 hr), g.evo, fun r hr => g.own0 r ((ho r).1 hr), fun v x h => hr v x (g.kept v x h)⟩, hr⟩
  · obtain ⟨x, hx, h⟩ := g.slots t v hv
    exact ⟨x, hx, hr v x h⟩
  · rw [hk] at hb
    cases hl : lk s.hp b with
    | none => rw [hl] at hb; cases hb
    | some bx =>
      rw [hl] at hb
      simp only [Option.map_some, Option.some.injEq] at hb
      subst hb
      have hx := g.boxes b bx hl
      cases bx with
      | var cells =>
        simp only [realz] at hx
        obtain ⟨cur, e, ha, hc⟩ := hx
        rw [repAC_iff] at hc
        refine ⟨cur, e, ha, repAC_mono hN hw h1 h2 h3 _ _ ?_⟩
        rw [repAC_iff]
        exact thC_sound g hc
      | rov cells =>
        simp only [thB, realz] at hx ⊢
        obtain ⟨cur, e, fr, ha, hn, hb⟩ := hx
        exact ⟨cur, e, fr, ha, fun h => hn (h.imp id (ho _).1), repP_mono hN hw cells _ hb⟩
      | arr e ver st rows =>
        simp only [thB, realz] at hx ⊢
        obtain ⟨xs, ha, hb⟩ := hx
        exact ⟨xs, ha, repR_mono hN hw st rows xs hb⟩
      | roa ver st rows =>
        simp only [thB, realz] at hx ⊢
        exact rep_mono hN hw _ _ hx
      | tr y ver rest st =>
        obtain ⟨k0, kh, k1, k2, k3, k4⟩ := hx
        exact ⟨k0, kh, k1, k2, k3, fun r hr => k4 r (hr.imp id (ho r).1)⟩
  · exact g.inj b b' r ((hob b r).1 hb) ((hob b' r).1 hb')
theorem GCx_post2 {f : FuncId} {args : List AV} {hp : List (Nat × Box)} {r : AV} {hp' : List (Nat × Box)} (h : GCx P f args hp r hp') (ids : List Nat) {r2 : AV} {hp2 : List (Nat × Box)}
    (e : match frz hp' ids with | some fs => entR (thH (fs ++ hp') (fs ++ hp')) r (fun x h => x = r2 ∧ h = hp2) | none => False) : GCx P f args hp r2 hp2 := by
  refine ⟨h.1, fun c R w cargs hh ha => (h.2 c R w cargs hh ha).mono ?_⟩
  rintro ex w' ⟨v, r0, hp0, R', rfl, ⟨e1, e2⟩, hh', hr⟩
  rw [e1, e2] at hr
  rw [e2] at hh'
  split at e
  · rename_i fs hfs
    have g : Gam c R' ⟨[], 0, hp'⟩ { tmps := Array.replicate c.n undef, defers := [] } w' :=
      hh'.gam (fun t v h => by simp [lk] at h) (by simp) ⟨[], ⟨fun d h => by simp at h, rfl, by simp, fun d h => by simp at h, fun d h => by simp at h⟩⟩
    obtain ⟨g1, m1, _⟩ := frz_sound g (fun _ _ h => h) _ _ hfs
    obtain ⟨g2, m2⟩ := thH_sound g1
    obtain ⟨r', hp'', R'', hQ, h1, h2⟩ := entR_sound e g2.hap (m2 _ _ (m1 _ _ hr))
    exact ⟨v, r', hp'', R'', rfl, hQ, h1, h2⟩
  · exact e.elim
end
end Go.AX
end
section
namespace Go.AX
def Rv.w (x : Rv) (lf heard none has frags bad out : AV) : List AV :=
  [.pv (uu x.l.id), .pv (ii x.l.w), .pv (ii x.l.a), lf, .pv (ii x.l.closed), .pv (uu x.l.last), .pv (uu x.epoch), .pv (ii x.phase), heard, .pv (uu x.sure), .pv (uu x.n), none, has, .pv (bys x.body), frags, bad, .pv (uu x.born), .pv (uu x.since), out]
structure Rv.sm (x : Rv) : Prop where
  f1 : x.l.frags.length ≤ 1000 ∧ ∀ f ∈ x.l.frags, f.bookies.length ≤ 1000
  f2 : x.frags.length ≤ 1000 ∧ ∀ f ∈ x.frags, f.bookies.length ≤ 1000
  h : x.heard.length ≤ 1000000
  no : x.none.length ≤ 1000000
  ha : x.has.length ≤ 1000000
  ba : x.bad.length ≤ 1000000
  bo : x.body.length ≤ 1000000
def goOnR (x : Rv) (n now : Int) : Rv × List Rq :=
  let y : Rv := { x with n := n, none := [], has := [], body := [], bad := [] }
  if decide (n > 8) then ({ y with phase := 4 }, [])
  else ({ y with phase := 2, born := now, since := now }, asksQ { y with phase := 2, born := now, since := now } (readsR { y with phase := 2, born := now, since := now }))
def enoughR (x : Rv) (now : Int) : Rv × List Rq := if ackedP (writesR x) x.l.a x.has then goOnR x (x.n + 1) now else (x, [])
def hasR' (x : Rv) (now : Int) (p : Pl) : Rv × List Rq := if x.has.any (· == p) then (x, []) else enoughR { x with has := x.has ++ [p] } now
def fencedR (x : Rv) (now : Int) (r : Rs) : Rv × List Rq :=
  if !(lastF x).bookies.any (· == r.from_) || x.heard.any (· == r.from_) then (x, [])
  else
    let y : Rv := { x with heard := x.heard ++ [r.from_], sure := min (max x.sure r.sure) 8 }
    if y.phase == 1 && coveredP (lastF y) y.l.w y.l.a y.heard then goOnR y (max (y.sure + 1) (lastF y).first) now
    else if y.phase == 2 && (readsR y).any (· == r.from_) then (y, [entryR y r.from_])
    else (y, [])
def copyingR (x : Rv) (now : Int) (r : Rs) : Rv := { x with has := [r.from_], body := r.body, phase := 3, born := now, since := now }
def gotR (x : Rv) (now : Int) (r : Rs) : Rv × List Rq :=
  if x.phase == 2 && (r.code == 0 && (readsR x).any (· == r.from_)) then
    ((enoughR (copyingR x now r) now).1, copiesQ (copyingR x now r) (writesR (copyingR x now r)) ++ (enoughR (copyingR x now r) now).2)
  else if x.phase == 2 && (r.code == 3 && ((readsR x).any (· == r.from_) && (x.heard.any (· == r.from_) && !x.none.any (· == r.from_)))) then
    (if missingP (readsR x) x.l.w x.l.a (x.none ++ [r.from_]) then { x with none := x.none ++ [r.from_], phase := 4 } else { x with none := x.none ++ [r.from_] }, [])
  else if x.phase == 3 && (r.code == 0 && decide (r.body = x.body)) then hasR' x now r.from_
  else (x, [])
def addBad (is : Pl → Bool) (b : List Pl) : List Pl → List Pl
  | [] => b
  | p :: r => addBad is (if is p && !b.any (· == p) then b ++ [p] else b) r
def addedR (x : Rv) (now : Int) (r : Rs) : Rv × List Rq :=
  if r.code == 0 then hasR' x now r.from_
  else if r.code == 2 then ({ x with bad := addBad (· == r.from_) x.bad (writesR x) }, [])
  else if r.code == 4 then ({ x with bad := addBad (fun y => y.node == r.from_.node && y.serial != r.from_.serial) x.bad (writesR x) }, [])
  else (x, [])
def takeR (x : Rv) (now : Int) (r : Rs) : Rv × List Rq :=
  if r.ledger != x.l.id || r.epoch != x.epoch then (x, [])
  else if r.kind == 2 && (r.code == 0 && decide (x.phase < 4)) then fencedR x now r
  else if r.kind == 3 && r.n == x.n then gotR x now r
  else if r.kind == 1 && (r.n == x.n && x.phase == 3) then addedR x now r
  else (x, [])
end Go.AX
end
section
namespace Go.AX
theorem bsl_loop (bs : ByteArray) : ∀ (d i : Nat) (r : List UInt8), bs.size - i = d → ByteArray.toList.loop bs i r = r.reverse ++ bs.data.toList.drop i := by
  intro d
  induction d with
  | zero =>
    intro i r h
    unfold ByteArray.toList.loop
    have : ¬ i < bs.size := by omega
    rw [if_neg this]
    have hd : bs.data.toList.length ≤ i := by rw [Array.length_toList]; show bs.size ≤ i; omega
    rw [List.drop_eq_nil_of_le hd, List.append_nil]
  | succ d ih =>
    intro i r h
    unfold ByteArray.toList.loop
    have hi : i < bs.size := by omega
    rw [if_pos hi, ih (i + 1) _ (by omega)]
    have hd : i < bs.data.toList.length := by rw [Array.length_toList]; exact hi
    rw [List.drop_eq_getElem_cons hd, List.reverse_cons, List.append_assoc]
    congr 1
    show [bs.get! i] ++ _ = _
    have : bs.get! i = bs.data.toList[i] := by
      show bs.data[i]! = _
      rw [getElem!_pos bs.data i hi, Array.getElem_toList]
    rw [this]; rfl
theorem bsl (l : List UInt8) : (⟨l.toArray⟩ : ByteArray).toList = l := by
  unfold ByteArray.toList
  rw [bsl_loop _ _ 0 [] rfl]
  simp
theorem bsl_beq (a b : List UInt8) : ((⟨a.toArray⟩ : ByteArray).toList == (⟨b.toArray⟩ : ByteArray).toList) = decide (a = b) := by
  rw [bsl, bsl]; exact Bool.beq_eq_decide_eq a b
end Go.AX
end
section
namespace Go.AX
theorem addBad_app (is : Pl → Bool) (l m : List Pl) : ∀ b, addBad is b (l ++ m) = addBad is (addBad is b l) m := by
  induction l with
  | nil => intro b; rfl
  | cons p l ih => intro b; rw [List.cons_append, addBad, addBad, ih]
theorem addBad_take (is : Pl → Bool) (b l : List Pl) (k : Nat) (h : k < l.length) : addBad is b (l.take (k + 1)) = (if is l[k] && !(addBad is b (l.take k)).any (· == l[k]) then addBad is b (l.take k) ++ [l[k]] else addBad is b (l.take k)) := by
  rw [List.take_succ_eq_append_getElem h, addBad_app, addBad, addBad]
theorem addBad_len (is : Pl → Bool) (l : List Pl) : ∀ b, (addBad is b l).length ≤ b.length + l.length := by
  induction l with
  | nil => intro b; simp [addBad]
  | cons p l ih =>
    intro b
    rw [addBad]
    refine Nat.le_trans (ih _) ?_
    split <;> simp <;> omega
end Go.AX
end
section
namespace Go.AX
theorem readsR_hs (x : Rv) (a : List Pl) (b : Int) : readsR { x with heard := a, sure := b } = readsR x := rfl
theorem lastF_hs (x : Rv) (a : List Pl) (b : Int) : lastF { x with heard := a, sure := b } = lastF x := rfl
theorem entryR_hs (x : Rv) (a : List Pl) (b : Int) : entryR { x with heard := a, sure := b } = entryR x := rfl
theorem writesR_has (x : Rv) (a : List Pl) : writesR { x with has := a } = writesR x := rfl
section
variable {x : Rv} {now : Int} {r : Rs}
theorem fencedR_N0 (h1 : (lastF x).bookies.any (· == r.from_) = false) : fencedR x now r = (x, []) := by
  simp only [fencedR, h1, Bool.not_false, Bool.true_or, ↓reduceIte]
theorem fencedR_N1 (h1 : (lastF x).bookies.any (· == r.from_) = true) (h2 : x.heard.any (· == r.from_) = true) : fencedR x now r = (x, []) := by
  simp only [fencedR, h1, h2, Bool.or_true, ↓reduceIte]
section
variable (h1 : (lastF x).bookies.any (· == r.from_) = true) (h2 : x.heard.any (· == r.from_) = false)
include h1 h2
theorem fencedR_B (p1 : (x.phase == 1) = false) (p2 : (x.phase == 2) = false) : fencedR x now r = ({ x with heard := x.heard ++ [r.from_], sure := min (max x.sure r.sure) 8 }, []) := by
  simp only [fencedR, h1, h2, p1, p2, Bool.not_true, Bool.or_self, Bool.false_and, Bool.false_eq_true, ↓reduceIte]
theorem fencedR_C (p1 : (x.phase == 1) = false) (p2 : (x.phase == 2) = true) (h3 : (readsR x).any (· == r.from_) = false) : fencedR x now r = ({ x with heard := x.heard ++ [r.from_], sure := min (max x.sure r.sure) 8 }, []) := by
  simp only [fencedR, h1, h2, p1, p2, readsR_hs, h3, Bool.not_true, Bool.or_self, Bool.false_and, Bool.true_and, Bool.false_eq_true, ↓reduceIte]
theorem fencedR_G (p1 : (x.phase == 1) = false) (p2 : (x.phase == 2) = true) (h3 : (readsR x).any (· == r.from_) = true) : fencedR x now r = ({ x with heard := x.heard ++ [r.from_], sure := min (max x.sure r.sure) 8 }, [entryR x r.from_]) := by
  simp only [fencedR, h1, h2, p1, p2, readsR_hs, entryR_hs, h3, Bool.not_true, Bool.or_self, Bool.false_and, Bool.true_and, Bool.false_eq_true, ↓reduceIte]
theorem fencedR_D (p1 : (x.phase == 1) = true) (p2 : (x.phase == 2) = false) (h3 : coveredP (lastF x) x.l.w x.l.a (x.heard ++ [r.from_]) = false) : fencedR x now r = ({ x with heard := x.heard ++ [r.from_], sure := min (max x.sure r.sure) 8 }, []) := by
  simp only [fencedR, h1, h2, p1, p2, lastF_hs, h3, Bool.not_true, Bool.or_self, Bool.false_and, Bool.true_and, Bool.false_eq_true, ↓reduceIte]
theorem fencedR_E (p1 : (x.phase == 1) = true) (h3 : coveredP (lastF x) x.l.w x.l.a (x.heard ++ [r.from_]) = true) : fencedR x now r = goOnR { x with heard := x.heard ++ [r.from_], sure := min (max x.sure r.sure) 8 } (max (min (max x.sure r.sure) 8 + 1) (lastF x).first) now := by
  simp only [fencedR, h1, h2, p1, lastF_hs, h3, Bool.not_true, Bool.or_self, Bool.true_and, Bool.false_eq_true, ↓reduceIte]
end
theorem goOnR_end {x : Rv} {n now : Int} (h : 8 < n) : (goOnR x n now).2 = [] := by
  unfold goOnR
  rw [if_pos (by simp only [decide_eq_true_eq]; omega)]
theorem goOnR_heard (x : Rv) (n now : Int) : (goOnR x n now).1.heard = x.heard := by unfold goOnR; dsimp only; split <;> rfl
theorem goOnR_none (x : Rv) (n now : Int) : (goOnR x n now).1.none = [] := by unfold goOnR; dsimp only; split <;> rfl
theorem goOnR_has (x : Rv) (n now : Int) : (goOnR x n now).1.has = [] := by unfold goOnR; dsimp only; split <;> rfl
theorem goOnR_frags (x : Rv) (n now : Int) : (goOnR x n now).1.frags = x.frags := by unfold goOnR; dsimp only; split <;> rfl
theorem goOnR_bad (x : Rv) (n now : Int) : (goOnR x n now).1.bad = [] := by unfold goOnR; dsimp only; split <;> rfl
theorem hasR_0 {p : Pl} (h : x.has.any (· == p) = true) : hasR' x now p = (x, []) := by
  simp only [hasR', h, ↓reduceIte]
theorem hasR_N {p : Pl} (h : x.has.any (· == p) = false) (ha : ackedP (writesR x) x.l.a (x.has ++ [p]) = false) : hasR' x now p = ({ x with has := x.has ++ [p] }, []) := by
  simp only [hasR', enoughR, writesR_has, h, ha, Bool.false_eq_true, ↓reduceIte]
theorem hasR_E {p : Pl} (h : x.has.any (· == p) = false) (ha : ackedP (writesR x) x.l.a (x.has ++ [p]) = true) : hasR' x now p = goOnR { x with has := x.has ++ [p] } (x.n + 1) now := by
  simp only [hasR', enoughR, writesR_has, h, ha, Bool.false_eq_true, ↓reduceIte]
end
end Go.AX
namespace Go.AX
structure Rv.big (x : Rv) : Prop where
  sm : x.sm
  hf : frsOk x.l.frags
  hff : frsOk x.frags
  h0 : 0 < x.l.frags.length
  hn : 0 ≤ x.n ∧ x.n ≤ 1000
  hs : 0 ≤ x.sure
  hw : 0 ≤ x.l.w ∧ x.l.w ≤ 9223372036854775807
  ha : 0 ≤ x.l.a
  hset : ∀ n, (setOf x.l.frags x.l.w n).length ≤ 1000
  hset2 : ∀ n, (setOf x.frags x.l.w n).length ≤ 1000
theorem beq_other {a b c : Int} (h : (a == b) = true) (hc : b ≠ c) : (a == c) = false := by
  have : a = b := by simpa using h
  subst this
  simpa using hc
theorem lastF_mem {x : Rv} (h0 : 0 < x.l.frags.length) : lastF x ∈ x.l.frags := by
  unfold lastF
  rw [getElem!_pos x.l.frags _ (by omega)]
  exact List.getElem_mem _
end Go.AX
end
section
namespace Go.AX
def clashK (k node : Int) (l : List Pl) : Nat → Bool
  | 0 => false
  | i + 1 => clashK k node l i || (if h : i < l.length then ((i : Int) != k) && l[i].node == node else false)
theorem clashK_succ (k node : Int) (l : List Pl) (i : Nat) (h : i < l.length) : clashK k node l (i + 1) = (clashK k node l i || (((i : Int) != k) && l[i].node == node)) := by
  rw [clashK, dif_pos h]
theorem clashK_mono (k node : Int) (l : List Pl) {i j : Nat} (h : i ≤ j) (hc : clashK k node l i = true) : clashK k node l j = true := by
  induction j with
  | zero => have : i = 0 := by omega
            subst this; exact hc
  | succ j ih =>
    by_cases e : i = j + 1
    · subst e; exact hc
    · rw [clashK, ih (by omega), Bool.true_or]
def swapP (f : Fr) (old fresh : Pl) : Option Fr :=
  if clashK (ixP (· == old) f.bookies) fresh.node f.bookies f.bookies.length then none
  else if ixP (· == old) f.bookies < 0 then none
  else some ⟨f.first, f.bookies.set (ixP (· == old) f.bookies).toNat fresh⟩
def replP (f : Fr) (old : Pl) : List Pl → Fr × Bool
  | [] => (f, false)
  | p :: r => match swapP f old p with
    | some g => (g, true)
    | none => replP f old r
theorem replP_drop (f : Fr) (old : Pl) (l : List Pl) (k : Nat) (h : k < l.length) : replP f old (l.drop k) = match swapP f old l[k] with
    | some g => (g, true)
    | none => replP f old (l.drop (k + 1)) := by
  rw [List.drop_eq_getElem_cons h, replP]
def rn1 (bad kn : List Pl) (st : Fr × List Pl × Bool) (old : Pl) : Fr × List Pl × Bool :=
  if bad.any (· == old) then
    (if (replP st.1 old kn).2 then ((replP st.1 old kn).1, st.2.1, true) else ((replP st.1 old kn).1, st.2.1 ++ [old], st.2.2))
  else st
def rn2 (w : Int) (st : List Pl × Bool) (old : Pl) : List Pl × Bool :=
  if decide ((st.1.length : Int) > w) && decide (ixP (· == old) st.1 ≥ 0) then (st.1.eraseIdx (ixP (· == old) st.1).toNat, true) else st
def rn3 (e : Int) (b : List Pl) (p : Pl) : List Pl :=
  if decide ((b.length : Int) < (if 5 < e then 5 else e)) && !(b.any fun y => y.node == p.node) then b ++ [p] else b
def left1 (f : Fr) (bad kn : List Pl) : Fr × List Pl × Bool := f.bookies.foldl (rn1 bad kn) (f, [], false)
def left2 (w : Int) (x : Fr × List Pl × Bool) : List Pl × Bool := x.2.1.foldl (rn2 w) (x.1.bookies, x.2.2)
def fit (bad known : List Pl) : List Pl := known.filter fun p => !bad.any (· == p)
def renewP (f : Fr) (w e : Int) (bad known : List Pl) : Fr × Bool :=
  if (left2 w (left1 f bad (fit bad known))).2 then (⟨(left1 f bad (fit bad known)).1.first, (fit bad known).foldl (rn3 e) (left2 w (left1 f bad (fit bad known))).1⟩, true)
  else (fr0, false)
theorem foldl_take_succ {α β : Type} (f : β → α → β) (b : β) (l : List α) (k : Nat) (h : k < l.length) : (l.take (k + 1)).foldl f b = f ((l.take k).foldl f b) l[k] := by
  rw [List.take_succ_eq_append_getElem h, List.foldl_append]
  rfl
theorem swapP_len {f g : Fr} {a b : Pl} (h : swapP f a b = some g) : g.bookies.length = f.bookies.length ∧ g.first = f.first := by
  unfold swapP at h
  split at h
  · cases h
  · split at h
    · cases h
    · simp only [Option.some.injEq] at h
      subst h
      simp
theorem replP_len (f : Fr) (old : Pl) : ∀ l, (replP f old l).1.bookies.length = f.bookies.length ∧ (replP f old l).1.first = f.first
  | [] => ⟨rfl, rfl⟩
  | p :: r => by
    rw [replP]
    cases h : swapP f old p with
    | some g => exact swapP_len h
    | none => exact replP_len f old r
theorem rn1_len (bad kn : List Pl) : ∀ (l : List Pl) (st : Fr × List Pl × Bool), (l.foldl (rn1 bad kn) st).1.bookies.length = st.1.bookies.length ∧ (l.foldl (rn1 bad kn) st).1.first = st.1.first ∧ (l.foldl (rn1 bad kn) st).2.1.length ≤ st.2.1.length + l.length
  | [], st => ⟨rfl, rfl, Nat.le_refl _⟩
  | p :: r, st => by
    obtain ⟨h1, h2, h3⟩ := rn1_len bad kn r (rn1 bad kn st p)
    have h4 := replP_len st.1 p kn
    rw [List.foldl_cons]
    have h5 : (rn1 bad kn st p).1.bookies.length = st.1.bookies.length ∧ (rn1 bad kn st p).1.first = st.1.first ∧ (rn1 bad kn st p).2.1.length ≤ st.2.1.length + 1 := by
      unfold rn1
      split
      · split
        · exact ⟨h4.1, h4.2, Nat.le_succ _⟩
        · refine ⟨h4.1, h4.2, ?_⟩
          simp
      · exact ⟨rfl, rfl, Nat.le_succ _⟩
    refine ⟨h1.trans h5.1, h2.trans h5.2.1, ?_⟩
    simp only [List.length_cons]
    omega
theorem rn2_len (w : Int) : ∀ (l : List Pl) (st : List Pl × Bool), (l.foldl (rn2 w) st).1.length ≤ st.1.length
  | [], st => Nat.le_refl _
  | p :: r, st => by
    rw [List.foldl_cons]
    refine Nat.le_trans (rn2_len w r _) ?_
    unfold rn2
    split
    · exact List.length_eraseIdx_le ..
    · exact Nat.le_refl _
theorem rn3_len (e : Int) : ∀ (l : List Pl) (b : List Pl), (l.foldl (rn3 e) b).length ≤ b.length + l.length
  | [], b => Nat.le_refl _
  | p :: r, b => by
    rw [List.foldl_cons]
    refine Nat.le_trans (rn3_len e r _) ?_
    have h : ∀ c : Bool, (if c = true then b ++ [p] else b).length ≤ b.length + 1 := by intro c; cases c <;> simp
    have h2 : (rn3 e b p).length ≤ b.length + 1 := h _
    simp only [List.length_cons]
    omega
def goneR (now since ticks : Int) : Bool := decide ((if since > now then since else now) - since ≥ ticks)
def tick0 (x : Rv) (now : Int) : Rv := if x.phase == 3 && goneR now x.born 9 then { x with bad := addBad (fun p => !x.has.any (· == p)) x.bad (writesR x), born := now } else x
def fragN (x : Rv) : Fr := (fragAt x.frags x.n).getD fr0
def restN (x : Rv) : List Fr := if (fragN x).first == x.n && decide ((x.frags.length : Int) > 0) then x.frags.take (x.frags.length - 1) else x.frags
def renewN (x : Rv) (known : List Pl) : Fr × Bool := renewP (fragN x) x.l.w (fragN x).bookies.length x.bad known
def renewR (x : Rv) (known : List Pl) : Rv × Bool :=
  if (renewN x known).2 && !(((restN x).length : Int) == 6) then ({ x with bad := [], frags := restN x ++ [⟨x.n, (renewN x known).1.bookies⟩] }, true)
  else ({ x with bad := [] }, false)
def askR (x : Rv) (now : Int) : Rv × List Rq :=
  ({ x with since := now }, if x.phase == 1 then fencesQ x (lastF x).bookies else if x.phase == 2 then asksQ x (readsR x) else if x.phase == 3 then copiesQ x (writesR x) else [])
def tickR (x : Rv) (now : Int) (known : List Pl) : Rv × List Rq :=
  let y := tick0 x now
  if y.phase == 3 && decide ((y.bad.length : Int) > 0) then
    if (renewR y known).2 then
      let z : Rv := { (renewR y known).1 with phase := 3, born := now, since := now }
      ((enoughR z now).1, copiesQ z (writesR z) ++ (enoughR z now).2)
    else if goneR now y.since 3 then askR (renewR y known).1 now else ((renewR y known).1, [])
  else if y.phase != 4 && goneR now y.since 3 then askR y now else (y, [])
def newR (l : Lg) (epoch now : Int) : Rv × List Rq × Int :=
  if !mayLg l || l.closed != 0 || decide (epoch < 1) || decide (epoch > 4611686018427387903) then (⟨⟨0, 0, 0, [], 0, 0⟩, 0, 0, [], 0, 0, [], [], [], [], [], 0, 0⟩, [], 1)
  else (⟨l, epoch, 1, [], 0, 0, [], [], [], l.frags, [], now, now⟩, fencesQ ⟨l, epoch, 1, [], 0, 0, [], [], [], l.frags, [], now, now⟩ (lastF ⟨l, epoch, 1, [], 0, 0, [], [], [], l.frags, [], now, now⟩).bookies, 0)
end Go.AX
end
section
namespace Go.AX
section
variable {P : Program} {c : Ctx} {R : Real} {s : AS} {a : Act} {w : World}
theorem Gam.cut (g : Gam c R s a w) {b : Nat} {e : TypeId} {ver st : Nat} {rows : List (List PV)} (hb' : lk s.hp b = some (.arr e ver st rows)) {m : Nat} (hm0 : m ≤ rows.length) :
    Gam c R (s.app [(b, .arr e (ver + 1) st (rows.take m))]) a w ∧ repA (Nof c R ([(b, .arr e (ver + 1) st (rows.take m))] ++ s.hp)) w ([(b, .arr e (ver + 1) st (rows.take m))] ++ s.hp) R (.slw b (ver + 1)) (subv st 0 m (slv R b rows.length)) := by
  have hR : ∀ b', b' ≠ b → R.blk b' = R.blk b' ∧ R.nil b' = R.nil b' ∧ R.cap b' = R.cap b' := fun _ _ => ⟨rfl, rfl, rfl⟩
  have hlen : (rows.take m).length = m := by simp; omega
  have hre := g.boxes b _ hb'
  have hown2 : ∃ ys, w.ownsRow 0 e st (slv R b (rows.take m).length) (rows.take m).length ys ∧ repR (Nof c R s.hp) w st (rows.take m) ys := by
    cases hn : R.nil b with
    | true =>
      have := arr_nil (g.boxes b _ hb') hn
      subst this
      exact ⟨[], ⟨by simp, .inl ⟨by simp [slv, hn], by simp⟩⟩, by simp [repR]⟩
    | false =>
      obtain ⟨cur, hg, hs, hle, hm, hr, _⟩ := arr_block (g.boxes b _ hb') hn
      have hr2 := repR_pre (i := m) hr
      obtain ⟨t1, t2, t3⟩ := repR_take hr2
      rw [hlen] at t1 t2
      refine ⟨cur.toList.take (m * st), ⟨?_, .inr ⟨R.blk b, R.cap b, cur, by simp [slv, hn], Nat.zero_le _, hg, ?_, hm, hs, by rw [hlen]⟩⟩, t2⟩
      · rw [List.length_take, hlen]; omega
      · rw [hlen]; omega
  obtain ⟨ys, ho, hr⟩ := hown2
  obtain ⟨g2, hr2⟩ := g.setArr (b := b) (e := e) (ver := ver + 1) (st := st) (rows := rows.take m) (R' := R) (.inr ⟨_, _, _, _, hb', by omega⟩) hR (Evo.refl _ w)
    (fun hn => .inl (by rw [hb']; exact ⟨hn, rfl⟩)) ho hr
  refine ⟨g2, ?_⟩
  have : subv st 0 m (slv R b rows.length) = slv R b (rows.take m).length := by
    rw [hlen]
    unfold slv
    split
    · rfl
    · simp only [subv, Nat.sub_zero, Nat.zero_mul]
      split <;> rfl
  rw [this]
  exact hr2
theorem GCx_cut {f : FuncId} {args : List AV} {hp : List (Nat × Box)} {b : Nat} {e : TypeId} {ver st m : Nat} {rows : List (List PV)} {rest : List (Nat × Box)}
    (h : GCx P f args hp (.sub b ver st 0 m) ((b, .arr e ver st rows) :: rest)) (hm : m ≤ rows.length) : GCx P f args hp (.slw b (ver + 1)) ((b, .arr e (ver + 1) st (rows.take m)) :: rest) := by
  refine ⟨h.1, fun c R w cargs hh ha => (h.2 c R w cargs hh ha).mono ?_⟩
  rintro ex w' ⟨v, r0, hp0, R', rfl, ⟨e1, e2⟩, hh', hr⟩
  rw [e1, e2] at hr
  rw [e2] at hh'
  have g : Gam c R' ⟨[], 0, (b, .arr e ver st rows) :: rest⟩ { tmps := Array.replicate c.n undef, defers := [] } w' :=
    hh'.gam (fun t v h => by simp [lk] at h) (by simp) ⟨[], ⟨fun d h => by simp at h, rfl, by simp, fun d h => by simp at h, fun d h => by simp at h⟩⟩
  have hb : lk ((b, Box.arr e ver st rows) :: rest) b = some (.arr e ver st rows) := by rw [lk_cons, if_pos rfl]
  obtain ⟨g1, h1⟩ := g.cut hb hm
  simp only [repA, hb, refSl] at hr
  obtain ⟨u, ⟨_, _, hu⟩, _, rfl⟩ := hr
  rw [hu (by trivial)]
  have hc : ∀ k, lk ((b, Box.arr e (ver + 1) st (rows.take m)) :: rest) k = lk ([(b, .arr e (ver + 1) st (rows.take m))] ++ (b, Box.arr e ver st rows) :: rest) k := by
    intro k
    simp only [List.cons_append, List.nil_append, lk_cons]
    split <;> rfl
  obtain ⟨g2, m2⟩ := hp_congr hc g1.hap
  exact ⟨_, _, _, R', rfl, ⟨rfl, rfl⟩, g2, m2 _ _ h1⟩
end
end Go.AX
end
section
namespace Go.AX
section
variable {P : Program} {c : Ctx} {R : Real} {s : AS} {a : Act} {w : World}
theorem GCx_bump {f : FuncId} {args : List AV} {hp : List (Nat × Box)} {b : Nat} {e : TypeId} {ver st : Nat} {rows : List (List PV)} {rest : List (Nat × Box)}
    (h : GCx P f args hp (.slw b ver) ((b, .arr e ver st rows) :: rest)) : GCx P f args hp (.slw b (ver + 1)) ((b, .arr e (ver + 1) st rows) :: rest) := by
  refine ⟨h.1, fun c R w cargs hh ha => (h.2 c R w cargs hh ha).mono ?_⟩
  rintro ex w' ⟨v, r0, hp0, R', rfl, ⟨e1, e2⟩, hh', hr⟩
  rw [e1, e2] at hr
  rw [e2] at hh'
  have g : Gam c R' ⟨[], 0, (b, .arr e ver st rows) :: rest⟩ { tmps := Array.replicate c.n undef, defers := [] } w' :=
    hh'.gam (fun t v h => by simp [lk] at h) (by simp) ⟨[], ⟨fun d h => by simp at h, rfl, by simp, fun d h => by simp at h, fun d h => by simp at h⟩⟩
  have hb : lk ((b, Box.arr e ver st rows) :: rest) b = some (.arr e ver st rows) := by rw [lk_cons, if_pos rfl]
  obtain ⟨g1, h1⟩ := g.cut hb (Nat.le_refl _)
  simp only [repA, hb, refSl] at hr
  obtain ⟨_, _, hu⟩ := hr
  rw [hu (by trivial)]
  have hs : subv st 0 rows.length (slv R' b rows.length) = slv R' b rows.length := by
    unfold slv
    split
    · rfl
    · simp only [subv, Nat.sub_zero, Nat.zero_mul]
      split <;> rfl
  rw [hs, List.take_length] at h1
  rw [List.take_length] at g1
  have hc : ∀ k, lk ((b, Box.arr e (ver + 1) st rows) :: rest) k = lk ([(b, .arr e (ver + 1) st rows)] ++ (b, Box.arr e ver st rows) :: rest) k := by
    intro k
    simp only [List.cons_append, List.nil_append, lk_cons]
    split <;> rfl
  obtain ⟨g2, m2⟩ := hp_congr hc g1.hap
  exact ⟨_, _, _, R', rfl, ⟨rfl, rfl⟩, g2, m2 _ _ h1⟩
end
end Go.AX
end
section
namespace Go.AX
def fuC (b : Nat) : List AV → List AV
  | [] => []
  | .sub b' ver st lo hi :: r => (match Nat.beq b' b with
    | true => .slw b ver
    | false => .sub b' ver st lo hi) :: fuC b r
  | x :: r => x :: fuC b r
def fuOk (b n : Nat) : List AV → Prop
  | [] => True
  | .sub b' _ _ lo hi :: r => (b' = b → lo = 0 ∧ hi = n) ∧ fuOk b n r
  | _ :: r => fuOk b n r
section
variable {P : Program} {c : Ctx} {R : Real} {s : AS} {a : Act} {w : World}
theorem sub_full {N : Nat → Prop} {hp : List (Nat × Box)} {b ver st : Nat} {e : TypeId} {v st0 : Nat} {rows : List (List PV)} (hb : lk hp b = some (.arr e v st0 rows)) {x : Value}
    (h : repA N w hp R (.sub b ver st 0 rows.length) x) : repA N w hp R (.slw b ver) x := by
  simp only [repA, hb, refSl] at h ⊢
  obtain ⟨u, ⟨hle, hone, hv⟩, hok, rfl⟩ := h
  refine ⟨hle, subv_one _ _ _ _, fun e => ?_⟩
  rw [hv e]
  unfold slv
  split
  · rfl
  · simp only [subv, Nat.sub_zero, Nat.zero_mul]
    split <;> rfl
theorem fuC_sound {N : Nat → Prop} {hp : List (Nat × Box)} {b : Nat} {e : TypeId} {v st0 : Nat} {rows : List (List PV)} (hb : lk hp b = some (.arr e v st0 rows)) :
    ∀ {cs : List AV} {us : List Value}, fuOk b rows.length cs → FC (repA N w hp R) cs us → FC (repA N w hp R) (fuC b cs) us
  | [], us, _, h => h
  | x :: r, us, ho, h => by
    obtain ⟨y, t, e1, h1, h2, h3⟩ := h
    cases x with
    | sub b' ver st lo hi =>
      obtain ⟨o1, o2⟩ := ho
      refine ⟨y, t, e1, h1, ?_, fuC_sound hb o2 h3⟩
      split
      · rename_i hbb
        have hbb := Nat.eq_of_beq_eq_true hbb
        subst hbb
        obtain ⟨rfl, rfl⟩ := o1 rfl
        exact sub_full hb h2
      · exact h2
    | _ => exact ⟨y, t, e1, h1, h2, fuC_sound hb (by exact ho) h3⟩
theorem Gam.recell (g : Gam c R s a w) {k : Nat} {cells cells' : List AV} (hk0 : lk s.hp k = some (.var cells)) (hc : ∀ us, FC (repA (Nof c R s.hp) w s.hp R) cells us → FC (repA (Nof c R s.hp) w s.hp R) cells' us) :
    Gam c R ⟨s.tm, s.nx, (k, .var cells') :: s.hp⟩ a w ∧ ∀ v x, repA (Nof c R s.hp) w s.hp R v x → repA (Nof c R ((k, Box.var cells') :: s.hp)) w ((k, Box.var cells') :: s.hp) R v x := by
  have hk : ∀ b, b ≠ k → lk ((k, Box.var cells') :: s.hp) b = lk s.hp b := fun b h => by rw [lk_cons, if_neg (fun e => h e.symm)]
  have hkk : lk ((k, Box.var cells') :: s.hp) k = some (.var cells') := by rw [lk_cons, if_pos rfl]
  have hob : ∀ b r, ownBox R b r (lk ((k, Box.var cells') :: s.hp) b) ↔ ownBox R b r (lk s.hp b) := fun b r => by
    by_cases h : b = k
    · subst h; rw [hkk, hk0]; exact Iff.rfl
    · rw [hk b h]
  have ho : ∀ r, owned R ((k, Box.var cells') :: s.hp) r ↔ owned R s.hp r := fun r => by simp only [owned, hob]
  have hN : ∀ r, r < w.heap.size → Nof c R ((k, Box.var cells') :: s.hp) r → Nof c R s.hp r := fun r _ h => h.imp id (ho r).1
  have hw : ∀ r, r < w.heap.size → ¬ Nof c R s.hp r → w.heap[r]? = w.heap[r]? := fun _ _ _ => rfl
  have h1 : ∀ b off v, refPtr R b off v (lk s.hp b) → refPtr R b off v (lk ((k, Box.var cells') :: s.hp) b) := fun b off v h => by
    by_cases e : b = k
    · subst e; rw [hk0] at h; rw [hkk]; exact h
    · rw [hk b e]; exact h
  have h2 : ∀ b ver v, refSl R b ver v (lk s.hp b) → refSl R b ver v (lk ((k, Box.var cells') :: s.hp) b) := fun b ver v h => by
    by_cases e : b = k
    · subst e; rw [hk0] at h; exact h.elim
    · rw [hk b e]; exact h
  have h3 : ∀ b ver i off v, refAp R b ver i off v (lk s.hp b) → refAp R b ver i off v (lk ((k, Box.var cells') :: s.hp) b) := fun b ver i off v h => by
    by_cases e : b = k
    · subst e; rw [hk0] at h; exact h.elim
    · rw [hk b e]; exact h
  have hr := repA_mono hN hw h1 h2 h3
  refine ⟨⟨fun t v hv => ?_, g.size, g.lo, g.marks.imp fun Ds hm => hm.kept (fun _ _ _ => rfl) (fun r _ h => (ho r).1 h), g.fixed.kept (fun _ _ _ => rfl) (fun r _ h => (ho r).1 h), fun b box hb => ?_, fun b b' r hb hb' => ?_, fun r hr => g.free r ((ho r).1 hr), g.evo, fun r hr => g.own0 r ((ho r).1 hr), fun v x h => hr v x (g.kept v x h)⟩, hr⟩
  · obtain ⟨x, hx, h⟩ := g.slots t v hv
    exact ⟨x, hx, hr v x h⟩
  · by_cases e : b = k
    · subst e
      rw [hkk] at hb
      simp only [Option.some.injEq] at hb
      subst hb
      have hx := g.boxes b _ hk0
      simp only [realz] at hx
      obtain ⟨cur, e, ha, hcc⟩ := hx
      rw [repAC_iff] at hcc
      refine ⟨cur, e, ha, repAC_mono hN hw h1 h2 h3 _ _ ?_⟩
      rw [repAC_iff]
      exact hc _ hcc
    · rw [hk b e] at hb
      have hx := g.boxes b box hb
      cases box with
      | var cells =>
        simp only [realz] at hx ⊢
        obtain ⟨cur, e, ha, hc⟩ := hx
        exact ⟨cur, e, ha, repAC_mono hN hw h1 h2 h3 _ _ hc⟩
      | rov cells =>
        simp only [realz] at hx ⊢
        obtain ⟨cur, e, fr, ha, hn, hb⟩ := hx
        exact ⟨cur, e, fr, ha, fun h => hn (h.imp id (ho _).1), repP_mono hN hw cells _ hb⟩
      | arr e ver st rows =>
        simp only [realz] at hx ⊢
        obtain ⟨xs, ha, hb⟩ := hx
        exact ⟨xs, ha, repR_mono hN hw st rows xs hb⟩
      | roa ver st rows =>
        simp only [realz] at hx ⊢
        exact rep_mono hN hw _ _ hx
      | tr y ver rest st =>
        obtain ⟨k0, kh, k1, k2, k3, k4⟩ := hx
        exact ⟨k0, kh, k1, k2, k3, fun r hr => k4 r (hr.imp id (ho r).1)⟩
  · exact g.inj b b' r ((hob b r).1 hb) ((hob b' r).1 hb')
theorem GCx_full {f : FuncId} {args : List AV} {hp : List (Nat × Box)} {r : AV} {k b : Nat} {cells : List AV} {e : TypeId} {v st0 : Nat} {rows : List (List PV)} {rest : List (Nat × Box)}
    (h : GCx P f args hp r ((k, .var cells) :: (b, .arr e v st0 rows) :: rest)) (hkb : k ≠ b) (ho : fuOk b rows.length cells) :
    GCx P f args hp r ((k, .var (fuC b cells)) :: (b, .arr e v st0 rows) :: rest) := by
  refine ⟨h.1, fun c R w cargs hh ha => (h.2 c R w cargs hh ha).mono ?_⟩
  rintro ex w' ⟨x, r0, hp0, R', rfl, ⟨e1, e2⟩, hh', hr⟩
  rw [e1, e2] at hr
  rw [e2] at hh'
  have g : Gam c R' ⟨[], 0, (k, .var cells) :: (b, .arr e v st0 rows) :: rest⟩ { tmps := Array.replicate c.n undef, defers := [] } w' :=
    hh'.gam (fun t v h => by simp [lk] at h) (by simp) ⟨[], ⟨fun d h => by simp at h, rfl, by simp, fun d h => by simp at h, fun d h => by simp at h⟩⟩
  have hk0 : lk ((k, Box.var cells) :: (b, Box.arr e v st0 rows) :: rest) k = some (.var cells) := by rw [lk_cons, if_pos rfl]
  have hb : lk ((k, Box.var cells) :: (b, Box.arr e v st0 rows) :: rest) b = some (.arr e v st0 rows) := by rw [lk_cons, if_neg hkb, lk_cons, if_pos rfl]
  obtain ⟨g1, m1⟩ := g.recell hk0 (fun us hu => fuC_sound hb ho hu)
  have hc : ∀ j, lk ((k, Box.var (fuC b cells)) :: (b, Box.arr e v st0 rows) :: rest) j = lk ((k, Box.var (fuC b cells)) :: (k, Box.var cells) :: (b, Box.arr e v st0 rows) :: rest) j := by
    intro j
    simp only [lk_cons]
    split
    · rfl
    · rfl
  obtain ⟨g2, m2⟩ := hp_congr hc g1.hap
  exact ⟨_, _, _, R', rfl, ⟨rfl, rfl⟩, g2, m2 _ _ (m1 _ _ hr)⟩
end
end Go.AX
end
section
namespace Go.AX
theorem enoughR_frags (x : Rv) (now : Int) : (enoughR x now).1.frags = x.frags := by
  unfold enoughR
  split
  · exact goOnR_frags _ _ _
  · rfl
def Rv.z : List AV := [.pv (uu 0), .pv (ii 0), .pv (ii 0), .pv nilS, .pv (ii 0), .pv (uu 0), .pv (uu 0), .pv (ii 0), .pv nilS, .pv (uu 0), .pv (uu 0), .pv nilS, .pv nilS, .pv nilS, .pv nilS, .pv nilS, .pv (uu 0), .pv (uu 0)]
end Go.AX
end
section
namespace Go.AX
theorem addBad_mono (is : Pl → Bool) (p : Pl) : ∀ (l b : List Pl), b.any (· == p) = true → (addBad is b l).any (· == p) = true
  | [], b, h => h
  | q :: r, b, h => by
    rw [addBad]
    refine addBad_mono is p r _ ?_
    split
    · rw [List.any_append, h, Bool.true_or]
    · exact h
theorem addBad_has (is : Pl → Bool) (p : Pl) (hp : is p = true) : ∀ (l b : List Pl), p ∈ l → (addBad is b l).any (· == p) = true
  | [], b, h => by cases h
  | q :: r, b, h => by
    rw [addBad]
    by_cases e : p = q
    · subst e
      refine addBad_mono is p r _ ?_
      cases hb : b.any (· == p) with
      | true => rw [if_neg (by simp)]; exact hb
      | false => rw [if_pos (by simp [hp]), List.any_append]; simp
    · exact addBad_has is p hp r _ ((List.mem_cons.1 h).resolve_left e)
theorem addBad_noop (is : Pl → Bool) : ∀ (l b : List Pl), (∀ p ∈ l, is p = true → b.any (· == p) = true) → addBad is b l = b
  | [], b, h => rfl
  | q :: r, b, h => by
    rw [addBad]
    have hq : ¬ (is q && !b.any (· == q)) = true := by
      intro hc
      simp only [Bool.and_eq_true] at hc
      have := h q (List.mem_cons_self ..) hc.1
      rw [this] at hc
      exact absurd hc.2 (by simp)
    rw [if_neg hq]
    exact addBad_noop is r b fun p hp => h p (List.mem_cons_of_mem _ hp)
theorem addBad_twice (is : Pl → Bool) (l b : List Pl) : addBad is (addBad is b l) l = addBad is b l :=
  addBad_noop is l _ fun p hp hi => addBad_has is p hi l b hp
section
variable {y : Rv} {now : Int} {r : Rs}
theorem tw4 (h : y.phase = 4) : takeR y now r = (y, []) := by
  have p2 : (y.phase == 2) = false := by rw [h]; rfl
  have p3 : (y.phase == 3) = false := by rw [h]; rfl
  have kp : decide (y.phase < 4) = false := by rw [h]; rfl
  simp only [takeR, gotR, p2, p3, kp, Bool.and_false, Bool.false_and, Bool.false_eq_true, ↓reduceIte, ite_self]
theorem twF (h2 : y.heard.any (· == r.from_) = true) (k2 : (r.kind == 2) = true) : takeR y now r = (y, []) := by
  have k3 := beq_other k2 (show (2 : Int) ≠ 3 by decide)
  have k1 := beq_other k2 (show (2 : Int) ≠ 1 by decide)
  have e : fencedR y now r = (y, []) := by
    cases h1 : (lastF y).bookies.any (· == r.from_) with
    | false => exact fencedR_N0 h1
    | true => exact fencedR_N1 h1 h2
  simp only [takeR, e, k3, k1, Bool.false_and, Bool.false_eq_true, ↓reduceIte, ite_self]
theorem twN (k2 : (r.kind == 2) = false) (hn : (r.n == y.n) = false) : takeR y now r = (y, []) := by
  simp only [takeR, k2, hn, Bool.and_false, Bool.false_and, Bool.false_eq_true, ↓reduceIte, ite_self]
theorem twG (k2 : (r.kind == 2) = false) (k3 : (r.kind == 3) = true) (p : (y.phase == 3) = false) (k0 : (r.code == 0) = false) (h : y.none.any (· == r.from_) = true) : takeR y now r = (y, []) := by
  have k1 := beq_other k3 (show (3 : Int) ≠ 1 by decide)
  simp only [takeR, gotR, k2, k1, p, k0, h, Bool.not_true, Bool.and_false, Bool.false_and, Bool.false_eq_true, ↓reduceIte, ite_self]
theorem twH (k2 : (r.kind == 2) = false) (k3 : (r.kind == 3) = true) (p : (y.phase == 2) = false) (h : y.has.any (· == r.from_) = true) : takeR y now r = (y, []) := by
  have k1 := beq_other k3 (show (3 : Int) ≠ 1 by decide)
  have e : hasR' y now r.from_ = (y, []) := hasR_0 h
  simp only [takeR, gotR, e, k2, k1, p, Bool.and_false, Bool.false_and, Bool.false_eq_true, ↓reduceIte, ite_self]
theorem tw1 (k2 : (r.kind == 2) = false) (k3 : (r.kind == 3) = false) (h : addedR y now r = (y, [])) : takeR y now r = (y, []) := by
  simp only [takeR, h, k2, k3, Bool.and_false, Bool.false_and, Bool.false_eq_true, ↓reduceIte, ite_self]
end
structure RBase (l : Lg) (k : Nat) (x : Rv) : Prop where
  hl : x.l = l
  su : 0 ≤ x.sure ∧ x.sure ≤ 8
  he : x.heard.length ≤ k
  fl : x.frags.length ≤ 6
  fr : ∀ f ∈ x.frags, 0 ≤ f.first ∧ f.first ≤ 9 ∧ f.bookies.length ≤ 5
  bs : u64R x.born ∧ u64R x.since
structure RInv (l : Lg) (k : Nat) (x : Rv) : Prop extends RBase l k x where
  ph : x.phase = 1 ∨ x.phase = 2 ∨ x.phase = 3 ∨ x.phase = 4
  n0 : 0 ≤ x.n ∧ x.n ≤ 9
  n1 : x.phase = 1 → x.n = 0
  n3 : x.phase = 2 ∨ x.phase = 3 → x.n ≤ 8
  no : x.none.length ≤ k
  ha : x.has.length ≤ k + 1
  ba : x.bad.length ≤ 5 * k
  bo : x.body.length ≤ 5000
theorem RBase.up {l : Lg} {k : Nat} {x : Rv} (h : RBase l k x) : RBase l (k + 1) x := ⟨h.hl, h.su, Nat.le_succ_of_le h.he, h.fl, h.fr, h.bs⟩
theorem RInv.up {l : Lg} {k : Nat} {x : Rv} (h : RInv l k x) : RInv l (k + 1) x :=
  ⟨h.toRBase.up, h.ph, h.n0, h.n1, h.n3, Nat.le_succ_of_le h.no, Nat.le_succ_of_le h.ha, by have := h.ba; omega, h.bo⟩
theorem goOn_inv {l : Lg} {k : Nat} {y : Rv} (h : RBase l k y) {n now : Int} (hn : 1 ≤ n ∧ n ≤ 9) (hnow : u64R now) : RInv l k (goOnR y n now).1 := by
  unfold goOnR
  dsimp only
  split
  · rename_i hd
    simp only [decide_eq_true_eq] at hd
    exact ⟨⟨h.hl, h.su, h.he, h.fl, h.fr, h.bs⟩, .inr (.inr (.inr rfl)), ⟨by show 0 ≤ n; omega, hn.2⟩, fun e => absurd e (by show ¬ (4 : Int) = 1; decide),
      fun e => (by
        rcases e with e | e
        · exact absurd e (by show ¬ (4 : Int) = 2; decide)
        · exact absurd e (by show ¬ (4 : Int) = 3; decide)), Nat.zero_le _, Nat.zero_le _, Nat.zero_le _, Nat.zero_le _⟩
  · rename_i hd
    simp only [decide_eq_true_eq] at hd
    exact ⟨⟨h.hl, h.su, h.he, h.fl, h.fr, ⟨hnow, hnow⟩⟩, .inr (.inl rfl), ⟨by show 0 ≤ n; omega, hn.2⟩, fun e => absurd e (by show ¬ (2 : Int) = 1; decide),
      fun _ => (by show n ≤ 8; omega), Nat.zero_le _, Nat.zero_le _, Nat.zero_le _, Nat.zero_le _⟩
theorem goOn_n (y : Rv) (n now : Int) : (goOnR y n now).1.n = n := by unfold goOnR; dsimp only; split <;> rfl
theorem goOn_sure (y : Rv) (n now : Int) : (goOnR y n now).1.sure = y.sure := by unfold goOnR; dsimp only; split <;> rfl
structure TakeOK (l : Lg) (k : Nat) (x : Rv) (now : Int) (r : Rs) (R : Rv × List Rq) : Prop where
  inv : RInv l (k + 1) R.1
  n : x.n ≤ R.1.n
  sure : x.sure ≤ R.1.sure
  same : x.phase = 4 → R.1 = x
  twice : takeR R.1 now r = (R.1, [])
section
variable {l : Lg} {k : Nat} {x : Rv} {now : Int} {r : Rs}
theorem ok0 (h : RInv l k x) (e : takeR x now r = (x, [])) : TakeOK l k x now r (x, []) := ⟨h.up, Int.le_refl _, Int.le_refl _, fun _ => rfl, e⟩
theorem any_snoc (b : List Pl) (p : Pl) : (b ++ [p]).any (· == p) = true := by rw [List.any_append]; simp
theorem take_ok (hmay : mayLg l = true) (h : RInv l k x) (hnow : u64R now) (hr : 0 ≤ r.sure) (hb : r.body.length ≤ 5000) : TakeOK l k x now r (takeR x now r) := by
  have hlast : ∀ (f0 : Fr), lastF x = f0 → f0.first ≤ 9 := by
    intro f0 hf0
    subst hf0
    simp only [mayLg, Bool.and_eq_true, fromZ, decide_eq_true_eq] at hmay
    obtain ⟨⟨a1, a2⟩, ⟨a3, a4⟩, a5, a6, ⟨a7, a8⟩, a9⟩ := hmay
    obtain ⟨b1, b2, b3, b4⟩ := (mayFrs_iff _ _).1 a6
    rw [← h.hl] at b1
    have hm := lastF_mem (x := x) (by omega)
    obtain ⟨j, hj, e⟩ := List.getElem_of_mem hm
    rw [← e]
    have hj' : j < l.frags.length := by rw [← h.hl]; exact hj
    have := b4 j hj'
    have e2 : x.l.frags[j] = l.frags[j] := by simp only [h.hl]
    rw [e2]
    exact this.1
  have hy : RBase l (k + 1) { x with heard := x.heard ++ [r.from_], sure := min (max x.sure r.sure) 8 } :=
    ⟨h.hl, by show 0 ≤ min (max x.sure r.sure) 8 ∧ min (max x.sure r.sure) 8 ≤ 8; have := h.su; omega, by show (x.heard ++ [r.from_]).length ≤ k + 1; rw [List.length_append]; have := h.he; simp; omega, h.fl, h.fr, h.bs⟩
  cases g1 : (r.ledger != x.l.id) with
  | true =>
    have e : takeR x now r = (x, []) := by simp only [takeR, g1, Bool.true_or, ↓reduceIte]
    rw [e]; exact ok0 h e
  | false =>
  cases g2 : (r.epoch != x.epoch) with
  | true =>
    have e : takeR x now r = (x, []) := by simp only [takeR, g1, g2, Bool.or_true, ↓reduceIte]
    rw [e]; exact ok0 h e
  | false =>
  cases k2 : (r.kind == 2) with
  | true =>
    have k3 := beq_other k2 (show (2 : Int) ≠ 3 by decide)
    have k1 := beq_other k2 (show (2 : Int) ≠ 1 by decide)
    cases k0 : (r.code == 0 && decide (x.phase < 4)) with
    | false =>
      have e : takeR x now r = (x, []) := by simp only [takeR, g1, g2, k2, k3, k1, k0, Bool.or_self, Bool.true_and, Bool.false_and, Bool.false_eq_true, ↓reduceIte]
      rw [e]; exact ok0 h e
    | true =>
      have e0 : takeR x now r = fencedR x now r := by simp only [takeR, g1, g2, k2, k0, Bool.or_self, Bool.and_self, Bool.false_eq_true, ↓reduceIte]
      have hp4 : x.phase ≠ 4 := by
        simp only [Bool.and_eq_true, decide_eq_true_eq] at k0
        omega
      cases h1 : (lastF x).bookies.any (· == r.from_) with
      | false => have e := e0.trans (fencedR_N0 h1); rw [e]; exact ok0 h e
      | true =>
      cases h2 : x.heard.any (· == r.from_) with
      | true => have e := e0.trans (fencedR_N1 h1 h2); rw [e]; exact ok0 h e
      | false =>
      have noted : TakeOK l k x now r ({ x with heard := x.heard ++ [r.from_], sure := min (max x.sure r.sure) 8 }, []) ∧ TakeOK l k x now r ({ x with heard := x.heard ++ [r.from_], sure := min (max x.sure r.sure) 8 }, [entryR x r.from_]) := by
        have hi : RInv l (k + 1) { x with heard := x.heard ++ [r.from_], sure := min (max x.sure r.sure) 8 } :=
          ⟨hy, h.ph, h.n0, h.n1, h.n3, Nat.le_succ_of_le h.no, Nat.le_succ_of_le h.ha, by have := h.ba; show x.bad.length ≤ _; omega, h.bo⟩
        have hs : x.sure ≤ min (max x.sure r.sure) 8 := by have := h.su; omega
        have ht : ∀ q, takeR ({ x with heard := x.heard ++ [r.from_], sure := min (max x.sure r.sure) 8 }, q).1 now r = (({ x with heard := x.heard ++ [r.from_], sure := min (max x.sure r.sure) 8 }, q).1, []) := fun q : List Rq => twF (any_snoc _ _) k2
        exact ⟨⟨hi, Int.le_refl _, hs, fun e => absurd e hp4, ht []⟩, ⟨hi, Int.le_refl _, hs, fun e => absurd e hp4, ht []⟩⟩
      cases p1 : (x.phase == 1) with
      | true =>
        have p2 := beq_other p1 (show (1 : Int) ≠ 2 by decide)
        cases h3 : coveredP (lastF x) x.l.w x.l.a (x.heard ++ [r.from_]) with
        | false => rw [e0.trans (fencedR_D h1 h2 p1 p2 h3)]; exact noted.1
        | true =>
          rw [e0.trans (fencedR_E h1 h2 p1 h3)]
          have hl9 := hlast _ rfl
          have hn0 : x.n = 0 := h.n1 (by simpa using p1)
          have hsu := h.su
          refine ⟨goOn_inv hy ⟨by omega, by omega⟩ hnow, ?_, ?_, fun e => absurd e hp4, ?_⟩
          · rw [goOn_n]; omega
          · rw [goOn_sure]; show x.sure ≤ min (max x.sure r.sure) 8; omega
          · refine twF ?_ k2
            rw [goOnR_heard]
            exact any_snoc _ _
      | false =>
      cases p2 : (x.phase == 2) with
      | false => rw [e0.trans (fencedR_B h1 h2 p1 p2)]; exact noted.1
      | true =>
      cases h3 : (readsR x).any (· == r.from_) with
      | false => rw [e0.trans (fencedR_C h1 h2 p1 p2 h3)]; exact noted.1
      | true => rw [e0.trans (fencedR_G h1 h2 p1 p2 h3)]; exact noted.2
  | false =>
  -- another place has it
  have hasOk : ∀ (hp3 : x.phase = 3) (hkn : (r.n == x.n) = true) (tw : ∀ y : Rv, y.phase = 3 → y.n = x.n → y.has.any (· == r.from_) = true → takeR y now r = (y, [])), TakeOK l k x now r (hasR' x now r.from_) := by
    intro hp3 hkn tw
    have hp4 : x.phase ≠ 4 := by omega
    have hn8 := h.n3 (.inr hp3)
    cases hh : x.has.any (· == r.from_) with
    | true => rw [hasR_0 hh]; exact ok0 h (tw x hp3 rfl hh)
    | false =>
    have hb0 : RBase l (k + 1) { x with has := x.has ++ [r.from_] } := ⟨h.hl, h.su, Nat.le_succ_of_le h.he, h.fl, h.fr, h.bs⟩
    cases ha2 : ackedP (writesR x) x.l.a (x.has ++ [r.from_]) with
    | false =>
      rw [hasR_N hh ha2]
      refine ⟨⟨hb0, h.ph, h.n0, h.n1, h.n3, Nat.le_succ_of_le h.no, ?_, by have := h.ba; show x.bad.length ≤ _; omega, h.bo⟩, Int.le_refl _, Int.le_refl _, fun e => absurd e hp4, tw _ hp3 rfl (any_snoc _ _)⟩
      show (x.has ++ [r.from_]).length ≤ _
      rw [List.length_append]; have := h.ha; simp; omega
    | true =>
      rw [hasR_E hh ha2]
      refine ⟨goOn_inv hb0 ⟨by have := h.n0; omega, by omega⟩ hnow, ?_, ?_, fun e => absurd e hp4, twN k2 ?_⟩
      · rw [goOn_n]; omega
      · rw [goOn_sure]; exact Int.le_refl _
      · rw [goOn_n]
        have : r.n = x.n := by simpa using hkn
        rw [this]
        simp
        omega
  cases k3 : (r.kind == 3) with
  | true =>
    have k1 := beq_other k3 (show (3 : Int) ≠ 1 by decide)
    cases kn : (r.n == x.n) with
    | false => rw [twN k2 kn]; exact ok0 h (twN k2 kn)
    | true =>
      have e0 : takeR x now r = gotR x now r := by simp only [takeR, g1, g2, k2, k3, kn, Bool.or_self, Bool.and_self, Bool.false_and, Bool.false_eq_true, ↓reduceIte]
      rw [e0]
      cases c1 : (x.phase == 2 && (r.code == 0 && (readsR x).any (· == r.from_))) with
      | true =>
        have e2 : gotR x now r = ((enoughR (copyingR x now r) now).1, copiesQ (copyingR x now r) (writesR (copyingR x now r)) ++ (enoughR (copyingR x now r) now).2) := by simp only [gotR, c1, ↓reduceIte]
        rw [e2]
        simp only [Bool.and_eq_true] at c1
        obtain ⟨p2, k0, h1⟩ := c1
        have hp2 : x.phase = 2 := by simpa using p2
        have hp4 : x.phase ≠ 4 := by omega
        have hn8 := h.n3 (.inl hp2)
        have hb0 : RBase l (k + 1) (copyingR x now r) := ⟨h.hl, h.su, Nat.le_succ_of_le h.he, h.fl, h.fr, ⟨hnow, hnow⟩⟩
        cases ha2 : ackedP (writesR (copyingR x now r)) x.l.a [r.from_] with
        | false =>
          have e3 : enoughR (copyingR x now r) now = (copyingR x now r, []) := by
            unfold enoughR
            exact if_neg (by show ¬ (ackedP (writesR (copyingR x now r)) x.l.a [r.from_] = true); rw [ha2]; decide)
          rw [e3]
          refine ⟨⟨hb0, .inr (.inr (.inl rfl)), h.n0, fun e => absurd e (by show ¬ (3 : Int) = 1; decide), fun _ => hn8, Nat.le_succ_of_le h.no, (by show 1 ≤ k + 1 + 1; omega), (by have := h.ba; show x.bad.length ≤ _; omega), hb⟩, Int.le_refl _, Int.le_refl _, fun e => absurd e hp4, ?_⟩
          exact twH k2 k3 rfl (by show [r.from_].any (· == r.from_) = true; simp)
        | true =>
          have e3 : enoughR (copyingR x now r) now = goOnR (copyingR x now r) (x.n + 1) now := by
            unfold enoughR
            exact if_pos ha2
          rw [e3]
          refine ⟨goOn_inv hb0 ⟨by have := h.n0; omega, by omega⟩ hnow, ?_, ?_, fun e => absurd e hp4, twN k2 ?_⟩
          · show x.n ≤ (goOnR _ _ _).1.n; rw [goOn_n]; omega
          · show x.sure ≤ (goOnR _ _ _).1.sure; rw [goOn_sure]; exact Int.le_refl _
          · show (r.n == (goOnR _ _ _).1.n) = false
            rw [goOn_n]
            have : r.n = x.n := by simpa using kn
            rw [this]
            simp
            omega
      | false =>
      cases c2 : (x.phase == 2 && (r.code == 3 && ((readsR x).any (· == r.from_) && (x.heard.any (· == r.from_) && !x.none.any (· == r.from_))))) with
      | true =>
        have e2 : gotR x now r = (if missingP (readsR x) x.l.w x.l.a (x.none ++ [r.from_]) then { x with none := x.none ++ [r.from_], phase := 4 } else { x with none := x.none ++ [r.from_] }, []) := by
          simp only [gotR, c1, c2, Bool.false_eq_true, ↓reduceIte]
        rw [e2]
        simp only [Bool.and_eq_true] at c2
        obtain ⟨p2, k3', h1, h2, h3⟩ := c2
        have hp2 : x.phase = 2 := by simpa using p2
        have hp4 : x.phase ≠ 4 := by omega
        have hn8 := h.n3 (.inl hp2)
        have k0 := beq_other k3' (show (3 : Int) ≠ 0 by decide)
        have hlen : (x.none ++ [r.from_]).length ≤ k + 1 := by rw [List.length_append]; have := h.no; simp; omega
        have hb0 : RBase l (k + 1) x := h.toRBase.up
        cases h4 : missingP (readsR x) x.l.w x.l.a (x.none ++ [r.from_]) with
        | false =>
          rw [if_neg (by decide)]
          refine ⟨⟨⟨hb0.hl, hb0.su, hb0.he, hb0.fl, hb0.fr, hb0.bs⟩, h.ph, h.n0, h.n1, h.n3, hlen, Nat.le_succ_of_le h.ha, (by have := h.ba; show x.bad.length ≤ _; omega), h.bo⟩, Int.le_refl _, Int.le_refl _, fun e => absurd e hp4, ?_⟩
          exact twG k2 k3 (by show (x.phase == 3) = false; rw [hp2]; rfl) k0 (any_snoc _ _)
        | true =>
          rw [if_pos rfl]
          refine ⟨⟨⟨hb0.hl, hb0.su, hb0.he, hb0.fl, hb0.fr, hb0.bs⟩, .inr (.inr (.inr rfl)), h.n0, fun e => absurd e (by show ¬ (4 : Int) = 1; decide), fun _ => hn8, hlen, Nat.le_succ_of_le h.ha, (by have := h.ba; show x.bad.length ≤ _; omega), h.bo⟩, Int.le_refl _, Int.le_refl _, fun e => absurd e hp4, ?_⟩
          exact tw4 rfl
      | false =>
      cases c3 : (x.phase == 3 && (r.code == 0 && decide (r.body = x.body))) with
      | false =>
        have e2 : gotR x now r = (x, []) := by simp only [gotR, c1, c2, c3, Bool.false_eq_true, ↓reduceIte]
        rw [e2]; exact ok0 h (e0.trans e2)
      | true =>
        have e2 : gotR x now r = hasR' x now r.from_ := by simp only [gotR, c1, c2, c3, Bool.false_eq_true, ↓reduceIte]
        rw [e2]
        simp only [Bool.and_eq_true] at c3
        exact hasOk (by simpa using c3.1) kn fun y hy _ hh => twH k2 k3 (by rw [hy]; rfl) hh
  | false =>
  cases k1 : (r.kind == 1) with
  | false =>
    have e : takeR x now r = (x, []) := by simp only [takeR, g1, g2, k2, k3, k1, Bool.or_self, Bool.false_and, Bool.false_eq_true, ↓reduceIte]
    rw [e]; exact ok0 h e
  | true =>
  cases kn : (r.n == x.n) with
  | false => rw [twN k2 kn]; exact ok0 h (twN k2 kn)
  | true =>
  cases p3 : (x.phase == 3) with
  | false =>
    have e : takeR x now r = (x, []) := by simp only [takeR, g1, g2, k2, k3, k1, kn, p3, Bool.or_self, Bool.true_and, Bool.false_and, Bool.and_false, Bool.false_eq_true, ↓reduceIte]
    rw [e]; exact ok0 h e
  | true =>
    have e0 : takeR x now r = addedR x now r := by simp only [takeR, g1, g2, k2, k3, k1, kn, p3, Bool.or_self, Bool.and_self, Bool.false_and, Bool.false_eq_true, ↓reduceIte]
    rw [e0]
    have hp3 : x.phase = 3 := by simpa using p3
    have hp4 : x.phase ≠ 4 := by omega
    have hw5 : (writesR x).length ≤ 5 := by
      have hw : x.l.w ≤ 5 := by
        rw [h.hl]
        simp only [mayLg, Bool.and_eq_true, fromZ, decide_eq_true_eq] at hmay
        exact hmay.2.2.1
      unfold writesR setOf
      split
      · simp
      · split
        · simp only [fromPl, List.length_map, List.length_range]; omega
        · simp
    have badOk : ∀ is : Pl → Bool, (∀ y : Rv, y.bad = addBad is y.bad (writesR y) → addedR y now r = (y, [])) → TakeOK l k x now r ({ x with bad := addBad is x.bad (writesR x) }, []) := by
      intro is hy
      refine ⟨⟨⟨h.hl, h.su, Nat.le_succ_of_le h.he, h.fl, h.fr, h.bs⟩, h.ph, h.n0, h.n1, h.n3, Nat.le_succ_of_le h.no, Nat.le_succ_of_le h.ha, ?_, h.bo⟩, Int.le_refl _, Int.le_refl _, fun e => absurd e hp4, tw1 k2 k3 (hy _ ?_)⟩
      · have := addBad_len is (writesR x) x.bad
        have := h.ba
        show (addBad is x.bad (writesR x)).length ≤ _
        omega
      · show addBad is x.bad (writesR x) = addBad is (addBad is x.bad (writesR x)) (writesR x)
        rw [addBad_twice]
    cases k0 : (r.code == 0) with
    | true =>
      rw [show addedR x now r = hasR' x now r.from_ by simp only [addedR, k0, ↓reduceIte]]
      exact hasOk hp3 kn fun y hy _ hh => tw1 k2 k3 (by simp only [addedR, k0, ↓reduceIte]; exact hasR_0 hh)
    | false =>
    cases k2' : (r.code == 2) with
    | true =>
      rw [show addedR x now r = ({ x with bad := addBad (· == r.from_) x.bad (writesR x) }, []) by simp only [addedR, k0, k2', Bool.false_eq_true, ↓reduceIte]]
      exact badOk _ fun y hy => by
        simp only [addedR, k0, k2', Bool.false_eq_true, ↓reduceIte]
        rw [← hy]
    | false =>
    cases k4 : (r.code == 4) with
    | true =>
      rw [show addedR x now r = ({ x with bad := addBad (fun y => y.node == r.from_.node && y.serial != r.from_.serial) x.bad (writesR x) }, []) by simp only [addedR, k0, k2', k4, Bool.false_eq_true, ↓reduceIte]]
      exact badOk _ fun y hy => by
        simp only [addedR, k0, k2', k4, Bool.false_eq_true, ↓reduceIte]
        rw [← hy]
    | false =>
      have e : addedR x now r = (x, []) := by simp only [addedR, k0, k2', k4, Bool.false_eq_true, ↓reduceIte]
      rw [e]; exact ok0 h (e0.trans e)
end
end Go.AX
end
section
namespace Go.AX
theorem may_frag {l : Lg} (h : mayLg l = true) : 0 < l.frags.length ∧ l.frags.length ≤ 6 ∧ (∀ f ∈ l.frags, 1 ≤ f.first ∧ f.first ≤ 9 ∧ f.bookies.length ≤ 5) ∧ 1 ≤ l.a ∧ l.a ≤ l.w ∧ l.w ≤ 5 := by
  simp only [mayLg, Bool.and_eq_true, fromZ, decide_eq_true_eq] at h
  obtain ⟨⟨a1, a2⟩, ⟨a3, a4⟩, a5, a6, ⟨a7, a8⟩, a9⟩ := h
  simp only [mayFrs, Bool.and_eq_true, fromZ, decide_eq_true_eq, List.all_eq_true] at a6
  obtain ⟨⟨h1, h2⟩, h3, h4, h5⟩ := a6
  refine ⟨by omega, by omega, fun f hf => ?_, a3, a4, a5⟩
  have := h4 f hf
  simp only [mayFr, Bool.and_eq_true, fromZ, decide_eq_true_eq] at this
  omega
theorem setOf_le (fr : List Fr) {w : Int} (hw : w ≤ 5) (n : Int) : (setOf fr w n).length ≤ 5 := by
  unfold setOf
  split
  · simp
  · split
    · simp only [fromPl, List.length_map, List.length_range]; omega
    · simp
theorem rn3_le5 (e : Int) : ∀ (l b : List Pl), b.length ≤ 5 → (l.foldl (rn3 e) b).length ≤ 5
  | [], b, h => h
  | p :: r, b, h => by
    rw [List.foldl_cons]
    refine rn3_le5 e r _ ?_
    unfold rn3
    by_cases hc : (decide ((b.length : Int) < (if 5 < e then 5 else e)) && !(b.any fun y => y.node == p.node)) = true
    · rw [if_pos hc]
      simp only [Bool.and_eq_true, decide_eq_true_eq] at hc
      rw [List.length_append, List.length_singleton]
      have h1 := hc.1
      by_cases h5 : (5 : Int) < e
      · rw [if_pos h5] at h1; omega
      · rw [if_neg h5] at h1; omega
    · rw [if_neg hc]; exact h
theorem renewP_le5 {f : Fr} (hf : f.bookies.length ≤ 5) (w e : Int) (bad known : List Pl) : (renewP f w e bad known).1.bookies.length ≤ 5 := by
  unfold renewP
  split
  · refine rn3_le5 e _ _ ?_
    unfold left2
    refine Nat.le_trans (rn2_len w _ _) ?_
    have := (rn1_len bad (fit bad known) f.bookies (f, [], false)).1
    unfold left1
    rw [this]
    exact hf
  · simp [fr0]
theorem fragN_ok {l : Lg} {k : Nat} {x : Rv} (h : RBase l k x) : (fragN x).bookies.length ≤ 5 := by
  unfold fragN
  cases hf : fragAt x.frags x.n with
  | none => simp [fr0]
  | some f => exact (h.fr f (lastP_mem _ _ _ hf).1).2.2
theorem restN_le {x : Rv} (h : x.frags.length ≤ 6) (h6 : (!(((restN x).length : Int) == 6)) = true) : (restN x).length ≤ 5 := by
  have h6 : ¬ ((restN x).length : Int) = 6 := by simpa using h6
  have : (restN x).length ≤ x.frags.length := by
    unfold restN
    split
    · rw [List.length_take]; omega
    · exact Nat.le_refl _
  omega
theorem renewR_inv {l : Lg} {k : Nat} {y : Rv} (h : RInv l k y) (known : List Pl) : RInv l k (renewR y known).1 ∧ (renewR y known).1.n = y.n ∧ (renewR y known).1.phase = y.phase := by
  unfold renewR
  split
  · rename_i hc
    simp only [Bool.and_eq_true] at hc
    refine ⟨⟨⟨h.hl, h.su, h.he, ?_, ?_, h.bs⟩, h.ph, h.n0, h.n1, h.n3, h.no, h.ha, Nat.zero_le _, h.bo⟩, rfl, rfl⟩
    · show (restN y ++ [_]).length ≤ 6
      rw [List.length_append, List.length_singleton]
      have := restN_le h.fl hc.2
      omega
    · intro f hf
      rcases List.mem_append.1 hf with hf | hf
      · refine h.fr f ?_
        unfold restN at hf
        split at hf
        · exact List.mem_of_mem_take hf
        · exact hf
      · simp only [List.mem_singleton] at hf
        subst hf
        exact ⟨h.n0.1, h.n0.2, renewP_le5 (fragN_ok h.toRBase) _ _ _ _⟩
  · exact ⟨⟨⟨h.hl, h.su, h.he, h.fl, h.fr, h.bs⟩, h.ph, h.n0, h.n1, h.n3, h.no, h.ha, Nat.zero_le _, h.bo⟩, rfl, rfl⟩
theorem tick0_inv {l : Lg} {k : Nat} {x : Rv} (hmay : mayLg l = true) (h : RInv l k x) {now : Int} (hnow : u64R now) : RInv l (k + 1) (tick0 x now) ∧ (tick0 x now).n = x.n ∧ (tick0 x now).phase = x.phase := by
  unfold tick0
  split
  · have h5 : (writesR x).length ≤ 5 := setOf_le _ (by rw [h.hl]; exact (may_frag hmay).2.2.2.2.2) _
    have hb := addBad_len (fun p => !x.has.any (· == p)) (writesR x) x.bad
    have := h.ba
    exact ⟨⟨⟨h.hl, h.su, Nat.le_succ_of_le h.he, h.fl, h.fr, ⟨hnow, h.bs.2⟩⟩, h.ph, h.n0, h.n1, h.n3, Nat.le_succ_of_le h.no, Nat.le_succ_of_le h.ha, (by show (addBad _ _ _).length ≤ _; omega), h.bo⟩, rfl, rfl⟩
  · exact ⟨h.up, rfl, rfl⟩
theorem ask_inv {l : Lg} {k : Nat} {x : Rv} (h : RInv l k x) {now : Int} (hnow : u64R now) : RInv l k (askR x now).1 :=
  ⟨⟨h.hl, h.su, h.he, h.fl, h.fr, ⟨h.bs.1, hnow⟩⟩, h.ph, h.n0, h.n1, h.n3, h.no, h.ha, h.ba, h.bo⟩
structure TickOK (l : Lg) (k : Nat) (x y : Rv) : Prop where
  inv : RInv l (k + 1) y
  n : x.n ≤ y.n
  same : x.phase = 4 → y = x
theorem tick_ok {l : Lg} {k : Nat} {x : Rv} (hmay : mayLg l = true) (h : RInv l k x) {now : Int} (hnow : u64R now) (known : List Pl) : TickOK l k x (tickR x now known).1 := by
  by_cases h4 : x.phase = 4
  · have e0 : tick0 x now = x := by
      unfold tick0
      rw [if_neg (by rw [show (x.phase == 3) = false by rw [h4]; rfl]; simp)]
    have e : tickR x now known = (x, []) := by
      unfold tickR
      simp only [e0]
      rw [if_neg (by rw [show (x.phase == 3) = false by rw [h4]; rfl]; simp), if_neg (by rw [show (x.phase != 4) = false by rw [h4]; rfl]; simp)]
    rw [e]
    exact ⟨h.up, Int.le_refl _, fun _ => rfl⟩
  · obtain ⟨hy, hyn, hyp⟩ := tick0_inv hmay h hnow
    unfold tickR
    obtain ⟨y, hye⟩ : ∃ y, tick0 x now = y := ⟨_, rfl⟩
    rw [hye] at hy hyn hyp ⊢
    simp only
    have fin : ∀ z : Rv, RInv l (k + 1) z → x.n ≤ z.n → TickOK l k x z := fun z h1 h2 => ⟨h1, h2, fun e => absurd e h4⟩
    split
    · rename_i hc
      have hp3 : y.phase = 3 := by
        simp only [Bool.and_eq_true] at hc
        simpa using hc.1
      obtain ⟨hr, hrn, hrp⟩ := renewR_inv hy known
      split
      · have hz : RInv l (k + 1) { (renewR y known).1 with phase := 3, born := now, since := now } :=
          ⟨⟨hr.hl, hr.su, hr.he, hr.fl, hr.fr, ⟨hnow, hnow⟩⟩, .inr (.inr (.inl rfl)), hr.n0, fun e => absurd e (by show ¬ (3 : Int) = 1; decide), fun _ => hr.n3 (.inr (by rw [hrp, hp3])), hr.no, hr.ha, hr.ba, hr.bo⟩
        obtain ⟨z, hze⟩ : ∃ z : Rv, { (renewR y known).1 with phase := 3, born := now, since := now } = z := ⟨_, rfl⟩
        have hzn : z.n = x.n := by rw [← hze]; show (renewR y known).1.n = x.n; rw [hrn, hyn]
        have hz3 : z.phase = 3 := by rw [← hze]
        rw [hze] at hz ⊢
        refine fin _ ?_ ?_
        · show RInv l (k + 1) (enoughR z now).1
          unfold enoughR
          split
          · have := hz.n0
            have := hz.n3 (.inr hz3)
            exact goOn_inv hz.toRBase ⟨by omega, by omega⟩ hnow
          · exact hz
        · show x.n ≤ (enoughR z now).1.n
          unfold enoughR
          split
          · rw [goOn_n]; omega
          · show x.n ≤ z.n; omega
      · split
        · exact fin _ (ask_inv hr hnow) (by show x.n ≤ (renewR y known).1.n; omega)
        · exact fin _ hr (by show x.n ≤ (renewR y known).1.n; omega)
    · split
      · exact fin _ (ask_inv hy hnow) (by show x.n ≤ y.n; omega)
      · exact fin _ hy (by show x.n ≤ y.n; omega)
theorem RInv.big {l : Lg} {k : Nat} {x : Rv} (hmay : mayLg l = true) (h : RInv l k x) (hk : k ≤ 1000) : x.big := by
  obtain ⟨m1, m2, m3, m4, m5, m6⟩ := may_frag hmay
  rw [← h.hl] at m1 m2 m3 m4 m5 m6
  have hb := h.fr
  have := h.he
  have := h.no
  have := h.ha
  have := h.ba
  have := h.bo
  have := h.n0
  have := h.fl
  exact ⟨⟨⟨by omega, fun f hf => by have := m3 f hf; omega⟩, ⟨by omega, fun f hf => by have := hb f hf; omega⟩, by omega, by omega, by omega, by omega, by omega⟩,
    fun f hf => by have := m3 f hf; exact ⟨by omega, by omega, by omega⟩, fun f hf => by have := hb f hf; exact ⟨by omega, by omega, by omega⟩, m1, ⟨by omega, by omega⟩, h.su.1, ⟨by omega, by omega⟩, by omega,
    fun n => Nat.le_trans (setOf_le _ m6 n) (by decide), fun n => Nat.le_trans (setOf_le _ m6 n) (by decide)⟩
theorem new_ok {l : Lg} {epoch now : Int} (hnow : u64R now) (h : (newR l epoch now).2.2 = 0) : mayLg l = true ∧ RInv l 0 (newR l epoch now).1 := by
  unfold newR at h ⊢
  split
  · rename_i hc
    rw [if_pos hc] at h
    exact absurd h (by show ¬ (1 : Int) = 0; decide)
  · rename_i hc
    have hmay : mayLg l = true := by
      cases hm : mayLg l with
      | true => rfl
      | false => rw [hm] at hc; exact absurd hc (by simp)
    obtain ⟨m1, m2, m3, m4, m5, m6⟩ := may_frag hmay
    exact ⟨hmay, ⟨rfl, (by show (0 : Int) ≤ 0 ∧ (0 : Int) ≤ 8; decide), Nat.zero_le _, m2, fun f hf => by have := m3 f hf; exact ⟨by omega, by omega, by omega⟩, ⟨hnow, hnow⟩⟩, .inl rfl, (by show (0 : Int) ≤ 0 ∧ (0 : Int) ≤ 9; decide), fun _ => rfl, fun e => (by
      rcases e with e | e
      · exact absurd e (by show ¬ (1 : Int) = 2; decide)
      · exact absurd e (by show ¬ (1 : Int) = 3; decide)), Nat.zero_le _, Nat.zero_le _, Nat.zero_le _, Nat.zero_le _⟩
end Go.AX
end
section
namespace Go.AX
structure Cr where
  what : Int
  own : Int
  now : Int
  r : Rs
  known : List Pl
def Cr.c (x : Cr) : List PV := [ii x.what, ii x.own, uu x.now, ii x.r.from_.node, uu x.r.from_.serial, ii x.r.kind, ii x.r.code, uu x.r.ledger, uu x.r.n, uu x.r.epoch, uu x.r.sure, bys x.r.body, slP x.known]
def slCr (l : List Cr) : PV := .sl false 13 (l.map Cr.c)
def crR (c : Cr) : Prop := u64R c.now ∧ u64R c.r.sure
end Go.AX
end
section
namespace Go.AX
open Go.ChangeShapes Go.WideShapes Go.RowKit
section
variable {H : Type} {enc : TypeId × Value → H} {P : Program}
theorem trodAll_stays (hl : laidOutB P = true) {W W' : World} (hb : Below W.heap.size W W') {sp : Nat → Bool} : ∀ {ts : List TypeId} {vs : List Value} {ds : List (DataW H)} {ps : List MemPlace},
    (∀ t ∈ ts, P.readableRec t = true ∧ t < P.types.size) → DataW.TrodAll enc P W 0 (fun _ => true) true ts vs ds ps → (∀ p ∈ ps, p.block < W.heap.size) → (∀ p ∈ ps, sp p.block = true) →
    DataW.TrodAll enc P W' 0 sp true ts vs ds ps
  | [], [], [], _, _, h, _, _ => h
  | [], _ :: _, _, _, _, h, _, _ => h.elim
  | [], [], _ :: _, _, _, h, _, _ => h.elim
  | _ :: _, [], _, _, _, h, _, _ => h.elim
  | _ :: _, _ :: _, [], _, _, h, _, _ => h.elim
  | t :: ts, v :: vs, d :: ds, _, hr, h, hlt, hsp => by
    obtain ⟨p, q, h1, h2, rfl⟩ := h
    have ht := hr t (by simp)
    exact ⟨p, q, WideElems.Trod_stays hl ht.1 ht.2 h1 (fun x hx => hb.same (hlt x (by simp [hx]))) (fun x hx => hsp x (by simp [hx])),
      trodAll_stays hl hb (fun t' ht' => hr t' (by simp [ht'])) h2 (fun x hx => hlt x (by simp [hx])) (fun x hx => hsp x (by simp [hx])), rfl⟩
theorem post_law {f : FuncId} {fn : Func} {s : ChangeSpec} {W : World} {args : Array Value} {ds gs : List (DataW H)} {before : List MemPlace} {pvs : List PV} {bt : TypeId}
    (hl : laidOutB P = true) (hrd : (fn.params.toList.all fun t => P.readableRec t && decide (t < P.types.size)) = true) (hrt : fn.resultTypes = #[bt]) (hbt : P.underlying bt = some .bool)
    (hvars : s.vars = []) (hfn : s.fn H (ds ++ gs) = { results := [.lit (.bool true)], args := ds })
    (hW : DataW.Whole enc P fn.params.toList s.vars false W args.toList ds gs before) (hc : PCx P f pvs (.sc (.bool true))) (hr : repL N0 W pvs args.toList) :
    Calls P f args W fun e W' => ∃ v, e = .returned v ∧ s.post enc P fn false true false false W args v W' := by
  refine (hc.2 N0 W args (fun r h => h.elim) hr).mono fun e W' ⟨v, r, he, hq, hrep, hsame⟩ => ⟨v, he, ?_⟩
  subst hq
  simp only [rep] at hrep
  subst hrep
  have hb : Below W.heap.size W W' := ⟨hsame.os, hsame.tape, hsame.output, hsame.size, fun k hk => hsame.keep k hk id⟩
  have hold : ∀ p ∈ before, (fun b => decide (b < W.heap.size)) p.block = true := fun p hp => by simpa using hW.lt p hp
  have hltp : ∀ p ∈ before, p.block < W.heap.size := fun p hp => hW.lt p hp
  have hW0 := hW
  obtain ⟨p, q, hA, hV, rfl, hz, hn⟩ := hW
  rw [hvars] at hV
  obtain ⟨rfl, rfl⟩ := trodVars_none hV
  simp only [List.append_nil] at hltp hold hz hn hW0 hfn
  have hres : ∀ (b : Nat) (sp : Nat → Bool) (hd : Bool), DataW.TrodAll enc P W' b sp hd fn.resultTypes.toList ((Value.bool true).resultList fn.resultTypes.size) (s.fn H (ds ++ [])).results [] := by
    intro b sp hd
    simp only [List.append_nil, hfn, hrt]
    exact trodAll_mk1 (shut_bool hbt true)
  have hargs : ∀ sp : Nat → Bool, (∀ x ∈ p, sp x.block = true) → DataW.TrodAll enc P W' 0 sp true fn.params.toList args.toList (s.fn H (ds ++ [])).args p := by
    intro sp hsp
    simp only [List.append_nil, hfn]
    exact trodAll_stays hl hb (fun t ht => by simpa using List.all_eq_true.1 hrd t ht) hA hltp hsp
  have hvv : ∀ sp : Nat → Bool, DataW.TrodVars enc P W' sp s.vars (s.fn H (ds ++ [])).vars [] := by
    intro sp
    simp only [List.append_nil, hfn, hvars]
    exact rfl
  refine ⟨ds, [], p, [], p, [], hW0, hres _ _ _, hargs _ hold, hvv _, hb.frame _, fun _ => ?_⟩
  refine ⟨ok_one hrt rfl (okWide_bool_mk hbt true), _, _, ([] ++ p) ++ [], ⟨[] ++ p, [], trodAll_append (hargs _ (fun _ _ => rfl)) (hres _ _ _), hvv _, rfl, ?_, ?_⟩, ?_⟩
  · intro b off hp
    simp only [List.nil_append, List.append_nil] at hp
    have := hltp _ hp
    rw [hb.frozen (p := ⟨b, off, none⟩) this]
    exact hz b off hp
  · intro ha
    simpa using hn ha
  · intro x hx _
    simpa using hx
end
theorem rows_of {α : Type} {c : α → List PV} {R : α → Prop} : ∀ {rows : List (List PV)}, (∀ r ∈ rows, ∃ x : α, r = c x ∧ R x) → ∃ l : List α, rows = l.map c ∧ ∀ x ∈ l, R x
  | [], _ => ⟨[], rfl, by simp⟩
  | r :: rows, h => by
    obtain ⟨x, rfl, hx⟩ := h r (by simp)
    obtain ⟨l, rfl, hl⟩ := rows_of (rows := rows) (c := c) (R := R) fun r hr => h r (by simp [hr])
    exact ⟨x :: l, rfl, by simpa using ⟨hx, hl⟩⟩
theorem wf_i64 {i : Int} (h : (Lit.int .i64 i).wf = true) : -9223372036854775808 ≤ i ∧ i ≤ 9223372036854775807 := by
  simpa [Lit.wf, IntKind.min, IntKind.max, IntKind.signed, IntKind.bits] using h
theorem wf_u64 {i : Int} (h : (Lit.int .u64 i).wf = true) : 0 ≤ i ∧ i ≤ 18446744073709551615 := by
  simpa [Lit.wf, IntKind.min, IntKind.max, IntKind.signed, IntKind.bits] using h
theorem wf_u8 {i : Int} (h : (Lit.int .u8 i).wf = true) : 0 ≤ i ∧ i ≤ 255 := by
  simpa [Lit.wf, IntKind.min, IntKind.max, IntKind.signed, IntKind.bits] using h
end Go.AX
end
