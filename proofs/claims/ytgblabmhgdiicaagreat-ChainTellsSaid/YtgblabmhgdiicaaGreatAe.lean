/-
  Conditions: none. A framework for walks: abstract values, memory, and conditions that suffice; the chapters in plain terms.
-/
import Derived.Test.YtgblabmhgdiicaaGreatAd
import Derived.ProofKit
import Derived.OpenShut
set_option linter.unusedSectionVars false
set_option linter.unusedVariables false
set_option linter.unusedSimpArgs false
section
namespace Go.AX
section
variable {α : Type} [Inhabited α] (key : α → Int)
def cmpBy (x y : α) : Int := Go.Lib.compareInt (key x) (key y)
def sortAB (d : Array α) : Array α := Go.Sort.pdq (Go.Proofs.ltOf (cmpBy key)) d 0 d.size (Go.Lib.bitLen d.size) true true
def sortBy (l : List α) : List α := (sortAB key l.toArray).toList
theorem ltBy (x y : α) : Go.Proofs.ltOf (cmpBy key) x y = decide (key x < key y) := by
  unfold Go.Proofs.ltOf cmpBy Go.Lib.compareInt
  by_cases h1 : key x < key y
  · simp [h1]
  · by_cases h2 : key y < key x <;> simp [h1, h2]
theorem swoBy : Go.Sort.SWO (Go.Proofs.ltOf (cmpBy key)) where
  irrefl x := by rw [ltBy]; simp
  trans x y z h1 h2 := by rw [ltBy] at *; simp at *; omega
  ntrans x y z h1 h2 := by rw [ltBy] at *; simp at *; omega
theorem sortAB_sorts (d : Array α) : Go.Sort.PermIn 0 d.size d (sortAB key d) ∧ Go.Sort.SortedIn (Go.Proofs.ltOf (cmpBy key)) 0 d.size (sortAB key d) :=
  Go.Sort.pdq_sorts (Go.Proofs.ltOf (cmpBy key)) (swoBy key) d 0 d.size (Go.Lib.bitLen d.size) true true (Nat.zero_le _) (Nat.le_refl _) (Or.inl rfl)
theorem sortAB_size (d : Array α) : (sortAB key d).size = d.size := (sortAB_sorts key d).1.1
theorem sortBy_perm (l : List α) : (sortBy key l).Perm l := by
  have h := (sortAB_sorts key l.toArray).1
  have h1 := h.1
  have h2 := h.2.2
  rw [show (sortAB key l.toArray).extract 0 l.toArray.size = sortAB key l.toArray from by rw [← h1]; simp, show l.toArray.extract 0 l.toArray.size = l.toArray from by simp] at h2
  exact h2
theorem sortBy_sorted (l : List α) : (sortBy key l).Pairwise fun a b => key a ≤ key b := by
  have h := (sortAB_sorts key l.toArray).2
  have h1 := sortAB_size key l.toArray
  rw [List.pairwise_iff_getElem]
  intro i j hi hj hij
  simp only [sortBy, Array.length_toList] at hi hj
  have := h i j (Nat.zero_le _) hij (by omega)
  rw [ltBy, getElem!_pos (sortAB key l.toArray) j hj, getElem!_pos (sortAB key l.toArray) i hi] at this
  simp only [sortBy, Array.getElem_toList]
  simp at this
  exact this
theorem sortBy_rise (l : List α) : decide ((sortBy key l).Pairwise fun a b => key a < key b) = decide (l.map key).Nodup := by
  rw [decide_eq_decide]
  have hp := (sortBy_perm key l).map key
  rw [← hp.nodup_iff]
  unfold List.Nodup
  rw [List.pairwise_map]
  constructor
  · intro h; exact h.imp fun {a b} h => by omega
  · intro h; exact ((sortBy_sorted key l).and h).imp fun {a b} h => by omega
end
end Go.AX
end
section
namespace Go.AX
def ledsC (p : Pn) : Int → List Int → List (Int × Lg)
  | _, [] => []
  | a, id :: r => (a, (findP p id).getD lg0) :: ledsC p (addU a ((findP p id).getD lg0).last) r
def spN (sure : Int) (l : Lg) : Int := if l.closed == 0 then (if 8 < sure then 8 else sure) else l.last
def spL (a : Int) (l : Lg) (n : Nat) : List Sp := (List.range n).map fun (i : Nat) => ⟨addU a i, l.id, addU i 1⟩
def spotsC (p : Pn) (sure a : Int) (ids : List Int) : List Sp := (ledsC p a ids).flatMap fun x => spL x.1 x.2 (spN sure x.2).toNat
def hasC (p : Pn) (n : Int) : Bool := decide (n ≥ 1) && (decide (n ≤ (p.channels.length : Int)) && mayPn p)
def allC (p : Pn) (n sure : Int) : List Sp := if hasC p n then spotsC p sure (chP p n).first (chP p n).ledgers else []
def lengthC (p : Pn) (n sure : Int) : Int := if hasC p n then addU (chP p n).first (IntKind.u64.wrap (allC p n sure).length) else 0
def sp0 : Sp := ⟨0, 0, 0⟩
def oneC (p : Pn) (n sure : Int) (is : Sp → Bool) : Sp × Int :=
  if hasC p n then (match (allC p n sure).find? is with
    | some s => (s, 0)
    | none => (sp0, 4))
  else (sp0, 1)
def findC (p : Pn) (n sure offset : Int) : Sp × Int := oneC p n sure fun s => s.offset == offset
def offC (p : Pn) (n sure ledger k : Int) : Int × Int :=
  ((oneC p n sure fun s => s.ledger == ledger && s.n == k).1.offset, (oneC p n sure fun s => s.ledger == ledger && s.n == k).2)
def spotsL (sure : Int) : Int → List Lg → List Sp
  | _, [] => []
  | a, l :: r => spL a l (spN sure l).toNat ++ spotsL sure (addU a l.last) r
theorem spotsC_eq (p : Pn) (sure : Int) : ∀ (ids : List Int) (a : Int), spotsC p sure a ids = spotsL sure a (ids.map fun id => (findP p id).getD lg0)
  | [], a => rfl
  | id :: r, a => by
    rw [List.map_cons, spotsL, ← spotsC_eq p sure r]
    simp only [spotsC, ledsC, List.flatMap_cons]
structure LdOk (l : Lg) : Prop where
  last : 0 ≤ l.last ∧ l.last ≤ 8
  open0 : l.closed = 0 → l.last = 0
inductive Row : List Lg → Prop where
  | nil : Row []
  | one (l : Lg) : LdOk l → Row [l]
  | cons (l m : Lg) (r : List Lg) : LdOk l → l.closed ≠ 0 → (∀ x ∈ m :: r, l.id ≠ x.id) → Row (m :: r) → Row (l :: m :: r)
theorem addU_id {a b : Int} (h : 0 ≤ a + b ∧ a + b ≤ 18446744073709551615) : addU a b = a + b := wrapU h.1 h.2
theorem spN_le {sure : Int} (hs : 0 ≤ sure) {l : Lg} (h : LdOk l) : 0 ≤ spN sure l ∧ spN sure l ≤ 8 := by
  unfold spN
  have := h.last
  by_cases hc : l.closed == 0
  · rw [if_pos hc]
    split <;> omega
  · rw [if_neg hc]; exact h.last
theorem spL_len (a : Int) (l : Lg) (n : Nat) : (spL a l n).length = n := by simp [spL]
theorem spL_get (a : Int) (l : Lg) (n i : Nat) (h : i < (spL a l n).length) : (spL a l n)[i] = ⟨addU a i, l.id, addU i 1⟩ := by simp [spL]
theorem spotsL_one (sure a : Int) (l : Lg) : spotsL sure a [l] = spL a l (spN sure l).toNat := by simp [spotsL]
theorem spN_closed {sure : Int} {l : Lg} (h : l.closed ≠ 0) : spN sure l = l.last := by
  unfold spN
  rw [if_neg (by simpa using h)]
theorem spots_len {sure : Int} (hs : 0 ≤ sure) : ∀ {L : List Lg}, Row L → ∀ (a : Int), (spotsL sure a L).length ≤ 8 * L.length
  | _, .nil, a => by simp [spotsL]
  | _, .one l h, a => by
    have := spN_le hs h
    rw [spotsL_one, spL_len]
    simp only [List.length_singleton]; omega
  | _, .cons l m r h hc hd ht, a => by
    have := spN_le hs h
    have := spots_len hs ht (addU a l.last)
    rw [spotsL, List.length_append, spL_len]
    simp only [List.length_cons] at *
    omega
theorem spots_off {sure : Int} (hs : 0 ≤ sure) : ∀ {L : List Lg}, Row L → ∀ (a : Int), 0 ≤ a → a + 8 * L.length ≤ 18446744073709551615 → ∀ (i : Nat) (hi : i < (spotsL sure a L).length), (spotsL sure a L)[i].offset = a + i
  | _, .nil, a, h0, h1, i, hi => by simp [spotsL] at hi
  | _, .one l h, a, h0, h1, i, hi => by
    have := spN_le hs h
    simp only [spotsL_one] at hi ⊢
    have hi2 := hi
    rw [spL_len] at hi2
    rw [spL_get]
    show addU a i = a + i
    exact addU_id (by simp only [List.length_singleton] at h1; omega)
  | _, .cons l m r h hc hd ht, a, h0, h1, i, hi => by
    have hl := h.last
    have hn := spN_closed (sure := sure) hc
    simp only [List.length_cons] at h1
    have ha : addU a l.last = a + l.last := addU_id (by omega)
    have ih := spots_off hs ht (a + l.last) (by omega) (by simp only [List.length_cons]; omega)
    have hsp : spotsL sure a (l :: m :: r) = spL a l l.last.toNat ++ spotsL sure (a + l.last) (m :: r) := by
      show spL a l (spN sure l).toNat ++ spotsL sure (addU a l.last) (m :: r) = _
      rw [hn, ha]
    obtain ⟨T, hT⟩ : ∃ T, spotsL sure (a + l.last) (m :: r) = T := ⟨_, rfl⟩
    simp only [hT] at ih hsp
    simp only [hsp] at hi ⊢
    rw [List.length_append, spL_len] at hi
    simp only [List.getElem_append, spL_len]
    by_cases h1 : i < l.last.toNat
    · rw [dif_pos h1, spL_get]
      exact addU_id (by omega)
    · rw [dif_neg h1, ih (i - l.last.toNat) (by omega)]
      omega
end Go.AX
end
section
namespace Go.AX
def lgsR (p : Pn) : Prop := ∀ l ∈ p.ledgers, u64R l.last
theorem findP_mem {p : Pn} {id : Int} {l : Lg} (h : findP p id = some l) : l ∈ p.ledgers ∧ l.id = id := by
  unfold findP at h
  exact ⟨List.mem_of_find?_eq_some h, by simpa using List.find?_some h⟩
theorem mayLg_last {l : Lg} (h : mayLg l = true) (h0 : 0 ≤ l.last) : LdOk l := by
  simp only [mayLg, Bool.and_eq_true, fromZ, decide_eq_true_eq] at h
  obtain ⟨⟨a1, a2⟩, ⟨a3, a4⟩, a5, a6, ⟨a7, a8⟩, a9⟩ := h
  exact ⟨by omega, fun e => by omega⟩
theorem row_of {p : Pn} (hp : ∀ l ∈ p.ledgers, mayLg l = true) (hr : lgsR p) : ∀ {ids : List Int}, ledsOk p ids = true → ids.Pairwise (· < ·) → Row (ids.map fun id => (findP p id).getD lg0)
  | [], _, _ => .nil
  | id :: r, h, hw => by
    simp only [ledsOk, Bool.and_eq_true] at h
    obtain ⟨h1, h2⟩ := h
    rw [List.pairwise_cons] at hw
    have ih := row_of hp hr h2 hw.2
    cases hf : findP p id with
    | none => rw [hf] at h1; cases h1
    | some l =>
      rw [hf] at h1
      obtain ⟨hm, hid⟩ := findP_mem hf
      have hl := mayLg_last (hp l hm) (hr l hm).1
      cases r with
      | nil =>
        rw [List.map_cons, List.map_nil, hf]
        exact .one l hl
      | cons id2 r2 =>
        rw [List.map_cons, hf]
        have hc : l.closed ≠ 0 := by
          intro e
          simp [e] at h1
        refine .cons l _ _ hl hc ?_ ih
        intro x hx e
        rw [← List.map_cons (f := fun id => (findP p id).getD lg0)] at hx
        obtain ⟨j, hj, rfl⟩ := List.mem_map.1 hx
        have hlt := hw.1 j hj
        have : (findP p j).isSome = true := by
          have hall : ∀ (q : List Int), ledsOk p q = true → ∀ j ∈ q, (findP p j).isSome = true := by
            intro q
            induction q with
            | nil => intro _ j hj; cases hj
            | cons k q ih2 =>
              intro hq j hj
              simp only [ledsOk, Bool.and_eq_true] at hq
              rcases List.mem_cons.1 hj with rfl | hj
              · cases hk : findP p j with
                | none => rw [hk] at hq; cases hq.1
                | some _ => rfl
              · exact ih2 hq.2 j hj
          exact hall _ h2 j hj
        obtain ⟨m, hm2⟩ := Option.isSome_iff_exists.1 this
        rw [hm2] at e
        have := (findP_mem hm2).2
        simp only [Option.getD_some] at e
        omega
structure ChOk (p : Pn) (c : Ch) : Prop where
  row : Row (c.ledgers.map fun id => (findP p id).getD lg0)
  len : c.ledgers.length ≤ 8
  first : c.first ≤ 4611686018427387903
theorem ch_of {p : Pn} (h : mayPn p = true) (hr : lgsR p) {c : Ch} (hc : c ∈ p.channels) : ChOk p c := by
  simp only [mayPn, Bool.and_eq_true, List.all_eq_true] at h
  obtain ⟨h1, h2, h3, h4, h5, h6, h7, h8, h9⟩ := h
  have hk := h7 c hc
  simp only [chanOk, Bool.and_eq_true, decide_eq_true_eq, cnt, Bool.not_eq_true', decide_eq_false_iff_not, riseZ] at hk
  obtain ⟨⟨k1, k2, k3⟩, k4, k5, k6, k7, k8, k9, k10⟩ := hk
  exact ⟨row_of (fun l hl => (h4 l hl).1) hr k9 k6, by omega, by omega⟩
theorem chP_mem {p : Pn} {n : Int} (h : hasC p n = true) : chP p n ∈ p.channels := by
  simp only [hasC, Bool.and_eq_true, decide_eq_true_eq] at h
  unfold chP
  rw [getElem!_pos p.channels _ (by omega)]
  exact List.getElem_mem _
section
variable {p : Pn} {n sure : Int} (hh : hasC p n = true) (hr : lgsR p) (h0 : 0 ≤ (chP p n).first) (hs : 0 ≤ sure)
include hh hr
theorem hasC_may : mayPn p = true := by
  simp only [hasC, Bool.and_eq_true] at hh
  exact hh.2.2
theorem allC_eq : allC p n sure = spotsL sure (chP p n).first ((chP p n).ledgers.map fun id => (findP p id).getD lg0) := by
  unfold allC
  rw [if_pos hh, spotsC_eq]
include h0 hs
theorem allC_len : (allC p n sure).length ≤ 64 := by
  have hk := ch_of (hasC_may hh hr) hr (chP_mem hh)
  rw [allC_eq hh hr]
  have h1 := spots_len hs hk.row (chP p n).first
  have := hk.len
  rw [List.length_map] at h1
  omega
theorem allC_off (i : Nat) (hi : i < (allC p n sure).length) : (allC p n sure)[i].offset = (chP p n).first + i := by
  have hk := ch_of (hasC_may hh hr) hr (chP_mem hh)
  have e := allC_eq (sure := sure) hh hr
  simp only [e] at hi ⊢
  exact spots_off hs hk.row _ h0 (by have := hk.first; have := hk.len; rw [List.length_map]; omega) i hi
theorem find_off (i : Nat) (hi : i < (allC p n sure).length) : findC p n sure ((chP p n).first + i) = ((allC p n sure)[i], 0) := by
  unfold findC oneC
  rw [if_pos hh]
  have : (allC p n sure).find? (fun s => s.offset == (chP p n).first + i) = some (allC p n sure)[i] := by
    rw [List.find?_eq_some_iff_getElem]
    refine ⟨by rw [allC_off hh hr h0 hs i hi]; simp, i, hi, rfl, fun j hj => ?_⟩
    rw [allC_off hh hr h0 hs j (by omega)]
    simp
    omega
  rw [this]
end
theorem findC_not {p : Pn} {n sure o : Int} (h : hasC p n = false) : (findC p n sure o).2 = 1 ∧ allC p n sure = [] ∧ lengthC p n sure = 0 := by
  refine ⟨?_, ?_, ?_⟩
  · unfold findC oneC
    rw [if_neg (by rw [h]; decide)]
  · unfold allC
    rw [if_neg (by rw [h]; decide)]
  · unfold lengthC
    rw [if_neg (by rw [h]; decide)]
end Go.AX
end
section
namespace Go.AX
structure LgB (l : Lg) : Prop where
  frags : l.frags.length ≤ 1000000
  bookies : ∀ f ∈ l.frags, f.bookies.length ≤ 1000000
theorem LgB.ok {l : Lg} (h : LgB l) : l.ok := fun x hx => by have := h.bookies x hx; omega
structure ChB (c : Ch) : Prop where
  ledgers : c.ledgers.length ≤ 1000000
  seen : c.seen.length ≤ 1000000
  cursors : c.cursors.length ≤ 1000000
structure PnB (p : Pn) : Prop where
  channels : p.channels.length ≤ 1000000
  ledgers : p.ledgers.length ≤ 1000000
  past : p.past.length ≤ 1000000
  ch : ∀ c ∈ p.channels, ChB c
  lg : ∀ l ∈ p.ledgers, LgB l
  named : (namedP p).length ≤ 1000000
def findL (p : Pn) (id : Int) : Lg := (findP p id).getD lg0
theorem ixP_find {α : Type} (q : α → Bool) (l : List α) : (ixP q l = -1 ∧ l.find? q = none) ∨ ∃ k, ∃ hk : k < l.length, ixP q l = (k : Nat) ∧ l.find? q = some l[k] := by
  rcases ixP_spec q l with ⟨h1, h2⟩ | ⟨k, hk, h1, h2, h3⟩
  · exact .inl ⟨h1, by rw [List.find?_eq_none]; intro x hx; rw [h2 x hx]; decide⟩
  · refine .inr ⟨k, hk, h1, ?_⟩
    rw [List.find?_eq_some_iff_getElem]
    exact ⟨h2, k, hk, rfl, fun j hj => by rw [h3 j (by omega) hj]; rfl⟩
theorem findP_ix (p : Pn) (id : Int) : (ixP (fun l => l.id == id) p.ledgers = -1 ∧ findP p id = none) ∨ ∃ k, ∃ hk : k < p.ledgers.length, ixP (fun l => l.id == id) p.ledgers = (k : Nat) ∧ findP p id = some p.ledgers[k] := ixP_find _ _
theorem leGt (a b : Int) : decide (a ≤ b) = !decide (a > b) := by
  rw [Bool.eq_iff_iff]; simp
theorem hasP_ix {p : Pn} {n : Int} (h : hasP p n = true) : ∃ i : Nat, ∃ hi : i < p.channels.length, n = ((i + 1 : Nat) : Int) ∧ chP p n = p.channels[i] := by
  simp only [hasP, Bool.and_eq_true, decide_eq_true_eq] at h
  refine ⟨(n - 1).toNat, by omega, by omega, ?_⟩
  unfold chP
  rw [getElem!_pos p.channels _ (by omega)]
theorem chP_ix {p : Pn} {k : Nat} (hk : k < p.channels.length) : hasP p ((k + 1 : Nat) : Int) = true ∧ chP p ((k + 1 : Nat) : Int) = p.channels[k] := by
  refine ⟨?_, ?_⟩
  · simp only [hasP, Bool.and_eq_true, decide_eq_true_eq]; omega
  · unfold chP
    rw [show (((k + 1 : Nat) : Int) - 1).toNat = k from by omega, getElem!_pos p.channels k hk]
theorem flat_take {α β : Type} (f : α → List β) (l : List α) (k : Nat) (h : k < l.length) : (l.take (k + 1)).flatMap f = (l.take k).flatMap f ++ f l[k] := by
  rw [List.take_succ_eq_append_getElem h, List.flatMap_append]
  simp
theorem flat_take_le {α β : Type} (f : α → List β) (l : List α) (k : Nat) (h : k < l.length) : ((l.take k).flatMap f).length + (f l[k]).length ≤ (l.flatMap f).length := by
  have : (l.take (k + 1)).flatMap f <+: l.flatMap f := by
    conv => rhs; rw [← List.take_append_drop (k + 1) l, List.flatMap_append]
    exact List.prefix_append _ _
  have := this.length_le
  rw [flat_take f l k h, List.length_append] at this
  exact this
theorem riseZ_map {α : Type} (f : α → Int) (l : List α) : riseZ (l.map f) = decide (l.Pairwise fun a b => f a < f b) := by
  unfold riseZ
  exact decide_eq_decide.2 List.pairwise_map
theorem getLast?_get {α : Type} (l : List α) (h : 0 < l.length) : l.getLast? = some l[l.length - 1] := by
  rw [List.getLast?_eq_getElem?, List.getElem?_eq_getElem (by omega)]
theorem ledsOk_iff (p : Pn) : ∀ (r : List Int), ledsOk p r = true ↔ ∀ i (hi : i < r.length), (findP p r[i]).isSome = true ∧ ((findL p r[i]).closed = 0 → i + 1 = r.length)
  | [] => by simp [ledsOk]
  | id :: r => by
    have ih := ledsOk_iff p r
    simp only [ledsOk, Bool.and_eq_true, ih]
    constructor
    · rintro ⟨h1, h2⟩ i hi
      cases i with
      | zero =>
        simp only [List.getElem_cons_zero, List.length_cons]
        cases hf : findP p id with
        | none => rw [hf] at h1; cases h1
        | some l =>
          rw [hf] at h1
          refine ⟨rfl, fun h0 => ?_⟩
          simp only [findL, hf, Option.getD_some] at h0
          simp [h0] at h1
          simp [h1]
      | succ i =>
        simp only [List.getElem_cons_succ, List.length_cons]
        have := h2 i (by simpa using hi)
        exact ⟨this.1, fun h => by have := this.2 h; omega⟩
    · intro h
      refine ⟨?_, fun i hi => ?_⟩
      · have h0 := h 0 (by simp)
        simp only [List.getElem_cons_zero, List.length_cons] at h0
        cases hf : findP p id with
        | none => rw [hf] at h0; cases h0.1
        | some l =>
          simp only [findL, hf, Option.getD_some] at h0
          simp only [Bool.not_eq_true', Bool.and_eq_false_iff, beq_eq_false_iff_ne, ne_eq, Bool.not_eq_false', List.isEmpty_iff]
          by_cases hc : l.closed = 0
          · right
            have := h0.2 hc
            exact List.eq_nil_of_length_eq_zero (by omega)
          · exact .inl hc
      · have := h (i + 1) (by simpa using hi)
        simp only [List.getElem_cons_succ, List.length_cons] at this
        exact ⟨this.1, fun h => by have := this.2 h; omega⟩
end Go.AX
end
section
namespace Go.AX
open Go.Sort
structure Rnd (D : Array Int) (a b lim : Nat) (wb wp : Bool) (d1 : Array Int) (lim' p : Nat) (hh : Hint) (d2 : Array Int) (pv : Nat) (hint : Hint) (E : Array Int) (fin : Bool) : Prop where
  bt : wb = true → d1 = D ∧ lim' = lim
  bf : wb = false → d1 = breakPatterns D a b ∧ lim' = lim - 1
  c : choosePivot ltInt d1 a b = (p, hh)
  hd : hh = .decreasing → d2 = reverseRange d1 a b ∧ pv = (b - 1) - (p - a) ∧ hint = .increasing
  hn : hh ≠ .decreasing → d2 = d1 ∧ pv = p ∧ hint = hh
  py : wb = true → wp = true → hint = .increasing → partialInsertionSort ltInt d2 a b = (E, fin)
  pn : ¬ (wb = true ∧ wp = true ∧ hint = .increasing) → E = d2 ∧ fin = false
  s1 : d1.size = D.size
  s2 : d2.size = D.size
  s3 : E.size = D.size
  pa : a ≤ p
  pb : p < b
  va : a ≤ pv
  vb : pv < b
  le : lim' ≤ lim
  done : fin = true → pdq ltInt D a b lim wb wp = E
  eq : fin = false → 0 < a → ltInt E[a - 1]! E[pv]! = false → ∀ mid d4, partitionEqual ltInt E a b pv = (mid, d4) →
    a < mid ∧ mid ≤ b ∧ d4.size = D.size ∧ Below ltInt mid b d4 ∧ pdq ltInt D a b lim wb wp = pdq ltInt d4 mid b lim' wb wp
  pt : fin = false → (a = 0 ∨ ltInt E[a - 1]! E[pv]! = true) → ∀ mid ap d4, partition ltInt E a b pv = (mid, ap, d4) →
    a ≤ mid ∧ mid < b ∧ d4.size = D.size ∧ Below ltInt a mid d4 ∧ Below ltInt (mid + 1) b d4 ∧
    (mid - a < b - mid → (pdq ltInt d4 a mid lim' true true).size = D.size ∧ Below ltInt (mid + 1) b (pdq ltInt d4 a mid lim' true true) ∧
      pdq ltInt D a b lim wb wp = pdq ltInt (pdq ltInt d4 a mid lim' true true) (mid + 1) b lim' (decide (mid - a ≥ (b - a) / 8)) ap) ∧
    (¬ mid - a < b - mid → (pdq ltInt d4 (mid + 1) b lim' true true).size = D.size ∧ Below ltInt a mid (pdq ltInt d4 (mid + 1) b lim' true true) ∧
      pdq ltInt D a b lim wb wp = pdq ltInt (pdq ltInt d4 (mid + 1) b lim' true true) a mid lim' (decide (b - mid ≥ (b - a) / 8)) ap)
theorem rnd_all {D : Array Int} {a b lim : Nat} {wb wp : Bool} (h12 : ¬ b - a ≤ 12) (h0 : ¬ lim = 0) (hb : b ≤ D.size) (hB : Below ltInt a b D) :
    ∃ d1 lim' p hh d2 pv hint E fin, Rnd D a b lim wb wp d1 lim' p hh d2 pv hint E fin := by
  obtain ⟨s1, B1, ⟨hc1, hc2⟩, s2, B2, ⟨hv1, hv2⟩, s3, B3⟩ := rd_facts (limit := lim) (wb := wb) (wp := wp) swo_ltInt partialInsertionSort_holds reverseRange_holds (show a < b by omega) hb hB
  refine ⟨(rd ltInt D a b lim wb wp).d1, (rd ltInt D a b lim wb wp).lim, (rd ltInt D a b lim wb wp).c.1, (rd ltInt D a b lim wb wp).c.2, (rd ltInt D a b lim wb wp).d2, (rd ltInt D a b lim wb wp).pivot,
    (rd ltInt D a b lim wb wp).hint, (rd ltInt D a b lim wb wp).pi.1, (rd ltInt D a b lim wb wp).pi.2, ?_⟩
  refine { bt := ?_, bf := ?_, c := rfl, hd := rd_dec, hn := rd_not, py := ?_, pn := ?_, s1 := s1, s2 := s2, s3 := s3, pa := hc1, pb := hc2, va := hv1, vb := hv2, le := rd_lim_le, done := fun h => pdq_done h12 h0 h, eq := ?_, pt := ?_ }
  · rintro rfl; exact rd_true
  · rintro rfl; exact rd_false
  · intro h1 h2 h3
    subst h1 h2
    rw [rd_pi_yes (by simp [h3])]
  · intro h
    rw [rd_pi_no (by cases hx : wb <;> cases hy : wp <;> simp_all)]
    exact ⟨rfl, rfl⟩
  · intro hf ha hl mid d4 e
    obtain ⟨h1, h2, h3, h4, _⟩ := round_eq swo_ltInt (partitionEqual_holds ltInt) ha hv1 hv2 (by rw [s3]; exact hb) B3 hl e
    have h5 := pdq_eq (lt := ltInt) (d := D) (a := a) (b := b) (limit := lim) (wb := wb) (wp := wp) h12 h0 hf (by simp [ha, hl]) (by rw [e]; exact ⟨h1, h2⟩)
    rw [e] at h5
    exact ⟨h1, h2, h3.trans s3, h4, h5⟩
  · intro hf hl mid ap d4 e
    obtain ⟨h1, h2, h3, h4, h5, h6, h7⟩ := round_part swo_ltInt (partition_holds ltInt) hv1 hv2 (by rw [s3]; exact hb) B3 e
    have hl' : (decide (a > 0) && !ltInt (rd ltInt D a b lim wb wp).pi.1[a - 1]! (rd ltInt D a b lim wb wp).pi.1[(rd ltInt D a b lim wb wp).pivot]!) = false := by
      rcases hl with h | h <;> simp [h]
    refine ⟨h1, h2, h3.trans s3, h4, h5, fun hlt => ?_, fun hlt => ?_⟩
    · have hp := pdq_sorts ltInt swo_ltInt d4 a mid (rd ltInt D a b lim wb wp).lim true true h1 (by omega) h4
      have h8 := pdq_left (lt := ltInt) (d := D) (a := a) (b := b) (limit := lim) (wb := wb) (wp := wp) h12 h0 hf hl' (by rw [e]; exact ⟨h1, h2⟩) (by rw [e]; exact hlt)
      rw [e] at h8
      exact ⟨hp.1.1.trans (h3.trans s3), (h6 _ hp.1 hp.2).1, h8⟩
    · have hp := pdq_sorts ltInt swo_ltInt d4 (mid + 1) b (rd ltInt D a b lim wb wp).lim true true (by omega) (by omega) h5
      have h8 := pdq_right (lt := ltInt) (d := D) (a := a) (b := b) (limit := lim) (wb := wb) (wp := wp) h12 h0 hf hl' (by rw [e]; exact ⟨h1, h2⟩) (by rw [e]; exact hlt)
      rw [e] at h8
      exact ⟨hp.1.1.trans (h3.trans s3), (h7 _ hp.1 hp.2).1, h8⟩
theorem sortInt_eq (l : List Int) : (pdq ltInt l.toArray 0 l.toArray.size (bitsLen l.toArray.size) true true).toList = l.mergeSort (fun x y => decide (x ≤ y)) := sortInt l
theorem hintN_dec (h : Hint) : h = .decreasing ∨ h ≠ .decreasing := by cases h <;> simp
end Go.AX
end
section
namespace Go.AX
end Go.AX
end
section
namespace Go.AX
structure Und (n : Int) (S : List Pl) (a0 : Nat) (has : Pl) (f : Ft) (now : Int) (J : Nat) (pend : Bool) : Prop where
  good : GoodF n f
  done : f.done = 0
  set : f.set = S
  at_ : f.at_ = (((a0 + J) % S.length : Nat) : Int)
  since : f.since ≤ now
  seen : ∀ i, 1 ≤ i → i ≤ J → (i < J ∨ pend = false) → S[(a0 + i) % S.length]! ≠ has
theorem Und.passed {n : Int} {S : List Pl} {a0 : Nat} {has : Pl} {f : Ft} {now : Int} {J : Nat} (u : Und n S a0 has f now J true) (hne : (reqOf f).to ≠ has) : Und n S a0 has f now J false := by
  refine ⟨u.good, u.done, u.set, u.at_, u.since, fun i h1 h2 h3 => ?_⟩
  by_cases c : i < J
  · exact u.seen i h1 h2 (.inl c)
  · have e : i = J := by omega
    subst e
    intro hx
    apply hne
    simp only [reqOf, u.set, u.at_, Int.toNat_natCast]
    exact hx
end Go.AX
end
section
namespace Go.AX
structure Cp where
  l : Lg
  from_ : Pl
  to : Pl
  phase : Int
  n : Int
  none : List Pl
  body : List UInt8
  born : Int
  since : Int
deriving DecidableEq
def Cp.c (x : Cp) : List PV := [uu x.l.id, ii x.l.w, ii x.l.a, slF x.l.frags, ii x.l.closed, uu x.l.last, ii x.from_.node, uu x.from_.serial, ii x.to.node, uu x.to.serial, ii x.phase, uu x.n, slP x.none, bys x.body, uu x.born, uu x.since]
def Cp.v (x : Cp) (no : AV) : List AV := [.pv (uu x.l.id), .pv (ii x.l.w), .pv (ii x.l.a), .pv (slF x.l.frags), .pv (ii x.l.closed), .pv (uu x.l.last), .pv (ii x.from_.node), .pv (uu x.from_.serial), .pv (ii x.to.node), .pv (uu x.to.serial), .pv (ii x.phase), .pv (uu x.n), no, .pv (bys x.body), .pv (uu x.born), .pv (uu x.since)]
structure Cp.sm (c : Cp) : Prop where
  h1 : c.none.length ≤ 8796093022208
  h2 : c.body.length ≤ 140737488355328
  h3 : c.l.frags.length ≤ 4398046511104
  h4 : c.l.ok
def Cp.z : List AV := [.pv (uu 0), .pv (ii 0), .pv (ii 0), .pv nilS, .pv (ii 0), .pv (uu 0), .pv (ii 0), .pv (uu 0), .pv (ii 0), .pv (uu 0), .pv (ii 0), .pv (uu 0), .pv nilS, .pv nilS, .pv (uu 0), .pv (uu 0)]
theorem ent_frz {s s' : AS} (ids : List Nat) (h : match frz s.hp ids with | some fs => entC (s.app fs) s' | none => False) (c : Ctx) (R : Real) (a : Act) (w : World) (g : Gam c R s a w) : ∃ R', Gam c R' s' a w := by
  split at h
  · rename_i fs hfs
    obtain ⟨g1, _⟩ := frz_sound g (fun _ _ h => h) _ _ hfs
    exact ent_of h c R a w g1
  · exact h.elim
end Go.AX
end
section
namespace Go.AX
theorem row_all {L : List Lg} (hL : Row L) : ∀ l ∈ L, LdOk l := by
  induction hL with
  | nil => intro l hl; cases hl
  | one l h => intro m hm; rw [List.mem_singleton] at hm; subst hm; exact h
  | cons l m r h _ _ _ ih =>
    intro q hq
    rcases List.mem_cons.1 hq with rfl | hq
    · exact h
    · exact ih q hq
theorem oneC_some {p : Pn} {n sure : Int} {is : Sp → Bool} {s : Sp} (hh : hasC p n = true) (hf : (allC p n sure).find? is = some s) : oneC p n sure is = (s, 0) := by
  unfold oneC; rw [if_pos hh, hf]
theorem oneC_none {p : Pn} {n sure : Int} {is : Sp → Bool} (hh : hasC p n = true) (hf : (allC p n sure).find? is = none) : oneC p n sure is = (sp0, 4) := by
  unfold oneC; rw [if_pos hh, hf]
def atK (p : Pn) (a : Int) (ids : List Int) (k : Nat) : Int := (ids.take k).foldl (fun e id => addU e (findL p id).last) a
theorem atK_zero (p : Pn) (a : Int) (ids : List Int) : atK p a ids 0 = a := by simp [atK]
theorem atK_succ (p : Pn) (a : Int) (ids : List Int) (k : Nat) (h : k < ids.length) : atK p a ids (k + 1) = addU (atK p a ids k) (findL p ids[k]).last := by
  unfold atK
  rw [List.take_succ_eq_append_getElem h, List.foldl_append]
  rfl
theorem ledsC_drop (p : Pn) (a : Int) (ids : List Int) (k : Nat) (h : k < ids.length) :
    ledsC p (atK p a ids k) (ids.drop k) = (atK p a ids k, findL p ids[k]) :: ledsC p (atK p a ids (k + 1)) (ids.drop (k + 1)) := by
  rw [List.drop_eq_getElem_cons h, ledsC, atK_succ p a ids k h]
  rfl
theorem ledsC_len (p : Pn) : ∀ (ids : List Int) (a : Int), (ledsC p a ids).length = ids.length
  | [], a => rfl
  | id :: r, a => by simp only [ledsC, List.length_cons, ledsC_len p r]
theorem ledsC_get (p : Pn) : ∀ (ids : List Int) (a : Int) (k : Nat) (h : k < (ledsC p a ids).length), (ledsC p a ids)[k] = (atK p a ids k, findL p (ids[k]'(by rw [ledsC_len] at h; exact h)))
  | [], a, k, h => by simp [ledsC] at h
  | id :: r, a, 0, h => by simp [ledsC, atK, findL]
  | id :: r, a, k + 1, h => by
    simp only [ledsC, List.getElem_cons_succ]
    rw [ledsC_get p r]
    simp [atK, findL]
def spR (p : Pn) (sure a : Int) (ids : List Int) (k : Nat) : List Sp := (ledsC p (atK p a ids k) (ids.drop k)).flatMap fun x => spL x.1 x.2 (spN sure x.2).toNat
theorem spR_zero (p : Pn) (sure a : Int) (ids : List Int) : spR p sure a ids 0 = spotsC p sure a ids := by
  simp only [spR, atK_zero, List.drop_zero, spotsC]
theorem spR_step (p : Pn) (sure a : Int) (ids : List Int) (k : Nat) (h : k < ids.length) :
    spR p sure a ids k = spL (atK p a ids k) (findL p ids[k]) (spN sure (findL p ids[k])).toNat ++ spR p sure a ids (k + 1) := by
  unfold spR
  rw [ledsC_drop p a ids k h, List.flatMap_cons]
theorem spR_end (p : Pn) (sure a : Int) (ids : List Int) : spR p sure a ids ids.length = [] := by
  simp [spR, ledsC]
theorem spL_drop (a : Int) (l : Lg) (n i : Nat) (h : i < n) : (spL a l n).drop i = ⟨addU a i, l.id, addU i 1⟩ :: (spL a l n).drop (i + 1) := by
  rw [List.drop_eq_getElem_cons (by rw [spL_len]; exact h), spL_get]
theorem spL_drop_end (a : Int) (l : Lg) (n : Nat) : (spL a l n).drop n = [] := by
  rw [List.drop_eq_nil_iff, spL_len]; exact Nat.le_refl _
end Go.AX
end
section
namespace Go.AX
theorem Sp.eqOf (a b : Sp) (h : (!(a.offset == b.offset && (a.ledger == b.ledger && a.n == b.n))) = false) : a = b := by
  cases a; cases b; simp at h; simp [h]
theorem Int.eqOf (a b : Int) (h : (a != b) = false) : a = b := by simpa using h
def longC (c : Ch) : Bool := decide ((c.ledgers.length : Int) > 60) || (decide ((c.seen.length : Int) > 60) || decide ((c.cursors.length : Int) > 60))
def longP (p : Pn) : Bool := (decide ((p.channels.length : Int) > 10) || (decide ((p.ledgers.length : Int) > 60) || decide ((p.past.length : Int) > 60))) || (p.channels.any longC || p.ledgers.any (fun l => longF l.frags))
theorem longP_B {p : Pn} (h : longP p = false) : PnB p := by
  simp only [longP, Bool.or_eq_false_iff, decide_eq_false_iff_not, List.any_eq_false] at h
  obtain ⟨⟨h1, h2, h3⟩, h4, h5⟩ := h
  have hc : ∀ c ∈ p.channels, c.ledgers.length ≤ 60 ∧ c.seen.length ≤ 60 ∧ c.cursors.length ≤ 60 := by
    intro c hc
    have := h4 c hc
    simp only [longC, Bool.or_eq_true, decide_eq_true_eq, not_or] at this
    omega
  refine ⟨by omega, by omega, by omega, fun c hc' => ?_, fun l hl => ?_, ?_⟩
  · have := hc c hc'
    exact ⟨by omega, by omega, by omega⟩
  · have := h5 l hl
    simp only [longF, Bool.or_eq_true, decide_eq_true_eq, not_or, List.any_eq_true, not_exists, not_and] at this
    exact ⟨by omega, fun f hf => by have := this.2 f hf; omega⟩
  · have : ∀ (L : List Ch), (∀ c ∈ L, c.ledgers.length ≤ 60) → (L.flatMap (·.ledgers)).length ≤ 60 * L.length := by
      intro L
      induction L with
      | nil => intro _; simp
      | cons c r ih =>
        intro h
        have := ih fun x hx => h x (by simp [hx])
        have := h c (by simp)
        simp only [List.flatMap_cons, List.length_append, List.length_cons]
        omega
    have := this p.channels fun c hc' => (hc c hc').1
    unfold namedP
    omega
def goneA (p : Pn) (trim : Int) (acc : List Int) (a : Int) : List Int → List Int × Int × Int
  | [] => (acc, 0, a)
  | id :: r => if (findL p id).closed == 0 || decide (addU a (findL p id).last > trim) then (acc, (findL p id).id, a) else goneA p trim (acc ++ [(findL p id).id]) (addU a (findL p id).last) r
def goneC (p : Pn) (n : Int) : List Int × Int × Int := if hasC p n then goneA p (chP p n).trim [] (chP p n).first (chP p n).ledgers else ([], 0, 0)
def goneG (p : Pn) (ids : List Int) (k : Nat) : List Int := (ids.take k).map fun id => (findL p id).id
theorem goneG_succ (p : Pn) (ids : List Int) (k : Nat) (h : k < ids.length) : goneG p ids (k + 1) = goneG p ids k ++ [(findL p ids[k]).id] := by
  unfold goneG
  rw [List.take_succ_eq_append_getElem h, List.map_append]
  rfl
theorem goneG_len (p : Pn) (ids : List Int) (k : Nat) : (goneG p ids k).length ≤ ids.length := by
  unfold goneG
  rw [List.length_map, List.length_take]
  omega
theorem goneA_stop {p : Pn} {trim a : Int} {acc ids : List Int} {k : Nat} (h : k < ids.length) (hq : ((findL p ids[k]).closed == 0 || decide (addU a (findL p ids[k]).last > trim)) = true) :
    goneA p trim acc a (ids.drop k) = (acc, (findL p ids[k]).id, a) := by
  rw [List.drop_eq_getElem_cons h, goneA, if_pos hq]
theorem goneA_next {p : Pn} {trim a : Int} {acc ids : List Int} {k : Nat} (h : k < ids.length) (hq : ((findL p ids[k]).closed == 0 || decide (addU a (findL p ids[k]).last > trim)) = false) :
    goneA p trim acc a (ids.drop k) = goneA p trim (acc ++ [(findL p ids[k]).id]) (addU a (findL p ids[k]).last) (ids.drop (k + 1)) := by
  rw [List.drop_eq_getElem_cons h, goneA, if_neg (by rw [hq]; decide)]
def exL (id last closed : Int) : Lg := ⟨id, 1, 1, [⟨1, [⟨7, 1⟩]⟩], closed, last⟩
def exP : Pn := ⟨0, 9, [⟨1, 4, 1, 0, 10, 12, [3, 5, 7], [], []⟩], [exL 3 2 1, exL 5 0 1, exL 7 0 0], []⟩
theorem exP_B : PnB exP := longP_B (by decide)
theorem exP_r : lgsR exP := by
  intro l hl
  simp only [exP, List.mem_cons, List.not_mem_nil, or_false] at hl
  rcases hl with rfl | rfl | rfl <;> simp [exL, u64R]
theorem exP_f : ∀ c ∈ exP.channels, 0 ≤ c.first := by
  intro c hc
  simp only [exP, List.mem_cons, List.not_mem_nil, or_false] at hc
  subst hc
  decide
theorem exP_may : mayPn exP = true := by
  have h1 : sortU (namedP exP) = [3, 5, 7] := by
    show List.mergeSort [3, 5, 7] (fun x y => decide (x ≤ y)) = [3, 5, 7]
    exact List.mergeSort_of_pairwise (by simp)
  unfold mayPn
  rw [h1]
  decide
theorem exP_has : hasC exP 1 = true := by
  unfold hasC
  rw [exP_may]
  decide
theorem exP_all : allC exP 1 1 = [⟨10, 3, 1⟩, ⟨11, 3, 2⟩, ⟨12, 7, 1⟩] := by
  unfold allC
  rw [if_pos exP_has]
  decide
theorem exP_find11 : findC exP 1 1 11 = (⟨11, 3, 2⟩, 0) := oneC_some exP_has (by rw [exP_all]; decide)
theorem exP_find12 : findC exP 1 1 12 = (⟨12, 7, 1⟩, 0) := oneC_some exP_has (by rw [exP_all]; decide)
theorem exP_find13 : findC exP 1 1 13 = (sp0, 4) := oneC_none exP_has (by rw [exP_all]; decide)
theorem exP_off : offC exP 1 1 7 1 = (12, 0) := by
  have := oneC_some (n := 1) (sure := 1) (is := fun s => s.ledger == 7 && s.n == 1) (s := ⟨12, 7, 1⟩) exP_has (by rw [exP_all]; decide)
  unfold offC
  rw [this]
theorem exP_len : lengthC exP 1 1 = 13 := by
  unfold lengthC
  rw [if_pos exP_has, exP_all]
  decide
theorem exP_gone : goneC exP 1 = ([3, 5], 7, 12) := by
  unfold goneC
  rw [if_pos exP_has]
  decide
end Go.AX
end
section
namespace Go.AX
end Go.AX
end
section
namespace Go.AX
theorem bool_of {X : Bool} {P : Prop} (h : X = true ↔ P) (n : ¬ P) : X = false := by
  cases X with
  | false => rfl
  | true => exact absurd (h.1 rfl) n
theorem rise_iff (l : List Int) : riseZ l = true ↔ ∀ i (h : i + 1 < l.length), l[i] < l[i + 1] := by
  unfold riseZ
  rw [decide_eq_true_eq]
  constructor
  · intro h i hi
    exact List.pairwise_iff_getElem.1 h i (i + 1) (by omega) hi (by omega)
  · intro h
    exact adj_pairwise (key := fun x => x) fun j hj => h j hj
theorem rise_iff_map {α : Type} (f : α → Int) (l : List α) : riseZ (l.map f) = true ↔ ∀ i (h : i + 1 < l.length), f (l[i]'(by omega)) < f l[i + 1] := by
  rw [rise_iff]
  constructor
  · intro h i hi
    have := h i (by rw [List.length_map]; exact hi)
    simpa using this
  · intro h i hi
    rw [List.length_map] at hi
    simpa using h i hi
structure ChF (p : Pn) (c : Ch) : Prop where
  e1 : c.epoch ≤ 4611686018427387903
  e2 : c.renewed ≤ 4611686018427387903
  e3 : c.first ≤ 4611686018427387903
  o0 : c.epoch = 0 → c.owner = 0 ∧ c.inc = 0 ∧ c.ledgers.length = 0
  o1 : c.epoch ≠ 0 → 1 ≤ c.owner ∧ c.owner ≤ 15 ∧ 1 ≤ c.inc ∧ c.inc ≤ 4611686018427387903
  len : c.ledgers.length ≤ 8
  rise : ∀ i (h : i + 1 < c.ledgers.length), c.ledgers[i] < c.ledgers[i + 1]
  leds : ∀ i (hi : i < c.ledgers.length), (findP p c.ledgers[i]).isSome = true ∧ ((findL p c.ledgers[i]).closed = 0 → i + 1 = c.ledgers.length)
  t1 : c.first ≤ c.trim
  t2 : c.trim ≤ mostC p c
  t3 : addU (endC p c) 8 ≤ 4611686018427387903
  s0 : c.seen.length ≤ 6
  s1 : c.seen.Pairwise fun a b => a.producer < b.producer ∧ a.offset ≠ b.offset
  s2 : ∀ i (hi : i < c.seen.length), 1 ≤ c.seen[i].producer ∧ c.seen[i].producer ≤ 15 ∧ 1 ≤ c.seen[i].seq ∧ c.seen[i].seq ≤ 4611686018427387903
  s3 : ∀ i (hi : i < c.seen.length), c.seen[i].offset < c.first
  k0 : c.cursors.length ≤ 3
  k1 : ∀ i (hi : i < c.cursors.length), 1 ≤ c.cursors[i].sub ∧ c.cursors[i].sub ≤ 3 ∧ c.cursors[i].at_ ≤ 4611686018427387903
  k2 : ∀ i (h : i + 1 < c.cursors.length), c.cursors[i].sub < c.cursors[i + 1].sub
theorem all_iff_get {α : Type} (q : α → Bool) (l : List α) : l.all q = true ↔ ∀ i (hi : i < l.length), q l[i] = true := by
  rw [List.all_eq_true]
  constructor
  · intro h i hi; exact h _ (List.getElem_mem hi)
  · intro h x hx
    obtain ⟨i, hi, rfl⟩ := List.getElem_of_mem hx
    exact h i hi
theorem seenC_iff (c : Ch) : seenC c = true ↔ c.seen.length ≤ 6 ∧ (c.seen.Pairwise fun a b => a.producer < b.producer ∧ a.offset ≠ b.offset) ∧
    (∀ i (hi : i < c.seen.length), 1 ≤ c.seen[i].producer ∧ c.seen[i].producer ≤ 15 ∧ 1 ≤ c.seen[i].seq ∧ c.seen[i].seq ≤ 4611686018427387903) ∧ (∀ i (hi : i < c.seen.length), c.seen[i].offset < c.first) := by
  unfold seenC
  simp only [Bool.and_eq_true, decide_eq_true_eq, all_iff_get, markOk, fromZ]
  constructor
  · rintro ⟨h1, h2, h3, h4⟩
    refine ⟨by omega, ?_, fun i hi => ?_, fun i hi => (h4 i hi).2.2⟩
    · unfold riseZ at h2
      rw [decide_eq_true_eq, List.pairwise_map] at h2
      rw [List.nodup_iff_pairwise_ne, List.pairwise_map] at h3
      exact h2.and h3
    · have := h4 i hi
      omega
  · rintro ⟨h1, h2, h3, h4⟩
    refine ⟨by omega, ?_, ?_, fun i hi => ⟨⟨(h3 i hi).1, (h3 i hi).2.1⟩, ⟨(h3 i hi).2.2.1, (h3 i hi).2.2.2⟩, h4 i hi⟩⟩
    · unfold riseZ
      rw [decide_eq_true_eq, List.pairwise_map]
      exact h2.imp fun h => h.1
    · rw [List.nodup_iff_pairwise_ne, List.pairwise_map]
      exact h2.imp fun h => h.2
theorem owned_iff (c : Ch) : ownedC c = true ↔ (c.epoch = 0 → c.owner = 0 ∧ c.inc = 0 ∧ c.ledgers.length = 0) ∧ (c.epoch ≠ 0 → 1 ≤ c.owner ∧ c.owner ≤ 15 ∧ 1 ≤ c.inc ∧ c.inc ≤ 4611686018427387903) := by
  unfold ownedC
  by_cases h : c.epoch = 0
  · rw [if_pos (by simpa using h)]
    simp only [Bool.and_eq_true, beq_iff_eq, decide_eq_true_eq]
    constructor
    · rintro ⟨h1, h2, h3⟩
      exact ⟨fun _ => ⟨h1, h2, by omega⟩, fun h' => absurd h h'⟩
    · rintro ⟨h1, _⟩
      obtain ⟨a, b, d⟩ := h1 h
      exact ⟨a, b, by omega⟩
  · rw [if_neg (by simpa using h)]
    simp only [Bool.and_eq_true, fromZ, decide_eq_true_eq]
    constructor
    · rintro ⟨⟨h1, h2⟩, h3, h4⟩
      exact ⟨fun h' => absurd h' h, fun _ => ⟨h1, h2, h3, h4⟩⟩
    · rintro ⟨_, h1⟩
      obtain ⟨a, b, d, e⟩ := h1 h
      exact ⟨⟨a, b⟩, d, e⟩
theorem count_one {l : List Int} (h : l.Nodup) {a : Int} (ha : a ∈ l) : l.count a = 1 := by
  have h1 := List.nodup_iff_count.1 h a
  have h2 := List.count_pos_iff.2 ha
  omega
theorem cnt_iff (n : Int) : cnt n = true ↔ n ≤ 4611686018427387903 := by simp [cnt]
theorem chanOk_iff (p : Pn) (c : Ch) : chanOk p c = true ↔ ChF p c := by
  unfold chanOk
  simp only [Bool.and_eq_true, cnt_iff, owned_iff, rise_iff, ledsOk_iff, seenC_iff, rise_iff_map, all_iff_get, cursOk, fromZ, decide_eq_true_eq]
  constructor
  · rintro ⟨⟨h1, h2, h3⟩, ⟨h4, h5⟩, h6, h7, ⟨h8, h9⟩, h10, h11, ⟨h12, h13, h14, h15⟩, h16, h17, h18⟩
    exact ⟨h1, h2, h3, h4, h5, by omega, h7, h11, h8, h9, h10, h12, h13, h14, h15, by omega, fun i hi => by have := h18 i hi; omega, (rise_iff_map _ _).1 ((rise_iff _).2 h17)⟩
  · intro F
    exact ⟨⟨F.e1, F.e2, F.e3⟩, ⟨F.o0, F.o1⟩, by have := F.len; omega, F.rise, ⟨F.t1, F.t2⟩, F.t3, F.leds, ⟨F.s0, F.s1, F.s2, F.s3⟩, by have := F.k0; omega, (rise_iff _).1 ((rise_iff_map _ _).2 F.k2), fun i hi => by have := F.k1 i hi; omega⟩
structure MyF (p : Pn) : Prop where
  v : p.version ≤ 4611686018427387903
  n1 : 1 ≤ p.next
  n2 : p.next ≤ 4611686018427387904
  c1 : 1 ≤ p.channels.length
  c2 : p.channels.length ≤ 3
  l24 : p.ledgers.length ≤ 24
  lg : ∀ i (hi : i < p.ledgers.length), mayLg p.ledgers[i] = true ∧ p.ledgers[i].id < p.next
  rise : ∀ i (h : i + 1 < p.ledgers.length), p.ledgers[i].id < p.ledgers[i + 1].id
  one : ∀ i (hi : i < p.ledgers.length), (namedP p).count p.ledgers[i].id = 1
  ch : ∀ i (hi : i < p.channels.length), chanOk p p.channels[i] = true
  p1 : ∀ i (hi : i < p.past.length), pastOk p.past[i] = true
  p2 : ∀ i (h : i + 1 < p.past.length), p.past[i].who < p.past[i + 1].who
theorem mayPn_iff (p : Pn) : mayPn p = true ↔ MyF p := by
  have hsorted : ∀ l : List Int, (sortU l).Pairwise fun a b => a ≤ b := by
    intro l
    have := List.pairwise_mergeSort (le := fun x y : Int => decide (x ≤ y)) (fun a b c h1 h2 => by simp at *; omega) (fun a b => by simp; omega) l
    exact this.imp fun h => by simpa using h
  have hperm : ∀ l : List Int, (sortU l).Perm l := fun l => List.mergeSort_perm l _
  unfold mayPn
  simp only [Bool.and_eq_true, cnt_iff, idsP, rise_iff_map, all_iff_get, fromZ, decide_eq_true_eq]
  constructor
  · rintro ⟨h1, ⟨h2, h3⟩, ⟨h4, h5⟩, h6, h7, h8, h9, h10, h11⟩
    have hnd : (p.ledgers.map (·.id)).Nodup := by
      have := (rise_iff_map (·.id) p.ledgers).2 h7
      unfold riseZ at this
      rw [decide_eq_true_eq] at this
      exact this.imp fun h => by omega
    have hp : (p.ledgers.map (·.id)).Perm (namedP p) := by rw [← of_decide_eq_true h8]; exact hperm _
    have hcl : (namedP p).length ≤ 8 * p.channels.length := by
      have : ∀ (L : List Ch), (∀ c ∈ L, c.ledgers.length ≤ 8) → (L.flatMap (·.ledgers)).length ≤ 8 * L.length := by
        intro L
        induction L with
        | nil => intro _; simp
        | cons c r ih =>
          intro h
          have := ih fun x hx => h x (by simp [hx])
          have := h c (by simp)
          simp only [List.flatMap_cons, List.length_append, List.length_cons]
          omega
      refine this _ fun c hc => ?_
      obtain ⟨i, hi, rfl⟩ := List.getElem_of_mem hc
      exact ((chanOk_iff p _).1 (h9 i hi)).len
    refine ⟨h1, h2, h3, by omega, by omega, ?_, h6, h7, fun i hi => ?_, h9, h11, h10⟩
    · have := hp.length_eq
      rw [List.length_map] at this
      omega
    · rw [← hp.count_eq]
      exact count_one hnd (List.mem_map.2 ⟨_, List.getElem_mem hi, rfl⟩)
  · intro F
    refine ⟨F.v, ⟨F.n1, F.n2⟩, ⟨by have := F.c1; omega, by have := F.c2; omega⟩, F.lg, F.rise, ?_, F.ch, F.p2, F.p1⟩
    have hr := (rise_iff_map (·.id) p.ledgers).2 F.rise
    unfold riseZ at hr
    rw [decide_eq_true_eq] at hr
    have hnd : (p.ledgers.map (·.id)).Nodup := hr.imp fun h => by omega
    have hp : (namedP p).Perm (p.ledgers.map (·.id)) := by
      rw [List.perm_iff_count]
      intro a
      by_cases ha : a ∈ p.ledgers.map (·.id)
      · rw [count_one hnd ha]
        obtain ⟨l, hl, rfl⟩ := List.mem_map.1 ha
        obtain ⟨i, hi, rfl⟩ := List.getElem_of_mem hl
        exact F.one i hi
      · rw [List.count_eq_zero_of_not_mem ha, List.count_eq_zero]
        intro hm
        unfold namedP at hm
        obtain ⟨c, hc, hm⟩ := List.mem_flatMap.1 hm
        obtain ⟨i, hi, rfl⟩ := List.getElem_of_mem hc
        obtain ⟨j, hj, rfl⟩ := List.getElem_of_mem hm
        have := (((chanOk_iff p _).1 (F.ch i hi)).leds j hj).1
        obtain ⟨l, hl⟩ := Option.isSome_iff_exists.1 this
        have := findP_mem hl
        exact ha (List.mem_map.2 ⟨l, this.1, this.2⟩)
    refine decide_eq_true ?_
    exact List.Perm.eq_of_pairwise (le := fun a b => a ≤ b) (fun a b _ _ h1 h2 => by omega) (hsorted _) (hr.imp fun h => by omega) ((hperm _).trans hp)
theorem count_take {l : List Int} {a : Int} {j : Nat} (h : j < l.length) : (l.take (j + 1)).count a = (l.take j).count a + (if l[j] == a then 1 else 0) := by
  rw [List.take_succ_eq_append_getElem h, List.count_append, List.count_singleton]
theorem count_flat {p : Pn} {a : Int} {k : Nat} (h : k < p.channels.length) : ((p.channels.take (k + 1)).flatMap (·.ledgers)).count a = ((p.channels.take k).flatMap (·.ledgers)).count a + p.channels[k].ledgers.count a := by
  rw [flat_take _ _ _ h, List.count_append]
theorem count_bd {p : Pn} {a : Int} {k : Nat} (h : k < p.channels.length) (j : Nat) : ((p.channels.take k).flatMap (·.ledgers)).count a + (p.channels[k].ledgers.take j).count a ≤ (namedP p).length := by
  have h1 := flat_take_le (fun c : Ch => c.ledgers) p.channels k h
  have h2 := List.count_le_length (a := a) (l := (p.channels.take k).flatMap (·.ledgers))
  have h3 := List.count_le_length (a := a) (l := p.channels[k].ledgers.take j)
  rw [List.length_take] at h3
  unfold namedP
  omega
theorem pastOk_iff (x : Pa) : pastOk x = true ↔ (1 ≤ x.who ∧ x.who ≤ 15) ∧ (1 ≤ x.inc ∧ x.inc ≤ 4611686018427387903) ∧ (1 ≤ x.n ∧ x.n ≤ 4611686018427387903) ∧ (0 ≤ x.out.code ∧ x.out.code ≤ 9) ∧ (0 ≤ x.out.owner ∧ x.out.owner ≤ 15) ∧
    x.out.epoch ≤ 4611686018427387903 ∧ x.out.at_ ≤ 4611686018427387903 ∧ x.out.ledger ≤ 4611686018427387903 := by
  unfold pastOk
  simp only [Bool.and_eq_true, fromZ, decide_eq_true_eq, cnt_iff]
theorem pair_take {α : Type} {R : α → α → Prop} {l : List α} {i : Nat} (h : i < l.length) (h1 : (l.take i).Pairwise R) (h2 : ∀ j (hj : j < l.length), j < i → R l[j] l[i]) : (l.take (i + 1)).Pairwise R := by
  rw [List.take_succ_eq_append_getElem h, List.pairwise_append]
  refine ⟨h1, List.pairwise_singleton _ _, fun a ha b hb => ?_⟩
  rw [List.mem_singleton] at hb
  subst hb
  obtain ⟨j, hj, rfl⟩ := List.getElem_of_mem ha
  rw [List.length_take] at hj
  rw [List.getElem_take]
  exact h2 j (by omega) (by omega)
end Go.AX
end
section
namespace Go.AX
theorem addU_add (a b c : Int) : addU (addU a b) c = addU a (b + c) := by
  unfold addU
  simp only [IntKind.wrap, IntKind.bits, IntKind.signed]
  simp
  rw [Int.add_assoc]
theorem addU_rng (a b : Int) : 0 ≤ addU a b ∧ addU a b ≤ 18446744073709551615 := by
  unfold addU
  simp [IntKind.wrap, IntKind.bits, IntKind.signed]
  omega
theorem atK_rng {p : Pn} {a : Int} (h : 0 ≤ a ∧ a ≤ 18446744073709551615) (ids : List Int) : ∀ k, k ≤ ids.length → 0 ≤ atK p a ids k ∧ atK p a ids k ≤ 18446744073709551615
  | 0, _ => by rw [atK_zero]; exact h
  | k + 1, hk => by rw [atK_succ p a ids k (by omega)]; exact addU_rng _ _
def spP (p : Pn) (sure a : Int) (ids : List Int) (k : Nat) : List Sp := ((ledsC p a ids).take k).flatMap fun x => spL x.1 x.2 (spN sure x.2).toNat
theorem spP_zero (p : Pn) (sure a : Int) (ids : List Int) : spP p sure a ids 0 = [] := by simp [spP]
theorem spP_succ (p : Pn) (sure a : Int) (ids : List Int) (k : Nat) (h : k < ids.length) :
    spP p sure a ids (k + 1) = spP p sure a ids k ++ spL (atK p a ids k) (findL p ids[k]) (spN sure (findL p ids[k])).toNat := by
  unfold spP
  have h2 : k < (ledsC p a ids).length := by rw [ledsC_len]; exact h
  rw [flat_take _ _ _ h2, ledsC_get p ids a k h2]
theorem spP_end (p : Pn) (sure a : Int) (ids : List Int) : spP p sure a ids ids.length = spotsC p sure a ids := by
  unfold spP spotsC
  rw [← ledsC_len p ids a, List.take_length]
theorem spP_le (p : Pn) (sure a : Int) (ids : List Int) (hb : ∀ k (hk : k < ids.length), 0 ≤ spN sure (findL p ids[k]) ∧ spN sure (findL p ids[k]) ≤ 8) : ∀ k, k ≤ ids.length → (spP p sure a ids k).length ≤ 8 * k
  | 0, _ => by simp [spP_zero]
  | k + 1, h => by
    have := spP_le p sure a ids hb k (by omega)
    have := hb k (by omega)
    rw [spP_succ p sure a ids k (by omega), List.length_append, spL_len]
    omega
theorem spL_succ (a : Int) (l : Lg) (m : Nat) : spL a l (m + 1) = spL a l m ++ [⟨addU a m, l.id, addU m 1⟩] := by
  unfold spL
  rw [List.range_succ, List.map_append]
  rfl
theorem findC_at {p : Pn} {n sure o : Int} (hh : hasC p n = true) (hr : lgsR p) (h0 : 0 ≤ (chP p n).first) (hs : 0 ≤ sure) :
    (∀ (h1 : (chP p n).first ≤ o) (h2 : (o - (chP p n).first).toNat < (allC p n sure).length), findC p n sure o = ((allC p n sure)[(o - (chP p n).first).toNat], 0)) ∧
    (¬ ((chP p n).first ≤ o ∧ o - (chP p n).first < (allC p n sure).length) → findC p n sure o = (sp0, 4)) := by
  refine ⟨fun h1 h2 => ?_, fun h => ?_⟩
  · have := find_off hh hr h0 hs _ h2
    rw [← this]
    congr 1
    omega
  · refine oneC_none hh ?_
    rw [List.find?_eq_none]
    intro s hs2
    obtain ⟨j, hj, rfl⟩ := List.getElem_of_mem hs2
    rw [allC_off hh hr h0 hs j hj]
    simp
    intro e
    exact h ⟨by omega, by omega⟩
def keepC (p : Pn) : List Int := if mayPn p then idsP p else []
end Go.AX
end
section
namespace Go.AX
open Go.ChangeShapes Go.WideShapes Go.RowKit
section
variable {H : Type} {enc : TypeId × Value → H} {P : Program}
theorem trodAll_stays (hl : laidOutB P = true) {W W' : World} (hb : Below W.heap.size W W') {sp : Nat → Bool} : ∀ {ts : List TypeId} {vs : List Value} {ds : List (DataW H)} {ps : List MemPlace},
    (∀ t ∈ ts, P.readableRec t = true ∧ t < P.types.size) → DataW.TrodAll enc P W 0 (fun _ => true) true ts vs ds ps → (∀ p ∈ ps, p.block < W.heap.size) → (∀ p ∈ ps, sp p.block = true) →
    DataW.TrodAll enc P W' 0 sp true ts vs ds ps
  | [], [], [], _, _, h, _, _ => h
  | [], _ :: _, _, _, _, h, _, _ => h.elim
  | [], [], _ :: _, _, _, h, _, _ => h.elim
  | _ :: _, [], _, _, _, h, _, _ => h.elim
  | _ :: _, _ :: _, [], _, _, h, _, _ => h.elim
  | t :: ts, v :: vs, d :: ds, _, hr, h, hlt, hsp => by
    obtain ⟨p, q, h1, h2, rfl⟩ := h
    have ht := hr t (by simp)
    exact ⟨p, q, WideElems.Trod_stays hl ht.1 ht.2 h1 (fun x hx => hb.same (hlt x (by simp [hx]))) (fun x hx => hsp x (by simp [hx])),
      trodAll_stays hl hb (fun t' ht' => hr t' (by simp [ht'])) h2 (fun x hx => hlt x (by simp [hx])) (fun x hx => hsp x (by simp [hx])), rfl⟩
theorem post_law {f : FuncId} {fn : Func} {s : ChangeSpec} {W : World} {args : Array Value} {ds gs : List (DataW H)} {before : List MemPlace} {pvs : List PV} {bt : TypeId}
    (hl : laidOutB P = true) (hrd : (fn.params.toList.all fun t => P.readableRec t && decide (t < P.types.size)) = true) (hrt : fn.resultTypes = #[bt]) (hbt : P.underlying bt = some .bool)
    (hvars : s.vars = []) (hfn : s.fn H (ds ++ gs) = { results := [.lit (.bool true)], args := ds })
    (hW : DataW.Whole enc P fn.params.toList s.vars false W args.toList ds gs before) (hc : PCx P f pvs (.sc (.bool true))) (hr : repL N0 W pvs args.toList) :
    Calls P f args W fun e W' => ∃ v, e = .returned v ∧ s.post enc P fn false true false false W args v W' := by
  refine (hc.2 N0 W args (fun r h => h.elim) hr).mono fun e W' ⟨v, r, he, hq, hrep, hsame⟩ => ⟨v, he, ?_⟩
  subst hq
  simp only [rep] at hrep
  subst hrep
  have hb : Below W.heap.size W W' := ⟨hsame.os, hsame.tape, hsame.output, hsame.size, fun k hk => hsame.keep k hk id⟩
  have hold : ∀ p ∈ before, (fun b => decide (b < W.heap.size)) p.block = true := fun p hp => by simpa using hW.lt p hp
  have hltp : ∀ p ∈ before, p.block < W.heap.size := fun p hp => hW.lt p hp
  have hW0 := hW
  obtain ⟨p, q, hA, hV, rfl, hz, hn⟩ := hW
  rw [hvars] at hV
  obtain ⟨rfl, rfl⟩ := trodVars_none hV
  simp only [List.append_nil] at hltp hold hz hn hW0 hfn
  have hres : ∀ (b : Nat) (sp : Nat → Bool) (hd : Bool), DataW.TrodAll enc P W' b sp hd fn.resultTypes.toList ((Value.bool true).resultList fn.resultTypes.size) (s.fn H (ds ++ [])).results [] := by
    intro b sp hd
    simp only [List.append_nil, hfn, hrt]
    exact trodAll_mk1 (shut_bool hbt true)
  have hargs : ∀ sp : Nat → Bool, (∀ x ∈ p, sp x.block = true) → DataW.TrodAll enc P W' 0 sp true fn.params.toList args.toList (s.fn H (ds ++ [])).args p := by
    intro sp hsp
    simp only [List.append_nil, hfn]
    exact trodAll_stays hl hb (fun t ht => by simpa using List.all_eq_true.1 hrd t ht) hA hltp hsp
  have hvv : ∀ sp : Nat → Bool, DataW.TrodVars enc P W' sp s.vars (s.fn H (ds ++ [])).vars [] := by
    intro sp
    simp only [List.append_nil, hfn, hvars]
    exact rfl
  refine ⟨ds, [], p, [], p, [], hW0, hres _ _ _, hargs _ hold, hvv _, hb.frame _, fun _ => ?_⟩
  refine ⟨ok_one hrt rfl (okWide_bool_mk hbt true), _, _, ([] ++ p) ++ [], ⟨[] ++ p, [], trodAll_append (hargs _ (fun _ _ => rfl)) (hres _ _ _), hvv _, rfl, ?_, ?_⟩, ?_⟩
  · intro b off hp
    simp only [List.nil_append, List.append_nil] at hp
    have := hltp _ hp
    rw [hb.frozen (p := ⟨b, off, none⟩) this]
    exact hz b off hp
  · intro ha
    simpa using hn ha
  · intro x hx _
    simpa using hx
end
theorem rows_of {α : Type} {c : α → List PV} {R : α → Prop} : ∀ {rows : List (List PV)}, (∀ r ∈ rows, ∃ x : α, r = c x ∧ R x) → ∃ l : List α, rows = l.map c ∧ ∀ x ∈ l, R x
  | [], _ => ⟨[], rfl, by simp⟩
  | r :: rows, h => by
    obtain ⟨x, rfl, hx⟩ := h r (by simp)
    obtain ⟨l, rfl, hl⟩ := rows_of (rows := rows) (c := c) (R := R) fun r hr => h r (by simp [hr])
    exact ⟨x :: l, rfl, by simpa using ⟨hx, hl⟩⟩
theorem wf_i64 {i : Int} (h : (Lit.int .i64 i).wf = true) : -9223372036854775808 ≤ i ∧ i ≤ 9223372036854775807 := by
  simpa [Lit.wf, IntKind.min, IntKind.max, IntKind.signed, IntKind.bits] using h
theorem wf_u64 {i : Int} (h : (Lit.int .u64 i).wf = true) : 0 ≤ i ∧ i ≤ 18446744073709551615 := by
  simpa [Lit.wf, IntKind.min, IntKind.max, IntKind.signed, IntKind.bits] using h
end Go.AX
end
