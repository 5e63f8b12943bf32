/-
  Conditions: none. A framework for walks: abstract values, memory, and conditions that suffice; the chapters in plain terms.
-/
import Derived.Test.YtgblabmhgdiicaaGreatAd
import Derived.ProofKit
import Derived.OpenShut
set_option linter.unusedSectionVars false
set_option linter.unusedVariables false
set_option linter.unusedSimpArgs false
section
namespace Go.AX
def ledsC (p : Pn) : Int → List Int → List (Int × Lg)
  | _, [] => []
  | a, id :: r => (a, (findP p id).getD lg0) :: ledsC p (addU a ((findP p id).getD lg0).last) r
def spN (sure : Int) (l : Lg) : Int := if l.closed == 0 then (if 8 < sure then 8 else sure) else l.last
def spL (a : Int) (l : Lg) (n : Nat) : List Sp := (List.range n).map fun (i : Nat) => ⟨addU a i, l.id, addU i 1⟩
def spotsC (p : Pn) (sure a : Int) (ids : List Int) : List Sp := (ledsC p a ids).flatMap fun x => spL x.1 x.2 (spN sure x.2).toNat
def hasC (p : Pn) (n : Int) : Bool := decide (n ≥ 1) && (decide (n ≤ (p.channels.length : Int)) && mayPn p)
def allC (p : Pn) (n sure : Int) : List Sp := if hasC p n then spotsC p sure (chP p n).first (chP p n).ledgers else []
def lengthC (p : Pn) (n sure : Int) : Int := if hasC p n then addU (chP p n).first (IntKind.u64.wrap (allC p n sure).length) else 0
def sp0 : Sp := ⟨0, 0, 0⟩
def oneC (p : Pn) (n sure : Int) (is : Sp → Bool) : Sp × Int :=
  if hasC p n then (match (allC p n sure).find? is with
    | some s => (s, 0)
    | none => (sp0, 4))
  else (sp0, 1)
def findC (p : Pn) (n sure offset : Int) : Sp × Int := oneC p n sure fun s => s.offset == offset
def offC (p : Pn) (n sure ledger k : Int) : Int × Int :=
  ((oneC p n sure fun s => s.ledger == ledger && s.n == k).1.offset, (oneC p n sure fun s => s.ledger == ledger && s.n == k).2)
def spotsL (sure : Int) : Int → List Lg → List Sp
  | _, [] => []
  | a, l :: r => spL a l (spN sure l).toNat ++ spotsL sure (addU a l.last) r
theorem spotsC_eq (p : Pn) (sure : Int) : ∀ (ids : List Int) (a : Int), spotsC p sure a ids = spotsL sure a (ids.map fun id => (findP p id).getD lg0)
  | [], a => rfl
  | id :: r, a => by
    rw [List.map_cons, spotsL, ← spotsC_eq p sure r]
    simp only [spotsC, ledsC, List.flatMap_cons]
structure LdOk (l : Lg) : Prop where
  last : 0 ≤ l.last ∧ l.last ≤ 8
  open0 : l.closed = 0 → l.last = 0
inductive Row : List Lg → Prop where
  | nil : Row []
  | one (l : Lg) : LdOk l → Row [l]
  | cons (l m : Lg) (r : List Lg) : LdOk l → l.closed ≠ 0 → (∀ x ∈ m :: r, l.id ≠ x.id) → Row (m :: r) → Row (l :: m :: r)
theorem addU_id {a b : Int} (h : 0 ≤ a + b ∧ a + b ≤ 18446744073709551615) : addU a b = a + b := wrapU h.1 h.2
theorem spN_le {sure : Int} (hs : 0 ≤ sure) {l : Lg} (h : LdOk l) : 0 ≤ spN sure l ∧ spN sure l ≤ 8 := by
  unfold spN
  have := h.last
  by_cases hc : l.closed == 0
  · rw [if_pos hc]
    split <;> omega
  · rw [if_neg hc]; exact h.last
theorem spL_len (a : Int) (l : Lg) (n : Nat) : (spL a l n).length = n := by simp [spL]
theorem spL_get (a : Int) (l : Lg) (n i : Nat) (h : i < (spL a l n).length) : (spL a l n)[i] = ⟨addU a i, l.id, addU i 1⟩ := by simp [spL]
theorem spotsL_one (sure a : Int) (l : Lg) : spotsL sure a [l] = spL a l (spN sure l).toNat := by simp [spotsL]
theorem spN_closed {sure : Int} {l : Lg} (h : l.closed ≠ 0) : spN sure l = l.last := by
  unfold spN
  rw [if_neg (by simpa using h)]
theorem spots_len {sure : Int} (hs : 0 ≤ sure) : ∀ {L : List Lg}, Row L → ∀ (a : Int), (spotsL sure a L).length ≤ 8 * L.length
  | _, .nil, a => by simp [spotsL]
  | _, .one l h, a => by
    have := spN_le hs h
    rw [spotsL_one, spL_len]
    simp only [List.length_singleton]; omega
  | _, .cons l m r h hc hd ht, a => by
    have := spN_le hs h
    have := spots_len hs ht (addU a l.last)
    rw [spotsL, List.length_append, spL_len]
    simp only [List.length_cons] at *
    omega
theorem spots_off {sure : Int} (hs : 0 ≤ sure) : ∀ {L : List Lg}, Row L → ∀ (a : Int), 0 ≤ a → a + 8 * L.length ≤ 18446744073709551615 → ∀ (i : Nat) (hi : i < (spotsL sure a L).length), (spotsL sure a L)[i].offset = a + i
  | _, .nil, a, h0, h1, i, hi => by simp [spotsL] at hi
  | _, .one l h, a, h0, h1, i, hi => by
    have := spN_le hs h
    simp only [spotsL_one] at hi ⊢
    have hi2 := hi
    rw [spL_len] at hi2
    rw [spL_get]
    show addU a i = a + i
    exact addU_id (by simp only [List.length_singleton] at h1; omega)
  | _, .cons l m r h hc hd ht, a, h0, h1, i, hi => by
    have hl := h.last
    have hn := spN_closed (sure := sure) hc
    simp only [List.length_cons] at h1
    have ha : addU a l.last = a + l.last := addU_id (by omega)
    have ih := spots_off hs ht (a + l.last) (by omega) (by simp only [List.length_cons]; omega)
    have hsp : spotsL sure a (l :: m :: r) = spL a l l.last.toNat ++ spotsL sure (a + l.last) (m :: r) := by
      show spL a l (spN sure l).toNat ++ spotsL sure (addU a l.last) (m :: r) = _
      rw [hn, ha]
    obtain ⟨T, hT⟩ : ∃ T, spotsL sure (a + l.last) (m :: r) = T := ⟨_, rfl⟩
    simp only [hT] at ih hsp
    simp only [hsp] at hi ⊢
    rw [List.length_append, spL_len] at hi
    simp only [List.getElem_append, spL_len]
    by_cases h1 : i < l.last.toNat
    · rw [dif_pos h1, spL_get]
      exact addU_id (by omega)
    · rw [dif_neg h1, ih (i - l.last.toNat) (by omega)]
      omega
theorem spots_led {sure : Int} : ∀ {L : List Lg} {a : Int} {s : Sp}, s ∈ spotsL sure a L → ∃ l ∈ L, s.ledger = l.id
  | [], a, s, h => by simp [spotsL] at h
  | l :: r, a, s, h => by
    rw [spotsL] at h
    rcases List.mem_append.1 h with h | h
    · simp only [spL, List.mem_map] at h
      obtain ⟨i, _, rfl⟩ := h
      exact ⟨l, List.mem_cons_self .., rfl⟩
    · obtain ⟨m, hm, e⟩ := spots_led h
      exact ⟨m, List.mem_cons_of_mem _ hm, e⟩
theorem spL_nodup (a : Int) (l : Lg) (n : Nat) (h : n ≤ 1000) : ((spL a l n).map fun s => (s.ledger, s.n)).Nodup := by
  rw [spL, List.map_map, List.nodup_iff_pairwise_ne, List.pairwise_map]
  refine List.Pairwise.imp_of_mem ?_ List.nodup_range
  intro i j hi hj hne he
  simp only [Function.comp, Prod.mk.injEq, true_and] at he
  rw [List.mem_range] at hi hj
  rw [addU_id (by omega), addU_id (by omega)] at he
  exact hne (by omega)
theorem spots_nodup {sure : Int} (hs : 0 ≤ sure) : ∀ {L : List Lg}, Row L → ∀ (a : Int), ((spotsL sure a L).map fun s => (s.ledger, s.n)).Nodup
  | _, .nil, a => by simp [spotsL]
  | _, .one l h, a => by
    rw [spotsL_one]
    have := spN_le hs h
    exact spL_nodup _ _ _ (by omega)
  | _, .cons l m r h hc hd ht, a => by
    rw [spotsL, List.map_append, List.nodup_append]
    have := spN_le hs h
    refine ⟨spL_nodup _ _ _ (by omega), spots_nodup hs ht _, ?_⟩
    intro x hx y hy e
    obtain ⟨s, hs1, rfl⟩ := List.mem_map.1 hx
    obtain ⟨t, ht1, rfl⟩ := List.mem_map.1 hy
    obtain ⟨k, hk, ek⟩ := spots_led ht1
    simp only [spL, List.mem_map] at hs1
    obtain ⟨i, _, rfl⟩ := hs1
    simp only [Prod.mk.injEq] at e
    exact hd k hk (e.1.trans ek)
theorem spL_prefix (a : Int) (l : Lg) {n m : Nat} (h : n ≤ m) : spL a l n <+: spL a l m := by
  refine ⟨(List.range' n (m - n)).map fun (i : Nat) => ⟨addU a i, l.id, addU i 1⟩, ?_⟩
  rw [spL, spL, ← List.map_append]
  congr 1
  rw [List.range_eq_range', List.range_eq_range']
  have := List.range'_append (s := 0) (m := n) (n := m - n) (step := 1)
  simp only [Nat.mul_one, Nat.zero_add, Nat.one_mul] at this
  rw [this]
  congr 1
  omega
theorem spots_prefix {s t : Int} (h : s ≤ t) (h0 : 0 ≤ s) : ∀ {L : List Lg}, Row L → ∀ (a : Int), spotsL s a L <+: spotsL t a L
  | _, .nil, a => List.prefix_rfl
  | _, .one l hl, a => by
    rw [spotsL_one, spotsL_one]
    refine spL_prefix a l ?_
    have : spN s l ≤ spN t l := by
      unfold spN
      by_cases hc : l.closed == 0
      · rw [if_pos hc, if_pos hc]
        split <;> split <;> omega
      · rw [if_neg hc, if_neg hc]; exact Int.le_refl _
    omega
  | _, .cons l m r hl hc hd ht, a => by
    show spL a l (spN s l).toNat ++ spotsL s (addU a l.last) (m :: r) <+: spL a l (spN t l).toNat ++ spotsL t (addU a l.last) (m :: r)
    rw [spN_closed hc, spN_closed hc]
    exact (List.prefix_append_right_inj _).2 (spots_prefix h h0 ht _)
theorem spots_first {sure : Int} (hs : 0 ≤ sure) : ∀ {L : List Lg}, Row L → ∀ (a : Int) (h : 0 < (spotsL sure a L).length), (spotsL sure a L)[0].n = 1
  | _, .nil, a, h => by simp [spotsL] at h
  | _, .one l hl, a, h => by
    simp only [spotsL_one] at h ⊢
    rw [spL_get]
    rfl
  | _, .cons l m r hl hc hd ht, a, h => by
    simp only [spotsL] at h ⊢
    rw [List.getElem_append]
    split
    · rw [spL_get]; rfl
    · rename_i hge
      have := spots_first hs ht (addU a l.last) (by rw [List.length_append] at h; simp only [spotsL]; omega)
      simp only [spotsL] at this
      simp only [Nat.zero_sub]
      exact this
theorem spots_next {sure : Int} (hs : 0 ≤ sure) : ∀ {L : List Lg}, Row L → ∀ (a : Int) (i : Nat) (hi : i + 1 < (spotsL sure a L).length),
    ((spotsL sure a L)[i].ledger = (spotsL sure a L)[i + 1].ledger → (spotsL sure a L)[i + 1].n = (spotsL sure a L)[i].n + 1) ∧ ((spotsL sure a L)[i].ledger ≠ (spotsL sure a L)[i + 1].ledger → (spotsL sure a L)[i + 1].n = 1)
  | _, .nil, a, i, hi => by simp [spotsL] at hi
  | _, .one l hl, a, i, hi => by
    have := spN_le hs hl
    simp only [spotsL_one] at hi ⊢
    have hi2 := hi
    rw [spL_len] at hi2
    rw [spL_get, spL_get]
    refine ⟨fun _ => ?_, fun h => absurd rfl h⟩
    show addU ((i + 1 : Nat) : Int) 1 = addU (i : Int) 1 + 1
    rw [addU_id (by omega), addU_id (by omega)]
    omega
  | _, .cons l m r hl hc hd ht, a, i, hi => by
    have := spN_le hs hl
    have ih := spots_next hs ht (addU a l.last)
    have hf := spots_first hs ht (addU a l.last)
    have hled : ∀ s ∈ spotsL sure (addU a l.last) (m :: r), l.id ≠ s.ledger := fun s hm => by
      obtain ⟨k, hk, e⟩ := spots_led hm
      rw [e]; exact hd k hk
    have hsp : spotsL sure a (l :: m :: r) = spL a l (spN sure l).toNat ++ spotsL sure (addU a l.last) (m :: r) := rfl
    obtain ⟨T, hT⟩ : ∃ T, spotsL sure (addU a l.last) (m :: r) = T := ⟨_, rfl⟩
    simp only [hT] at ih hf hled hsp
    simp only [hsp] at hi ⊢
    rw [List.length_append, spL_len] at hi
    simp only [List.getElem_append, spL_len]
    by_cases h1 : i + 1 < (spN sure l).toNat
    · rw [dif_pos h1, dif_pos (by omega), spL_get, spL_get]
      refine ⟨fun _ => ?_, fun h => absurd rfl h⟩
      show addU ((i + 1 : Nat) : Int) 1 = addU (i : Int) 1 + 1
      rw [addU_id (by omega), addU_id (by omega)]
      omega
    · rw [dif_neg h1]
      by_cases h2 : i < (spN sure l).toNat
      · rw [dif_pos h2, spL_get]
        have e0 : i + 1 - (spN sure l).toNat = 0 := by omega
        simp only [e0]
        refine ⟨fun h => absurd h (hled _ (List.getElem_mem _)), fun _ => hf (by omega)⟩
      · rw [dif_neg h2]
        have e1 : i + 1 - (spN sure l).toNat = i - (spN sure l).toNat + 1 := by omega
        simp only [e1]
        exact ih (i - (spN sure l).toNat) (by omega)
end Go.AX
end
section
namespace Go.AX
def lgsR (p : Pn) : Prop := ∀ l ∈ p.ledgers, u64R l.last
theorem findP_mem {p : Pn} {id : Int} {l : Lg} (h : findP p id = some l) : l ∈ p.ledgers ∧ l.id = id := by
  unfold findP at h
  exact ⟨List.mem_of_find?_eq_some h, by simpa using List.find?_some h⟩
theorem mayLg_last {l : Lg} (h : mayLg l = true) (h0 : 0 ≤ l.last) : LdOk l := by
  simp only [mayLg, Bool.and_eq_true, fromZ, decide_eq_true_eq] at h
  obtain ⟨⟨a1, a2⟩, ⟨a3, a4⟩, a5, a6, ⟨a7, a8⟩, a9⟩ := h
  exact ⟨by omega, fun e => by omega⟩
theorem row_of {p : Pn} (hp : ∀ l ∈ p.ledgers, mayLg l = true) (hr : lgsR p) : ∀ {ids : List Int}, ledsOk p ids = true → ids.Pairwise (· < ·) → Row (ids.map fun id => (findP p id).getD lg0)
  | [], _, _ => .nil
  | id :: r, h, hw => by
    simp only [ledsOk, Bool.and_eq_true] at h
    obtain ⟨h1, h2⟩ := h
    rw [List.pairwise_cons] at hw
    have ih := row_of hp hr h2 hw.2
    cases hf : findP p id with
    | none => rw [hf] at h1; cases h1
    | some l =>
      rw [hf] at h1
      obtain ⟨hm, hid⟩ := findP_mem hf
      have hl := mayLg_last (hp l hm) (hr l hm).1
      cases r with
      | nil =>
        rw [List.map_cons, List.map_nil, hf]
        exact .one l hl
      | cons id2 r2 =>
        rw [List.map_cons, hf]
        have hc : l.closed ≠ 0 := by
          intro e
          simp [e] at h1
        refine .cons l _ _ hl hc ?_ ih
        intro x hx e
        rw [← List.map_cons (f := fun id => (findP p id).getD lg0)] at hx
        obtain ⟨j, hj, rfl⟩ := List.mem_map.1 hx
        have hlt := hw.1 j hj
        have : (findP p j).isSome = true := by
          have hall : ∀ (q : List Int), ledsOk p q = true → ∀ j ∈ q, (findP p j).isSome = true := by
            intro q
            induction q with
            | nil => intro _ j hj; cases hj
            | cons k q ih2 =>
              intro hq j hj
              simp only [ledsOk, Bool.and_eq_true] at hq
              rcases List.mem_cons.1 hj with rfl | hj
              · cases hk : findP p j with
                | none => rw [hk] at hq; cases hq.1
                | some _ => rfl
              · exact ih2 hq.2 j hj
          exact hall _ h2 j hj
        obtain ⟨m, hm2⟩ := Option.isSome_iff_exists.1 this
        rw [hm2] at e
        have := (findP_mem hm2).2
        simp only [Option.getD_some] at e
        omega
structure ChOk (p : Pn) (c : Ch) : Prop where
  row : Row (c.ledgers.map fun id => (findP p id).getD lg0)
  len : c.ledgers.length ≤ 8
  first : c.first ≤ 4611686018427387903
theorem ch_of {p : Pn} (h : mayPn p = true) (hr : lgsR p) {c : Ch} (hc : c ∈ p.channels) : ChOk p c := by
  simp only [mayPn, Bool.and_eq_true, List.all_eq_true] at h
  obtain ⟨h1, h2, h3, h4, h5, h6, h7, h8, h9⟩ := h
  have hk := h7 c hc
  simp only [chanOk, Bool.and_eq_true, decide_eq_true_eq, cnt, Bool.not_eq_true', decide_eq_false_iff_not, riseZ] at hk
  obtain ⟨⟨k1, k2, k3⟩, k4, k5, k6, k7, k8, k9, k10⟩ := hk
  exact ⟨row_of (fun l hl => (h4 l hl).1) hr k9 k6, by omega, by omega⟩
theorem chP_mem {p : Pn} {n : Int} (h : hasC p n = true) : chP p n ∈ p.channels := by
  simp only [hasC, Bool.and_eq_true, decide_eq_true_eq] at h
  unfold chP
  rw [getElem!_pos p.channels _ (by omega)]
  exact List.getElem_mem _
section
variable {p : Pn} {n sure : Int} (hh : hasC p n = true) (hr : lgsR p) (h0 : 0 ≤ (chP p n).first) (hs : 0 ≤ sure)
include hh hr
theorem hasC_may : mayPn p = true := by
  simp only [hasC, Bool.and_eq_true] at hh
  exact hh.2.2
theorem allC_eq : allC p n sure = spotsL sure (chP p n).first ((chP p n).ledgers.map fun id => (findP p id).getD lg0) := by
  unfold allC
  rw [if_pos hh, spotsC_eq]
include h0 hs
theorem allC_len : (allC p n sure).length ≤ 64 := by
  have hk := ch_of (hasC_may hh hr) hr (chP_mem hh)
  rw [allC_eq hh hr]
  have h1 := spots_len hs hk.row (chP p n).first
  have := hk.len
  rw [List.length_map] at h1
  omega
theorem allC_off (i : Nat) (hi : i < (allC p n sure).length) : (allC p n sure)[i].offset = (chP p n).first + i := by
  have hk := ch_of (hasC_may hh hr) hr (chP_mem hh)
  have e := allC_eq (sure := sure) hh hr
  simp only [e] at hi ⊢
  exact spots_off hs hk.row _ h0 (by have := hk.first; have := hk.len; rw [List.length_map]; omega) i hi
theorem find_off (i : Nat) (hi : i < (allC p n sure).length) : findC p n sure ((chP p n).first + i) = ((allC p n sure)[i], 0) := by
  unfold findC oneC
  rw [if_pos hh]
  have : (allC p n sure).find? (fun s => s.offset == (chP p n).first + i) = some (allC p n sure)[i] := by
    rw [List.find?_eq_some_iff_getElem]
    refine ⟨by rw [allC_off hh hr h0 hs i hi]; simp, i, hi, rfl, fun j hj => ?_⟩
    rw [allC_off hh hr h0 hs j (by omega)]
    simp
    omega
  rw [this]
theorem off_find (i : Nat) (hi : i < (allC p n sure).length) : offC p n sure (allC p n sure)[i].ledger (allC p n sure)[i].n = ((chP p n).first + i, 0) := by
  unfold offC oneC
  rw [if_pos hh]
  have hk := ch_of (hasC_may hh hr) hr (chP_mem hh)
  have hnd := spots_nodup hs hk.row (chP p n).first
  rw [← allC_eq (sure := sure) hh hr] at hnd
  have : (allC p n sure).find? (fun s => s.ledger == (allC p n sure)[i].ledger && s.n == (allC p n sure)[i].n) = some (allC p n sure)[i] := by
    rw [List.find?_eq_some_iff_getElem]
    refine ⟨by simp, i, hi, rfl, fun j hj => ?_⟩
    simp only [Bool.not_eq_true', Bool.and_eq_false_iff]
    by_cases e1 : (allC p n sure)[j].ledger = (allC p n sure)[i].ledger
    · right
      have hne := (List.pairwise_iff_getElem.1 (List.nodup_iff_pairwise_ne.1 hnd)) j i (by rw [List.length_map]; omega) (by rw [List.length_map]; omega) hj
      simp only [List.getElem_map, ne_eq, Prod.mk.injEq, not_and] at hne
      simpa using hne e1
    · left
      simpa using e1
  rw [this]
  simp only [allC_off hh hr h0 hs i hi]
end
theorem findC_not {p : Pn} {n sure o : Int} (h : hasC p n = false) : (findC p n sure o).2 = 1 ∧ allC p n sure = [] ∧ lengthC p n sure = 0 := by
  refine ⟨?_, ?_, ?_⟩
  · unfold findC oneC
    rw [if_neg (by rw [h]; decide)]
  · unfold allC
    rw [if_neg (by rw [h]; decide)]
  · unfold lengthC
    rw [if_neg (by rw [h]; decide)]
end Go.AX
end
section
namespace Go.AX
structure LgB (l : Lg) : Prop where
  frags : l.frags.length ≤ 1000000
  bookies : ∀ f ∈ l.frags, f.bookies.length ≤ 1000000
theorem LgB.ok {l : Lg} (h : LgB l) : l.ok := fun x hx => by have := h.bookies x hx; omega
structure ChB (c : Ch) : Prop where
  ledgers : c.ledgers.length ≤ 1000000
  seen : c.seen.length ≤ 1000000
  cursors : c.cursors.length ≤ 1000000
structure PnB (p : Pn) : Prop where
  channels : p.channels.length ≤ 1000000
  ledgers : p.ledgers.length ≤ 1000000
  past : p.past.length ≤ 1000000
  ch : ∀ c ∈ p.channels, ChB c
  lg : ∀ l ∈ p.ledgers, LgB l
  named : (namedP p).length ≤ 1000000
def findL (p : Pn) (id : Int) : Lg := (findP p id).getD lg0
theorem ixP_find {α : Type} (q : α → Bool) (l : List α) : (ixP q l = -1 ∧ l.find? q = none) ∨ ∃ k, ∃ hk : k < l.length, ixP q l = (k : Nat) ∧ l.find? q = some l[k] := by
  rcases ixP_spec q l with ⟨h1, h2⟩ | ⟨k, hk, h1, h2, h3⟩
  · exact .inl ⟨h1, by rw [List.find?_eq_none]; intro x hx; rw [h2 x hx]; decide⟩
  · refine .inr ⟨k, hk, h1, ?_⟩
    rw [List.find?_eq_some_iff_getElem]
    exact ⟨h2, k, hk, rfl, fun j hj => by rw [h3 j (by omega) hj]; rfl⟩
theorem findP_ix (p : Pn) (id : Int) : (ixP (fun l => l.id == id) p.ledgers = -1 ∧ findP p id = none) ∨ ∃ k, ∃ hk : k < p.ledgers.length, ixP (fun l => l.id == id) p.ledgers = (k : Nat) ∧ findP p id = some p.ledgers[k] := ixP_find _ _
theorem leGt (a b : Int) : decide (a ≤ b) = !decide (a > b) := by
  rw [Bool.eq_iff_iff]; simp
theorem hasP_ix {p : Pn} {n : Int} (h : hasP p n = true) : ∃ i : Nat, ∃ hi : i < p.channels.length, n = ((i + 1 : Nat) : Int) ∧ chP p n = p.channels[i] := by
  simp only [hasP, Bool.and_eq_true, decide_eq_true_eq] at h
  refine ⟨(n - 1).toNat, by omega, by omega, ?_⟩
  unfold chP
  rw [getElem!_pos p.channels _ (by omega)]
theorem chP_ix {p : Pn} {k : Nat} (hk : k < p.channels.length) : hasP p ((k + 1 : Nat) : Int) = true ∧ chP p ((k + 1 : Nat) : Int) = p.channels[k] := by
  refine ⟨?_, ?_⟩
  · simp only [hasP, Bool.and_eq_true, decide_eq_true_eq]; omega
  · unfold chP
    rw [show (((k + 1 : Nat) : Int) - 1).toNat = k from by omega, getElem!_pos p.channels k hk]
theorem flat_take {α β : Type} (f : α → List β) (l : List α) (k : Nat) (h : k < l.length) : (l.take (k + 1)).flatMap f = (l.take k).flatMap f ++ f l[k] := by
  rw [List.take_succ_eq_append_getElem h, List.flatMap_append]
  simp
theorem flat_take_le {α β : Type} (f : α → List β) (l : List α) (k : Nat) (h : k < l.length) : ((l.take k).flatMap f).length + (f l[k]).length ≤ (l.flatMap f).length := by
  have : (l.take (k + 1)).flatMap f <+: l.flatMap f := by
    conv => rhs; rw [← List.take_append_drop (k + 1) l, List.flatMap_append]
    exact List.prefix_append _ _
  have := this.length_le
  rw [flat_take f l k h, List.length_append] at this
  exact this
theorem riseZ_map {α : Type} (f : α → Int) (l : List α) : riseZ (l.map f) = decide (l.Pairwise fun a b => f a < f b) := by
  unfold riseZ
  exact decide_eq_decide.2 List.pairwise_map
theorem getLast?_get {α : Type} (l : List α) (h : 0 < l.length) : l.getLast? = some l[l.length - 1] := by
  rw [List.getLast?_eq_getElem?, List.getElem?_eq_getElem (by omega)]
theorem ledsOk_iff (p : Pn) : ∀ (r : List Int), ledsOk p r = true ↔ ∀ i (hi : i < r.length), (findP p r[i]).isSome = true ∧ ((findL p r[i]).closed = 0 → i + 1 = r.length)
  | [] => by simp [ledsOk]
  | id :: r => by
    have ih := ledsOk_iff p r
    simp only [ledsOk, Bool.and_eq_true, ih]
    constructor
    · rintro ⟨h1, h2⟩ i hi
      cases i with
      | zero =>
        simp only [List.getElem_cons_zero, List.length_cons]
        cases hf : findP p id with
        | none => rw [hf] at h1; cases h1
        | some l =>
          rw [hf] at h1
          refine ⟨rfl, fun h0 => ?_⟩
          simp only [findL, hf, Option.getD_some] at h0
          simp [h0] at h1
          simp [h1]
      | succ i =>
        simp only [List.getElem_cons_succ, List.length_cons]
        have := h2 i (by simpa using hi)
        exact ⟨this.1, fun h => by have := this.2 h; omega⟩
    · intro h
      refine ⟨?_, fun i hi => ?_⟩
      · have h0 := h 0 (by simp)
        simp only [List.getElem_cons_zero, List.length_cons] at h0
        cases hf : findP p id with
        | none => rw [hf] at h0; cases h0.1
        | some l =>
          simp only [findL, hf, Option.getD_some] at h0
          simp only [Bool.not_eq_true', Bool.and_eq_false_iff, beq_eq_false_iff_ne, ne_eq, Bool.not_eq_false', List.isEmpty_iff]
          by_cases hc : l.closed = 0
          · right
            have := h0.2 hc
            exact List.eq_nil_of_length_eq_zero (by omega)
          · exact .inl hc
      · have := h (i + 1) (by simpa using hi)
        simp only [List.getElem_cons_succ, List.length_cons] at this
        exact ⟨this.1, fun h => by have := this.2 h; omega⟩
end Go.AX
end
section
namespace Go.AX
open Go.Sort
structure Rnd (D : Array Int) (a b lim : Nat) (wb wp : Bool) (d1 : Array Int) (lim' p : Nat) (hh : Hint) (d2 : Array Int) (pv : Nat) (hint : Hint) (E : Array Int) (fin : Bool) : Prop where
  bt : wb = true → d1 = D ∧ lim' = lim
  bf : wb = false → d1 = breakPatterns D a b ∧ lim' = lim - 1
  c : choosePivot ltInt d1 a b = (p, hh)
  hd : hh = .decreasing → d2 = reverseRange d1 a b ∧ pv = (b - 1) - (p - a) ∧ hint = .increasing
  hn : hh ≠ .decreasing → d2 = d1 ∧ pv = p ∧ hint = hh
  py : wb = true → wp = true → hint = .increasing → partialInsertionSort ltInt d2 a b = (E, fin)
  pn : ¬ (wb = true ∧ wp = true ∧ hint = .increasing) → E = d2 ∧ fin = false
  s1 : d1.size = D.size
  s2 : d2.size = D.size
  s3 : E.size = D.size
  pa : a ≤ p
  pb : p < b
  va : a ≤ pv
  vb : pv < b
  le : lim' ≤ lim
  done : fin = true → pdq ltInt D a b lim wb wp = E
  eq : fin = false → 0 < a → ltInt E[a - 1]! E[pv]! = false → ∀ mid d4, partitionEqual ltInt E a b pv = (mid, d4) →
    a < mid ∧ mid ≤ b ∧ d4.size = D.size ∧ Below ltInt mid b d4 ∧ pdq ltInt D a b lim wb wp = pdq ltInt d4 mid b lim' wb wp
  pt : fin = false → (a = 0 ∨ ltInt E[a - 1]! E[pv]! = true) → ∀ mid ap d4, partition ltInt E a b pv = (mid, ap, d4) →
    a ≤ mid ∧ mid < b ∧ d4.size = D.size ∧ Below ltInt a mid d4 ∧ Below ltInt (mid + 1) b d4 ∧
    (mid - a < b - mid → (pdq ltInt d4 a mid lim' true true).size = D.size ∧ Below ltInt (mid + 1) b (pdq ltInt d4 a mid lim' true true) ∧
      pdq ltInt D a b lim wb wp = pdq ltInt (pdq ltInt d4 a mid lim' true true) (mid + 1) b lim' (decide (mid - a ≥ (b - a) / 8)) ap) ∧
    (¬ mid - a < b - mid → (pdq ltInt d4 (mid + 1) b lim' true true).size = D.size ∧ Below ltInt a mid (pdq ltInt d4 (mid + 1) b lim' true true) ∧
      pdq ltInt D a b lim wb wp = pdq ltInt (pdq ltInt d4 (mid + 1) b lim' true true) a mid lim' (decide (b - mid ≥ (b - a) / 8)) ap)
theorem rnd_all {D : Array Int} {a b lim : Nat} {wb wp : Bool} (h12 : ¬ b - a ≤ 12) (h0 : ¬ lim = 0) (hb : b ≤ D.size) (hB : Below ltInt a b D) :
    ∃ d1 lim' p hh d2 pv hint E fin, Rnd D a b lim wb wp d1 lim' p hh d2 pv hint E fin := by
  obtain ⟨s1, B1, ⟨hc1, hc2⟩, s2, B2, ⟨hv1, hv2⟩, s3, B3⟩ := rd_facts (limit := lim) (wb := wb) (wp := wp) swo_ltInt partialInsertionSort_holds reverseRange_holds (show a < b by omega) hb hB
  refine ⟨(rd ltInt D a b lim wb wp).d1, (rd ltInt D a b lim wb wp).lim, (rd ltInt D a b lim wb wp).c.1, (rd ltInt D a b lim wb wp).c.2, (rd ltInt D a b lim wb wp).d2, (rd ltInt D a b lim wb wp).pivot,
    (rd ltInt D a b lim wb wp).hint, (rd ltInt D a b lim wb wp).pi.1, (rd ltInt D a b lim wb wp).pi.2, ?_⟩
  refine { bt := ?_, bf := ?_, c := rfl, hd := rd_dec, hn := rd_not, py := ?_, pn := ?_, s1 := s1, s2 := s2, s3 := s3, pa := hc1, pb := hc2, va := hv1, vb := hv2, le := rd_lim_le, done := fun h => pdq_done h12 h0 h, eq := ?_, pt := ?_ }
  · rintro rfl; exact rd_true
  · rintro rfl; exact rd_false
  · intro h1 h2 h3
    subst h1 h2
    rw [rd_pi_yes (by simp [h3])]
  · intro h
    rw [rd_pi_no (by cases hx : wb <;> cases hy : wp <;> simp_all)]
    exact ⟨rfl, rfl⟩
  · intro hf ha hl mid d4 e
    obtain ⟨h1, h2, h3, h4, _⟩ := round_eq swo_ltInt (partitionEqual_holds ltInt) ha hv1 hv2 (by rw [s3]; exact hb) B3 hl e
    have h5 := pdq_eq (lt := ltInt) (d := D) (a := a) (b := b) (limit := lim) (wb := wb) (wp := wp) h12 h0 hf (by simp [ha, hl]) (by rw [e]; exact ⟨h1, h2⟩)
    rw [e] at h5
    exact ⟨h1, h2, h3.trans s3, h4, h5⟩
  · intro hf hl mid ap d4 e
    obtain ⟨h1, h2, h3, h4, h5, h6, h7⟩ := round_part swo_ltInt (partition_holds ltInt) hv1 hv2 (by rw [s3]; exact hb) B3 e
    have hl' : (decide (a > 0) && !ltInt (rd ltInt D a b lim wb wp).pi.1[a - 1]! (rd ltInt D a b lim wb wp).pi.1[(rd ltInt D a b lim wb wp).pivot]!) = false := by
      rcases hl with h | h <;> simp [h]
    refine ⟨h1, h2, h3.trans s3, h4, h5, fun hlt => ?_, fun hlt => ?_⟩
    · have hp := pdq_sorts ltInt swo_ltInt d4 a mid (rd ltInt D a b lim wb wp).lim true true h1 (by omega) h4
      have h8 := pdq_left (lt := ltInt) (d := D) (a := a) (b := b) (limit := lim) (wb := wb) (wp := wp) h12 h0 hf hl' (by rw [e]; exact ⟨h1, h2⟩) (by rw [e]; exact hlt)
      rw [e] at h8
      exact ⟨hp.1.1.trans (h3.trans s3), (h6 _ hp.1 hp.2).1, h8⟩
    · have hp := pdq_sorts ltInt swo_ltInt d4 (mid + 1) b (rd ltInt D a b lim wb wp).lim true true (by omega) (by omega) h5
      have h8 := pdq_right (lt := ltInt) (d := D) (a := a) (b := b) (limit := lim) (wb := wb) (wp := wp) h12 h0 hf hl' (by rw [e]; exact ⟨h1, h2⟩) (by rw [e]; exact hlt)
      rw [e] at h8
      exact ⟨hp.1.1.trans (h3.trans s3), (h7 _ hp.1 hp.2).1, h8⟩
theorem sortInt_eq (l : List Int) : (pdq ltInt l.toArray 0 l.toArray.size (bitsLen l.toArray.size) true true).toList = l.mergeSort (fun x y => decide (x ≤ y)) := sortInt l
theorem hintN_dec (h : Hint) : h = .decreasing ∨ h ≠ .decreasing := by cases h <;> simp
end Go.AX
end
section
namespace Go.AX
end Go.AX
end
section
namespace Go.AX
structure Und (n : Int) (S : List Pl) (a0 : Nat) (has : Pl) (f : Ft) (now : Int) (J : Nat) (pend : Bool) : Prop where
  good : GoodF n f
  done : f.done = 0
  set : f.set = S
  at_ : f.at_ = (((a0 + J) % S.length : Nat) : Int)
  since : f.since ≤ now
  seen : ∀ i, 1 ≤ i → i ≤ J → (i < J ∨ pend = false) → S[(a0 + i) % S.length]! ≠ has
theorem Und.passed {n : Int} {S : List Pl} {a0 : Nat} {has : Pl} {f : Ft} {now : Int} {J : Nat} (u : Und n S a0 has f now J true) (hne : (reqOf f).to ≠ has) : Und n S a0 has f now J false := by
  refine ⟨u.good, u.done, u.set, u.at_, u.since, fun i h1 h2 h3 => ?_⟩
  by_cases c : i < J
  · exact u.seen i h1 h2 (.inl c)
  · have e : i = J := by omega
    subst e
    intro hx
    apply hne
    simp only [reqOf, u.set, u.at_, Int.toNat_natCast]
    exact hx
end Go.AX
end
section
namespace Go.AX
structure Cp where
  l : Lg
  from_ : Pl
  to : Pl
  phase : Int
  n : Int
  none : List Pl
  body : List UInt8
  born : Int
  since : Int
deriving DecidableEq
def Cp.c (x : Cp) : List PV := [uu x.l.id, ii x.l.w, ii x.l.a, slF x.l.frags, ii x.l.closed, uu x.l.last, ii x.from_.node, uu x.from_.serial, ii x.to.node, uu x.to.serial, ii x.phase, uu x.n, slP x.none, bys x.body, uu x.born, uu x.since]
def Cp.v (x : Cp) (no : AV) : List AV := [.pv (uu x.l.id), .pv (ii x.l.w), .pv (ii x.l.a), .pv (slF x.l.frags), .pv (ii x.l.closed), .pv (uu x.l.last), .pv (ii x.from_.node), .pv (uu x.from_.serial), .pv (ii x.to.node), .pv (uu x.to.serial), .pv (ii x.phase), .pv (uu x.n), no, .pv (bys x.body), .pv (uu x.born), .pv (uu x.since)]
structure Cp.sm (c : Cp) : Prop where
  h1 : c.none.length ≤ 8796093022208
  h2 : c.body.length ≤ 140737488355328
  h3 : c.l.frags.length ≤ 4398046511104
  h4 : c.l.ok
def Cp.z : List AV := [.pv (uu 0), .pv (ii 0), .pv (ii 0), .pv nilS, .pv (ii 0), .pv (uu 0), .pv (ii 0), .pv (uu 0), .pv (ii 0), .pv (uu 0), .pv (ii 0), .pv (uu 0), .pv nilS, .pv nilS, .pv (uu 0), .pv (uu 0)]
theorem ent_frz {s s' : AS} (ids : List Nat) (h : match frz s.hp ids with | some fs => entC (s.app fs) s' | none => False) (c : Ctx) (R : Real) (a : Act) (w : World) (g : Gam c R s a w) : ∃ R', Gam c R' s' a w := by
  split at h
  · rename_i fs hfs
    obtain ⟨g1, _⟩ := frz_sound g (fun _ _ h => h) _ _ hfs
    exact ent_of h c R a w g1
  · exact h.elim
end Go.AX
end
section
namespace Go.AX
theorem row_all {L : List Lg} (hL : Row L) : ∀ l ∈ L, LdOk l := by
  induction hL with
  | nil => intro l hl; cases hl
  | one l h => intro m hm; rw [List.mem_singleton] at hm; subst hm; exact h
  | cons l m r h _ _ _ ih =>
    intro q hq
    rcases List.mem_cons.1 hq with rfl | hq
    · exact h
    · exact ih q hq
theorem oneC_some {p : Pn} {n sure : Int} {is : Sp → Bool} {s : Sp} (hh : hasC p n = true) (hf : (allC p n sure).find? is = some s) : oneC p n sure is = (s, 0) := by
  unfold oneC; rw [if_pos hh, hf]
theorem oneC_none {p : Pn} {n sure : Int} {is : Sp → Bool} (hh : hasC p n = true) (hf : (allC p n sure).find? is = none) : oneC p n sure is = (sp0, 4) := by
  unfold oneC; rw [if_pos hh, hf]
def atK (p : Pn) (a : Int) (ids : List Int) (k : Nat) : Int := (ids.take k).foldl (fun e id => addU e (findL p id).last) a
theorem atK_zero (p : Pn) (a : Int) (ids : List Int) : atK p a ids 0 = a := by simp [atK]
theorem atK_succ (p : Pn) (a : Int) (ids : List Int) (k : Nat) (h : k < ids.length) : atK p a ids (k + 1) = addU (atK p a ids k) (findL p ids[k]).last := by
  unfold atK
  rw [List.take_succ_eq_append_getElem h, List.foldl_append]
  rfl
theorem ledsC_drop (p : Pn) (a : Int) (ids : List Int) (k : Nat) (h : k < ids.length) :
    ledsC p (atK p a ids k) (ids.drop k) = (atK p a ids k, findL p ids[k]) :: ledsC p (atK p a ids (k + 1)) (ids.drop (k + 1)) := by
  rw [List.drop_eq_getElem_cons h, ledsC, atK_succ p a ids k h]
  rfl
theorem ledsC_len (p : Pn) : ∀ (ids : List Int) (a : Int), (ledsC p a ids).length = ids.length
  | [], a => rfl
  | id :: r, a => by simp only [ledsC, List.length_cons, ledsC_len p r]
theorem ledsC_get (p : Pn) : ∀ (ids : List Int) (a : Int) (k : Nat) (h : k < (ledsC p a ids).length), (ledsC p a ids)[k] = (atK p a ids k, findL p (ids[k]'(by rw [ledsC_len] at h; exact h)))
  | [], a, k, h => by simp [ledsC] at h
  | id :: r, a, 0, h => by simp [ledsC, atK, findL]
  | id :: r, a, k + 1, h => by
    simp only [ledsC, List.getElem_cons_succ]
    rw [ledsC_get p r]
    simp [atK, findL]
def spR (p : Pn) (sure a : Int) (ids : List Int) (k : Nat) : List Sp := (ledsC p (atK p a ids k) (ids.drop k)).flatMap fun x => spL x.1 x.2 (spN sure x.2).toNat
theorem spR_zero (p : Pn) (sure a : Int) (ids : List Int) : spR p sure a ids 0 = spotsC p sure a ids := by
  simp only [spR, atK_zero, List.drop_zero, spotsC]
theorem spR_step (p : Pn) (sure a : Int) (ids : List Int) (k : Nat) (h : k < ids.length) :
    spR p sure a ids k = spL (atK p a ids k) (findL p ids[k]) (spN sure (findL p ids[k])).toNat ++ spR p sure a ids (k + 1) := by
  unfold spR
  rw [ledsC_drop p a ids k h, List.flatMap_cons]
theorem spR_end (p : Pn) (sure a : Int) (ids : List Int) : spR p sure a ids ids.length = [] := by
  simp [spR, ledsC]
theorem spL_drop (a : Int) (l : Lg) (n i : Nat) (h : i < n) : (spL a l n).drop i = ⟨addU a i, l.id, addU i 1⟩ :: (spL a l n).drop (i + 1) := by
  rw [List.drop_eq_getElem_cons (by rw [spL_len]; exact h), spL_get]
theorem spL_drop_end (a : Int) (l : Lg) (n : Nat) : (spL a l n).drop n = [] := by
  rw [List.drop_eq_nil_iff, spL_len]; exact Nat.le_refl _
end Go.AX
end
section
namespace Go.AX
theorem Sp.eqOf (a b : Sp) (h : (!(a.offset == b.offset && (a.ledger == b.ledger && a.n == b.n))) = false) : a = b := by
  cases a; cases b; simp at h; simp [h]
theorem Int.eqOf (a b : Int) (h : (a != b) = false) : a = b := by simpa using h
def longC (c : Ch) : Bool := decide ((c.ledgers.length : Int) > 60) || (decide ((c.seen.length : Int) > 60) || decide ((c.cursors.length : Int) > 60))
def longP (p : Pn) : Bool := (decide ((p.channels.length : Int) > 10) || (decide ((p.ledgers.length : Int) > 60) || decide ((p.past.length : Int) > 60))) || (p.channels.any longC || p.ledgers.any (fun l => longF l.frags))
theorem longP_B {p : Pn} (h : longP p = false) : PnB p := by
  simp only [longP, Bool.or_eq_false_iff, decide_eq_false_iff_not, List.any_eq_false] at h
  obtain ⟨⟨h1, h2, h3⟩, h4, h5⟩ := h
  have hc : ∀ c ∈ p.channels, c.ledgers.length ≤ 60 ∧ c.seen.length ≤ 60 ∧ c.cursors.length ≤ 60 := by
    intro c hc
    have := h4 c hc
    simp only [longC, Bool.or_eq_true, decide_eq_true_eq, not_or] at this
    omega
  refine ⟨by omega, by omega, by omega, fun c hc' => ?_, fun l hl => ?_, ?_⟩
  · have := hc c hc'
    exact ⟨by omega, by omega, by omega⟩
  · have := h5 l hl
    simp only [longF, Bool.or_eq_true, decide_eq_true_eq, not_or, List.any_eq_true, not_exists, not_and] at this
    exact ⟨by omega, fun f hf => by have := this.2 f hf; omega⟩
  · have : ∀ (L : List Ch), (∀ c ∈ L, c.ledgers.length ≤ 60) → (L.flatMap (·.ledgers)).length ≤ 60 * L.length := by
      intro L
      induction L with
      | nil => intro _; simp
      | cons c r ih =>
        intro h
        have := ih fun x hx => h x (by simp [hx])
        have := h c (by simp)
        simp only [List.flatMap_cons, List.length_append, List.length_cons]
        omega
    have := this p.channels fun c hc' => (hc c hc').1
    unfold namedP
    omega
def goneA (p : Pn) (trim : Int) (acc : List Int) (a : Int) : List Int → List Int × Int × Int
  | [] => (acc, 0, a)
  | id :: r => if (findL p id).closed == 0 || decide (addU a (findL p id).last > trim) then (acc, (findL p id).id, a) else goneA p trim (acc ++ [(findL p id).id]) (addU a (findL p id).last) r
def goneC (p : Pn) (n : Int) : List Int × Int × Int := if hasC p n then goneA p (chP p n).trim [] (chP p n).first (chP p n).ledgers else ([], 0, 0)
def goneG (p : Pn) (ids : List Int) (k : Nat) : List Int := (ids.take k).map fun id => (findL p id).id
theorem goneG_succ (p : Pn) (ids : List Int) (k : Nat) (h : k < ids.length) : goneG p ids (k + 1) = goneG p ids k ++ [(findL p ids[k]).id] := by
  unfold goneG
  rw [List.take_succ_eq_append_getElem h, List.map_append]
  rfl
theorem goneG_len (p : Pn) (ids : List Int) (k : Nat) : (goneG p ids k).length ≤ ids.length := by
  unfold goneG
  rw [List.length_map, List.length_take]
  omega
theorem goneA_stop {p : Pn} {trim a : Int} {acc ids : List Int} {k : Nat} (h : k < ids.length) (hq : ((findL p ids[k]).closed == 0 || decide (addU a (findL p ids[k]).last > trim)) = true) :
    goneA p trim acc a (ids.drop k) = (acc, (findL p ids[k]).id, a) := by
  rw [List.drop_eq_getElem_cons h, goneA, if_pos hq]
theorem goneA_next {p : Pn} {trim a : Int} {acc ids : List Int} {k : Nat} (h : k < ids.length) (hq : ((findL p ids[k]).closed == 0 || decide (addU a (findL p ids[k]).last > trim)) = false) :
    goneA p trim acc a (ids.drop k) = goneA p trim (acc ++ [(findL p ids[k]).id]) (addU a (findL p ids[k]).last) (ids.drop (k + 1)) := by
  rw [List.drop_eq_getElem_cons h, goneA, if_neg (by rw [hq]; decide)]
def exL (id last closed : Int) : Lg := ⟨id, 1, 1, [⟨1, [⟨7, 1⟩]⟩], closed, last⟩
def exP : Pn := ⟨0, 9, [⟨1, 4, 1, 0, 10, 12, [3, 5, 7], [], []⟩], [exL 3 2 1, exL 5 0 1, exL 7 0 0], []⟩
theorem exP_B : PnB exP := longP_B (by decide)
theorem exP_r : lgsR exP := by
  intro l hl
  simp only [exP, List.mem_cons, List.not_mem_nil, or_false] at hl
  rcases hl with rfl | rfl | rfl <;> simp [exL, u64R]
theorem exP_f : ∀ c ∈ exP.channels, 0 ≤ c.first := by
  intro c hc
  simp only [exP, List.mem_cons, List.not_mem_nil, or_false] at hc
  subst hc
  decide
theorem exP_may : mayPn exP = true := by
  have h1 : sortU (namedP exP) = [3, 5, 7] := by
    show List.mergeSort [3, 5, 7] (fun x y => decide (x ≤ y)) = [3, 5, 7]
    exact List.mergeSort_of_pairwise (by simp)
  unfold mayPn
  rw [h1]
  decide
theorem exP_has : hasC exP 1 = true := by
  unfold hasC
  rw [exP_may]
  decide
theorem exP_all : allC exP 1 1 = [⟨10, 3, 1⟩, ⟨11, 3, 2⟩, ⟨12, 7, 1⟩] := by
  unfold allC
  rw [if_pos exP_has]
  decide
theorem exP_find11 : findC exP 1 1 11 = (⟨11, 3, 2⟩, 0) := oneC_some exP_has (by rw [exP_all]; decide)
theorem exP_find12 : findC exP 1 1 12 = (⟨12, 7, 1⟩, 0) := oneC_some exP_has (by rw [exP_all]; decide)
theorem exP_find13 : findC exP 1 1 13 = (sp0, 4) := oneC_none exP_has (by rw [exP_all]; decide)
theorem exP_off : offC exP 1 1 7 1 = (12, 0) := by
  have := oneC_some (n := 1) (sure := 1) (is := fun s => s.ledger == 7 && s.n == 1) (s := ⟨12, 7, 1⟩) exP_has (by rw [exP_all]; decide)
  unfold offC
  rw [this]
theorem exP_len : lengthC exP 1 1 = 13 := by
  unfold lengthC
  rw [if_pos exP_has, exP_all]
  decide
theorem exP_gone : goneC exP 1 = ([3, 5], 7, 12) := by
  unfold goneC
  rw [if_pos exP_has]
  decide
end Go.AX
end
section
namespace Go.AX
theorem spL_n {a : Int} {l : Lg} {n : Nat} (hn : n ≤ 8) : ∀ s ∈ spL a l n, 1 ≤ s.n ∧ s.n ≤ 8 := by
  intro s hs
  simp only [spL, List.mem_map, List.mem_range] at hs
  obtain ⟨i, hi, rfl⟩ := hs
  show 1 ≤ addU i 1 ∧ addU i 1 ≤ 8
  rw [addU_id (by omega)]
  omega
theorem spots_n {sure : Int} (hs : 0 ≤ sure) : ∀ {L : List Lg}, Row L → ∀ (a : Int), ∀ s ∈ spotsL sure a L, 1 ≤ s.n ∧ s.n ≤ 8
  | _, .nil, a, s, h => by simp [spotsL] at h
  | _, .one l hl, a, s, h => by
    rw [spotsL_one] at h
    have := spN_le hs hl
    exact spL_n (by omega) s h
  | _, .cons l m r hl hc hd ht, a, s, h => by
    rw [spotsL] at h
    have := spN_le hs hl
    rcases List.mem_append.1 h with h | h
    · exact spL_n (by omega) s h
    · exact spots_n hs ht _ s h
theorem sure_facts {p : Pn} {n sure t : Int} (hr : lgsR p) (h0 : ∀ c ∈ p.channels, 0 ≤ c.first) (hs : 0 ≤ sure) (hst : sure ≤ t) :
    (allC p n t).length ≤ 64 ∧ allC p n sure <+: allC p n t ∧ (∀ (h : 0 < (allC p n t).length), (allC p n t)[0].n = 1) ∧
    ∀ i (hi : i + 1 < (allC p n t).length), (allC p n t)[i + 1].offset = addU (allC p n t)[i].offset 1 ∧
      ((allC p n t)[i + 1].ledger = (allC p n t)[i].ledger → (allC p n t)[i + 1].n = addU (allC p n t)[i].n 1) ∧ ((allC p n t)[i + 1].ledger ≠ (allC p n t)[i].ledger → (allC p n t)[i + 1].n = 1) := by
  cases hh : hasC p n with
  | false =>
    have e1 : allC p n t = [] := (findC_not (sure := t) (o := 0) hh).2.1
    have e2 : allC p n sure = [] := (findC_not (sure := sure) (o := 0) hh).2.1
    simp only [e1, e2]
    exact ⟨by simp, List.prefix_rfl, fun h => by simp at h, fun i hi => by simp at hi⟩
  | true =>
    have hk := ch_of (hasC_may hh hr) hr (chP_mem hh)
    have hf := h0 _ (chP_mem hh)
    have ht : 0 ≤ t := Int.le_trans hs hst
    have hlen := allC_len hh hr hf ht
    have e1 := allC_eq (sure := t) hh hr
    have e2 := allC_eq (sure := sure) hh hr
    have hoff := fun i hi => allC_off (sure := t) hh hr hf ht i hi
    have hpre := spots_prefix hst hs hk.row (chP p n).first
    have hfst := spots_first ht hk.row (chP p n).first
    have hnx := spots_next ht hk.row (chP p n).first
    have hns := spots_n ht hk.row (chP p n).first
    rw [← e1, ← e2] at hpre
    simp only [← e1] at hfst hnx hns
    refine ⟨hlen, hpre, hfst, fun i hi => ⟨?_, fun e => ?_, fun e => ?_⟩⟩
    · have h1 := hoff i (by omega)
      have h2 := hoff (i + 1) hi
      have := hk.first
      rw [h1, h2, addU_id (by omega)]
      omega
    · have := hns _ (List.getElem_mem (by omega : i < (allC p n t).length))
      rw [addU_id (by omega)]
      exact (hnx i hi).1 e.symm
    · exact (hnx i hi).2 fun h => e h.symm
theorem back_facts {p : Pn} {n sure : Int} (hr : lgsR p) (h0 : ∀ c ∈ p.channels, 0 ≤ c.first) (hs : 0 ≤ sure) (hh : hasC p n = true) : (allC p n sure).length ≤ 64 ∧
    ∀ i (hi : i < (allC p n sure).length), findC p n sure (addU (chP p n).first (IntKind.u64.wrap i)) = ((allC p n sure)[i], 0) ∧
      offC p n sure (allC p n sure)[i].ledger (allC p n sure)[i].n = (addU (chP p n).first (IntKind.u64.wrap i), 0) ∧ (allC p n sure)[i].offset = addU (chP p n).first (IntKind.u64.wrap i) := by
  have hk := ch_of (hasC_may hh hr) hr (chP_mem hh)
  have hf := h0 _ (chP_mem hh)
  have hlen := allC_len hh hr hf hs
  refine ⟨hlen, fun i hi => ?_⟩
  have hb := hk.first
  have e : addU (chP p n).first (IntKind.u64.wrap i) = (chP p n).first + i := by
    rw [wrapU (by omega) (by omega), addU_id (by omega)]
  rw [e]
  exact ⟨find_off hh hr hf hs i hi, off_find hh hr hf hs i hi, allC_off hh hr hf hs i hi⟩
end Go.AX
end
section
namespace Go.AX
open Go.ChangeShapes Go.WideShapes Go.RowKit
section
variable {H : Type} {enc : TypeId × Value → H} {P : Program}
theorem trodAll_stays (hl : laidOutB P = true) {W W' : World} (hb : Below W.heap.size W W') {sp : Nat → Bool} : ∀ {ts : List TypeId} {vs : List Value} {ds : List (DataW H)} {ps : List MemPlace},
    (∀ t ∈ ts, P.readableRec t = true ∧ t < P.types.size) → DataW.TrodAll enc P W 0 (fun _ => true) true ts vs ds ps → (∀ p ∈ ps, p.block < W.heap.size) → (∀ p ∈ ps, sp p.block = true) →
    DataW.TrodAll enc P W' 0 sp true ts vs ds ps
  | [], [], [], _, _, h, _, _ => h
  | [], _ :: _, _, _, _, h, _, _ => h.elim
  | [], [], _ :: _, _, _, h, _, _ => h.elim
  | _ :: _, [], _, _, _, h, _, _ => h.elim
  | _ :: _, _ :: _, [], _, _, h, _, _ => h.elim
  | t :: ts, v :: vs, d :: ds, _, hr, h, hlt, hsp => by
    obtain ⟨p, q, h1, h2, rfl⟩ := h
    have ht := hr t (by simp)
    exact ⟨p, q, WideElems.Trod_stays hl ht.1 ht.2 h1 (fun x hx => hb.same (hlt x (by simp [hx]))) (fun x hx => hsp x (by simp [hx])),
      trodAll_stays hl hb (fun t' ht' => hr t' (by simp [ht'])) h2 (fun x hx => hlt x (by simp [hx])) (fun x hx => hsp x (by simp [hx])), rfl⟩
theorem post_law {f : FuncId} {fn : Func} {s : ChangeSpec} {W : World} {args : Array Value} {ds gs : List (DataW H)} {before : List MemPlace} {pvs : List PV} {bt : TypeId}
    (hl : laidOutB P = true) (hrd : (fn.params.toList.all fun t => P.readableRec t && decide (t < P.types.size)) = true) (hrt : fn.resultTypes = #[bt]) (hbt : P.underlying bt = some .bool)
    (hvars : s.vars = []) (hfn : s.fn H (ds ++ gs) = { results := [.lit (.bool true)], args := ds })
    (hW : DataW.Whole enc P fn.params.toList s.vars false W args.toList ds gs before) (hc : PCx P f pvs (.sc (.bool true))) (hr : repL N0 W pvs args.toList) :
    Calls P f args W fun e W' => ∃ v, e = .returned v ∧ s.post enc P fn false true false false W args v W' := by
  refine (hc.2 N0 W args (fun r h => h.elim) hr).mono fun e W' ⟨v, r, he, hq, hrep, hsame⟩ => ⟨v, he, ?_⟩
  subst hq
  simp only [rep] at hrep
  subst hrep
  have hb : Below W.heap.size W W' := ⟨hsame.os, hsame.tape, hsame.output, hsame.size, fun k hk => hsame.keep k hk id⟩
  have hold : ∀ p ∈ before, (fun b => decide (b < W.heap.size)) p.block = true := fun p hp => by simpa using hW.lt p hp
  have hltp : ∀ p ∈ before, p.block < W.heap.size := fun p hp => hW.lt p hp
  have hW0 := hW
  obtain ⟨p, q, hA, hV, rfl, hz, hn⟩ := hW
  rw [hvars] at hV
  obtain ⟨rfl, rfl⟩ := trodVars_none hV
  simp only [List.append_nil] at hltp hold hz hn hW0 hfn
  have hres : ∀ (b : Nat) (sp : Nat → Bool) (hd : Bool), DataW.TrodAll enc P W' b sp hd fn.resultTypes.toList ((Value.bool true).resultList fn.resultTypes.size) (s.fn H (ds ++ [])).results [] := by
    intro b sp hd
    simp only [List.append_nil, hfn, hrt]
    exact trodAll_mk1 (shut_bool hbt true)
  have hargs : ∀ sp : Nat → Bool, (∀ x ∈ p, sp x.block = true) → DataW.TrodAll enc P W' 0 sp true fn.params.toList args.toList (s.fn H (ds ++ [])).args p := by
    intro sp hsp
    simp only [List.append_nil, hfn]
    exact trodAll_stays hl hb (fun t ht => by simpa using List.all_eq_true.1 hrd t ht) hA hltp hsp
  have hvv : ∀ sp : Nat → Bool, DataW.TrodVars enc P W' sp s.vars (s.fn H (ds ++ [])).vars [] := by
    intro sp
    simp only [List.append_nil, hfn, hvars]
    exact rfl
  refine ⟨ds, [], p, [], p, [], hW0, hres _ _ _, hargs _ hold, hvv _, hb.frame _, fun _ => ?_⟩
  refine ⟨ok_one hrt rfl (okWide_bool_mk hbt true), _, _, ([] ++ p) ++ [], ⟨[] ++ p, [], trodAll_append (hargs _ (fun _ _ => rfl)) (hres _ _ _), hvv _, rfl, ?_, ?_⟩, ?_⟩
  · intro b off hp
    simp only [List.nil_append, List.append_nil] at hp
    have := hltp _ hp
    rw [hb.frozen (p := ⟨b, off, none⟩) this]
    exact hz b off hp
  · intro ha
    simpa using hn ha
  · intro x hx _
    simpa using hx
end
theorem rows_of {α : Type} {c : α → List PV} {R : α → Prop} : ∀ {rows : List (List PV)}, (∀ r ∈ rows, ∃ x : α, r = c x ∧ R x) → ∃ l : List α, rows = l.map c ∧ ∀ x ∈ l, R x
  | [], _ => ⟨[], rfl, by simp⟩
  | r :: rows, h => by
    obtain ⟨x, rfl, hx⟩ := h r (by simp)
    obtain ⟨l, rfl, hl⟩ := rows_of (rows := rows) (c := c) (R := R) fun r hr => h r (by simp [hr])
    exact ⟨x :: l, rfl, by simpa using ⟨hx, hl⟩⟩
theorem wf_i64 {i : Int} (h : (Lit.int .i64 i).wf = true) : -9223372036854775808 ≤ i ∧ i ≤ 9223372036854775807 := by
  simpa [Lit.wf, IntKind.min, IntKind.max, IntKind.signed, IntKind.bits] using h
theorem wf_u64 {i : Int} (h : (Lit.int .u64 i).wf = true) : 0 ≤ i ∧ i ≤ 18446744073709551615 := by
  simpa [Lit.wf, IntKind.min, IntKind.max, IntKind.signed, IntKind.bits] using h
end Go.AX
end
