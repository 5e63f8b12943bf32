/-
  Contracts of functions of the program and of the document, each for every input that its premises name.
-/
import Derived.Test.YtgblabmhgdiicaaGreatCM
import Derived.Test.YtgblabmhgdiicaaGreatAe
import Derived.Laws.Bits64b
set_option linter.unusedSectionVars false
set_option maxRecDepth 100000
set_option maxHeartbeats 4000000
set_option linter.unusedVariables false
set_option linter.unusedSimpArgs false
open Go Go.AX
namespace Go.Proofs.YtgblabmhgdiicaaGreat.Tb
theorem fn_l20sure : FnOk Tryz.prog 4 Tryz.f4 := ⟨Tryz.func4, by kernel_rfl, by kernel_rfl, by kernel_rfl⟩
theorem l20sure_c (p : Pn) (n sure more : Int) (hr : lgsR p) (h0 : ∀ c ∈ p.channels, 0 ≤ c.first) (hs : 0 ≤ sure) (hm : u64R more) : PCx Tryz.prog 4 [.agg p.c, ii n, uu sure, uu more] (bl true) := by
  refine PC.le ?_
  have cLg := pLong_c p
  cases hl : longP p with
  | true =>
    rw [hl] at cLg
    clear hl
    refine PC_of_VC tabOk (draw_ok mixed tabOk) fn_l20sure rfl ?_
    repeat' ((conv => whnf); first | with_reducible refine (Or.inl ?_ : VC _ _ _ _ _ ∨ _) | ((with_reducible refine fk (fun hc => ?_) fun hc => ?_) <;> first | exact absurd hc (by decide) | (exfalso; simp only [*, reduceCtorEq, Bool.not_true, Bool.not_false] at hc; done) | skip) | (refine Or.inl (Or.inl ?_); (conv => whnf); refine ⟨_, cLg, ?_⟩) | (refine Or.inl (Or.inl ?_); (conv => whnf); refine ⟨_, l20awake_c, ?_⟩) | ((with_reducible apply And.intro); focus (first | rfl | exact Nat.le_of_ble_eq_true rfl | omega | (simp only [List.length_cons, List.length_nil, List.length_map, List.length_append]; omega))))
    repeat' first | (with_reducible first | exact ⟨⟩ | exact rfl | exact lr _) | ((conv => whnf); with_reducible first | apply And.intro | exact ⟨⟩) | exact rfl | exact fun h => h | exact lr _
    all_goals try (conv => whnf)
  | false =>
  rw [hl] at cLg
  have hB := longP_B hl
  have hok : PnOk p := ⟨hB, hr, h0⟩
  clear hl
  cases hS : decide (sure > 1152921504606846976) with
  | true =>
    refine PC_of_VC tabOk (draw_ok mixed tabOk) fn_l20sure rfl ?_
    repeat' ((conv => whnf); first | with_reducible refine (Or.inl ?_ : VC _ _ _ _ _ ∨ _) | ((with_reducible refine fk (fun hc => ?_) fun hc => ?_) <;> first | exact absurd hc (by decide) | (exfalso; simp only [*, reduceCtorEq, Bool.not_true, Bool.not_false] at hc; done) | skip) | (refine Or.inl (Or.inl ?_); (conv => whnf); refine ⟨_, cLg, ?_⟩) | (refine Or.inl (Or.inl ?_); (conv => whnf); refine ⟨_, l20awake_c, ?_⟩) | ((with_reducible apply And.intro); focus (first | rfl | exact Nat.le_of_ble_eq_true rfl | omega | (simp only [List.length_cons, List.length_nil, List.length_map, List.length_append]; omega))))
    repeat' first | (with_reducible first | exact ⟨⟩ | exact rfl | exact lr _) | ((conv => whnf); with_reducible first | apply And.intro | exact ⟨⟩) | exact rfl | exact fun h => h | exact lr _
    all_goals try (conv => whnf)
  | false =>
  obtain ⟨m, rfl⟩ : ∃ m : Nat, more = (m : Int) := ⟨more.toNat, by have := hm.1; omega⟩
  have hm2 : m < 18446744073709551616 := by have := hm.2; omega
  have hsl : sure ≤ 1152921504606846976 := by simpa using hS
  obtain ⟨q, hq⟩ : ∃ q, q = m &&& 15 := ⟨_, rfl⟩
  have hq15 : q ≤ 15 := by rw [hq]; exact Nat.and_le_right
  have wq : IntKind.u64.wrap (((BitVec.ofInt IntKind.u64.bits (m : Int) &&& BitVec.ofInt IntKind.u64.bits 15).toNat : Nat) : Int) = (q : Int) := by
    have e : bits .and .u64 (m : Int) ((15 : Nat) : Int) = (q : Int) := by rw [bits_and_u64_nat _ _ hm2 (by omega), hq]
    exact e
  obtain ⟨t, ht⟩ : ∃ t, t = sure + (q : Int) := ⟨_, rfl⟩
  have wS : IntKind.u64.wrap (sure + (q : Int)) = t := by rw [wrapU (by omega) (by omega), ht]
  have hst : sure ≤ t := by omega
  have hex : ∃ L A : List Sp, PCx Tryz.prog 8 [.agg p.c, ii n, uu sure] (slS A) ∧ PCx Tryz.prog 8 [.agg p.c, ii n, uu t] (slS L) ∧ L.length ≤ 64 ∧ A <+: L ∧ (∀ (h : 0 < L.length), L[0].n = 1) ∧
      ∀ i (hi : i + 1 < L.length), L[i + 1].offset = addU L[i].offset 1 ∧ (L[i + 1].ledger = L[i].ledger → L[i + 1].n = addU L[i].n 1) ∧ (L[i + 1].ledger ≠ L[i].ledger → L[i + 1].n = 1) :=
    ⟨_, _, cAll_c p n sure hok hs, cAll_c p n t hok (by omega), sure_facts (n := n) hr h0 hs hst⟩
  obtain ⟨L, A, cA, cB, hlen, hpre, hfst, hnx⟩ := hex
  clear ht hst hsl hq hm hm2
  have hle := hpre.length_le
  have d1 : decide ((A.length : Int) > (L.length : Int)) = false := by simp only [decide_eq_false_iff_not]; omega
  have cS := sameSp_c A (L.take A.length)
  rw [decide_eq_true (List.prefix_iff_eq_take.1 hpre)] at cS
  have cS2 : PCx Tryz.prog 13 [slS A, .sl false 3 ((L.map Sp.c).take ((A.length : Nat) : Int).toNat)] (bl true) := by
    rw [Int.toNat_natCast, ← List.map_take]
    exact cS
  clear cS
  have eA : ((List.map Sp.c A).length : Int) = (A.length : Int) := by rw [List.length_map]
  have eL : ((List.map Sp.c L).length : Int) = (L.length : Int) := by rw [List.length_map]
  refine PC_of_VC tabOk (draw_ok mixed tabOk) fn_l20sure rfl ?_
  repeat' ((conv => whnf); first | with_reducible refine (Or.inl ?_ : VC _ _ _ _ _ ∨ _) | ((with_reducible refine fk (fun hc => ?_) fun hc => ?_) <;> first | exact absurd hc (by decide) | (exfalso; simp only [*, reduceCtorEq, Bool.not_true, Bool.not_false] at hc; done) | skip) | rewrite [wq] | rewrite [wS] | rewrite [eA] | rewrite [eL] | (refine Or.inl (Or.inl ?_); (conv => whnf); refine ⟨_, cLg, ?_⟩) | (refine Or.inl (Or.inl ?_); (conv => whnf); refine ⟨_, cA, ?_⟩) | (refine Or.inl (Or.inl ?_); (conv => whnf); refine ⟨_, cB, ?_⟩) | (((with_reducible apply And.intro); focus (show (A.length : Int) ≤ ((List.map Sp.c L).length : Int); rw [List.length_map]; omega))) | (((with_reducible apply And.intro); focus (show (0 : Int) ≤ (A.length : Int); omega))) | (refine Or.inl (Or.inl ?_); (conv => whnf); refine ⟨_, PCx_pre (cS2) ?_, ?_⟩; focus ((repeat' first | (with_reducible first | exact ⟨⟩ | exact rfl | exact lr _) | ((conv => whnf); with_reducible first | apply And.intro | exact ⟨⟩) | exact rfl | exact fun h => h | assumption | exact lr _); done)) | ((with_reducible apply And.intro); focus (first | rfl | exact Nat.le_of_ble_eq_true rfl | omega | (simp only [List.length_cons, List.length_nil, List.length_map, List.length_append]; omega))))
  refine ⟨{k : Nat // k = 0 ∨ k + 1 ≤ L.length}, fun ⟨k, _⟩ => ⟨[(10, .pv (slS L)), (11, .pv (ii ((k + 1 : Nat) : Int)))], 1000000000, []⟩, fun ⟨k, _⟩ => L.length - k, ⟨⟨0, .inl rfl⟩, ent_of ?_⟩, ?_⟩
  · repeat' first
      | fail
      | with_reducible exact True.intro
      | with_reducible exact rfl
      | with_reducible exact leRs_refl _
      | ((conv => whnf); with_reducible apply And.intro)
      | ((conv => whnf); with_reducible exact True.intro)
      | exact rfl
      | exact fun h => h
      | exact leRs_refl _
    all_goals try (conv => whnf)
  rintro ⟨k, hk⟩
  by_cases hlt : k + 1 < L.length
  · have e0 : decide (((k + 1 : Nat) : Int) < (L.length : Int)) = true := by simp only [decide_eq_true_eq]; omega
    have eW : IntKind.i64.wrap (((k + 1 : Nat) : Int) + 1) = ((k + 1 + 1 : Nat) : Int) := by rw [wrapI (by omega) (by omega)]; omega
    have eM : IntKind.i64.wrap (((k + 1 : Nat) : Int) - 1) = (k : Int) := by rw [wrapI (by omega) (by omega)]; omega
    obtain ⟨q1, q2, q3⟩ := hnx k hlt
    have r1 := rowK Sp.c L (k + 1) hlt
    have r0 := rowK Sp.c L k (by omega)
    obtain ⟨s, hs2⟩ : ∃ s, s = L[k + 1] := ⟨_, rfl⟩
    obtain ⟨u, hu2⟩ : ∃ u, u = L[k] := ⟨_, rfl⟩
    rw [← hs2] at q1 q2 q3 r1
    rw [← hu2] at q1 q2 q3 r0
    clear hs2 hu2 hnx hfst
    have eU : ∀ a b : Int, IntKind.u64.wrap (a + b) = addU a b := fun _ _ => rfl
    have b1 : (s.offset != addU u.offset 1) = false := by rw [q1]; simp
    cases b2 : (s.ledger == u.ledger) with
    | true =>
      have b3 : (s.n != addU u.n 1) = false := by rw [q2 (by simpa using b2)]; simp
      have b4 : (s.ledger != u.ledger) = false := by simp [bne, b2]
      clear q1 q2 q3
      repeat' ((conv => whnf); first | with_reducible refine (Or.inl ?_ : VC _ _ _ _ _ ∨ _) | ((with_reducible refine fk (fun hc => ?_) fun hc => ?_) <;> first | exact absurd hc (by decide) | (exfalso; simp only [*, reduceCtorEq, Bool.not_true, Bool.not_false] at hc; done) | skip) | rewrite [eL] | rewrite [eU] | rewrite [eM] | ((refine ⟨_, r1, ?_⟩)) | ((refine ⟨by omega, _, r0, ?_⟩)) | ((refine ⟨_, r0, ?_⟩)) | ((with_reducible apply And.intro); focus (first | rfl | exact Nat.le_of_ble_eq_true rfl | omega | (simp only [List.length_cons, List.length_nil, List.length_map, List.length_append]; omega))))
      refine ⟨⟨k + 1, .inr hlt⟩, (by show L.length - (k + 1) < L.length - k; omega), ent_of ?_⟩
      repeat' first | (with_reducible first | exact ⟨⟩ | exact rfl | exact lr _) | ((conv => whnf); with_reducible first | apply And.intro | exact ⟨⟩) | exact rfl | exact fun h => h | exact lr _
      all_goals try (conv => whnf)
      all_goals exact eW
    | false =>
      have b3 : (s.n != 1) = false := by rw [q3 (by simpa using b2)]; simp
      have b4 : (s.ledger != u.ledger) = true := by simp [bne, b2]
      clear q1 q2 q3
      repeat' ((conv => whnf); first | with_reducible refine (Or.inl ?_ : VC _ _ _ _ _ ∨ _) | ((with_reducible refine fk (fun hc => ?_) fun hc => ?_) <;> first | exact absurd hc (by decide) | (exfalso; simp only [*, reduceCtorEq, Bool.not_true, Bool.not_false] at hc; done) | skip) | rewrite [eL] | rewrite [eU] | rewrite [eM] | ((refine ⟨_, r1, ?_⟩)) | ((refine ⟨by omega, _, r0, ?_⟩)) | ((refine ⟨_, r0, ?_⟩)) | ((with_reducible apply And.intro); focus (first | rfl | exact Nat.le_of_ble_eq_true rfl | omega | (simp only [List.length_cons, List.length_nil, List.length_map, List.length_append]; omega))))
      refine ⟨⟨k + 1, .inr hlt⟩, (by show L.length - (k + 1) < L.length - k; omega), ent_of ?_⟩
      repeat' first | (with_reducible first | exact ⟨⟩ | exact rfl | exact lr _) | ((conv => whnf); with_reducible first | apply And.intro | exact ⟨⟩) | exact rfl | exact fun h => h | exact lr _
      all_goals try (conv => whnf)
      all_goals exact eW
  · have e0 : decide (((k + 1 : Nat) : Int) < (L.length : Int)) = false := by simp only [decide_eq_false_iff_not]; omega
    rcases Nat.eq_zero_or_pos L.length with hz | hz
    · have e1 : ((L.length : Int) == 0) = true := by simp; exact List.eq_nil_of_length_eq_zero hz
      clear hz
      repeat' ((conv => whnf); first | with_reducible refine (Or.inl ?_ : VC _ _ _ _ _ ∨ _) | ((with_reducible refine fk (fun hc => ?_) fun hc => ?_) <;> first | exact absurd hc (by decide) | (exfalso; simp only [*, reduceCtorEq, Bool.not_true, Bool.not_false] at hc; done) | skip) | rewrite [eL] | (refine Or.inl (Or.inl ?_); (conv => whnf); refine ⟨_, l20awake_c, ?_⟩) | ((with_reducible apply And.intro); focus (first | rfl | exact Nat.le_of_ble_eq_true rfl | omega | (simp only [List.length_cons, List.length_nil, List.length_map, List.length_append]; omega))))
      repeat' first | (with_reducible first | exact ⟨⟩ | exact rfl | exact lr _) | ((conv => whnf); with_reducible first | apply And.intro | exact ⟨⟩) | exact rfl | exact fun h => h | exact lr _
      all_goals try (conv => whnf)
    · have e1 : ((L.length : Int) == 0) = false := by simp; intro e; rw [e] at hz; simp at hz
      have r0 := rowK Sp.c L 0 hz
      have b1 : (L[0].n == 1) = true := by rw [hfst hz]; rfl
      clear hnx hfst
      repeat' ((conv => whnf); first | with_reducible refine (Or.inl ?_ : VC _ _ _ _ _ ∨ _) | ((with_reducible refine fk (fun hc => ?_) fun hc => ?_) <;> first | exact absurd hc (by decide) | (exfalso; simp only [*, reduceCtorEq, Bool.not_true, Bool.not_false] at hc; done) | skip) | rewrite [eL] | ((refine ⟨_, r0, ?_⟩)) | (refine Or.inl (Or.inl ?_); (conv => whnf); refine ⟨_, l20awake_c, ?_⟩) | ((with_reducible apply And.intro); focus (first | rfl | exact Nat.le_of_ble_eq_true rfl | omega | (simp only [List.length_cons, List.length_nil, List.length_map, List.length_append]; omega))))
      repeat' first | (with_reducible first | exact ⟨⟩ | exact rfl | exact lr _) | ((conv => whnf); with_reducible first | apply And.intro | exact ⟨⟩) | exact rfl | exact fun h => h | exact lr _
      all_goals try (conv => whnf)
end Go.Proofs.YtgblabmhgdiicaaGreat.Tb
