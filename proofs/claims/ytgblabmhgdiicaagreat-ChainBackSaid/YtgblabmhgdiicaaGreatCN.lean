/-
  Contracts of functions of the program and of the document, each for every input that its premises name.
-/
import Derived.Test.YtgblabmhgdiicaaGreatCM
import Derived.Test.YtgblabmhgdiicaaGreatAe
set_option linter.unusedSectionVars false
set_option maxRecDepth 100000
set_option maxHeartbeats 4000000
set_option linter.unusedVariables false
set_option linter.unusedSimpArgs false
open Go Go.AX
namespace Go.Proofs.YtgblabmhgdiicaaGreat.Tb
theorem fn_l20back : FnOk Tryz.prog 3 Tryz.f3 := ⟨Tryz.func3, by kernel_rfl, by kernel_rfl, by kernel_rfl⟩
theorem l20back_c (p : Pn) (n sure : Int) (hr : lgsR p) (h0 : ∀ c ∈ p.channels, 0 ≤ c.first) (hs : 0 ≤ sure) : PCx Tryz.prog 3 [.agg p.c, ii n, uu sure] (bl true) := by
  refine PC.le ?_
  have cLg := pLong_c p
  cases hl : longP p with
  | true =>
    rw [hl] at cLg
    clear hl
    refine PC_of_VC tabOk (draw_ok mixed tabOk) fn_l20back rfl ?_
    repeat' ((conv => whnf); first | with_reducible refine (Or.inl ?_ : VC _ _ _ _ _ ∨ _) | ((with_reducible refine fk (fun hc => ?_) fun hc => ?_) <;> first | exact absurd hc (by decide) | (exfalso; simp only [*, reduceCtorEq, Bool.not_true, Bool.not_false] at hc; done) | skip) | (refine Or.inl (Or.inl ?_); (conv => whnf); refine ⟨_, cLg, ?_⟩) | (refine Or.inl (Or.inl ?_); (conv => whnf); refine ⟨_, l20awake_c, ?_⟩) | ((with_reducible apply And.intro); focus (first | rfl | exact Nat.le_of_ble_eq_true rfl | omega | (simp only [List.length_cons, List.length_nil, List.length_map, List.length_append]; omega))))
    repeat' first | (with_reducible first | exact ⟨⟩ | exact rfl | exact lr _) | ((conv => whnf); with_reducible first | apply And.intro | exact ⟨⟩) | exact rfl | exact fun h => h | exact lr _
    all_goals try (conv => whnf)
  | false =>
  rw [hl] at cLg
  have hB := longP_B hl
  have hok : PnOk p := ⟨hB, hr, h0⟩
  have cA := cAll_c p n sure hok hs
  have cM := pMay_c p hB
  have cL := cLength_c p n sure hok hs
  have eH : ((List.map Ch.c p.channels).length : Int) = (p.channels.length : Int) := by rw [List.length_map]
  clear hl
  cases hh : hasC p n with
  | false =>
    obtain ⟨f1, f2, f3⟩ := findC_not (sure := sure) (o := 0) hh
    have cF := cFind_c p n sure 0 hok hs
    rw [f1] at cF
    rw [f2] at cA
    rw [f3] at cL
    have hcase : mayPn p = false ∨ (mayPn p = true ∧ decide (n < 1) = true) ∨ (mayPn p = true ∧ decide (n < 1) = false ∧ decide (n > (p.channels.length : Int)) = true) := by
      cases hm : mayPn p with
      | false => exact .inl rfl
      | true =>
        refine .inr ?_
        by_cases h1 : n < 1
        · exact .inl ⟨rfl, by simpa using h1⟩
        · refine .inr ⟨rfl, by simpa using h1, ?_⟩
          simp only [hasC, hm, Bool.and_true, Bool.and_eq_false_iff, decide_eq_false_iff_not] at hh
          simp only [decide_eq_true_eq]
          omega
    clear hh f1 f2 f3
    rcases hcase with hm | ⟨hm, d1⟩ | ⟨hm, d1, d2⟩
    all_goals
      rw [hm] at cM
      clear hm
      refine PC_of_VC tabOk (draw_ok mixed tabOk) fn_l20back rfl ?_
      repeat' ((conv => whnf); first | with_reducible refine (Or.inl ?_ : VC _ _ _ _ _ ∨ _) | ((with_reducible refine fk (fun hc => ?_) fun hc => ?_) <;> first | exact absurd hc (by decide) | (exfalso; simp only [*, reduceCtorEq, Bool.not_true, Bool.not_false] at hc; done) | skip) | rewrite [eH] | (refine Or.inl (Or.inl ?_); (conv => whnf); refine ⟨_, cLg, ?_⟩) | (refine Or.inl (Or.inl ?_); (conv => whnf); refine ⟨_, cA, ?_⟩) | (refine Or.inl (Or.inl ?_); (conv => whnf); refine ⟨_, cM, ?_⟩) | (refine Or.inl (Or.inl ?_); (conv => whnf); refine ⟨_, cF, ?_⟩) | (refine Or.inl (Or.inl ?_); (conv => whnf); refine ⟨_, cL, ?_⟩) | (refine Or.inl (Or.inl ?_); (conv => whnf); refine ⟨_, l20awake_c, ?_⟩) | ((with_reducible apply And.intro); focus (first | rfl | exact Nat.le_of_ble_eq_true rfl | omega | (simp only [List.length_cons, List.length_nil, List.length_map, List.length_append]; omega))))
      repeat' first | (with_reducible first | exact ⟨⟩ | exact rfl | exact lr _) | ((conv => whnf); with_reducible first | apply And.intro | exact ⟨⟩) | exact rfl | exact fun h => h | exact lr _
      all_goals try (conv => whnf)
  | true =>
  obtain ⟨hlen, hall⟩ := back_facts (sure := sure) hr h0 hs hh
  have hm := hasC_may hh hr
  have eL : lengthC p n sure = addU (chP p n).first (IntKind.u64.wrap (allC p n sure).length) := by unfold lengthC; rw [if_pos hh]
  rw [eL] at cL
  rw [hm] at cM
  have hP := hasC_P hh
  have hb := hB.channels
  have d1 : decide (n < 1) = false := by simp only [hasP, Bool.and_eq_true, decide_eq_true_eq] at hP; simp only [decide_eq_false_iff_not]; omega
  have d2 : decide (n > (p.channels.length : Int)) = false := by simp only [hasP, Bool.and_eq_true, decide_eq_true_eq] at hP; simp only [decide_eq_false_iff_not]; omega
  obtain ⟨i, hi, en, ec⟩ := hasP_ix hP
  have eI : IntKind.i64.wrap (n - 1) = ((i : Nat) : Int) := by rw [wrapI (by omega) (by omega)]; omega
  have hrw := rowK Ch.c p.channels i hi
  rw [← ec] at hrw
  clear ec en hP hm eL hh
  obtain ⟨fst, hfst⟩ : ∃ x, x = (chP p n).first := ⟨_, rfl⟩
  obtain ⟨L, hL⟩ : ∃ L, L = allC p n sure := ⟨_, rfl⟩
  rw [← hL] at cA hlen hall cL
  rw [← hfst] at cL
  simp only [← hfst] at hall
  have hrw2 : (List.map Ch.c p.channels)[((i : Nat) : Int).toNat]? = some [uu (chP p n).epoch, ii (chP p n).owner, uu (chP p n).inc, uu (chP p n).renewed, uu fst, uu (chP p n).trim, slU (chP p n).ledgers, slM (chP p n).seen, slK (chP p n).cursors] := by rw [hrw, hfst]; rfl
  clear hrw hfst hL
  have eN : ((List.map Sp.c L).length : Int) = (L.length : Int) := by rw [List.length_map]
  have eU : ∀ a b : Int, IntKind.u64.wrap (a + b) = addU a b := fun _ _ => rfl
  have d3 : (addU fst (IntKind.u64.wrap (L.length : Int)) != addU fst (IntKind.u64.wrap (L.length : Int))) = false := by simp
  refine PC_of_VC tabOk (draw_ok mixed tabOk) fn_l20back rfl ?_
  repeat' ((conv => whnf); first | with_reducible refine (Or.inl ?_ : VC _ _ _ _ _ ∨ _) | ((with_reducible refine fk (fun hc => ?_) fun hc => ?_) <;> first | exact absurd hc (by decide) | (exfalso; simp only [*, reduceCtorEq, Bool.not_true, Bool.not_false] at hc; done) | skip) | rewrite [eH] | rewrite [eN] | rewrite [eU] | (refine Or.inl (Or.inl ?_); (conv => whnf); refine ⟨_, cLg, ?_⟩) | (refine Or.inl (Or.inl ?_); (conv => whnf); refine ⟨_, cA, ?_⟩) | (refine Or.inl (Or.inl ?_); (conv => whnf); refine ⟨_, cM, ?_⟩) | (refine Or.inl (Or.inl ?_); (conv => whnf); refine ⟨_, cL, ?_⟩) | ((rewrite [eI])) | ((refine ⟨_, hrw2, ?_⟩)) | ((with_reducible apply And.intro); focus (first | rfl | exact Nat.le_of_ble_eq_true rfl | omega | (simp only [List.length_cons, List.length_nil, List.length_map, List.length_append]; omega))))
  refine ⟨{k : Nat // k ≤ L.length}, fun ⟨k, _⟩ => ⟨[(1, .pv (ii n)), (2, .pv (uu sure)), (3, .ptr 1003 0), (7, .pv (slS L)), (10, .pv (uu fst)), (11, .pv (ii k))], 1000000000, [(1003, .var (p.c.map .pv))]⟩, fun ⟨k, _⟩ => L.length - k, ⟨⟨0, by simp⟩, ent_of ?_⟩, ?_⟩
  · repeat' first
      | fail
      | with_reducible exact True.intro
      | with_reducible exact rfl
      | with_reducible exact leRs_refl _
      | ((conv => whnf); with_reducible apply And.intro)
      | ((conv => whnf); with_reducible exact True.intro)
      | exact rfl
      | exact fun h => h
      | exact leRs_refl _
    all_goals try (conv => whnf)
  rintro ⟨k, hk⟩
  by_cases hlt : k < L.length
  · have e0 : decide ((k : Int) < (L.length : Int)) = true := by simp only [decide_eq_true_eq]; omega
    have eW : IntKind.i64.wrap ((k : Int) + 1) = ((k + 1 : Nat) : Int) := by rw [wrapI (by omega) (by omega)]; omega
    obtain ⟨q1, q2, q3⟩ := hall k hlt
    have cF := cFind_c p n sure (addU fst (IntKind.u64.wrap k)) hok hs
    have cO := cOff_c p n sure L[k].ledger L[k].n hok hs
    have r1 := rowK Sp.c L k hlt
    rw [q1] at cF
    rw [q2] at cO
    dsimp only at cF cO
    have b3 : (addU fst (IntKind.u64.wrap (k : Int)) != L[k].offset) = false := by rw [q3]; simp
    have b4 : (addU fst (IntKind.u64.wrap (k : Int)) != addU fst (IntKind.u64.wrap (k : Int))) = false := by simp
    have b2 : (!(L[k].offset == L[k].offset && (L[k].ledger == L[k].ledger && L[k].n == L[k].n))) = false := by simp
    clear q1 q2 q3 hall
    repeat' ((conv => whnf); first | with_reducible refine (Or.inl ?_ : VC _ _ _ _ _ ∨ _) | ((with_reducible refine fk (fun hc => ?_) fun hc => ?_) <;> first | exact absurd hc (by decide) | (exfalso; simp only [*, reduceCtorEq, Bool.not_true, Bool.not_false] at hc; done) | skip) | rewrite [eN] | rewrite [eU] | (refine Or.inl (Or.inl ?_); (conv => whnf); refine ⟨_, cF, ?_⟩) | (refine Or.inl (Or.inl ?_); (conv => whnf); refine ⟨_, cO, ?_⟩) | ((refine ⟨_, r1, ?_⟩)) | ((with_reducible apply And.intro); focus (first | rfl | exact Nat.le_of_ble_eq_true rfl | omega | (simp only [List.length_cons, List.length_nil, List.length_map, List.length_append]; omega))))
    refine ⟨⟨k + 1, hlt⟩, dec_lt hlt, ent_of ?_⟩
    repeat' first | (with_reducible first | exact ⟨⟩ | exact rfl | exact lr _) | ((conv => whnf); with_reducible first | apply And.intro | exact ⟨⟩) | exact rfl | exact fun h => h | exact lr _
    all_goals try (conv => whnf)
    all_goals exact eW
  · have hke : k = L.length := by omega
    subst hke
    have e0 : decide ((L.length : Int) < (L.length : Int)) = false := by simp
    repeat' ((conv => whnf); first | with_reducible refine (Or.inl ?_ : VC _ _ _ _ _ ∨ _) | ((with_reducible refine fk (fun hc => ?_) fun hc => ?_) <;> first | exact absurd hc (by decide) | (exfalso; simp only [*, reduceCtorEq, Bool.not_true, Bool.not_false] at hc; done) | skip) | rewrite [eN] | (refine Or.inl (Or.inl ?_); (conv => whnf); refine ⟨_, l20awake_c, ?_⟩) | ((with_reducible apply And.intro); focus (first | rfl | exact Nat.le_of_ble_eq_true rfl | omega | (simp only [List.length_cons, List.length_nil, List.length_map, List.length_append]; omega))))
    repeat' first | (with_reducible first | exact ⟨⟩ | exact rfl | exact lr _) | ((conv => whnf); with_reducible first | apply And.intro | exact ⟨⟩) | exact rfl | exact fun h => h | exact lr _
    all_goals try (conv => whnf)
end Go.Proofs.YtgblabmhgdiicaaGreat.Tb
