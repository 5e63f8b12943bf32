/-
  Contracts of functions of the program and of the document, each for every input that its premises name.
-/
import Derived.Test.YtibbgchpgfpccaaGI
set_option maxRecDepth 100000
set_option maxHeartbeats 4000000
set_option linter.unusedVariables false
set_option linter.unusedSimpArgs false
open Go Go.AX
namespace Go.Proofs.Ytibbgchpgfpccaa.Tb
theorem fn_cTake : FnOk Try.prog 33 Try.f33 := ⟨Try.func33, by kernel_rfl, by kernel_rfl, by kernel_rfl⟩
theorem cTake_c (c : Cp) (now : Int) (r : Rs) (h : c.sm) (hbig : Cp.big c) (hr : r.body.length ≤ 140737488355328) (hnl : c.none.length ≤ 1000000) :
    PCx Try.prog 33 [.agg c.c, uu now, .agg r.c] (.tup [.agg (takeC c now r).1.c, slR (takeC c now r).2]) := by
  refine PC.le ?_
  obtain ⟨hf, hok, hn, hs⟩ := id hbig
  have hask := cask2S_g { c with phase := 2, body := r.body } now rfl hr
  have hdn : (askC { c with phase := 2, body := r.body } now).1.none = c.none := by unfold askC; rw [if_pos rfl]
  obtain ⟨⟨d, q⟩, hd⟩ : ∃ x, askC { c with phase := 2, body := r.body } now = x := ⟨_, rfl⟩
  rw [hd] at hask hdn
  obtain ⟨⟨d2, q2⟩, hd2⟩ : ∃ x, onC c now = x := ⟨_, rfl⟩
  cases hL : hadL c.l c.from_ c.n with
  | nil =>
    have hon := con0S_g c now hbig hL
    have hq : q2 = [] := by
      unfold onC at hd2
      simp only [hL, Prod.mk.injEq] at hd2
      exact hd2.2.symm
    rw [hd2] at hon
    subst hq
    obtain ⟨X, hX⟩ : ∃ X, X = takeC c now r := ⟨_, rfl⟩
    rw [← hX]
    refine PC_of_VC tabOk (draw_ok mixed tabOk) fn_cTake rfl ?_
    repeat' ((conv => whnf)
             first
             | with_reducible refine (Or.inl ?_ : VC _ _ _ _ _ ∨ _)
             | ((with_reducible refine (⟨fun hc => ?_, fun hc => ?_⟩ : (_ = true → _) ∧ (_ = false → _))) <;> first | exact absurd hc (by decide) | (exfalso; simp only [*, reduceCtorEq] at hc; done) | skip)
             | (refine Or.inr ?_; (conv => whnf); refine ⟨_, _, cown_g c h, ?_⟩)
             | (refine Or.inr ?_; (conv => whnf); refine ⟨_, _, others_g c hf hn, ?_⟩)
             | (refine Or.inl ?_; (conv => whnf); refine ⟨_, containsPlace_c _ _ _, ?_⟩)
             | (refine Or.inl ?_; (conv => whnf); refine ⟨_, cloneByte_c _ (by omega), ?_⟩)
             | (refine Or.inr ?_; (conv => whnf); refine ⟨_, _, hask, ?_⟩)
             | (refine Or.inr ?_; (conv => whnf); refine ⟨_, _, hon, ?_⟩)
             | ((with_reducible refine And.intro ?_ ?_); focus (first | rfl | exact Nat.le_of_ble_eq_true rfl | omega | (simp only [List.length_cons, List.length_nil, List.length_map, List.length_append]; omega))))
    all_goals clear hask hon
    all_goals try simp only [Bool.not_eq_true', Bool.not_eq_false', Pl.beq] at *
    all_goals
      simp only [takeC, *, Bool.true_or, Bool.or_true, Bool.false_or, Bool.or_false, Bool.true_and, Bool.and_true, Bool.false_and, Bool.and_false, Bool.not_true, Bool.not_false, Bool.false_eq_true, ↓reduceIte] at hX
      subst hX
      repeat' first
        | exact True.intro
        | exact rfl
        | exact id
        | exact leRs_refl _
        | ((conv => whnf); with_reducible refine And.intro ?_ ?_)
        | ((conv => whnf); exact True.intro)
    all_goals first
      | (refine leRs_of_eq ?_; simp only [List.map_append]; rfl)
      | (refine leRs_of_eq ?_; rw [← hdn]; done)
      | (refine leRs_of_eq ?_; rw [hdn]; done)
      | (exfalso; simp_all; done)
      | (exfalso; clear hbig hs h hf hok; grind)
  | cons n0 r0 =>
    have hon := con1S_g c now hbig n0 r0 hL
    rw [hd2] at hon
    obtain ⟨X, hX⟩ : ∃ X, X = takeC c now r := ⟨_, rfl⟩
    rw [← hX]
    refine PC_of_VC tabOk (draw_ok mixed tabOk) fn_cTake rfl ?_
    repeat' ((conv => whnf)
             first
             | with_reducible refine (Or.inl ?_ : VC _ _ _ _ _ ∨ _)
             | ((with_reducible refine (⟨fun hc => ?_, fun hc => ?_⟩ : (_ = true → _) ∧ (_ = false → _))) <;> first | exact absurd hc (by decide) | (exfalso; simp only [*, reduceCtorEq] at hc; done) | skip)
             | (refine Or.inr ?_; (conv => whnf); refine ⟨_, _, cown_g c h, ?_⟩)
             | (refine Or.inr ?_; (conv => whnf); refine ⟨_, _, others_g c hf hn, ?_⟩)
             | (refine Or.inl ?_; (conv => whnf); refine ⟨_, containsPlace_c _ _ _, ?_⟩)
             | (refine Or.inl ?_; (conv => whnf); refine ⟨_, cloneByte_c _ (by omega), ?_⟩)
             | (refine Or.inr ?_; (conv => whnf); refine ⟨_, _, hask, ?_⟩)
             | (refine Or.inr ?_; (conv => whnf); refine ⟨_, _, hon, ?_⟩)
             | ((with_reducible refine And.intro ?_ ?_); focus (first | rfl | exact Nat.le_of_ble_eq_true rfl | omega | (simp only [List.length_cons, List.length_nil, List.length_map, List.length_append]; omega))))
    all_goals clear hask hon
    all_goals try simp only [Bool.not_eq_true', Bool.not_eq_false', Pl.beq] at *
    all_goals
      simp only [takeC, *, Bool.true_or, Bool.or_true, Bool.false_or, Bool.or_false, Bool.true_and, Bool.and_true, Bool.false_and, Bool.and_false, Bool.not_true, Bool.not_false, Bool.false_eq_true, ↓reduceIte] at hX
      subst hX
      repeat' first
        | exact True.intro
        | exact rfl
        | exact id
        | exact leRs_refl _
        | ((conv => whnf); with_reducible refine And.intro ?_ ?_)
        | ((conv => whnf); exact True.intro)
    all_goals first
      | (refine leRs_of_eq ?_; simp only [List.map_append]; rfl)
      | (refine leRs_of_eq ?_; rw [← hdn]; done)
      | (refine leRs_of_eq ?_; rw [hdn]; done)
      | (exfalso; simp_all; done)
      | (exfalso; clear hbig hs h hf hok; grind)
end Go.Proofs.Ytibbgchpgfpccaa.Tb
