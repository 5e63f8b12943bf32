/-
  Contracts of functions of the program and of the document, each for every input that its premises name.
-/
import Derived.Test.YtibbgchpgfpccaaGF
import Derived.Test.YtibbgchpgfpccaaGG
set_option maxRecDepth 100000
set_option maxHeartbeats 4000000
set_option linter.unusedVariables false
set_option linter.unusedSimpArgs false
open Go Go.AX
namespace Go.Proofs.Ytibbgchpgfpccaa.Tb
theorem fn_cNew : FnOk Try.prog 30 Try.f30 := ⟨Try.func30, by kernel_rfl, by kernel_rfl, by kernel_rfl⟩
theorem cNew_c (l : Lg) (from_ to : Pl) (now : Int) (hok : l.ok) (hf : frsOk l.frags) (hfl : l.frags.length ≤ 4398046511104) (hs : ∀ n, (setOf l.frags l.w n).length ≤ 1000000) :
    PCx Try.prog 30 [.agg l.c, .agg from_.c, .agg to.c, uu now] (.tup [.agg (newC l from_ to now).1.c, slR (newC l from_ to now).2.1, ii (newC l from_ to now).2.2]) := by
  refine PC.le ?_
  have hsm : Cp.sm ⟨l, from_, to, 0, 0, [], [], now, now⟩ := ⟨by simp, by simp, hfl, hok⟩
  have hbig : Cp.big ⟨l, from_, to, 0, 0, [], [], now, now⟩ := ⟨hf, hok, by simp, hs⟩
  have hown := cown_c _ hsm
  obtain ⟨⟨d, q⟩, hd⟩ : ∃ x, onC ⟨l, from_, to, 0, 0, [], [], now, now⟩ now = x := ⟨_, rfl⟩
  cases hL : hadL l from_ 0 with
  | nil =>
    have hon := con0P_g ⟨l, from_, to, 0, 0, [], [], now, now⟩ now hbig hL
    have hq : q = [] := by
      unfold onC at hd
      simp only [hL, Prod.mk.injEq] at hd
      exact hd.2.symm
    rw [hd] at hon
    subst hq
    obtain ⟨X, hX⟩ : ∃ X, X = newC l from_ to now := ⟨_, rfl⟩
    rw [← hX]
    refine PC_of_VC tabOk (draw_ok mixed tabOk) fn_cNew rfl ?_
    repeat' ((conv => whnf)
             first
             | with_reducible refine (Or.inl ?_ : VC _ _ _ _ _ ∨ _)
             | ((with_reducible refine (⟨fun hc => ?_, fun hc => ?_⟩ : (_ = true → _) ∧ (_ = false → _))) <;> first | exact absurd hc (by decide) | (exfalso; simp only [*, reduceCtorEq] at hc; done) | skip)
             | (refine Or.inl ?_; (conv => whnf); refine ⟨_, closed_c l hok, ?_⟩)
             | (refine Or.inl ?_; (conv => whnf); refine ⟨_, fits_c l from_ to, ?_⟩)
             | (refine Or.inl ?_; (conv => whnf); refine ⟨_, PCx_pre (hown) ?_, ?_⟩; focus ((repeat' first | exact True.intro | exact rfl | exact id | assumption | exact leRs_refl _ | ((conv => whnf); with_reducible refine And.intro ?_ ?_) | ((conv => whnf); exact True.intro)); done))
             | (refine Or.inr ?_; (conv => whnf); refine ⟨_, _, hon, ?_⟩)
             | ((with_reducible refine And.intro ?_ ?_); focus (first | rfl | exact Nat.le_of_ble_eq_true rfl | omega | (simp only [List.length_cons, List.length_nil, List.length_map, List.length_append]; omega))))
    all_goals try simp only [Bool.not_eq_true', Bool.not_eq_false'] at *
    all_goals
      simp only [newC, *, Bool.true_or, Bool.or_true, Bool.false_or, Bool.or_false, Bool.true_and, Bool.and_true, Bool.false_and, Bool.and_false, Bool.not_true, Bool.not_false, Bool.false_eq_true, ↓reduceIte] at hX
      subst hX
      repeat' first
        | exact True.intro
        | exact rfl
        | exact id
        | exact leRs_refl _
        | ((conv => whnf); with_reducible refine And.intro ?_ ?_)
        | ((conv => whnf); exact True.intro)
  | cons n0 r =>
    have hon := con1P_g ⟨l, from_, to, 0, 0, [], [], now, now⟩ now hbig n0 r hL
    rw [hd] at hon
    obtain ⟨X, hX⟩ : ∃ X, X = newC l from_ to now := ⟨_, rfl⟩
    rw [← hX]
    refine PC_of_VC tabOk (draw_ok mixed tabOk) fn_cNew rfl ?_
    repeat' ((conv => whnf)
             first
             | with_reducible refine (Or.inl ?_ : VC _ _ _ _ _ ∨ _)
             | ((with_reducible refine (⟨fun hc => ?_, fun hc => ?_⟩ : (_ = true → _) ∧ (_ = false → _))) <;> first | exact absurd hc (by decide) | (exfalso; simp only [*, reduceCtorEq] at hc; done) | skip)
             | (refine Or.inl ?_; (conv => whnf); refine ⟨_, closed_c l hok, ?_⟩)
             | (refine Or.inl ?_; (conv => whnf); refine ⟨_, fits_c l from_ to, ?_⟩)
             | (refine Or.inl ?_; (conv => whnf); refine ⟨_, PCx_pre (hown) ?_, ?_⟩; focus ((repeat' first | exact True.intro | exact rfl | exact id | assumption | exact leRs_refl _ | ((conv => whnf); with_reducible refine And.intro ?_ ?_) | ((conv => whnf); exact True.intro)); done))
             | (refine Or.inr ?_; (conv => whnf); refine ⟨_, _, hon, ?_⟩)
             | ((with_reducible refine And.intro ?_ ?_); focus (first | rfl | exact Nat.le_of_ble_eq_true rfl | omega | (simp only [List.length_cons, List.length_nil, List.length_map, List.length_append]; omega))))
    all_goals try simp only [Bool.not_eq_true', Bool.not_eq_false'] at *
    all_goals
      simp only [newC, *, Bool.true_or, Bool.or_true, Bool.false_or, Bool.or_false, Bool.true_and, Bool.and_true, Bool.false_and, Bool.and_false, Bool.not_true, Bool.not_false, Bool.false_eq_true, ↓reduceIte] at hX
      subst hX
      repeat' first
        | exact True.intro
        | exact rfl
        | exact id
        | exact leRs_refl _
        | ((conv => whnf); with_reducible refine And.intro ?_ ?_)
        | ((conv => whnf); exact True.intro)
end Go.Proofs.Ytibbgchpgfpccaa.Tb
