/-
  Contracts of functions of the program and of the document, each for every input that its premises name.
-/
import Derived.Test.YtibbgchpgfpccaaFC
set_option maxRecDepth 100000
set_option maxHeartbeats 4000000
set_option linter.unusedVariables false
set_option linter.unusedSimpArgs false
open Go Go.AX
namespace Go.Proofs.Ytibbgchpgfpccaa.Tb
theorem asked_c' (f : Ft) (x : PV) : PCx Try.prog 52 [.eptr [uu f.ledger, uu f.n, slP f.set, ii f.at_, uu f.since, uu f.tag, ii f.done, bys f.body, x] 0] (.agg (askedP f).c) := asked_c f x
theorem fn_rTake : FnOk Try.prog 16 Try.f16 := ⟨Try.func16, by kernel_rfl, by kernel_rfl, by kernel_rfl⟩
theorem rTake_c (f : Ft) (now : Int) (r : Rs) (h : Ft.sm f) (hr : r.body.length ≤ 140737488355328) (ha : -9223372036854775808 ≤ f.at_ ∧ f.at_ < 9223372036854775807) :
    PCx Try.prog 16 [.agg f.c, uu now, .agg r.c] (.tup [.agg (takeP f now r).1.c, slR (takeP f now r).2]) := by
  refine PC.le ?_
  have hw : IntKind.i64.wrap (f.at_ + 1) = f.at_ + 1 := wrapI (by omega) (by omega)
  obtain ⟨X, hX⟩ : ∃ X, X = takeP f now r := ⟨_, rfl⟩
  rw [← hX]
  refine PC_of_VC tabOk (draw_ok mixed tabOk) fn_rTake rfl ?_
  rcases askP_cases f (f.at_ + 1) now with ⟨hs, he⟩ | ⟨hs, he⟩
  · repeat' ((conv => whnf)
             first
             | with_reducible refine (Or.inl ?_ : VC _ _ _ _ _ ∨ _)
             | ((with_reducible refine (⟨fun hc => ?_, fun hc => ?_⟩ : (_ = true → _) ∧ (_ = false → _))) <;> first | exact absurd hc (by decide) | (exfalso; simp only [*, reduceCtorEq] at hc; done) | skip)
             | (refine Or.inr ?_; (conv => whnf); refine ⟨_, _, rown_g f h, ?_⟩)
             | (refine Or.inl ?_; (conv => whnf); refine ⟨_, asked_c' f _, ?_⟩)
             | (refine Or.inl ?_; (conv => whnf); refine ⟨_, containsPlace_c _ _ _, ?_⟩)
             | (refine Or.inl ?_; (conv => whnf); refine ⟨_, cloneByte_c _ (by omega), ?_⟩)
             | (refine Or.inr ?_; (conv => whnf); refine ⟨_, _, GCx_pre (ask0_g f (f.at_ + 1) now hs.out) ?_, ?_⟩; focus ((repeat' first | exact True.intro | exact rfl | exact id | assumption | exact leRs_refl _ | ((conv => whnf); with_reducible refine And.intro ?_ ?_) | ((conv => whnf); exact True.intro)); done))
             | ((with_reducible refine And.intro ?_ ?_); focus (first | rfl | exact Nat.le_of_ble_eq_true rfl | omega | (simp only [List.length_cons, List.length_nil, List.length_map, List.length_append]; omega))))
    all_goals
      simp only [takeP, *, Bool.true_or, Bool.or_true, Bool.false_or, Bool.or_false, Bool.true_and, Bool.and_true, Bool.false_and, Bool.and_false, Bool.not_true, Bool.not_false, Bool.false_eq_true, ↓reduceIte] at hX
      subst hX
      repeat' first
        | exact True.intro
        | exact rfl
        | exact id
        | exact leRs_refl _
        | ((conv => whnf); with_reducible refine And.intro ?_ ?_)
        | ((conv => whnf); exact True.intro)
  · repeat' ((conv => whnf)
             first
             | with_reducible refine (Or.inl ?_ : VC _ _ _ _ _ ∨ _)
             | ((with_reducible refine (⟨fun hc => ?_, fun hc => ?_⟩ : (_ = true → _) ∧ (_ = false → _))) <;> first | exact absurd hc (by decide) | (exfalso; simp only [*, reduceCtorEq] at hc; done) | skip)
             | (refine Or.inr ?_; (conv => whnf); refine ⟨_, _, rown_g f h, ?_⟩)
             | (refine Or.inl ?_; (conv => whnf); refine ⟨_, asked_c' f _, ?_⟩)
             | (refine Or.inl ?_; (conv => whnf); refine ⟨_, containsPlace_c _ _ _, ?_⟩)
             | (refine Or.inl ?_; (conv => whnf); refine ⟨_, cloneByte_c _ (by omega), ?_⟩)
             | (refine Or.inr ?_; (conv => whnf); refine ⟨_, _, GCx_pre (ask1_g f (f.at_ + 1) now hs.out) ?_, ?_⟩; focus ((repeat' first | exact True.intro | exact rfl | exact id | assumption | exact leRs_refl _ | ((conv => whnf); with_reducible refine And.intro ?_ ?_) | ((conv => whnf); exact True.intro)); done))
             | ((with_reducible refine And.intro ?_ ?_); focus (first | rfl | exact Nat.le_of_ble_eq_true rfl | omega | (simp only [List.length_cons, List.length_nil, List.length_map, List.length_append]; omega))))
    all_goals
      simp only [takeP, *, Bool.true_or, Bool.or_true, Bool.false_or, Bool.or_false, Bool.true_and, Bool.and_true, Bool.false_and, Bool.and_false, Bool.not_true, Bool.not_false, Bool.false_eq_true, ↓reduceIte] at hX
      subst hX
      repeat' first
        | exact True.intro
        | exact rfl
        | exact id
        | exact leRs_refl _
        | ((conv => whnf); with_reducible refine And.intro ?_ ?_)
        | ((conv => whnf); exact True.intro)
end Go.Proofs.Ytibbgchpgfpccaa.Tb
