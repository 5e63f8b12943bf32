/-
  Contracts of functions of the program and of the document, each for every input that its premises name.
-/
import Derived.Test.YtibbgchpgfpccaaFC
import Derived.Test.YtibbgchpgfpccaaAd
set_option maxRecDepth 100000
set_option maxHeartbeats 4000000
set_option linter.unusedVariables false
set_option linter.unusedSimpArgs false
open Go Go.AX
namespace Go.Proofs.Ytibbgchpgfpccaa.Tb
/-! ### copier -/
theorem fn_gone1 : FnOk Try.prog 133 Try.f133 := ⟨Try.func133, by kernel_rfl, by kernel_rfl, by kernel_rfl⟩
theorem gone1_c (p x : Pl) : PCx Try.prog 133 ([] ++ ([.agg x.c] ++ [.eptr p.c 0])) (bl (x.node == p.node && x.serial != p.serial)) := by
  refine PC.le ?_
  refine PC_of_VC tabOk (draw_ok mixed tabOk) fn_gone1 rfl ?_
  repeat' ((conv => whnf)
           first
           | with_reducible refine (Or.inl ?_ : VC _ _ _ _ _ ∨ _)
           | ((with_reducible refine (⟨fun hc => ?_, fun hc => ?_⟩ : (_ = true → _) ∧ (_ = false → _))) <;> first | exact absurd hc (by decide) | (exfalso; simp only [*, reduceCtorEq] at hc; done) | skip)
           | ((with_reducible refine And.intro ?_ ?_); focus (first | rfl | exact Nat.le_of_ble_eq_true rfl | omega | (simp only [List.length_cons, List.length_nil, List.length_map, List.length_append]; omega))))
  all_goals
    repeat' first
      | fail
      | exact True.intro
      | exact rfl
      | exact id
      | exact leRs_refl _
      | ((conv => whnf); with_reducible refine And.intro ?_ ?_)
      | ((conv => whnf); exact True.intro)
    all_goals try (conv => whnf)
    all_goals simp_all [bne]
theorem fn_gone : FnOk Try.prog 103 Try.f103 := ⟨Try.func103, by kernel_rfl, by kernel_rfl, by kernel_rfl⟩
theorem gone_c (p : Pl) (l : List Pl) : PCx Try.prog 103 [.agg p.c, slP l] (bl (cGone p l)) := by
  refine PC.le ?_
  refine PC_of_VC tabOk (draw_ok mixed tabOk) fn_gone rfl ?_
  repeat' ((conv => whnf)
           first
           | with_reducible refine (Or.inl ?_ : VC _ _ _ _ _ ∨ _)
           | ((with_reducible refine (⟨fun hc => ?_, fun hc => ?_⟩ : (_ = true → _) ∧ (_ = false → _))) <;> first | exact absurd hc (by decide) | (exfalso; simp only [*, reduceCtorEq] at hc; done) | skip)
           | (refine Or.inl ?_; (conv => whnf); refine ⟨_, containsFuncPlace_c _ _ _ _ _ fun x _ => gone1_c p x, ?_⟩)
           | ((with_reducible refine And.intro ?_ ?_); focus (first | rfl | exact Nat.le_of_ble_eq_true rfl | omega | (simp only [List.length_cons, List.length_nil, List.length_map, List.length_append]; omega))))
  repeat' first
    | fail
    | exact True.intro
    | exact rfl
    | exact id
    | exact leRs_refl _
    | ((conv => whnf); with_reducible refine And.intro ?_ ?_)
    | ((conv => whnf); exact True.intro)
  all_goals try (conv => whnf)
theorem fn_fits1 : FnOk Try.prog 105 Try.f105 := ⟨Try.func105, by kernel_rfl, by kernel_rfl, by kernel_rfl⟩
theorem fits1_c (to from_ x : Pl) : PCx Try.prog 105 ([] ++ ([.agg x.c] ++ [.eptr to.c 0, .eptr from_.c 0])) (bl (x.node == to.node && x != from_)) := by
  refine PC.le ?_
  refine PC_of_VC tabOk (draw_ok mixed tabOk) fn_fits1 rfl ?_
  repeat' ((conv => whnf)
           first
           | with_reducible refine (Or.inl ?_ : VC _ _ _ _ _ ∨ _)
           | ((with_reducible refine (⟨fun hc => ?_, fun hc => ?_⟩ : (_ = true → _) ∧ (_ = false → _))) <;> first | exact absurd hc (by decide) | (exfalso; simp only [*, reduceCtorEq] at hc; done) | skip)
           | ((with_reducible refine And.intro ?_ ?_); focus (first | rfl | exact Nat.le_of_ble_eq_true rfl | omega | (simp only [List.length_cons, List.length_nil, List.length_map, List.length_append]; omega))))
  all_goals
    repeat' first
      | fail
      | exact True.intro
      | exact rfl
      | exact id
      | exact leRs_refl _
      | ((conv => whnf); with_reducible refine And.intro ?_ ?_)
      | ((conv => whnf); exact True.intro)
    all_goals try (conv => whnf)
    all_goals simp_all [bne, ← Pl.beq, Bool.not_and]
theorem fn_closed : FnOk Try.prog 64 Try.f64 := ⟨Try.func64, by kernel_rfl, by kernel_rfl, by kernel_rfl⟩
theorem closed_c (l : Lg) (h : l.ok) : PCx Try.prog 64 [.agg l.c] (bl (cClosed l)) := by
  refine PC.le ?_
  refine PC_of_VC tabOk (draw_ok mixed tabOk) fn_closed rfl ?_
  repeat' ((conv => whnf)
           first
           | with_reducible refine (Or.inl ?_ : VC _ _ _ _ _ ∨ _)
           | ((with_reducible refine (⟨fun hc => ?_, fun hc => ?_⟩ : (_ = true → _) ∧ (_ = false → _))) <;> first | exact absurd hc (by decide) | (exfalso; simp only [*, reduceCtorEq] at hc; done) | skip)
           | (refine Or.inl ?_; (conv => whnf); refine ⟨_, mayLedger_c _ h, ?_⟩)
           | ((with_reducible refine And.intro ?_ ?_); focus (first | rfl | exact Nat.le_of_ble_eq_true rfl | omega | (simp only [List.length_cons, List.length_nil, List.length_map, List.length_append]; omega))))
  all_goals
    repeat' first
      | fail
      | exact True.intro
      | exact rfl
      | exact id
      | exact leRs_refl _
      | ((conv => whnf); with_reducible refine And.intro ?_ ?_)
      | ((conv => whnf); exact True.intro)
    all_goals try (conv => whnf)
    all_goals simp_all [cClosed]
theorem fn_cloneFrag : FnOk Try.prog 106 Try.f106 := ⟨Try.func106, by kernel_rfl, by kernel_rfl, by kernel_rfl⟩
theorem cloneFrag_g (l : List Fr) (h : l.length * 32 ≤ 140737488355328) : GCx Try.prog 106 [.pv (slF l)] [] (.slw 1001 0) [(1001, .arr 106 0 2 (l.map Fr.c))] := by
  refine GC_nn [] ?_ fun h0 => ?_
  all_goals
    refine GC_of_VC tabOk (draw_ok mixed tabOk) fn_cloneFrag rfl ?_
    repeat' ((conv => whnf)
             first
             | with_reducible refine (Or.inl ?_ : VC _ _ _ _ _ ∨ _)
             | ((with_reducible refine (⟨fun hc => ?_, fun hc => ?_⟩ : (_ = true → _) ∧ (_ = false → _))) <;> first | exact absurd hc (by decide) | (exfalso; simp only [*, reduceCtorEq] at hc; done) | skip)
             | ((with_reducible refine And.intro ?_ ?_); focus (first | rfl | exact Nat.le_of_ble_eq_true rfl | omega | (simp only [List.length_cons, List.length_nil, List.length_map, List.length_append]; omega))))
    refine ⟨_, _, ⟨rfl, rfl⟩, ?_⟩
    repeat' first
      | fail
      | exact True.intro
      | exact rfl
      | exact id
      | exact leRs_refl _
      | ((conv => whnf); with_reducible refine And.intro ?_ ?_)
      | ((conv => whnf); exact True.intro)
    all_goals try (conv => whnf)
  exact h0
end Go.Proofs.Ytibbgchpgfpccaa.Tb
