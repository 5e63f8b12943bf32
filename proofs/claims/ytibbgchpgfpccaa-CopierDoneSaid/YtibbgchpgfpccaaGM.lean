/-
  Contracts of functions of the program and of the document, each for every input that its premises name.
-/
import Derived.Test.YtibbgchpgfpccaaGL
import Derived.Test.YtibbgchpgfpccaaGJ
import Derived.Test.YtibbgchpgfpccaaAd
set_option maxRecDepth 100000
set_option maxHeartbeats 4000000
set_option linter.unusedVariables false
set_option linter.unusedSimpArgs false
open Go Go.AX
namespace Go.Proofs.Ytibbgchpgfpccaa.Tb
/-! ### the chapter's examples -/
def k1 : Cp := ⟨ex18, ⟨8, 1⟩, ⟨8, 2⟩, 1, 1, [], [], 5, 5⟩
def k2 : Cp := ⟨ex18, ⟨8, 1⟩, ⟨8, 2⟩, 2, 1, [], [120], 5, 6⟩
def k3 : Cp := ⟨ex18, ⟨8, 1⟩, ⟨8, 2⟩, 1, 2, [], [], 6, 6⟩
def k4 : Cp := ⟨ex18, ⟨8, 1⟩, ⟨8, 2⟩, 2, 2, [], [121], 6, 6⟩
def k5 : Cp := ⟨ex18, ⟨8, 1⟩, ⟨8, 2⟩, 3, 0, [], [], 6, 6⟩
theorem ex_ok : ex18.ok := by
  intro x hx
  simp only [ex18, List.mem_singleton] at hx
  subst hx
  simp
theorem ex_frs : frsOk ex18.frags := by
  intro x hx
  simp only [ex18, List.mem_singleton] at hx
  subst hx
  exact ⟨by decide, by decide, by simp⟩
theorem ex_may : mayLg ex18 = true := by decide +kernel
theorem ex_set (n : Int) : (setOf ex18.frags ex18.w n).length ≤ 1000000 := Nat.le_trans (setOf_le5 ex_may n) (by decide)
theorem ex_sm (p n : Int) (b : List UInt8) (u v : Int) (h : b.length ≤ 1) : Cp.sm ⟨ex18, ⟨8, 1⟩, ⟨8, 2⟩, p, n, [], b, u, v⟩ := ⟨by simp, by simp only; omega, by simp [ex18], ex_ok⟩
theorem ex_big (p n : Int) (b : List UInt8) (u v : Int) (h : 0 ≤ n ∧ n ≤ 10) : Cp.big ⟨ex18, ⟨8, 1⟩, ⟨8, 2⟩, p, n, [], b, u, v⟩ := ⟨ex_frs, ex_ok, by simp only; omega, ex_set⟩
theorem ex_had : PCx Try.prog 59 [.agg ex18.c, .agg [ii 8, uu 1]] (slU [1, 2]) := by
  have h := cHad_c ex18 ⟨8, 1⟩ ex_ok ex_frs
  have e : hadL ex18 ⟨8, 1⟩ 0 = [1, 2] := by decide +kernel
  rw [e] at h
  exact h
theorem ex_new : PCx Try.prog 30 [.agg ex18.c, .agg [ii 8, uu 1], .agg [ii 8, uu 2], uu 5] (.tup [.agg k1.c, slR [⟨⟨7, 1⟩, 3, 1, 1, 0, 0, 0, [], []⟩], ii 0]) := by
  have h := cNew_c ex18 ⟨8, 1⟩ ⟨8, 2⟩ 5 ex_ok ex_frs (by decide) ex_set
  have e : newC ex18 ⟨8, 1⟩ ⟨8, 2⟩ 5 = (k1, [⟨⟨7, 1⟩, 3, 1, 1, 0, 0, 0, [], []⟩], 0) := by decide +kernel
  rw [e] at h
  exact h
theorem ex_take1 : PCx Try.prog 33 [.agg k1.c, uu 6, .agg (⟨⟨7, 1⟩, 3, 0, 1, 1, 0, 0, [120]⟩ : Rs).c] (.tup [.agg k2.c, slR [⟨⟨8, 2⟩, 1, 1, 1, 0, 3, 1, [120], []⟩]]) := by
  have h := cTake_c k1 6 ⟨⟨7, 1⟩, 3, 0, 1, 1, 0, 0, [120]⟩ (ex_sm _ _ _ _ _ (by simp)) (ex_big _ _ _ _ _ (by decide)) (by simp) (by decide)
  have e : takeC k1 6 ⟨⟨7, 1⟩, 3, 0, 1, 1, 0, 0, [120]⟩ = (k2, [⟨⟨8, 2⟩, 1, 1, 1, 0, 3, 1, [120], []⟩]) := by decide +kernel
  rw [e] at h
  exact h
theorem ex_take2 : PCx Try.prog 33 [.agg k2.c, uu 6, .agg (⟨⟨8, 2⟩, 1, 0, 1, 1, 0, 0, []⟩ : Rs).c] (.tup [.agg k3.c, slR [⟨⟨9, 1⟩, 3, 1, 2, 0, 0, 0, [], []⟩]]) := by
  have h := cTake_c k2 6 ⟨⟨8, 2⟩, 1, 0, 1, 1, 0, 0, []⟩ (ex_sm _ _ _ _ _ (by simp)) (ex_big _ _ _ _ _ (by decide)) (by simp) (by decide)
  have e : takeC k2 6 ⟨⟨8, 2⟩, 1, 0, 1, 1, 0, 0, []⟩ = (k3, [⟨⟨9, 1⟩, 3, 1, 2, 0, 0, 0, [], []⟩]) := by decide +kernel
  rw [e] at h
  exact h
theorem ex_take3 : PCx Try.prog 33 [.agg k3.c, uu 6, .agg (⟨⟨9, 1⟩, 3, 0, 1, 2, 0, 0, [121]⟩ : Rs).c] (.tup [.agg k4.c, slR [⟨⟨8, 2⟩, 1, 1, 2, 0, 3, 1, [121], []⟩]]) := by
  have h := cTake_c k3 6 ⟨⟨9, 1⟩, 3, 0, 1, 2, 0, 0, [121]⟩ (ex_sm _ _ _ _ _ (by simp)) (ex_big _ _ _ _ _ (by decide)) (by simp) (by decide)
  have e : takeC k3 6 ⟨⟨9, 1⟩, 3, 0, 1, 2, 0, 0, [121]⟩ = (k4, [⟨⟨8, 2⟩, 1, 1, 2, 0, 3, 1, [121], []⟩]) := by decide +kernel
  rw [e] at h
  exact h
theorem ex_take4 : PCx Try.prog 33 [.agg k4.c, uu 6, .agg (⟨⟨8, 2⟩, 1, 0, 1, 2, 0, 0, []⟩ : Rs).c] (.tup [.agg k5.c, slR []]) := by
  have h := cTake_c k4 6 ⟨⟨8, 2⟩, 1, 0, 1, 2, 0, 0, []⟩ (ex_sm _ _ _ _ _ (by simp)) (ex_big _ _ _ _ _ (by decide)) (by simp) (by decide)
  have e : takeC k4 6 ⟨⟨8, 2⟩, 1, 0, 1, 2, 0, 0, []⟩ = (k5, []) := by decide +kernel
  rw [e] at h
  exact h
theorem ex_find : PCx Try.prog 61 [.agg [uu 0, uu 0, nilS, .sl false 6 [ex18.c], nilS], slP [⟨7, 1⟩, ⟨8, 2⟩, ⟨9, 1⟩]] (.tup [uu 1, .agg [ii 8, uu 1], .agg [ii 8, uu 2], bl true]) :=
  cFind1_c ex18 1 ⟨7, 1⟩ ⟨8, 1⟩ [⟨9, 1⟩] [⟨7, 1⟩, ⟨8, 2⟩, ⟨9, 1⟩] 1 (by decide) (by decide) rfl (by decide) (by decide) (by decide +kernel) (by decide)
theorem ex_fits : PCx Try.prog 63 [.agg ex18.c, .agg [ii 8, uu 1], .agg [ii 9, uu 2]] (bl false) := by
  have h := fits_c ex18 ⟨8, 1⟩ ⟨9, 2⟩
  have e : cFits ex18 ⟨8, 1⟩ ⟨9, 2⟩ = false := by decide +kernel
  rw [e] at h
  exact h
theorem fn_l18awake : FnOk Try.prog 29 Try.f29 := ⟨Try.func29, by kernel_rfl, by kernel_rfl, by kernel_rfl⟩
theorem l18awake_c : PCx Try.prog 29 [] (bl true) := by
  refine PC.le ?_
  refine PC_of_VC tabOk (draw_ok mixed tabOk) fn_l18awake rfl ?_
  repeat' ((conv => whnf)
           first
           | with_reducible refine (Or.inl ?_ : VC _ _ _ _ _ ∨ _)
           | ((with_reducible refine (⟨fun hc => ?_, fun hc => ?_⟩ : (_ = true → _) ∧ (_ = false → _))) <;> first | exact absurd hc (by decide) | (exfalso; simp only [*, reduceCtorEq] at hc; done) | skip)
           | (refine Or.inl ?_; (conv => whnf); refine ⟨_, l18example_c, ?_⟩)
           | (refine Or.inl ?_; (conv => whnf); refine ⟨_, l18place_c _ _, ?_⟩)
           | (refine Or.inl ?_; (conv => whnf); refine ⟨_, l18says_c ⟨7, 1⟩ _ _ _ _ (by decide), ?_⟩)
           | (refine Or.inl ?_; (conv => whnf); refine ⟨_, l18says_c ⟨8, 2⟩ _ _ _ _ (by decide), ?_⟩)
           | (refine Or.inl ?_; (conv => whnf); refine ⟨_, l18says_c ⟨9, 1⟩ _ _ _ _ (by decide), ?_⟩)
           | (refine Or.inl ?_; (conv => whnf); refine ⟨_, ex_had, ?_⟩)
           | (refine Or.inl ?_; (conv => whnf); refine ⟨_, ex_find, ?_⟩)
           | (refine Or.inl ?_; (conv => whnf); refine ⟨_, ex_new, ?_⟩)
           | (refine Or.inl ?_; (conv => whnf); refine ⟨_, ex_take1, ?_⟩)
           | (refine Or.inl ?_; (conv => whnf); refine ⟨_, ex_take2, ?_⟩)
           | (refine Or.inl ?_; (conv => whnf); refine ⟨_, ex_take3, ?_⟩)
           | (refine Or.inl ?_; (conv => whnf); refine ⟨_, ex_take4, ?_⟩)
           | (refine Or.inl ?_; (conv => whnf); refine ⟨_, ex_fits, ?_⟩)
           | ((refine ⟨_, rfl, ?_⟩))
           | ((with_reducible refine And.intro ?_ ?_); focus (first | rfl | exact Nat.le_of_ble_eq_true rfl | omega | (simp only [List.length_cons, List.length_nil, List.length_map, List.length_append]; omega))))
  all_goals
    repeat' first
      | fail
      | exact True.intro
      | exact rfl
      | exact id
      | exact leRs_refl _
      | ((conv => whnf); with_reducible refine And.intro ?_ ?_)
      | ((conv => whnf); exact True.intro)
    all_goals try (conv => whnf)
  all_goals (exfalso; simp only [ByteArray.toList_mk, BEq.rfl, reduceCtorEq] at *)
end Go.Proofs.Ytibbgchpgfpccaa.Tb
