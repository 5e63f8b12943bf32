/-
  Contracts of functions of the program and of the document, each for every input that its premises name.
-/
import Derived.Test.YtibbgchpgfpccaaFG
set_option maxRecDepth 100000
set_option maxHeartbeats 4000000
set_option linter.unusedVariables false
set_option linter.unusedSimpArgs false
open Go Go.AX
namespace Go.Proofs.Ytibbgchpgfpccaa.Tb
theorem fn_l17place : FnOk Try.prog 46 Try.f46 := ⟨Try.func46, by kernel_rfl, by kernel_rfl, by kernel_rfl⟩
theorem l17place_c (n : Int) : PCx Try.prog 46 [ii n] (.agg [ii n, uu 1]) := by
  refine PC.le ?_
  refine PC_of_VC tabOk (draw_ok mixed tabOk) fn_l17place rfl ?_
  repeat' ((conv => whnf)
           first
           | with_reducible refine (Or.inl ?_ : VC _ _ _ _ _ ∨ _)
           | ((with_reducible refine (⟨fun hc => ?_, fun hc => ?_⟩ : (_ = true → _) ∧ (_ = false → _))) <;> first | exact absurd hc (by decide) | (exfalso; simp only [*, reduceCtorEq] at hc; done) | skip)
           | ((with_reducible refine And.intro ?_ ?_); focus (first | rfl | exact Nat.le_of_ble_eq_true rfl | omega | (simp only [List.length_cons, List.length_nil, List.length_map, List.length_append]; omega))))
  repeat' first
    | fail
    | exact True.intro
    | exact rfl
    | exact id
    | exact leRs_refl _
    | ((conv => whnf); with_reducible refine And.intro ?_ ?_)
    | ((conv => whnf); exact True.intro)
  all_goals try (conv => whnf)
theorem fn_l17three : FnOk Try.prog 44 Try.f44 := ⟨Try.func44, by kernel_rfl, by kernel_rfl, by kernel_rfl⟩
def three17 : Lg := ⟨1, 2, 2, [⟨1, [⟨7, 1⟩, ⟨8, 1⟩, ⟨9, 1⟩]⟩], 0, 0⟩
theorem l17three_c : PCx Try.prog 44 [] (.agg three17.c) := by
  refine PC.le ?_
  refine PC_of_VC tabOk (draw_ok mixed tabOk) fn_l17three rfl ?_
  repeat' ((conv => whnf)
           first
           | with_reducible refine (Or.inl ?_ : VC _ _ _ _ _ ∨ _)
           | ((with_reducible refine (⟨fun hc => ?_, fun hc => ?_⟩ : (_ = true → _) ∧ (_ = false → _))) <;> first | exact absurd hc (by decide) | (exfalso; simp only [*, reduceCtorEq] at hc; done) | skip)
           | (refine Or.inl ?_; (conv => whnf); refine ⟨_, l17place_c _, ?_⟩)
           | ((with_reducible refine And.intro ?_ ?_); focus (first | rfl | exact Nat.le_of_ble_eq_true rfl | omega | (simp only [List.length_cons, List.length_nil, List.length_map, List.length_append]; omega))))
  repeat' first
    | fail
    | exact True.intro
    | exact rfl
    | exact id
    | exact leRs_refl _
    | ((conv => whnf); with_reducible refine And.intro ?_ ?_)
    | ((conv => whnf); exact True.intro)
  all_goals try (conv => whnf)
theorem fn_l17says : FnOk Try.prog 45 Try.f45 := ⟨Try.func45, by kernel_rfl, by kernel_rfl, by kernel_rfl⟩
def says17 (code node : Int) (b : List UInt8) : Rs := ⟨⟨node, 1⟩, 3, code, 1, 2, 5, 0, b⟩
theorem l17says_c (code node : Int) (s : ByteArray) (h : s.size ≤ 140737488355328) : PCx Try.prog 45 [ii code, ii node, .sc (.string s)] (.agg (says17 code node s.data.toList).c) := by
  refine PC.le ?_
  refine PC_of_VC tabOk (draw_ok mixed tabOk) fn_l17says rfl ?_
  repeat' ((conv => whnf)
           first
           | with_reducible refine (Or.inl ?_ : VC _ _ _ _ _ ∨ _)
           | ((with_reducible refine (⟨fun hc => ?_, fun hc => ?_⟩ : (_ = true → _) ∧ (_ = false → _))) <;> first | exact absurd hc (by decide) | (exfalso; simp only [*, reduceCtorEq] at hc; done) | skip)
           | (refine Or.inl ?_; (conv => whnf); refine ⟨_, l17place_c _, ?_⟩)
           | (((with_reducible refine And.intro ?_ ?_); focus exact h))
           | ((with_reducible refine And.intro ?_ ?_); focus (first | rfl | exact Nat.le_of_ble_eq_true rfl | omega | (simp only [List.length_cons, List.length_nil, List.length_map, List.length_append]; omega))))
  repeat' first
    | fail
    | exact True.intro
    | exact rfl
    | exact id
    | exact leRs_refl _
    | ((conv => whnf); with_reducible refine And.intro ?_ ?_)
    | ((conv => whnf); exact True.intro)
  all_goals try (conv => whnf)
theorem fn_l17heavy : FnOk Try.prog 10 Try.f10 := ⟨Try.func10, by kernel_rfl, by kernel_rfl, by kernel_rfl⟩
theorem l17heavy_c (x : Lg) (l : List Cl) : PCx Try.prog 10 [.agg x.c, slC l] (bl (heavyR x l)) := by
  refine PC.le (PC_bd fn_l17heavy fun hb => ?_)
  have hb : l.length ≤ 9223372036854775807 := by
    simp only [bdL, bdP, slC, List.length_map] at hb
    exact hb.2.1
  refine PC_of_VC tabOk (draw_ok mixed tabOk) fn_l17heavy rfl ?_
  repeat' ((conv => whnf)
           first
           | with_reducible refine (Or.inl ?_ : VC _ _ _ _ _ ∨ _)
           | ((with_reducible refine (⟨fun hc => ?_, fun hc => ?_⟩ : (_ = true → _) ∧ (_ = false → _))) <;> first | exact absurd hc (by decide) | (exfalso; simp only [*, reduceCtorEq] at hc; done) | skip)
           | (refine Or.inl ?_; (conv => whnf); refine ⟨_, longFrags_c _, ?_⟩)
           | ((with_reducible refine And.intro ?_ ?_); focus (first | rfl | exact Nat.le_of_ble_eq_true rfl | omega | (simp only [List.length_cons, List.length_nil, List.length_map, List.length_append]; omega))))
  · repeat' first
      | fail
      | exact True.intro
      | exact rfl
      | exact id
      | exact leRs_refl _
      | ((conv => whnf); with_reducible refine And.intro ?_ ?_)
      | ((conv => whnf); exact True.intro)
    all_goals try (conv => whnf)
    simp only [List.length_map, decide_eq_true_eq] at hc
    simp only [heavyR]
    grind
  · repeat' first
      | fail
      | exact True.intro
      | exact rfl
      | exact id
      | exact leRs_refl _
      | ((conv => whnf); with_reducible refine And.intro ?_ ?_)
      | ((conv => whnf); exact True.intro)
    all_goals try (conv => whnf)
    simp only [heavyR, hc, Bool.true_or, Bool.or_true]
  refine ⟨{k : Nat // k ≤ l.length ∧ ∀ j (hj : j < l.length), j < k → heavyC l[j] = false}, fun ⟨k, _⟩ => ⟨[(1, .pv (slC l)), (5, .pv (ii k))], 1000000000, []⟩, fun ⟨k, _⟩ => l.length - k, ⟨⟨0, by simp⟩, ent_of ?_⟩, ?_⟩
  · repeat' first
      | fail
      | exact True.intro
      | exact rfl
      | exact id
      | exact leRs_refl _
      | ((conv => whnf); with_reducible refine And.intro ?_ ?_)
      | ((conv => whnf); exact True.intro)
    all_goals try (conv => whnf)
  rintro ⟨k, hk, hn⟩
  have hl : longF x.frags = false := hc
  repeat' ((conv => whnf)
           first
           | with_reducible refine (Or.inl ?_ : VC _ _ _ _ _ ∨ _)
           | ((with_reducible refine (⟨fun hc => ?_, fun hc => ?_⟩ : (_ = true → _) ∧ (_ = false → _))) <;> first | exact absurd hc (by decide) | (exfalso; simp only [*, reduceCtorEq] at hc; done) | skip)
           | ((with_reducible refine And.intro ?_ ?_); focus (first | rfl | exact Nat.le_of_ble_eq_true rfl | omega | (simp only [List.length_cons, List.length_nil, List.length_map, List.length_append]; omega))))
  · have hlt : k < l.length := by simpa using hc
    refine ⟨_, rowK _ _ _ hlt, ?_⟩
    repeat' ((conv => whnf)
             first
             | with_reducible refine (Or.inl ?_ : VC _ _ _ _ _ ∨ _)
             | ((with_reducible refine (⟨fun hc => ?_, fun hc => ?_⟩ : (_ = true → _) ∧ (_ = false → _))) <;> first | exact absurd hc (by decide) | (exfalso; simp only [*, reduceCtorEq] at hc; done) | skip)
             | (refine Or.inl ?_; (conv => whnf); refine ⟨_, longFrags_c _, ?_⟩)
             | ((refine ⟨_, rowK _ _ _ hlt, ?_⟩))
             | ((with_reducible refine And.intro ?_ ?_); focus (first | rfl | exact Nat.le_of_ble_eq_true rfl | omega | (simp only [List.length_cons, List.length_nil, List.length_map, List.length_append]; omega))))
    · repeat' first
        | fail
        | exact True.intro
        | exact rfl
        | exact id
        | exact leRs_refl _
        | ((conv => whnf); with_reducible refine And.intro ?_ ?_)
        | ((conv => whnf); exact True.intro)
      all_goals try (conv => whnf)
      have hh : heavyC l[k] = true := by simp only [heavyC]; grind
      have := List.any_eq_true.2 (⟨l[k], List.getElem_mem hlt, hh⟩ : ∃ x ∈ l, heavyC x = true)
      simp only [heavyR, this, Bool.or_true]
    · repeat' first
        | fail
        | exact True.intro
        | exact rfl
        | exact id
        | exact leRs_refl _
        | ((conv => whnf); with_reducible refine And.intro ?_ ?_)
        | ((conv => whnf); exact True.intro)
      all_goals try (conv => whnf)
      have hh : heavyC l[k] = true := by simp only [heavyC]; grind
      have := List.any_eq_true.2 (⟨l[k], List.getElem_mem hlt, hh⟩ : ∃ x ∈ l, heavyC x = true)
      simp only [heavyR, this, Bool.or_true]
    · have hh : heavyC l[k] = false := by simp only [heavyC]; grind
      repeat' ((conv => whnf)
               first
               | with_reducible refine (Or.inl ?_ : VC _ _ _ _ _ ∨ _)
               | ((with_reducible refine (⟨fun hc => ?_, fun hc => ?_⟩ : (_ = true → _) ∧ (_ = false → _))) <;> first | exact absurd hc (by decide) | (exfalso; simp only [*, reduceCtorEq] at hc; done) | skip)
               | ((with_reducible refine And.intro ?_ ?_); focus (first | rfl | exact Nat.le_of_ble_eq_true rfl | omega | (simp only [List.length_cons, List.length_nil, List.length_map, List.length_append]; omega))))
      refine ⟨⟨k + 1, hlt, step_lt hn fun _ => hh⟩, dec_lt hlt, ent_of ?_⟩
      repeat' first
        | fail
        | exact True.intro
        | exact rfl
        | exact id
        | exact leRs_refl _
        | ((conv => whnf); with_reducible refine And.intro ?_ ?_)
        | ((conv => whnf); exact True.intro)
      all_goals try (conv => whnf)
      exact wrapI (by omega) (by omega)
  · have hk : k = l.length := by simp at hc; omega
    subst hk
    repeat' first
      | fail
      | exact True.intro
      | exact rfl
      | exact id
      | exact leRs_refl _
      | ((conv => whnf); with_reducible refine And.intro ?_ ?_)
      | ((conv => whnf); exact True.intro)
    all_goals try (conv => whnf)
    have h1 : (l.any heavyC) = false := by
      rw [List.any_eq_false]
      intro x hx
      have := all_of (q := fun f : Cl => heavyC f = false) hn x hx
      simpa using this
    simp only [heavyR, h1, hl, Bool.or_false]
    grind
/-! ### the chapter's examples -/
def aw0 : Ft := ⟨1, 2, [⟨8, 1⟩, ⟨9, 1⟩], 0, 3, 5, 0, []⟩
def aw1 : Ft := ⟨1, 2, [⟨8, 1⟩, ⟨9, 1⟩], 1, 3, 5, 0, []⟩
def aw2 : Ft := ⟨1, 2, [⟨8, 1⟩, ⟨9, 1⟩], 0, 6, 5, 0, []⟩
def aw3 : Ft := ⟨1, 2, [⟨8, 1⟩, ⟨9, 1⟩], 0, 6, 5, 1, [120]⟩
def rq17 (n : Int) : Rq := ⟨⟨n, 1⟩, 3, 1, 2, 5, 0, 0, [], []⟩
theorem awn : newP three17 2 5 3 = (aw0, [rq17 8], 0) := by decide
theorem awt1 : takeP aw0 3 (says17 3 9 []) = (aw0, []) := by decide
theorem awt2 : takeP aw0 3 (says17 3 8 []) = (aw1, [rq17 9]) := by decide
theorem awk1 : tickP aw1 5 = (aw1, []) := by decide
theorem awk2 : tickP aw1 6 = (aw2, [rq17 8]) := by decide
theorem awt3 : takeP aw2 6 (says17 0 9 [120]) = (aw3, []) := by decide
theorem fn_l17awake : FnOk Try.prog 11 Try.f11 := ⟨Try.func11, by kernel_rfl, by kernel_rfl, by kernel_rfl⟩
theorem l17awake_c : PCx Try.prog 11 [] (bl true) := by
  refine PC.le ?_
  have sm0 : Ft.sm aw0 := by constructor <;> decide
  have sm1 : Ft.sm aw1 := by constructor <;> decide
  have sm2 : Ft.sm aw2 := by constructor <;> decide
  have c0 := rNew_c three17 2 5 3 (by intro x hx; simp [three17] at hx; subst hx; decide) (by intro x hx; simp [three17] at hx; subst hx; constructor <;> decide) (by decide)
  have c1 := rTake_c aw0 3 (says17 3 9 []) sm0 (by decide) (by decide)
  have c2 := rTake_c aw0 3 (says17 3 8 []) sm0 (by decide) (by decide)
  have c3 := rTick_c aw1 5 sm1 (by decide) (by decide) (by decide)
  have c4 := rTick_c aw1 6 sm1 (by decide) (by decide) (by decide)
  have c5 := rTake_c aw2 6 (says17 0 9 [120]) sm2 (by decide) (by decide)
  rw [awn] at c0
  rw [awt1] at c1
  rw [awt2] at c2
  rw [awk1] at c3
  rw [awk2] at c4
  rw [awt3] at c5
  refine PC_of_VC tabOk (draw_ok mixed tabOk) fn_l17awake rfl ?_
  repeat' ((conv => whnf)
           first
           | with_reducible refine (Or.inl ?_ : VC _ _ _ _ _ ∨ _)
           | ((with_reducible refine (⟨fun hc => ?_, fun hc => ?_⟩ : (_ = true → _) ∧ (_ = false → _))) <;> first | exact absurd hc (by decide) | (exfalso; simp only [*, reduceCtorEq] at hc; done) | skip)
           | (refine Or.inl ?_; (conv => whnf); refine ⟨_, l17three_c, ?_⟩)
           | (refine Or.inl ?_; (conv => whnf); refine ⟨_, l17place_c _, ?_⟩)
           | (refine Or.inl ?_; (conv => whnf); refine ⟨_, c0, ?_⟩)
           | (refine Or.inl ?_; (conv => whnf); refine ⟨_, PCx_pre (c1) ?_, ?_⟩; focus ((repeat' first | exact True.intro | exact rfl | exact id | assumption | exact leRs_refl _ | ((conv => whnf); with_reducible refine And.intro ?_ ?_) | ((conv => whnf); exact True.intro)); done))
           | (refine Or.inl ?_; (conv => whnf); refine ⟨_, PCx_pre (c2) ?_, ?_⟩; focus ((repeat' first | exact True.intro | exact rfl | exact id | assumption | exact leRs_refl _ | ((conv => whnf); with_reducible refine And.intro ?_ ?_) | ((conv => whnf); exact True.intro)); done))
           | (refine Or.inl ?_; (conv => whnf); refine ⟨_, PCx_pre (c3) ?_, ?_⟩; focus ((repeat' first | exact True.intro | exact rfl | exact id | assumption | exact leRs_refl _ | ((conv => whnf); with_reducible refine And.intro ?_ ?_) | ((conv => whnf); exact True.intro)); done))
           | (refine Or.inl ?_; (conv => whnf); refine ⟨_, PCx_pre (c4) ?_, ?_⟩; focus ((repeat' first | exact True.intro | exact rfl | exact id | assumption | exact leRs_refl _ | ((conv => whnf); with_reducible refine And.intro ?_ ?_) | ((conv => whnf); exact True.intro)); done))
           | (refine Or.inl ?_; (conv => whnf); refine ⟨_, PCx_pre (c5) ?_, ?_⟩; focus ((repeat' first | exact True.intro | exact rfl | exact id | assumption | exact leRs_refl _ | ((conv => whnf); with_reducible refine And.intro ?_ ?_) | ((conv => whnf); exact True.intro)); done))
           | (refine Or.inl ?_; (conv => whnf); refine ⟨_, l17says_c _ _ _ (by decide), ?_⟩)
           | ((refine ⟨_, rfl, ?_⟩))
           | ((with_reducible refine And.intro ?_ ?_); focus (first | rfl | exact Nat.le_of_ble_eq_true rfl | omega | (simp only [List.length_cons, List.length_nil, List.length_map, List.length_append]; omega))))
  conv => whnf
  show ((⟨[120].toArray⟩ : ByteArray).toList == (⟨[120].toArray⟩ : ByteArray).toList) = true
  simp
end Go.Proofs.Ytibbgchpgfpccaa.Tb
