/-
  Contracts of functions of the program and of the document, each for every input that its premises name.
-/
import Derived.Test.YtgblabmhgdiicaaGreatSB
set_option linter.unusedSectionVars false
set_option maxRecDepth 100000
set_option maxHeartbeats 4000000
set_option linter.unusedVariables false
set_option linter.unusedSimpArgs false
open Go Go.AX Go.Sort
namespace Go.Proofs.YtgblabmhgdiicaaGreat.Tb
theorem fn_uHeap : FnOk Tryz.prog 79 Tryz.f79 := ⟨Tryz.func79, by kernel_rfl, by kernel_rfl, by kernel_rfl⟩
theorem uHeap_g (A : Array Int) (a b : Nat) (hab : a < b) (hb : b ≤ A.size) (hs : A.size < 4611686018427387904) :
    GCx Tryz.prog 79 [.slw 1 0, .pv (ii a), .pv (ii b)] [(1, .arr 22 0 1 (uA A))] (.pv (.tup [])) [(1, .arr 22 0 1 (uA (heapSort ltInt A a b)))] := by
  obtain ⟨X, hX⟩ : ∃ X, heapSort ltInt A a b = X := ⟨_, rfl⟩
  rw [hX]
  unfold heapSort at hX
  obtain ⟨m, rfl⟩ : ∃ m, b = a + m := ⟨b - a, by omega⟩
  rw [show a + m - a = m from by omega] at hX
  have w1 : IntKind.i64.wrap (((a + m : Nat) : Int) - (a : Int)) = (m : Int) := by rw [wrapI (by omega) (by omega)]; omega
  have w2 : IntKind.i64.wrap ((m : Int) - 1) = ((m - 1 : Nat) : Int) := by rw [wrapI (by omega) (by omega)]; omega
  have w3 : Int.tdiv ((m - 1 : Nat) : Int) 2 = (((m - 1) / 2 : Nat) : Int) := by rw [Int.tdiv_eq_ediv_of_nonneg (by omega)]; rfl
  refine GC_of_VC tabOk (draw_ok mixed tabOk) fn_uHeap rfl ?_
  repeat' ((conv => whnf); first | with_reducible refine zol ?_ | ((with_reducible refine fk (fun hc => ?_) fun hc => ?_) <;> first | exact absurd hc (by decide) | (exfalso; simp only [*, reduceCtorEq] at hc; done) | skip) | rewrite [w1] | rewrite [w2] | rewrite [w3] | ((with_reducible apply And.intro); focus (first | rfl | exact znb rfl | omega | (simp only [zlc, zln, zlm, zla]; omega))))
  refine ⟨{p : Nat × Array Int // p.2.size = A.size ∧ heapPop ltInt a m (heapBuild ltInt m a p.1 p.2) = X ∧ p.1 ≤ m}, fun ⟨(k, D), _⟩ => ⟨[(0, .slw 1 0), (6, .pv (ii a)), (7, .pv (ii 0)), (8, .pv (ii m)), (9, .pv (ii ((k : Int) - 1)))], 1000000000, [(1, .arr 22 0 1 (uA D))]⟩, fun ⟨(k, _), _⟩ => k, ⟨⟨((m - 1) / 2 + 1, A), rfl, hX, by omega⟩, ent_of ?_⟩, ?_⟩
  · repeat' first
      | fail
      | with_reducible exact True.intro
      | with_reducible exact rfl
      | with_reducible exact leRs_refl _
      | ((conv => whnf); with_reducible apply And.intro)
      | ((conv => whnf); with_reducible exact True.intro)
      | exact rfl
      | exact fun h => h
      | exact leRs_refl _
    all_goals try (conv => whnf)
    all_goals (rw [wrapI (by omega) (by omega)]; omega)
  clear hX w3
  rintro ⟨⟨k, D⟩, h1, h2, h3⟩
  simp only at h1 h2 h3
  cases k with
  | succ k =>
    have wk : ((k + 1 : Nat) : Int) - 1 = (k : Int) := by omega
    have d0 : decide ((k : Int) ≥ 0) = true := by simp only [zdt]; omega
    repeat' ((conv => whnf); first | with_reducible refine zol ?_ | ((with_reducible refine fk (fun hc => ?_) fun hc => ?_) <;> first | exact absurd hc (by decide) | (exfalso; simp only [*, reduceCtorEq] at hc; done) | skip) | rewrite [wk] | (refine zlr ?_; (conv => whnf); refine ⟨_, _, GCx_pre (uSift_g D k m a (by omega) (by omega) (by omega)) ?_, ?_⟩; focus ((repeat' first | (with_reducible first | exact ⟨⟩ | exact rfl | exact lr _) | ((conv => whnf); with_reducible first | apply And.intro | exact ⟨⟩) | exact rfl | exact fun h => h | assumption | exact lr _); done)) | ((with_reducible apply And.intro); focus (first | rfl | exact znb rfl | omega | (simp only [zlc, zln, zlm, zla]; omega))))
    refine ⟨⟨(k, siftDown ltInt m a k D), by rw [ax_sizeSift _ _ _ _ _ _ (Nat.le_refl _)]; exact h1, h2, by omega⟩, Nat.lt_succ_self _, ent_of ?_⟩
    repeat' first | (with_reducible first | exact ⟨⟩ | exact rfl | exact lr _) | ((conv => whnf); with_reducible first | apply And.intro | exact ⟨⟩) | exact rfl | exact fun h => h | exact lr _
    all_goals try (conv => whnf)
    all_goals exact wrapI (by omega) (by omega)
  | zero =>
    have d0 : decide (((0 : Nat) : Int) - 1 ≥ 0) = false := by decide
    rw [heapBuild] at h2
    repeat' ((conv => whnf); first | with_reducible refine zol ?_ | ((with_reducible refine fk (fun hc => ?_) fun hc => ?_) <;> first | exact absurd hc (by decide) | (exfalso; simp only [*, reduceCtorEq] at hc; done) | skip) | rewrite [w2] | ((with_reducible apply And.intro); focus (first | rfl | exact znb rfl | omega | (simp only [zlc, zln, zlm, zla]; omega))))
    refine ⟨{p : Nat × Array Int // p.2.size = A.size ∧ heapPop ltInt a p.1 p.2 = X ∧ p.1 ≤ m}, fun ⟨(k, D), _⟩ => ⟨[(0, .slw 1 0), (6, .pv (ii a)), (7, .pv (ii 0)), (10, .pv (ii ((k : Int) - 1)))], 1000000000, [(1, .arr 22 0 1 (uA D))]⟩, fun ⟨(k, _), _⟩ => k, ⟨⟨(m, D), h1, h2, by omega⟩, ent_of ?_⟩, ?_⟩
    · repeat' first
        | fail
        | with_reducible exact True.intro
        | with_reducible exact rfl
        | with_reducible exact leRs_refl _
        | ((conv => whnf); with_reducible apply And.intro)
        | ((conv => whnf); with_reducible exact True.intro)
        | exact rfl
        | exact fun h => h
        | exact leRs_refl _
      all_goals try (conv => whnf)
      all_goals omega
    clear h1 h2 h3 d0
    rintro ⟨⟨k, D⟩, h1, h2, h3⟩
    simp only at h1 h2 h3
    cases k with
    | succ k =>
      have wk : ((k + 1 : Nat) : Int) - 1 = (k : Int) := by omega
      have d0 : decide ((k : Int) ≥ 0) = true := by simp only [zdt]; omega
      have wa : IntKind.i64.wrap ((a : Int) + (k : Int)) = ((a + k : Nat) : Int) := by rw [wrapI (by omega) (by omega)]; omega
      repeat' ((conv => whnf); first | with_reducible refine zol ?_ | ((with_reducible refine fk (fun hc => ?_) fun hc => ?_) <;> first | exact absurd hc (by decide) | (exfalso; simp only [*, reduceCtorEq, Bool.not_true, Bool.not_false] at hc; done) | skip) | rewrite [wk] | rewrite [wa] | (rewrite [uA_st]) | (refine ⟨_, uA_rd _ _ (by first | omega | (simp only [Array.size_setIfInBounds, size_swp]; omega)), ?_⟩) | ((with_reducible apply And.intro); focus (simp only [List.length_set, uA_len, Array.size_setIfInBounds, size_swp]; omega)) | (refine zll ?_; (conv => whnf); refine ⟨_, uLess_c _ _, ?_⟩) | (refine zlr ?_; (conv => whnf); refine ⟨_, _, GCx_pre (uSift_g (swp D a (a + k)) 0 k a (by rw [size_swp]; omega) (by rw [size_swp]; omega) (by omega)) ?_, ?_⟩; focus ((repeat' first | (with_reducible first | exact ⟨⟩ | exact rfl | exact lr _) | ((conv => whnf); with_reducible first | apply And.intro | exact ⟨⟩) | exact rfl | exact fun h => h | assumption | exact lr _); done)) | ((with_reducible apply And.intro); focus (first | rfl | exact znb rfl | omega | (simp only [zlc, zln, zlm, zla]; omega))))
      refine ⟨⟨(k, siftDown ltInt k a 0 (swp D a (a + k))), by rw [ax_sizeSift _ _ _ _ _ _ (Nat.le_refl _), size_swp]; exact h1, h2, by omega⟩, Nat.lt_succ_self _, ent_of ?_⟩
      repeat' first | (with_reducible first | exact ⟨⟩ | exact rfl | exact lr _) | ((conv => whnf); with_reducible first | apply And.intro | exact ⟨⟩) | exact rfl | exact fun h => h | exact lr _
      all_goals try (conv => whnf)
      all_goals exact wrapI (by omega) (by omega)
    | zero =>
      have d0 : decide (((0 : Nat) : Int) - 1 ≥ 0) = false := by decide
      rw [heapPop] at h2
      subst h2
      repeat' ((conv => whnf); first | with_reducible refine zol ?_ | ((with_reducible refine fk (fun hc => ?_) fun hc => ?_) <;> first | exact absurd hc (by decide) | (exfalso; simp only [*, reduceCtorEq] at hc; done) | skip) | ((with_reducible apply And.intro); focus (first | rfl | exact znb rfl | omega | (simp only [zlc, zln, zlm, zla]; omega))))
      refine ⟨_, _, ⟨rfl, rfl⟩, ?_⟩
      repeat' first | (with_reducible first | exact ⟨⟩ | exact rfl | exact lr _) | ((conv => whnf); with_reducible first | apply And.intro | exact ⟨⟩) | exact rfl | exact fun h => h | exact lr _
      all_goals try (conv => whnf)
theorem fn_uRev : FnOk Tryz.prog 82 Tryz.f82 := ⟨Tryz.func82, by kernel_rfl, by kernel_rfl, by kernel_rfl⟩
theorem uRev_g (A : Array Int) (a b : Nat) (hab : a < b) (hb : b ≤ A.size) (hs : A.size < 4611686018427387904) :
    GCx Tryz.prog 82 [.slw 1 0, .pv (ii a), .pv (ii b)] [(1, .arr 22 0 1 (uA A))] (.pv (.tup [])) [(1, .arr 22 0 1 (uA (reverseRange A a b)))] := by
  obtain ⟨X, hX⟩ : ∃ X, reverseRange A a b = X := ⟨_, rfl⟩
  rw [hX]
  unfold reverseRange at hX
  have w1 : IntKind.i64.wrap ((b : Int) - 1) = ((b - 1 : Nat) : Int) := by rw [wrapI (by omega) (by omega)]; omega
  refine GC_of_VC tabOk (draw_ok mixed tabOk) fn_uRev rfl ?_
  repeat' ((conv => whnf); first | with_reducible refine zol ?_ | ((with_reducible refine fk (fun hc => ?_) fun hc => ?_) <;> first | exact absurd hc (by decide) | (exfalso; simp only [*, reduceCtorEq] at hc; done) | skip) | rewrite [w1] | ((with_reducible apply And.intro); focus (first | rfl | exact znb rfl | omega | (simp only [zlc, zln, zlm, zla]; omega))))
  refine ⟨{p : Nat × Nat × Array Int // p.2.2.size = A.size ∧ reverseLoop p.1 p.2.1 p.2.2 = X ∧ p.2.1 < b ∧ p.1 < A.size}, fun ⟨(i, j, D), _⟩ => ⟨[(0, .slw 1 0), (6, .pv (ii i)), (7, .pv (ii j))], 1000000000, [(1, .arr 22 0 1 (uA D))]⟩, fun ⟨(i, j, _), _⟩ => j - i, ⟨⟨(a, b - 1, A), rfl, hX, by show b - 1 < b; omega, by show a < A.size; omega⟩, ent_of ?_⟩, ?_⟩
  · repeat' first
      | fail
      | with_reducible exact True.intro
      | with_reducible exact rfl
      | with_reducible exact leRs_refl _
      | ((conv => whnf); with_reducible apply And.intro)
      | ((conv => whnf); with_reducible exact True.intro)
      | exact rfl
      | exact fun h => h
      | exact leRs_refl _
    all_goals try (conv => whnf)
  clear hX w1
  rintro ⟨⟨i, j, D⟩, h1, h2, h3, h4⟩
  simp only at h1 h2 h3 h4
  rw [reverseLoop] at h2
  by_cases hlt : i < j
  · have d0 : decide ((i : Int) < (j : Int)) = true := by simp only [zdt]; omega
    rw [if_pos hlt] at h2
    have wi : IntKind.i64.wrap ((i : Int) + 1) = ((i + 1 : Nat) : Int) := by rw [wrapI (by omega) (by omega)]; omega
    have wj : IntKind.i64.wrap ((j : Int) - 1) = ((j - 1 : Nat) : Int) := by rw [wrapI (by omega) (by omega)]; omega
    repeat' ((conv => whnf); first | with_reducible refine zol ?_ | ((with_reducible refine fk (fun hc => ?_) fun hc => ?_) <;> first | exact absurd hc (by decide) | (exfalso; simp only [*, reduceCtorEq, Bool.not_true, Bool.not_false] at hc; done) | skip) | rewrite [wi] | rewrite [wj] | (rewrite [uA_st]) | (refine ⟨_, uA_rd _ _ (by first | omega | (simp only [Array.size_setIfInBounds, size_swp]; omega)), ?_⟩) | ((with_reducible apply And.intro); focus (simp only [List.length_set, uA_len, Array.size_setIfInBounds, size_swp]; omega)) | (refine zll ?_; (conv => whnf); refine ⟨_, uLess_c _ _, ?_⟩) | ((with_reducible apply And.intro); focus (first | rfl | exact znb rfl | omega | (simp only [zlc, zln, zlm, zla]; omega))))
    refine ⟨⟨(i + 1, j - 1, swp D i j), by rw [size_swp]; exact h1, h2, by show j - 1 < b; omega, by show i + 1 < A.size; omega⟩, (by show j - 1 - (i + 1) < j - i; omega), ent_of ?_⟩
    repeat' first | (with_reducible first | exact ⟨⟩ | exact rfl | exact lr _) | ((conv => whnf); with_reducible first | apply And.intro | exact ⟨⟩) | exact rfl | exact fun h => h | exact lr _
    all_goals try (conv => whnf)
  · have d0 : decide ((i : Int) < (j : Int)) = false := by simp only [zdf]; omega
    rw [if_neg hlt] at h2
    subst h2
    repeat' ((conv => whnf); first | with_reducible refine zol ?_ | ((with_reducible refine fk (fun hc => ?_) fun hc => ?_) <;> first | exact absurd hc (by decide) | (exfalso; simp only [*, reduceCtorEq] at hc; done) | skip) | ((with_reducible apply And.intro); focus (first | rfl | exact znb rfl | omega | (simp only [zlc, zln, zlm, zla]; omega))))
    refine ⟨_, _, ⟨rfl, rfl⟩, ?_⟩
    repeat' first | (with_reducible first | exact ⟨⟩ | exact rfl | exact lr _) | ((conv => whnf); with_reducible first | apply And.intro | exact ⟨⟩) | exact rfl | exact fun h => h | exact lr _
    all_goals try (conv => whnf)
end Go.Proofs.YtgblabmhgdiicaaGreat.Tb
