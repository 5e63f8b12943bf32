/-
  Contracts of functions of the program and of the document, each for every input that its premises name.
-/
import Derived.Test.YtgblabmhgdiicaaGreatSA
set_option linter.unusedSectionVars false
set_option maxRecDepth 100000
set_option maxHeartbeats 4000000
set_option linter.unusedVariables false
set_option linter.unusedSimpArgs false
open Go Go.AX Go.Sort
namespace Go.Proofs.YtgblabmhgdiicaaGreat.Tb
theorem fn_uSift : FnOk Tryz.prog 116 Tryz.f116 := ⟨Tryz.func116, by kernel_rfl, by kernel_rfl, by kernel_rfl⟩
theorem uSift_g (A : Array Int) (lo hi first : Nat) (hb : first + hi ≤ A.size) (hs : A.size < 4611686018427387904) (hl : lo ≤ hi) :
    GCx Tryz.prog 116 [.slw 1 0, .pv (ii lo), .pv (ii hi), .pv (ii first)] [(1, .arr 22 0 1 (uA A))] (.pv (.tup [])) [(1, .arr 22 0 1 (uA (siftDown ltInt hi first lo A)))] := by
  obtain ⟨X, hX⟩ : ∃ X, siftDown ltInt hi first lo A = X := ⟨_, rfl⟩
  rw [hX]
  refine GC_of_VC tabOk (draw_ok mixed tabOk) fn_uSift rfl ?_
  repeat' ((conv => whnf); first | with_reducible refine zol ?_ | ((with_reducible refine fk (fun hc => ?_) fun hc => ?_) <;> first | exact absurd hc (by decide) | (exfalso; simp only [*, reduceCtorEq] at hc; done) | skip) | ((with_reducible apply And.intro); focus (first | rfl | exact znb rfl | omega | (simp only [zlc, zln, zlm, zla]; omega))))
  refine ⟨{p : Nat × Array Int // p.2.size = A.size ∧ siftDown ltInt hi first p.1 p.2 = X ∧ p.1 ≤ hi}, fun ⟨(r, D), _⟩ => ⟨[(0, .slw 1 0), (2, .pv (ii hi)), (3, .pv (ii first)), (8, .pv (ii r))], 1000000000, [(1, .arr 22 0 1 (uA D))]⟩, fun ⟨(r, _), _⟩ => hi - r, ⟨⟨(lo, A), rfl, hX, hl⟩, ent_of ?_⟩, ?_⟩
  · repeat' first
      | fail
      | with_reducible exact True.intro
      | with_reducible exact rfl
      | with_reducible exact leRs_refl _
      | ((conv => whnf); with_reducible apply And.intro)
      | ((conv => whnf); with_reducible exact True.intro)
      | exact rfl
      | exact fun h => h
      | exact leRs_refl _
    all_goals try (conv => whnf)
  clear hX
  rintro ⟨⟨r, D⟩, h1, h2, h3⟩
  simp only at h1 h2 h3
  have w1 : IntKind.i64.wrap (IntKind.i64.wrap (2 * (r : Int)) + 1) = ((2 * r + 1 : Nat) : Int) := by rw [wrapI (n := 2 * (r : Int)) (by omega) (by omega), wrapI (by omega) (by omega)]; omega
  rw [siftDown] at h2
  by_cases hge : 2 * r + 1 ≥ hi
  · rw [dif_pos hge] at h2
    subst h2
    have d0 : decide (((2 * r + 1 : Nat) : Int) ≥ (hi : Int)) = true := by simp only [zdt]; omega
    repeat' ((conv => whnf); first | with_reducible refine zol ?_ | ((with_reducible refine fk (fun hc => ?_) fun hc => ?_) <;> first | exact absurd hc (by decide) | (exfalso; simp only [*, reduceCtorEq] at hc; done) | skip) | rewrite [w1] | ((with_reducible apply And.intro); focus (first | rfl | exact znb rfl | omega | (simp only [zlc, zln, zlm, zla]; omega))))
    refine ⟨_, _, ⟨rfl, rfl⟩, ?_⟩
    repeat' first | (with_reducible first | exact ⟨⟩ | exact rfl | exact lr _) | ((conv => whnf); with_reducible first | apply And.intro | exact ⟨⟩) | exact rfl | exact fun h => h | exact lr _
    all_goals try (conv => whnf)
  rw [dif_neg hge] at h2
  have d0 : decide (((2 * r + 1 : Nat) : Int) ≥ (hi : Int)) = false := by simp only [zdf]; omega
  have w2 : IntKind.i64.wrap (((2 * r + 1 : Nat) : Int) + 1) = ((2 * r + 2 : Nat) : Int) := by rw [wrapI (by omega) (by omega)]; omega
  have wr : IntKind.i64.wrap ((first : Int) + (r : Int)) = ((first + r : Nat) : Int) := by rw [wrapI (by omega) (by omega)]; omega
  have wc : IntKind.i64.wrap ((first : Int) + ((2 * r + 1 : Nat) : Int)) = ((first + (2 * r + 1) : Nat) : Int) := by rw [wrapI (by omega) (by omega)]; omega
  have we : IntKind.i64.wrap (((first + (2 * r + 1) : Nat) : Int) + 1) = ((first + (2 * r + 1) + 1 : Nat) : Int) := by rw [wrapI (by omega) (by omega)]; omega
  by_cases hA : 2 * r + 1 + 1 < hi
  · have d1 : decide (((2 * r + 2 : Nat) : Int) < (hi : Int)) = true := by simp only [zdt]; omega
    have wd : IntKind.i64.wrap ((first : Int) + ((2 * r + 2 : Nat) : Int)) = ((first + (2 * r + 2) : Nat) : Int) := by rw [wrapI (by omega) (by omega)]; omega
    cases hl1 : decide (D[first + (2 * r + 1)]! < D[first + (2 * r + 1) + 1]!) with
    | true =>
      rw [if_pos (by rw [ltI, hl1]; simp; omega)] at h2
      cases hl2 : decide (D[first + r]! < D[first + (2 * r + 2)]!) with
      | false =>
        rw [if_pos (by rw [ltI, hl2]; rfl)] at h2
        subst h2
        repeat' ((conv => whnf); first | with_reducible refine zol ?_ | ((with_reducible refine fk (fun hc => ?_) fun hc => ?_) <;> first | exact absurd hc (by decide) | (exfalso; simp only [*, reduceCtorEq, Bool.not_true, Bool.not_false] at hc; done) | skip) | rewrite [w1] | rewrite [w2] | rewrite [wr] | rewrite [wc] | rewrite [wd] | rewrite [we] | (rewrite [uA_st]) | (refine ⟨_, uA_rd _ _ (by first | omega | (simp only [Array.size_setIfInBounds, size_swp]; omega)), ?_⟩) | ((with_reducible apply And.intro); focus (simp only [List.length_set, uA_len, Array.size_setIfInBounds, size_swp]; omega)) | (refine zll ?_; (conv => whnf); refine ⟨_, uLess_c _ _, ?_⟩) | ((with_reducible apply And.intro); focus (first | rfl | exact znb rfl | omega | (simp only [zlc, zln, zlm, zla]; omega))))
        refine ⟨_, _, ⟨rfl, rfl⟩, ?_⟩
        repeat' first | (with_reducible first | exact ⟨⟩ | exact rfl | exact lr _) | ((conv => whnf); with_reducible first | apply And.intro | exact ⟨⟩) | exact rfl | exact fun h => h | exact lr _
        all_goals try (conv => whnf)
      | true =>
        rw [if_neg (by rw [ltI, hl2]; simp), dif_pos (by omega)] at h2
        repeat' ((conv => whnf); first | with_reducible refine zol ?_ | ((with_reducible refine fk (fun hc => ?_) fun hc => ?_) <;> first | exact absurd hc (by decide) | (exfalso; simp only [*, reduceCtorEq, Bool.not_true, Bool.not_false] at hc; done) | skip) | rewrite [w1] | rewrite [w2] | rewrite [wr] | rewrite [wc] | rewrite [wd] | rewrite [we] | (rewrite [uA_st]) | (refine ⟨_, uA_rd _ _ (by first | omega | (simp only [Array.size_setIfInBounds, size_swp]; omega)), ?_⟩) | ((with_reducible apply And.intro); focus (simp only [List.length_set, uA_len, Array.size_setIfInBounds, size_swp]; omega)) | (refine zll ?_; (conv => whnf); refine ⟨_, uLess_c _ _, ?_⟩) | ((with_reducible apply And.intro); focus (first | rfl | exact znb rfl | omega | (simp only [zlc, zln, zlm, zla]; omega))))
        refine ⟨⟨(2 * r + 2, swp D (first + r) (first + (2 * r + 2))), by rw [size_swp]; exact h1, h2, by omega⟩, (by show hi - (2 * r + 2) < hi - r; omega), ent_of ?_⟩
        repeat' first | (with_reducible first | exact ⟨⟩ | exact rfl | exact lr _) | ((conv => whnf); with_reducible first | apply And.intro | exact ⟨⟩) | exact rfl | exact fun h => h | exact lr _
        all_goals try (conv => whnf)
    | false =>
      rw [if_neg (by rw [ltI, hl1]; simp)] at h2
      cases hl2 : decide (D[first + r]! < D[first + (2 * r + 1)]!) with
      | false =>
        rw [if_pos (by rw [ltI, hl2]; rfl)] at h2
        subst h2
        repeat' ((conv => whnf); first | with_reducible refine zol ?_ | ((with_reducible refine fk (fun hc => ?_) fun hc => ?_) <;> first | exact absurd hc (by decide) | (exfalso; simp only [*, reduceCtorEq, Bool.not_true, Bool.not_false] at hc; done) | skip) | rewrite [w1] | rewrite [w2] | rewrite [wr] | rewrite [wc] | rewrite [wd] | rewrite [we] | (rewrite [uA_st]) | (refine ⟨_, uA_rd _ _ (by first | omega | (simp only [Array.size_setIfInBounds, size_swp]; omega)), ?_⟩) | ((with_reducible apply And.intro); focus (simp only [List.length_set, uA_len, Array.size_setIfInBounds, size_swp]; omega)) | (refine zll ?_; (conv => whnf); refine ⟨_, uLess_c _ _, ?_⟩) | ((with_reducible apply And.intro); focus (first | rfl | exact znb rfl | omega | (simp only [zlc, zln, zlm, zla]; omega))))
        refine ⟨_, _, ⟨rfl, rfl⟩, ?_⟩
        repeat' first | (with_reducible first | exact ⟨⟩ | exact rfl | exact lr _) | ((conv => whnf); with_reducible first | apply And.intro | exact ⟨⟩) | exact rfl | exact fun h => h | exact lr _
        all_goals try (conv => whnf)
      | true =>
        rw [if_neg (by rw [ltI, hl2]; simp)] at h2
        repeat' ((conv => whnf); first | with_reducible refine zol ?_ | ((with_reducible refine fk (fun hc => ?_) fun hc => ?_) <;> first | exact absurd hc (by decide) | (exfalso; simp only [*, reduceCtorEq, Bool.not_true, Bool.not_false] at hc; done) | skip) | rewrite [w1] | rewrite [w2] | rewrite [wr] | rewrite [wc] | rewrite [wd] | rewrite [we] | (rewrite [uA_st]) | (refine ⟨_, uA_rd _ _ (by first | omega | (simp only [Array.size_setIfInBounds, size_swp]; omega)), ?_⟩) | ((with_reducible apply And.intro); focus (simp only [List.length_set, uA_len, Array.size_setIfInBounds, size_swp]; omega)) | (refine zll ?_; (conv => whnf); refine ⟨_, uLess_c _ _, ?_⟩) | ((with_reducible apply And.intro); focus (first | rfl | exact znb rfl | omega | (simp only [zlc, zln, zlm, zla]; omega))))
        refine ⟨⟨(2 * r + 1, swp D (first + r) (first + (2 * r + 1))), by rw [size_swp]; exact h1, h2, by omega⟩, (by show hi - (2 * r + 1) < hi - r; omega), ent_of ?_⟩
        repeat' first | (with_reducible first | exact ⟨⟩ | exact rfl | exact lr _) | ((conv => whnf); with_reducible first | apply And.intro | exact ⟨⟩) | exact rfl | exact fun h => h | exact lr _
        all_goals try (conv => whnf)
  · have d1 : decide (((2 * r + 2 : Nat) : Int) < (hi : Int)) = false := by simp only [zdf]; omega
    rw [if_neg (by simp; omega)] at h2
    cases hl2 : decide (D[first + r]! < D[first + (2 * r + 1)]!) with
    | false =>
      rw [if_pos (by rw [ltI, hl2]; rfl)] at h2
      subst h2
      repeat' ((conv => whnf); first | with_reducible refine zol ?_ | ((with_reducible refine fk (fun hc => ?_) fun hc => ?_) <;> first | exact absurd hc (by decide) | (exfalso; simp only [*, reduceCtorEq, Bool.not_true, Bool.not_false] at hc; done) | skip) | rewrite [w1] | rewrite [w2] | rewrite [wr] | rewrite [wc] | rewrite [we] | (rewrite [uA_st]) | (refine ⟨_, uA_rd _ _ (by first | omega | (simp only [Array.size_setIfInBounds, size_swp]; omega)), ?_⟩) | ((with_reducible apply And.intro); focus (simp only [List.length_set, uA_len, Array.size_setIfInBounds, size_swp]; omega)) | (refine zll ?_; (conv => whnf); refine ⟨_, uLess_c _ _, ?_⟩) | ((with_reducible apply And.intro); focus (first | rfl | exact znb rfl | omega | (simp only [zlc, zln, zlm, zla]; omega))))
      refine ⟨_, _, ⟨rfl, rfl⟩, ?_⟩
      repeat' first | (with_reducible first | exact ⟨⟩ | exact rfl | exact lr _) | ((conv => whnf); with_reducible first | apply And.intro | exact ⟨⟩) | exact rfl | exact fun h => h | exact lr _
      all_goals try (conv => whnf)
    | true =>
      rw [if_neg (by rw [ltI, hl2]; simp)] at h2
      repeat' ((conv => whnf); first | with_reducible refine zol ?_ | ((with_reducible refine fk (fun hc => ?_) fun hc => ?_) <;> first | exact absurd hc (by decide) | (exfalso; simp only [*, reduceCtorEq, Bool.not_true, Bool.not_false] at hc; done) | skip) | rewrite [w1] | rewrite [w2] | rewrite [wr] | rewrite [wc] | rewrite [we] | (rewrite [uA_st]) | (refine ⟨_, uA_rd _ _ (by first | omega | (simp only [Array.size_setIfInBounds, size_swp]; omega)), ?_⟩) | ((with_reducible apply And.intro); focus (simp only [List.length_set, uA_len, Array.size_setIfInBounds, size_swp]; omega)) | (refine zll ?_; (conv => whnf); refine ⟨_, uLess_c _ _, ?_⟩) | ((with_reducible apply And.intro); focus (first | rfl | exact znb rfl | omega | (simp only [zlc, zln, zlm, zla]; omega))))
      refine ⟨⟨(2 * r + 1, swp D (first + r) (first + (2 * r + 1))), by rw [size_swp]; exact h1, h2, by omega⟩, (by show hi - (2 * r + 1) < hi - r; omega), ent_of ?_⟩
      repeat' first | (with_reducible first | exact ⟨⟩ | exact rfl | exact lr _) | ((conv => whnf); with_reducible first | apply And.intro | exact ⟨⟩) | exact rfl | exact fun h => h | exact lr _
      all_goals try (conv => whnf)
end Go.Proofs.YtgblabmhgdiicaaGreat.Tb
