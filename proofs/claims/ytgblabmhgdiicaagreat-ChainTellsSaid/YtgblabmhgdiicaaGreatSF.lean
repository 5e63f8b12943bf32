/-
  Contracts of functions of the program and of the document, each for every input that its premises name.
-/
import Derived.Test.YtgblabmhgdiicaaGreatSE
set_option linter.unusedSectionVars false
set_option maxRecDepth 100000
set_option maxHeartbeats 4000000
set_option linter.unusedVariables false
set_option linter.unusedSimpArgs false
open Go Go.AX Go.Sort
namespace Go.Proofs.YtgblabmhgdiicaaGreat.Tb
theorem fn_uBrk : FnOk Tryz.prog 80 Tryz.f80 := ⟨Tryz.func80, by kernel_rfl, by kernel_rfl, by kernel_rfl⟩
theorem uBrk_g (A : Array Int) (a b : Nat) (hab : a < b) (h8 : 8 ≤ b - a) (hb : b ≤ A.size) (hs : A.size < 4611686018427387904) :
    GCx Tryz.prog 80 [.slw 1 0, .pv (ii a), .pv (ii b)] [(1, .arr 22 0 1 (uA A))] (.pv (.tup [])) [(1, .arr 22 0 1 (uA (breakPatterns A a b)))] := by
  obtain ⟨X, hX⟩ : ∃ X, breakPatterns A a b = X := ⟨_, rfl⟩
  rw [hX]
  obtain ⟨L, rfl⟩ : ∃ L, b = a + L := ⟨b - a, by omega⟩
  rw [show a + L - a = L from by omega] at h8
  rw [Go.Proofs.breakPatterns_eq A a L h8] at hX
  obtain ⟨M, hM⟩ : ∃ M : Nat, M = 1 <<< bitsLen L := ⟨_, rfl⟩
  have hM1 : 1 ≤ M := by rw [hM, Nat.one_shiftLeft]; exact Nat.two_pow_pos _
  have hM2 : M ≤ 2 * L := by rw [hM, Nat.one_shiftLeft]; exact two_pow_bitsLen_le (by omega)
  have cN := uNp2_c L (by omega)
  rw [← hM] at hX cN
  clear hM
  have w0 : IntKind.i64.wrap (((a + L : Nat) : Int) - (a : Int)) = (L : Int) := by rw [wrapI (by omega) (by omega)]; omega
  have wu : IntKind.u64.wrap (L : Int) = (L : Int) := wrapU (by omega) (by omega)
  have w1 : IntKind.i64.wrap (Int.tdiv (L : Int) 4) = ((L / 4 : Nat) : Int) := by rw [Int.tdiv_eq_ediv_of_nonneg (by omega), wrapI (by omega) (by omega)]; rfl
  have w2 : IntKind.i64.wrap (((L / 4 : Nat) : Int) * 2) = ((L / 4 * 2 : Nat) : Int) := by rw [wrapI (by omega) (by omega)]; omega
  have w3 : IntKind.i64.wrap ((a : Int) + ((L / 4 * 2 : Nat) : Int)) = ((a + L / 4 * 2 : Nat) : Int) := by rw [wrapI (by omega) (by omega)]; omega
  have w4 : IntKind.i64.wrap (((a + L / 4 * 2 : Nat) : Int) - 1) = ((a + L / 4 * 2 - 1 : Nat) : Int) := by rw [wrapI (by omega) (by omega)]; omega
  have w5 : IntKind.i64.wrap (((a + L / 4 * 2 : Nat) : Int) + 1) = ((a + L / 4 * 2 + 1 : Nat) : Int) := by rw [wrapI (by omega) (by omega)]; omega
  have d0 : decide ((L : Int) ≥ 8) = true := by simp only [zdt]; omega
  refine GC_of_VC tabOk (draw_ok mixed tabOk) fn_uBrk rfl ?_
  repeat' ((conv => whnf); first | with_reducible refine zol ?_ | ((with_reducible refine fk (fun hc => ?_) fun hc => ?_) <;> first | exact absurd hc (by decide) | (exfalso; simp only [*, reduceCtorEq] at hc; done) | skip) | rewrite [w0] | rewrite [wu] | rewrite [w1] | rewrite [w2] | rewrite [w3] | rewrite [w4] | (refine zll ?_; (conv => whnf); refine ⟨_, cN, ?_⟩) | ((with_reducible apply And.intro); focus (first | rfl | exact znb rfl | omega | (simp only [zlc, zln, zlm, zla]; omega))))
  refine ⟨{p : Nat × UInt64 × Array Int // p.2.2.size = A.size ∧ bpRest a L M (a + L / 4 * 2 - 1) (3 - p.1) p.1 (p.2.1, p.2.2) = X ∧ p.1 ≤ 3}, fun ⟨(t, r, D), _⟩ => ⟨[(0, .slw 1 0), (1, .pv (ii a)), (6, .pv (ii L)), (7, .ptr 1001 0), (8, .pv (uu M)), (9, .pv (ii ((a + L / 4 * 2 - 1 + t : Nat) : Int)))], 1000000000, [(1, .arr 22 0 1 (uA D)), (1001, .var [.pv (uu r.toNat)])]⟩, fun ⟨(t, _, _), _⟩ => 3 - t, ⟨⟨(0, UInt64.ofNat L, A), rfl, hX, by omega⟩, ent_of ?_⟩, ?_⟩
  · repeat' first
      | fail
      | with_reducible exact True.intro
      | with_reducible exact rfl
      | with_reducible exact leRs_refl _
      | ((conv => whnf); with_reducible apply And.intro)
      | ((conv => whnf); with_reducible exact True.intro)
      | exact rfl
      | exact fun h => h
      | exact leRs_refl _
    all_goals try (conv => whnf)
    all_goals (rw [UInt64.toNat_ofNat_of_lt' (by show L < 2 ^ 64; omega)])
  clear hX cN wu w0 w4
  rintro ⟨⟨t, r, D⟩, h1, h2, h3⟩
  simp only at h1 h2 h3
  by_cases ht : t < 3
  · have d1 : decide (((a + L / 4 * 2 - 1 + t : Nat) : Int) ≤ ((a + L / 4 * 2 + 1 : Nat) : Int)) = true := by simp only [zdt]; omega
    obtain ⟨o1, ho1⟩ : ∃ o1 : Nat, o1 = (xorNext r).toNat &&& (M - 1) := ⟨_, rfl⟩
    have ho2 : o1 ≤ M - 1 := by rw [ho1]; exact Nat.and_le_right
    have cX := uNext_g r.toNat r.toNat_lt
    rw [← xorNext_toNat] at cX
    have wm : IntKind.u64.wrap ((M : Int) - 1) = ((M - 1 : Nat) : Int) := by rw [wrapU (by omega) (by omega)]; omega
    have wa : IntKind.i64.wrap (IntKind.u64.wrap (((BitVec.ofInt IntKind.u64.bits ((xorNext r).toNat : Int) &&& BitVec.ofInt IntKind.u64.bits ((M - 1 : Nat) : Int)).toNat : Nat) : Int)) = (o1 : Int) := by
      have e : bits .and .u64 ((xorNext r).toNat : Int) ((M - 1 : Nat) : Int) = (o1 : Int) := by
        rw [bits_and_u64_nat _ _ (xorNext r).toNat_lt (by omega), ho1]
      exact (congrArg _ e).trans (wrapI (by omega) (by omega))
    have wt : IntKind.i64.wrap (((a + L / 4 * 2 - 1 + t : Nat) : Int) + 1) = ((a + L / 4 * 2 - 1 + (t + 1) : Nat) : Int) := by rw [wrapI (by omega) (by omega)]; omega
    have hst := fun o ho => bp_step a L M (a + L / 4 * 2 - 1) t r D o ht ho
    rw [← ho1] at hst
    by_cases hL : o1 ≥ L
    · have d2 : decide ((o1 : Int) ≥ (L : Int)) = true := by simp only [zdt]; omega
      have wo : IntKind.i64.wrap ((o1 : Int) - (L : Int)) = ((o1 - L : Nat) : Int) := by rw [wrapI (by omega) (by omega)]; omega
      have wp : IntKind.i64.wrap ((a : Int) + ((o1 - L : Nat) : Int)) = ((a + (o1 - L) : Nat) : Int) := by rw [wrapI (by omega) (by omega)]; omega
      rw [hst _ (if_pos hL)] at h2
      clear hst ho1
      repeat' ((conv => whnf); first | with_reducible refine zol ?_ | ((with_reducible refine fk (fun hc => ?_) fun hc => ?_) <;> first | exact absurd hc (by decide) | (exfalso; simp only [*, reduceCtorEq, Bool.not_true, Bool.not_false] at hc; done) | skip) | rewrite [w1] | rewrite [w2] | rewrite [w3] | rewrite [w5] | rewrite [wm] | rewrite [wa] | rewrite [wo] | rewrite [wp] | rewrite [wt] | (refine zlr ?_; (conv => whnf); refine ⟨_, _, GCx_pre (cX) ?_, ?_⟩; focus ((repeat' first | (with_reducible first | exact ⟨⟩ | exact rfl | exact lr _) | ((conv => whnf); with_reducible first | apply And.intro | exact ⟨⟩) | exact rfl | exact fun h => h | assumption | exact lr _); done)) | (rewrite [uA_st]) | (refine ⟨_, uA_rd _ _ (by first | omega | (simp only [Array.size_setIfInBounds, size_swp]; omega)), ?_⟩) | ((with_reducible apply And.intro); focus (simp only [List.length_set, uA_len, Array.size_setIfInBounds, size_swp]; omega)) | (refine zll ?_; (conv => whnf); refine ⟨_, uLess_c _ _, ?_⟩) | ((with_reducible apply And.intro); focus (first | rfl | exact znb rfl | omega | (simp only [zlc, zln, zlm, zla]; omega))))
      refine ⟨⟨(t + 1, xorNext r, swp D (a + L / 4 * 2 - 1 + t) (a + (o1 - L))), by rw [size_swp]; exact h1, h2, by omega⟩, (by show 3 - (t + 1) < 3 - t; omega), ent_of ?_⟩
      repeat' first | (with_reducible first | exact ⟨⟩ | exact rfl | exact lr _) | ((conv => whnf); with_reducible first | apply And.intro | exact ⟨⟩) | exact rfl | exact fun h => h | exact lr _
      all_goals try (conv => whnf)
    · have d2 : decide ((o1 : Int) ≥ (L : Int)) = false := by simp only [zdf]; omega
      have wp : IntKind.i64.wrap ((a : Int) + ((o1 : Nat) : Int)) = ((a + o1 : Nat) : Int) := by rw [wrapI (by omega) (by omega)]; omega
      rw [hst _ (if_neg hL)] at h2
      clear hst ho1
      repeat' ((conv => whnf); first | with_reducible refine zol ?_ | ((with_reducible refine fk (fun hc => ?_) fun hc => ?_) <;> first | exact absurd hc (by decide) | (exfalso; simp only [*, reduceCtorEq, Bool.not_true, Bool.not_false] at hc; done) | skip) | rewrite [w1] | rewrite [w2] | rewrite [w3] | rewrite [w5] | rewrite [wm] | rewrite [wa] | rewrite [wp] | rewrite [wt] | (refine zlr ?_; (conv => whnf); refine ⟨_, _, GCx_pre (cX) ?_, ?_⟩; focus ((repeat' first | (with_reducible first | exact ⟨⟩ | exact rfl | exact lr _) | ((conv => whnf); with_reducible first | apply And.intro | exact ⟨⟩) | exact rfl | exact fun h => h | assumption | exact lr _); done)) | (rewrite [uA_st]) | (refine ⟨_, uA_rd _ _ (by first | omega | (simp only [Array.size_setIfInBounds, size_swp]; omega)), ?_⟩) | ((with_reducible apply And.intro); focus (simp only [List.length_set, uA_len, Array.size_setIfInBounds, size_swp]; omega)) | (refine zll ?_; (conv => whnf); refine ⟨_, uLess_c _ _, ?_⟩) | ((with_reducible apply And.intro); focus (first | rfl | exact znb rfl | omega | (simp only [zlc, zln, zlm, zla]; omega))))
      refine ⟨⟨(t + 1, xorNext r, swp D (a + L / 4 * 2 - 1 + t) (a + o1)), by rw [size_swp]; exact h1, h2, by omega⟩, (by show 3 - (t + 1) < 3 - t; omega), ent_of ?_⟩
      repeat' first | (with_reducible first | exact ⟨⟩ | exact rfl | exact lr _) | ((conv => whnf); with_reducible first | apply And.intro | exact ⟨⟩) | exact rfl | exact fun h => h | exact lr _
      all_goals try (conv => whnf)
  · have d1 : decide (((a + L / 4 * 2 - 1 + t : Nat) : Int) ≤ ((a + L / 4 * 2 + 1 : Nat) : Int)) = false := by simp only [zdf]; omega
    obtain rfl : t = 3 := by omega
    rw [show 3 - 3 = 0 from rfl, bpRest] at h2
    simp only at h2
    subst h2
    repeat' ((conv => whnf); first | with_reducible refine zol ?_ | ((with_reducible refine fk (fun hc => ?_) fun hc => ?_) <;> first | exact absurd hc (by decide) | (exfalso; simp only [*, reduceCtorEq] at hc; done) | skip) | rewrite [w1] | rewrite [w2] | rewrite [w3] | rewrite [w5] | ((with_reducible apply And.intro); focus (first | rfl | exact znb rfl | omega | (simp only [zlc, zln, zlm, zla]; omega))))
    refine ⟨_, _, ⟨rfl, rfl⟩, ?_⟩
    repeat' first | (with_reducible first | exact ⟨⟩ | exact rfl | exact lr _) | ((conv => whnf); with_reducible first | apply And.intro | exact ⟨⟩) | exact rfl | exact fun h => h | exact lr _
    all_goals try (conv => whnf)
end Go.Proofs.YtgblabmhgdiicaaGreat.Tb
