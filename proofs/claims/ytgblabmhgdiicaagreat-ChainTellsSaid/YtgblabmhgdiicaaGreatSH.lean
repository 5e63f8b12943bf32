/-
  Contracts of functions of the program and of the document, each for every input that its premises name.
-/
import Derived.Test.YtgblabmhgdiicaaGreatSB
set_option linter.unusedSectionVars false
set_option maxRecDepth 100000
set_option maxHeartbeats 4000000
set_option linter.unusedVariables false
set_option linter.unusedSimpArgs false
open Go Go.AX Go.Sort
namespace Go.Proofs.YtgblabmhgdiicaaGreat.Tb
theorem pIns_one (a b : Nat) (D : Array Int) (s i : Nat) : partialIns ltInt a b (s + 1) i D = (if scanSorted ltInt D b i = b then (D, true) else if b - a < 50 then (D, false) else
    partialIns ltInt a b s (scanSorted ltInt D b i) (if b - scanSorted ltInt D b i ≥ 2 then shiftUp ltInt b (scanSorted ltInt D b i + 1) (if scanSorted ltInt D b i - a ≥ 2 then shiftDown ltInt (scanSorted ltInt D b i - 1) (swp D (scanSorted ltInt D b i) (scanSorted ltInt D b i - 1)) else swp D (scanSorted ltInt D b i) (scanSorted ltInt D b i - 1)) else (if scanSorted ltInt D b i - a ≥ 2 then shiftDown ltInt (scanSorted ltInt D b i - 1) (swp D (scanSorted ltInt D b i) (scanSorted ltInt D b i - 1)) else swp D (scanSorted ltInt D b i) (scanSorted ltInt D b i - 1)))) := rfl
theorem fn_uPIns : FnOk Tryz.prog 83 Tryz.f83 := ⟨Tryz.func83, by kernel_rfl, by kernel_rfl, by kernel_rfl⟩
theorem uPIns_g (A : Array Int) (a b : Nat) (hab : a < b) (hb : b ≤ A.size) (hs : A.size < 4611686018427387904) (E : Array Int) (q : Bool) (e : partialInsertionSort ltInt A a b = (E, q)) :
    GCx Tryz.prog 83 [.slw 1 0, .pv (ii a), .pv (ii b)] [(1, .arr 22 0 1 (uA A))] (.pv (bl q)) [(1, .arr 22 0 1 (uA E))] := by
  unfold partialInsertionSort at e
  have e0 : IntKind.i64.wrap ((a : Int) + 1) = ((a + 1 : Nat) : Int) := by rw [wrapI (by omega) (by omega)]; omega
  refine GC_of_VC tabOk (draw_ok mixed tabOk) fn_uPIns rfl ?_
  repeat' ((conv => whnf); first | with_reducible refine zol ?_ | ((with_reducible refine fk (fun hc => ?_) fun hc => ?_) <;> first | exact absurd hc (by decide) | (exfalso; simp only [*, reduceCtorEq] at hc; done) | skip) | rewrite [e0] | ((with_reducible apply And.intro); focus (first | rfl | exact znb rfl | omega | (simp only [zlc, zln, zlm, zla]; omega))))
  refine ⟨{p : Nat × Nat × Array Int // p.2.2.size = A.size ∧ partialIns ltInt a b (5 - p.1) p.2.1 p.2.2 = (E, q) ∧ a + 1 ≤ p.2.1 ∧ p.2.1 ≤ b ∧ p.1 ≤ 5}, fun ⟨(t, i, D), _⟩ => ⟨[(0, .slw 1 0), (1, .pv (ii a)), (2, .pv (ii b)), (7, .pv (ii i)), (8, .pv (ii t))], 1000000000, [(1, .arr 22 0 1 (uA D))]⟩, fun ⟨(t, _, _), _⟩ => 5 - t, ⟨⟨(0, a + 1, A), rfl, e, by show a + 1 ≤ a + 1; omega, by show a + 1 ≤ b; omega, by show 0 ≤ 5; omega⟩, ent_of ?_⟩, ?_⟩
  · repeat' first
      | fail
      | with_reducible exact True.intro
      | with_reducible exact rfl
      | with_reducible exact leRs_refl _
      | ((conv => whnf); with_reducible apply And.intro)
      | ((conv => whnf); with_reducible exact True.intro)
      | exact rfl
      | exact fun h => h
      | exact leRs_refl _
    all_goals try (conv => whnf)
  clear e e0
  rintro ⟨⟨t, i, D⟩, h1, h2, h3, h4, h5⟩
  simp only at h1 h2 h3 h4 h5
  by_cases ht : t < 5
  case neg =>
    have d0 : decide ((t : Int) < 5) = false := by simp only [zdf]; omega
    obtain rfl : t = 5 := by omega
    rw [show 5 - 5 = 0 from rfl, partialIns] at h2
    simp only [Prod.mk.injEq] at h2
    obtain ⟨rfl, rfl⟩ := h2
    repeat' ((conv => whnf); first | with_reducible refine zol ?_ | ((with_reducible refine fk (fun hc => ?_) fun hc => ?_) <;> first | exact absurd hc (by decide) | (exfalso; simp only [*, reduceCtorEq] at hc; done) | skip) | ((with_reducible apply And.intro); focus (first | rfl | exact znb rfl | omega | (simp only [zlc, zln, zlm, zla]; omega))))
    refine ⟨_, _, ⟨rfl, rfl⟩, ?_⟩
    repeat' first | (with_reducible first | exact ⟨⟩ | exact rfl | exact lr _) | ((conv => whnf); with_reducible first | apply And.intro | exact ⟨⟩) | exact rfl | exact fun h => h | exact lr _
    all_goals try (conv => whnf)
  have d0 : decide ((t : Int) < 5) = true := by simp only [zdt]; omega
  rw [show 5 - t = (5 - (t + 1)) + 1 by omega, pIns_one] at h2
  obtain ⟨I, hI⟩ : ∃ x, scanSorted ltInt D b i = x := ⟨_, rfl⟩
  have hIa := ax_scanSorted_in ltInt D b _ i (Nat.le_refl _) h4
  rw [hI] at h2 hIa
  obtain ⟨hIa, hIb⟩ := hIa
  repeat' ((conv => whnf); first | with_reducible refine zor ?_ | with_reducible refine zoc ?_ | with_reducible refine zos ?_ | ((with_reducible refine fk (fun hc => ?_) fun hc => ?_) <;> first | exact absurd hc (by decide) | (exfalso; simp only [*, reduceCtorEq] at hc; done) | skip) | ((with_reducible apply And.intro); focus (first | rfl | exact znb rfl | omega | (simp only [zlc, zln, zlm, zla]; omega))))
  refine Or.inl ?_
  repeat' ((conv => whnf); first | with_reducible refine zor ?_ | with_reducible refine zoc ?_ | with_reducible refine zos ?_ | ((with_reducible refine fk (fun hc => ?_) fun hc => ?_) <;> first | exact absurd hc (by decide) | (exfalso; simp only [*, reduceCtorEq] at hc; done) | skip) | ((with_reducible apply And.intro); focus (first | rfl | exact znb rfl | omega | (simp only [zlc, zln, zlm, zla]; omega))))
  refine Or.inr ⟨Unit, fun _ => ⟨[(0, .slw 1 0), (1, .pv (ii a)), (2, .pv (ii b)), (7, .pv (ii I)), (8, .pv (ii t))], 1000000000, [(1, .arr 22 0 1 (uA D))]⟩, ?_, fun _ => ?_⟩
  · repeat' ((conv => whnf)
             first
             | with_reducible refine zor ?_
             | with_reducible refine zoc ?_
             | with_reducible refine zos ?_
             | ((with_reducible refine fk (fun hc => ?_) fun hc => ?_) <;> first | exact absurd hc (by decide) | (exfalso; simp only [*, reduceCtorEq] at hc; done) | skip)
             | ((with_reducible apply And.intro); focus (first | rfl | exact znb rfl | omega | (simp only [zlc, zln, zlm, zla]; omega))))
    refine ⟨{x : Nat // scanSorted ltInt D b x = I ∧ a + 1 ≤ x ∧ x ≤ b}, fun ⟨x, _⟩ => ⟨[(0, .slw 1 0), (1, .pv (ii a)), (2, .pv (ii b)), (7, .pv (ii x)), (8, .pv (ii t))], 1000000000, [(1, .arr 22 0 1 (uA D))]⟩, fun ⟨x, _⟩ => b - x, ⟨⟨i, hI, h3, h4⟩, ent_of ?_⟩, ?_⟩
    · repeat' first
        | fail
        | with_reducible exact True.intro
        | with_reducible exact rfl
        | with_reducible exact leRs_refl _
        | ((conv => whnf); with_reducible apply And.intro)
        | ((conv => whnf); with_reducible exact True.intro)
        | exact rfl
        | exact fun h => h
        | exact leRs_refl _
      all_goals try (conv => whnf)
    rintro ⟨x, g1, g2, g3⟩
    have wx : IntKind.i64.wrap ((x : Int) + 1) = ((x + 1 : Nat) : Int) := by rw [wrapI (by omega) (by omega)]; omega
    have wy : IntKind.i64.wrap ((x : Int) - 1) = ((x - 1 : Nat) : Int) := by rw [wrapI (by omega) (by omega)]; omega
    rw [scanSorted] at g1
    by_cases hx : x < b
    · have d1 : decide ((x : Int) < (b : Int)) = true := by simp only [zdt]; omega
      cases hl : decide (D[x]! < D[x - 1]!) with
      | false =>
        rw [if_pos (by simp [ltI, hl, hx])] at g1
        repeat' ((conv => whnf); first | with_reducible refine zol ?_ | ((with_reducible refine fk (fun hc => ?_) fun hc => ?_) <;> first | exact absurd hc (by decide) | (exfalso; simp only [*, reduceCtorEq, Bool.not_true, Bool.not_false] at hc; done) | skip) | rewrite [wx] | rewrite [wy] | (rewrite [uA_st]) | (refine ⟨_, uA_rd _ _ (by first | omega | (simp only [Array.size_setIfInBounds, size_swp]; omega)), ?_⟩) | ((with_reducible apply And.intro); focus (simp only [List.length_set, uA_len, Array.size_setIfInBounds, size_swp]; omega)) | (refine zll ?_; (conv => whnf); refine ⟨_, uLess_c _ _, ?_⟩) | ((with_reducible apply And.intro); focus (first | rfl | exact znb rfl | omega | (simp only [zlc, zln, zlm, zla]; omega))))
        refine ⟨⟨x + 1, g1, by omega, by omega⟩, (by show b - (x + 1) < b - x; omega), ent_of ?_⟩
        repeat' first | (with_reducible first | exact ⟨⟩ | exact rfl | exact lr _) | ((conv => whnf); with_reducible first | apply And.intro | exact ⟨⟩) | exact rfl | exact fun h => h | exact lr _
        all_goals try (conv => whnf)
      | true =>
        rw [if_neg (by simp [ltI, hl])] at g1
        subst g1
        repeat' ((conv => whnf); first | with_reducible refine zol ?_ | ((with_reducible refine fk (fun hc => ?_) fun hc => ?_) <;> first | exact absurd hc (by decide) | (exfalso; simp only [*, reduceCtorEq, Bool.not_true, Bool.not_false] at hc; done) | skip) | rewrite [wy] | (rewrite [uA_st]) | (refine ⟨_, uA_rd _ _ (by first | omega | (simp only [Array.size_setIfInBounds, size_swp]; omega)), ?_⟩) | ((with_reducible apply And.intro); focus (simp only [List.length_set, uA_len, Array.size_setIfInBounds, size_swp]; omega)) | (refine zll ?_; (conv => whnf); refine ⟨_, uLess_c _ _, ?_⟩) | ((with_reducible apply And.intro); focus (first | rfl | exact znb rfl | omega | (simp only [zlc, zln, zlm, zla]; omega))))
        refine ⟨(), ent_of ?_⟩
        repeat' first | (with_reducible first | exact ⟨⟩ | exact rfl | exact lr _) | ((conv => whnf); with_reducible first | apply And.intro | exact ⟨⟩) | exact rfl | exact fun h => h | exact lr _
        all_goals try (conv => whnf)
    · have d1 : decide ((x : Int) < (b : Int)) = false := by simp only [zdf]; omega
      rw [if_neg (by simp; omega)] at g1
      subst g1
      repeat' ((conv => whnf); first | with_reducible refine zol ?_ | ((with_reducible refine fk (fun hc => ?_) fun hc => ?_) <;> first | exact absurd hc (by decide) | (exfalso; simp only [*, reduceCtorEq, Bool.not_true, Bool.not_false] at hc; done) | skip) | rewrite [wy] | (rewrite [uA_st]) | (refine ⟨_, uA_rd _ _ (by first | omega | (simp only [Array.size_setIfInBounds, size_swp]; omega)), ?_⟩) | ((with_reducible apply And.intro); focus (simp only [List.length_set, uA_len, Array.size_setIfInBounds, size_swp]; omega)) | (refine zll ?_; (conv => whnf); refine ⟨_, uLess_c _ _, ?_⟩) | ((with_reducible apply And.intro); focus (first | rfl | exact znb rfl | omega | (simp only [zlc, zln, zlm, zla]; omega))))
      refine ⟨(), ent_of ?_⟩
      repeat' first | (with_reducible first | exact ⟨⟩ | exact rfl | exact lr _) | ((conv => whnf); with_reducible first | apply And.intro | exact ⟨⟩) | exact rfl | exact fun h => h | exact lr _
      all_goals try (conv => whnf)
  clear hI
  by_cases hIe : I = b
  · rw [if_pos hIe] at h2
    have d1 : ((I : Int) == (b : Int)) = true := by simp; omega
    simp only [Prod.mk.injEq] at h2
    obtain ⟨rfl, rfl⟩ := h2
    subst hIe
    repeat' ((conv => whnf); first | with_reducible refine zol ?_ | ((with_reducible refine fk (fun hc => ?_) fun hc => ?_) <;> first | exact absurd hc (by decide) | (exfalso; simp only [*, reduceCtorEq] at hc; done) | skip) | ((with_reducible apply And.intro); focus (first | rfl | exact znb rfl | omega | (simp only [zlc, zln, zlm, zla]; omega))))
    refine ⟨_, _, ⟨rfl, rfl⟩, ?_⟩
    repeat' first | (with_reducible first | exact ⟨⟩ | exact rfl | exact lr _) | ((conv => whnf); with_reducible first | apply And.intro | exact ⟨⟩) | exact rfl | exact fun h => h | exact lr _
    all_goals try (conv => whnf)
  have d1 : ((I : Int) == (b : Int)) = false := by simp; omega
  rw [if_neg hIe] at h2
  have wba : IntKind.i64.wrap ((b : Int) - (a : Int)) = ((b - a : Nat) : Int) := by rw [wrapI (by omega) (by omega)]; omega
  by_cases h50 : b - a < 50
  · rw [if_pos h50] at h2
    have d2 : decide (((b - a : Nat) : Int) < 50) = true := by simp only [zdt]; omega
    simp only [Prod.mk.injEq] at h2
    obtain ⟨rfl, rfl⟩ := h2
    repeat' ((conv => whnf); first | with_reducible refine zol ?_ | ((with_reducible refine fk (fun hc => ?_) fun hc => ?_) <;> first | exact absurd hc (by decide) | (exfalso; simp only [*, reduceCtorEq] at hc; done) | skip) | rewrite [wba] | ((with_reducible apply And.intro); focus (first | rfl | exact znb rfl | omega | (simp only [zlc, zln, zlm, zla]; omega))))
    refine ⟨_, _, ⟨rfl, rfl⟩, ?_⟩
    repeat' first | (with_reducible first | exact ⟨⟩ | exact rfl | exact lr _) | ((conv => whnf); with_reducible first | apply And.intro | exact ⟨⟩) | exact rfl | exact fun h => h | exact lr _
    all_goals try (conv => whnf)
  have d2 : decide (((b - a : Nat) : Int) < 50) = false := by simp only [zdf]; omega
  rw [if_neg h50] at h2
  have wI : IntKind.i64.wrap ((I : Int) - 1) = ((I - 1 : Nat) : Int) := by rw [wrapI (by omega) (by omega)]; omega
  have wI2 : IntKind.i64.wrap ((I : Int) + 1) = ((I + 1 : Nat) : Int) := by rw [wrapI (by omega) (by omega)]; omega
  have wIa : IntKind.i64.wrap ((I : Int) - (a : Int)) = ((I - a : Nat) : Int) := by rw [wrapI (by omega) (by omega)]; omega
  have wIb : IntKind.i64.wrap ((b : Int) - (I : Int)) = ((b - I : Nat) : Int) := by rw [wrapI (by omega) (by omega)]; omega
  have wt : IntKind.i64.wrap ((t : Int) + 1) = ((t + 1 : Nat) : Int) := by rw [wrapI (by omega) (by omega)]; omega
  obtain ⟨F, hF⟩ : ∃ F, (if I - a ≥ 2 then shiftDown ltInt (I - 1) (swp D I (I - 1)) else swp D I (I - 1)) = F := ⟨_, rfl⟩
  have sz1 : F.size = A.size := by
    rw [← hF]
    split
    · rw [ax_size_shiftDown, size_swp]; exact h1
    · rw [size_swp]; exact h1
  rw [hF] at h2
  refine Or.inl ?_
  repeat' ((conv => whnf); first | with_reducible refine zor ?_ | ((with_reducible refine fk (fun hc => ?_) fun hc => ?_) <;> first | exact absurd hc (by decide) | (exfalso; simp only [*, reduceCtorEq, Bool.not_true, Bool.not_false] at hc; done) | skip) | ((with_reducible apply And.intro); focus (first | rfl | exact znb rfl | omega | (simp only [zlc, zln, zlm, zla]; omega))))
  refine Or.inl ?_
  repeat' ((conv => whnf); first | with_reducible refine zor ?_ | ((with_reducible refine fk (fun hc => ?_) fun hc => ?_) <;> first | exact absurd hc (by decide) | (exfalso; simp only [*, reduceCtorEq, Bool.not_true, Bool.not_false] at hc; done) | skip) | rewrite [wba] | rewrite [wI] | (rewrite [uA_st]) | (refine ⟨_, uA_rd _ _ (by first | omega | (simp only [Array.size_setIfInBounds, size_swp]; omega)), ?_⟩) | ((with_reducible apply And.intro); focus (simp only [List.length_set, uA_len, Array.size_setIfInBounds, size_swp]; omega)) | (refine zll ?_; (conv => whnf); refine ⟨_, uLess_c _ _, ?_⟩) | ((with_reducible apply And.intro); focus (first | rfl | exact znb rfl | omega | (simp only [zlc, zln, zlm, zla]; omega))))
  refine Or.inr ⟨Unit, fun _ => ⟨[(0, .slw 1 0), (1, .pv (ii a)), (2, .pv (ii b)), (7, .pv (ii I)), (8, .pv (ii t))], 1000000000, [(1, .arr 22 0 1 (uA F))]⟩, ?_, fun _ => ?_⟩
  · by_cases hc1 : I - a ≥ 2
    case neg =>
      rw [if_neg hc1] at hF
      subst hF
      have d3 : decide (((I - a : Nat) : Int) ≥ 2) = false := by simp only [zdf]; omega
      repeat' ((conv => whnf); first | with_reducible refine zor ?_ | with_reducible refine zoc ?_ | with_reducible refine zos ?_ | ((with_reducible refine fk (fun hc => ?_) fun hc => ?_) <;> first | exact absurd hc (by decide) | (exfalso; simp only [*, reduceCtorEq] at hc; done) | skip) | rewrite [wI] | rewrite [wIa] | ((with_reducible apply And.intro); focus (first | rfl | exact znb rfl | omega | (simp only [zlc, zln, zlm, zla]; omega))))
      refine ⟨(), ent_of ?_⟩
      repeat' first | (with_reducible first | exact ⟨⟩ | exact rfl | exact lr _) | ((conv => whnf); with_reducible first | apply And.intro | exact ⟨⟩) | exact rfl | exact fun h => h | exact lr _
      all_goals try (conv => whnf)
    rw [if_pos hc1] at hF
    have d3 : decide (((I - a : Nat) : Int) ≥ 2) = true := by simp only [zdt]; omega
    repeat' ((conv => whnf); first | with_reducible refine zor ?_ | with_reducible refine zoc ?_ | with_reducible refine zos ?_ | ((with_reducible refine fk (fun hc => ?_) fun hc => ?_) <;> first | exact absurd hc (by decide) | (exfalso; simp only [*, reduceCtorEq] at hc; done) | skip) | rewrite [wI] | rewrite [wIa] | ((with_reducible apply And.intro); focus (first | rfl | exact znb rfl | omega | (simp only [zlc, zln, zlm, zla]; omega))))
    refine ⟨{p : Nat × Array Int // p.2.size = A.size ∧ shiftDown ltInt p.1 p.2 = F ∧ p.1 < b}, fun ⟨(x, G), _⟩ => ⟨[(0, .slw 1 0), (1, .pv (ii a)), (2, .pv (ii b)), (7, .pv (ii I)), (8, .pv (ii t)), (9, .pv (ii x))], 1000000000, [(1, .arr 22 0 1 (uA G))]⟩, fun ⟨(x, _), _⟩ => x, ⟨⟨(I - 1, swp D I (I - 1)), by rw [size_swp]; exact h1, hF, by show I - 1 < b; omega⟩, ent_of ?_⟩, ?_⟩
    · repeat' first
        | fail
        | with_reducible exact True.intro
        | with_reducible exact rfl
        | with_reducible exact leRs_refl _
        | ((conv => whnf); with_reducible apply And.intro)
        | ((conv => whnf); with_reducible exact True.intro)
        | exact rfl
        | exact fun h => h
        | exact leRs_refl _
      all_goals try (conv => whnf)
    rintro ⟨⟨x, G⟩, g1, g2, g3⟩
    simp only at g1 g2 g3
    clear d0 d1 d2 d3
    cases x with
    | zero =>
      have d3 : decide (((0 : Nat) : Int) ≥ 1) = false := by decide
      rw [shiftDown] at g2
      subst g2
      repeat' ((conv => whnf); first | with_reducible refine zol ?_ | ((with_reducible refine fk (fun hc => ?_) fun hc => ?_) <;> first | exact absurd hc (by decide) | (exfalso; simp only [*, reduceCtorEq, Bool.not_true, Bool.not_false] at hc; done) | skip) | (rewrite [uA_st]) | (refine ⟨_, uA_rd _ _ (by first | omega | (simp only [Array.size_setIfInBounds, size_swp]; omega)), ?_⟩) | ((with_reducible apply And.intro); focus (simp only [List.length_set, uA_len, Array.size_setIfInBounds, size_swp]; omega)) | (refine zll ?_; (conv => whnf); refine ⟨_, uLess_c _ _, ?_⟩) | ((with_reducible apply And.intro); focus (first | rfl | exact znb rfl | omega | (simp only [zlc, zln, zlm, zla]; omega))))
      refine ⟨(), ent_of ?_⟩
      repeat' first | (with_reducible first | exact ⟨⟩ | exact rfl | exact lr _) | ((conv => whnf); with_reducible first | apply And.intro | exact ⟨⟩) | exact rfl | exact fun h => h | exact lr _
      all_goals try (conv => whnf)
    | succ y =>
      have d3 : decide (((y + 1 : Nat) : Int) ≥ 1) = true := by simp only [zdt]; omega
      have wy : IntKind.i64.wrap (((y + 1 : Nat) : Int) - 1) = (y : Int) := by rw [wrapI (by omega) (by omega)]; omega
      rw [shiftDown] at g2
      cases hl : decide (G[y + 1]! < G[y]!) with
      | false =>
        rw [if_pos (by simp [ltI, hl])] at g2
        subst g2
        repeat' ((conv => whnf); first | with_reducible refine zol ?_ | ((with_reducible refine fk (fun hc => ?_) fun hc => ?_) <;> first | exact absurd hc (by decide) | (exfalso; simp only [*, reduceCtorEq, Bool.not_true, Bool.not_false] at hc; done) | skip) | rewrite [wy] | (rewrite [uA_st]) | (refine ⟨_, uA_rd _ _ (by first | omega | (simp only [Array.size_setIfInBounds, size_swp]; omega)), ?_⟩) | ((with_reducible apply And.intro); focus (simp only [List.length_set, uA_len, Array.size_setIfInBounds, size_swp]; omega)) | (refine zll ?_; (conv => whnf); refine ⟨_, uLess_c _ _, ?_⟩) | ((with_reducible apply And.intro); focus (first | rfl | exact znb rfl | omega | (simp only [zlc, zln, zlm, zla]; omega))))
        refine ⟨(), ent_of ?_⟩
        repeat' first | (with_reducible first | exact ⟨⟩ | exact rfl | exact lr _) | ((conv => whnf); with_reducible first | apply And.intro | exact ⟨⟩) | exact rfl | exact fun h => h | exact lr _
        all_goals try (conv => whnf)
      | true =>
        rw [if_neg (by simp [ltI, hl])] at g2
        repeat' ((conv => whnf); first | with_reducible refine zol ?_ | ((with_reducible refine fk (fun hc => ?_) fun hc => ?_) <;> first | exact absurd hc (by decide) | (exfalso; simp only [*, reduceCtorEq, Bool.not_true, Bool.not_false] at hc; done) | skip) | rewrite [wy] | (rewrite [uA_st]) | (refine ⟨_, uA_rd _ _ (by first | omega | (simp only [Array.size_setIfInBounds, size_swp]; omega)), ?_⟩) | ((with_reducible apply And.intro); focus (simp only [List.length_set, uA_len, Array.size_setIfInBounds, size_swp]; omega)) | (refine zll ?_; (conv => whnf); refine ⟨_, uLess_c _ _, ?_⟩) | ((with_reducible apply And.intro); focus (first | rfl | exact znb rfl | omega | (simp only [zlc, zln, zlm, zla]; omega))))
        refine ⟨⟨(y, swp G (y + 1) y), by rw [size_swp]; exact g1, g2, by show y < b; omega⟩, Nat.lt_succ_self _, ent_of ?_⟩
        repeat' first | (with_reducible first | exact ⟨⟩ | exact rfl | exact lr _) | ((conv => whnf); with_reducible first | apply And.intro | exact ⟨⟩) | exact rfl | exact fun h => h | exact lr _
        all_goals try (conv => whnf)
  clear hF
  by_cases hc2 : b - I ≥ 2
  case neg =>
    rw [if_neg hc2] at h2
    have d4 : decide (((b - I : Nat) : Int) ≥ 2) = false := by simp only [zdf]; omega
    repeat' ((conv => whnf); first | with_reducible refine zor ?_ | with_reducible refine zoc ?_ | with_reducible refine zos ?_ | ((with_reducible refine fk (fun hc => ?_) fun hc => ?_) <;> first | exact absurd hc (by decide) | (exfalso; simp only [*, reduceCtorEq, Bool.not_true, Bool.not_false] at hc; done) | skip) | rewrite [wIb] | rewrite [wt] | ((with_reducible apply And.intro); focus (first | rfl | exact znb rfl | omega | (simp only [zlc, zln, zlm, zla]; omega))))
    refine ⟨⟨(t + 1, I, F), sz1, h2, by show a + 1 ≤ I; omega, by show I ≤ b; omega, by show t + 1 ≤ 5; omega⟩, (by show 5 - (t + 1) < 5 - t; omega), ent_of ?_⟩
    repeat' first | (with_reducible first | exact ⟨⟩ | exact rfl | exact lr _) | ((conv => whnf); with_reducible first | apply And.intro | exact ⟨⟩) | exact rfl | exact fun h => h | exact lr _
    all_goals try (conv => whnf)
  rw [if_pos hc2] at h2
  have d4 : decide (((b - I : Nat) : Int) ≥ 2) = true := by simp only [zdt]; omega
  have sz2 : (shiftUp ltInt b (I + 1) F).size = A.size := by rw [ax_size_shiftUp _ _ _ _ _ (Nat.le_refl _)]; exact sz1
  obtain ⟨H, hH⟩ : ∃ H, shiftUp ltInt b (I + 1) F = H := ⟨_, rfl⟩
  rw [hH] at h2 sz2
  repeat' ((conv => whnf); first | with_reducible refine zor ?_ | with_reducible refine zoc ?_ | with_reducible refine zos ?_ | ((with_reducible refine fk (fun hc => ?_) fun hc => ?_) <;> first | exact absurd hc (by decide) | (exfalso; simp only [*, reduceCtorEq, Bool.not_true, Bool.not_false] at hc; done) | skip) | rewrite [wI2] | rewrite [wIb] | ((with_reducible apply And.intro); focus (first | rfl | exact znb rfl | omega | (simp only [zlc, zln, zlm, zla]; omega))))
  refine ⟨{p : Nat × Array Int // p.2.size = A.size ∧ shiftUp ltInt b p.1 p.2 = H ∧ 1 ≤ p.1 ∧ p.1 ≤ b}, fun ⟨(x, G), _⟩ => ⟨[(0, .slw 1 0), (1, .pv (ii a)), (2, .pv (ii b)), (7, .pv (ii I)), (8, .pv (ii t)), (10, .pv (ii x))], 1000000000, [(1, .arr 22 0 1 (uA G))]⟩, fun ⟨(x, _), _⟩ => b - x, ⟨⟨(I + 1, F), sz1, hH, by show 1 ≤ I + 1; omega, by show I + 1 ≤ b; omega⟩, ent_of ?_⟩, ?_⟩
  · repeat' first
      | fail
      | with_reducible exact True.intro
      | with_reducible exact rfl
      | with_reducible exact leRs_refl _
      | ((conv => whnf); with_reducible apply And.intro)
      | ((conv => whnf); with_reducible exact True.intro)
      | exact rfl
      | exact fun h => h
      | exact leRs_refl _
    all_goals try (conv => whnf)
  rintro ⟨⟨x, G⟩, g1, g2, g3, g4⟩
  simp only at g1 g2 g3 g4
  clear d0 d1 d2 d4
  have wx : IntKind.i64.wrap ((x : Int) + 1) = ((x + 1 : Nat) : Int) := by rw [wrapI (by omega) (by omega)]; omega
  have wy : IntKind.i64.wrap ((x : Int) - 1) = ((x - 1 : Nat) : Int) := by rw [wrapI (by omega) (by omega)]; omega
  rw [shiftUp] at g2
  by_cases hx : x < b
  case neg =>
    have d3 : decide ((x : Int) < (b : Int)) = false := by simp only [zdf]; omega
    rw [if_neg hx] at g2
    subst g2
    repeat' ((conv => whnf); first | with_reducible refine zol ?_ | ((with_reducible refine fk (fun hc => ?_) fun hc => ?_) <;> first | exact absurd hc (by decide) | (exfalso; simp only [*, reduceCtorEq, Bool.not_true, Bool.not_false] at hc; done) | skip) | rewrite [wt] | (rewrite [uA_st]) | (refine ⟨_, uA_rd _ _ (by first | omega | (simp only [Array.size_setIfInBounds, size_swp]; omega)), ?_⟩) | ((with_reducible apply And.intro); focus (simp only [List.length_set, uA_len, Array.size_setIfInBounds, size_swp]; omega)) | (refine zll ?_; (conv => whnf); refine ⟨_, uLess_c _ _, ?_⟩) | ((with_reducible apply And.intro); focus (first | rfl | exact znb rfl | omega | (simp only [zlc, zln, zlm, zla]; omega))))
    refine ⟨⟨(t + 1, I, G), sz2, h2, by show a + 1 ≤ I; omega, by show I ≤ b; omega, by show t + 1 ≤ 5; omega⟩, (by show 5 - (t + 1) < 5 - t; omega), ent_of ?_⟩
    repeat' first | (with_reducible first | exact ⟨⟩ | exact rfl | exact lr _) | ((conv => whnf); with_reducible first | apply And.intro | exact ⟨⟩) | exact rfl | exact fun h => h | exact lr _
    all_goals try (conv => whnf)
  have d3 : decide ((x : Int) < (b : Int)) = true := by simp only [zdt]; omega
  rw [if_pos hx] at g2
  cases hl : decide (G[x]! < G[x - 1]!) with
  | false =>
    rw [if_pos (by simp [ltI, hl])] at g2
    subst g2
    repeat' ((conv => whnf); first | with_reducible refine zol ?_ | ((with_reducible refine fk (fun hc => ?_) fun hc => ?_) <;> first | exact absurd hc (by decide) | (exfalso; simp only [*, reduceCtorEq, Bool.not_true, Bool.not_false] at hc; done) | skip) | rewrite [wx] | rewrite [wy] | rewrite [wt] | (rewrite [uA_st]) | (refine ⟨_, uA_rd _ _ (by first | omega | (simp only [Array.size_setIfInBounds, size_swp]; omega)), ?_⟩) | ((with_reducible apply And.intro); focus (simp only [List.length_set, uA_len, Array.size_setIfInBounds, size_swp]; omega)) | (refine zll ?_; (conv => whnf); refine ⟨_, uLess_c _ _, ?_⟩) | ((with_reducible apply And.intro); focus (first | rfl | exact znb rfl | omega | (simp only [zlc, zln, zlm, zla]; omega))))
    refine ⟨⟨(t + 1, I, G), sz2, h2, by show a + 1 ≤ I; omega, by show I ≤ b; omega, by show t + 1 ≤ 5; omega⟩, (by show 5 - (t + 1) < 5 - t; omega), ent_of ?_⟩
    repeat' first | (with_reducible first | exact ⟨⟩ | exact rfl | exact lr _) | ((conv => whnf); with_reducible first | apply And.intro | exact ⟨⟩) | exact rfl | exact fun h => h | exact lr _
    all_goals try (conv => whnf)
  | true =>
    rw [if_neg (by simp [ltI, hl])] at g2
    repeat' ((conv => whnf); first | with_reducible refine zol ?_ | ((with_reducible refine fk (fun hc => ?_) fun hc => ?_) <;> first | exact absurd hc (by decide) | (exfalso; simp only [*, reduceCtorEq, Bool.not_true, Bool.not_false] at hc; done) | skip) | rewrite [wx] | rewrite [wy] | (rewrite [uA_st]) | (refine ⟨_, uA_rd _ _ (by first | omega | (simp only [Array.size_setIfInBounds, size_swp]; omega)), ?_⟩) | ((with_reducible apply And.intro); focus (simp only [List.length_set, uA_len, Array.size_setIfInBounds, size_swp]; omega)) | (refine zll ?_; (conv => whnf); refine ⟨_, uLess_c _ _, ?_⟩) | ((with_reducible apply And.intro); focus (first | rfl | exact znb rfl | omega | (simp only [zlc, zln, zlm, zla]; omega))))
    refine ⟨⟨(x + 1, swp G x (x - 1)), by rw [size_swp]; exact g1, g2, by show 1 ≤ x + 1; omega, by show x + 1 ≤ b; omega⟩, (by show b - (x + 1) < b - x; omega), ent_of ?_⟩
    repeat' first | (with_reducible first | exact ⟨⟩ | exact rfl | exact lr _) | ((conv => whnf); with_reducible first | apply And.intro | exact ⟨⟩) | exact rfl | exact fun h => h | exact lr _
    all_goals try (conv => whnf)
end Go.Proofs.YtgblabmhgdiicaaGreat.Tb
