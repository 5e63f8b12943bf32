/-
  Contracts of functions of the program and of the document, each for every input that its premises name.
-/
import Derived.Test.YtgblabmhgdiicaaGreatSB
set_option linter.unusedSectionVars false
set_option maxRecDepth 100000
set_option maxHeartbeats 4000000
set_option linter.unusedVariables false
set_option linter.unusedSimpArgs false
open Go Go.AX Go.Sort
namespace Go.Proofs.YtgblabmhgdiicaaGreat.Tb
theorem fn_uPart : FnOk Tryz.prog 86 Tryz.f86 := ⟨Tryz.func86, by kernel_rfl, by kernel_rfl, by kernel_rfl⟩
theorem uPart_g (A : Array Int) (a b pivot : Nat) (h1 : a ≤ pivot) (h2 : pivot < b) (hb : b ≤ A.size) (hs : A.size < 4611686018427387904) (p : Nat) (q : Bool) (E : Array Int) (e : partition ltInt A a b pivot = (p, q, E)) :
    GCx Tryz.prog 86 [.slw 1 0, .pv (ii a), .pv (ii b), .pv (ii pivot)] [(1, .arr 22 0 1 (uA A))] (.pv (.tup [ii p, bl q])) [(1, .arr 22 0 1 (uA E))] := by
  unfold partition at e
  have e0 : IntKind.i64.wrap ((a : Int) + 1) = ((a + 1 : Nat) : Int) := by rw [wrapI (by omega) (by omega)]; omega
  have e1 : IntKind.i64.wrap ((b : Int) - 1) = ((b - 1 : Nat) : Int) := by rw [wrapI (by omega) (by omega)]; omega
  obtain ⟨D, hD⟩ : ∃ D, swp A a pivot = D := ⟨_, rfl⟩
  have hDs : D.size = A.size := by rw [← hD, size_swp]
  rw [hD] at e
  simp only at e
  refine GC_of_VC tabOk (draw_ok mixed tabOk) fn_uPart rfl ?_
  repeat' ((conv => whnf); first | with_reducible refine zor ?_ | with_reducible refine zoc ?_ | with_reducible refine zos ?_ | ((with_reducible refine fk (fun hc => ?_) fun hc => ?_) <;> first | exact absurd hc (by decide) | (exfalso; simp only [*, reduceCtorEq, Bool.not_true, Bool.not_false] at hc; done) | skip) | rewrite [e0] | rewrite [e1] | (rewrite [uA_st]) | (refine ⟨_, uA_rd _ _ (by first | omega | (simp only [Array.size_setIfInBounds, size_swp]; omega)), ?_⟩) | ((with_reducible apply And.intro); focus (simp only [List.length_set, uA_len, Array.size_setIfInBounds, size_swp]; omega)) | (refine zll ?_; (conv => whnf); refine ⟨_, uLess_c _ _, ?_⟩) | ((with_reducible apply And.intro); focus (first | rfl | exact znb rfl | omega | (simp only [zlc, zln, zlm, zla]; omega))))
  obtain ⟨I, hI⟩ : ∃ x, scanUp (fun x => ltInt x D[a]!) D (b - 1) (a + 1) = x := ⟨_, rfl⟩
  have hIa : (a + 1) ≤ I := by rw [← hI]; exact scanUp_ge _ _ _ _
  have hIb : I ≤ (b - 1) + 2 := by rw [← hI]; exact ax_scanUp_le2 _ _ _ _ _ (Nat.le_refl _) (by omega)
  refine Or.inr ⟨Unit, fun _ => ⟨[(0, .slw 1 0), (1, .pv (ii a)), (10, .pv (ii I)), (11, .pv (ii ((b - 1 : Nat) : Int)))], 1000000000, [(1, .arr 22 0 1 (uA D))]⟩, ?_, fun _ => ?_⟩
  · repeat' ((conv => whnf)
             first
             | with_reducible refine zor ?_
             | with_reducible refine zoc ?_
             | with_reducible refine zos ?_
             | ((with_reducible refine fk (fun hc => ?_) fun hc => ?_) <;> first | exact absurd hc (by decide) | (exfalso; simp only [*, reduceCtorEq] at hc; done) | skip)
             | ((with_reducible apply And.intro); focus (first | rfl | exact znb rfl | omega | (simp only [zlc, zln, zlm, zla]; omega))))
    refine ⟨{x : Nat // scanUp (fun x => ltInt x D[a]!) D (b - 1) x = I ∧ a < x ∧ x ≤ (b - 1) + 2}, fun ⟨x, _⟩ => ⟨[(0, .slw 1 0), (1, .pv (ii a)), (10, .pv (ii x)), (11, .pv (ii ((b - 1 : Nat) : Int)))], 1000000000, [(1, .arr 22 0 1 (uA D))]⟩, fun ⟨x, _⟩ => (b - 1) + 2 - x, ⟨⟨(a + 1), hI, by omega, by omega⟩, ent_of ?_⟩, ?_⟩
    · repeat' first
        | fail
        | with_reducible exact True.intro
        | with_reducible exact rfl
        | with_reducible exact leRs_refl _
        | ((conv => whnf); with_reducible apply And.intro)
        | ((conv => whnf); with_reducible exact True.intro)
        | exact rfl
        | exact fun h => h
        | exact leRs_refl _
      all_goals try (conv => whnf)
      all_goals first | omega | (refine leRs_of_eq ?_; exact congrArg uA hD)
    rintro ⟨x, g1, g2, g3⟩
    have wx : IntKind.i64.wrap ((x : Int) + 1) = ((x + 1 : Nat) : Int) := by rw [wrapI (by omega) (by omega)]; omega
    by_cases hx : x ≤ (b - 1)
    · have d0 : decide ((x : Int) ≤ ((b - 1 : Nat) : Int)) = true := by simp only [zdt]; omega
      cases hl : decide (D[x]! < D[a]!) with
      | true =>
        rw [ax_scanUp_one hx (by simp [ltI, hl])] at g1
        repeat' ((conv => whnf); first | with_reducible refine zol ?_ | ((with_reducible refine fk (fun hc => ?_) fun hc => ?_) <;> first | exact absurd hc (by decide) | (exfalso; simp only [*, reduceCtorEq, Bool.not_true, Bool.not_false] at hc; done) | skip) | rewrite [wx] | (rewrite [uA_st]) | (refine ⟨_, uA_rd _ _ (by first | omega | (simp only [Array.size_setIfInBounds, size_swp]; omega)), ?_⟩) | ((with_reducible apply And.intro); focus (simp only [List.length_set, uA_len, Array.size_setIfInBounds, size_swp]; omega)) | (refine zll ?_; (conv => whnf); refine ⟨_, uLess_c _ _, ?_⟩) | ((with_reducible apply And.intro); focus (first | rfl | exact znb rfl | omega | (simp only [zlc, zln, zlm, zla]; omega))))
        refine ⟨⟨x + 1, g1, by omega, by omega⟩, (by show (b - 1) + 2 - (x + 1) < (b - 1) + 2 - x; omega), ent_of ?_⟩
        repeat' first | (with_reducible first | exact ⟨⟩ | exact rfl | exact lr _) | ((conv => whnf); with_reducible first | apply And.intro | exact ⟨⟩) | exact rfl | exact fun h => h | exact lr _
        all_goals try (conv => whnf)
      | false =>
        rw [ax_scanUp_end (.inr (by simp [ltI, hl]))] at g1
        subst g1
        repeat' ((conv => whnf); first | with_reducible refine zol ?_ | ((with_reducible refine fk (fun hc => ?_) fun hc => ?_) <;> first | exact absurd hc (by decide) | (exfalso; simp only [*, reduceCtorEq, Bool.not_true, Bool.not_false] at hc; done) | skip) | (rewrite [uA_st]) | (refine ⟨_, uA_rd _ _ (by first | omega | (simp only [Array.size_setIfInBounds, size_swp]; omega)), ?_⟩) | ((with_reducible apply And.intro); focus (simp only [List.length_set, uA_len, Array.size_setIfInBounds, size_swp]; omega)) | (refine zll ?_; (conv => whnf); refine ⟨_, uLess_c _ _, ?_⟩) | ((with_reducible apply And.intro); focus (first | rfl | exact znb rfl | omega | (simp only [zlc, zln, zlm, zla]; omega))))
        refine ⟨(), ent_of ?_⟩
        repeat' first | (with_reducible first | exact ⟨⟩ | exact rfl | exact lr _) | ((conv => whnf); with_reducible first | apply And.intro | exact ⟨⟩) | exact rfl | exact fun h => h | exact lr _
        all_goals try (conv => whnf)
    · have d0 : decide ((x : Int) ≤ ((b - 1 : Nat) : Int)) = false := by simp only [zdf]; omega
      rw [ax_scanUp_end (.inl hx)] at g1
      subst g1
      repeat' ((conv => whnf); first | with_reducible refine zol ?_ | ((with_reducible refine fk (fun hc => ?_) fun hc => ?_) <;> first | exact absurd hc (by decide) | (exfalso; simp only [*, reduceCtorEq, Bool.not_true, Bool.not_false] at hc; done) | skip) | (rewrite [uA_st]) | (refine ⟨_, uA_rd _ _ (by first | omega | (simp only [Array.size_setIfInBounds, size_swp]; omega)), ?_⟩) | ((with_reducible apply And.intro); focus (simp only [List.length_set, uA_len, Array.size_setIfInBounds, size_swp]; omega)) | (refine zll ?_; (conv => whnf); refine ⟨_, uLess_c _ _, ?_⟩) | ((with_reducible apply And.intro); focus (first | rfl | exact znb rfl | omega | (simp only [zlc, zln, zlm, zla]; omega))))
      refine ⟨(), ent_of ?_⟩
      repeat' first | (with_reducible first | exact ⟨⟩ | exact rfl | exact lr _) | ((conv => whnf); with_reducible first | apply And.intro | exact ⟨⟩) | exact rfl | exact fun h => h | exact lr _
      all_goals try (conv => whnf)
  rw [hI] at e
  obtain ⟨J, hJ⟩ : ∃ x, scanDown (fun x => !ltInt x D[a]!) D I (b - 1) = x := ⟨_, rfl⟩
  have hJa : J ≤ (b - 1) := by rw [← hJ]; exact scanDown_le _ _ _ _
  have hJb : a ≤ J := by rw [← hJ]; exact ax_scanDown_ge2 _ _ _ _ (by omega) _ (by omega)
  refine Or.inr ⟨Unit, fun _ => ⟨[(0, .slw 1 0), (1, .pv (ii a)), (10, .pv (ii I)), (11, .pv (ii J))], 1000000000, [(1, .arr 22 0 1 (uA D))]⟩, ?_, fun _ => ?_⟩
  · repeat' ((conv => whnf)
             first
             | with_reducible refine zor ?_
             | with_reducible refine zoc ?_
             | with_reducible refine zos ?_
             | ((with_reducible refine fk (fun hc => ?_) fun hc => ?_) <;> first | exact absurd hc (by decide) | (exfalso; simp only [*, reduceCtorEq] at hc; done) | skip)
             | ((with_reducible apply And.intro); focus (first | rfl | exact znb rfl | omega | (simp only [zlc, zln, zlm, zla]; omega))))
    refine ⟨{x : Nat // scanDown (fun x => !ltInt x D[a]!) D I x = J ∧ a ≤ x ∧ x < D.size}, fun ⟨x, _⟩ => ⟨[(0, .slw 1 0), (1, .pv (ii a)), (10, .pv (ii I)), (11, .pv (ii x))], 1000000000, [(1, .arr 22 0 1 (uA D))]⟩, fun ⟨x, _⟩ => x, ⟨⟨(b - 1), hJ, by omega, by omega⟩, ent_of ?_⟩, ?_⟩
    · repeat' first
        | fail
        | with_reducible exact True.intro
        | with_reducible exact rfl
        | with_reducible exact leRs_refl _
        | ((conv => whnf); with_reducible apply And.intro)
        | ((conv => whnf); with_reducible exact True.intro)
        | exact rfl
        | exact fun h => h
        | exact leRs_refl _
      all_goals try (conv => whnf)
    rintro ⟨x, g1, g2, g3⟩
    by_cases hx : I ≤ x
    · obtain ⟨y, rfl⟩ : ∃ y, x = y + 1 := ⟨x - 1, by omega⟩
      have wy : IntKind.i64.wrap (((y + 1 : Nat) : Int) - 1) = (y : Int) := by rw [wrapI (by omega) (by omega)]; omega
      have d0 : decide ((I : Int) ≤ ((y + 1 : Nat) : Int)) = true := by simp only [zdt]; omega
      cases hl : decide (D[y + 1]! < D[a]!) with
      | false =>
        rw [ax_scanDown_one hx (by simp [ltI, hl])] at g1
        repeat' ((conv => whnf); first | with_reducible refine zol ?_ | ((with_reducible refine fk (fun hc => ?_) fun hc => ?_) <;> first | exact absurd hc (by decide) | (exfalso; simp only [*, reduceCtorEq, Bool.not_true, Bool.not_false] at hc; done) | skip) | rewrite [wy] | (rewrite [uA_st]) | (refine ⟨_, uA_rd _ _ (by first | omega | (simp only [Array.size_setIfInBounds, size_swp]; omega)), ?_⟩) | ((with_reducible apply And.intro); focus (simp only [List.length_set, uA_len, Array.size_setIfInBounds, size_swp]; omega)) | (refine zll ?_; (conv => whnf); refine ⟨_, uLess_c _ _, ?_⟩) | ((with_reducible apply And.intro); focus (first | rfl | exact znb rfl | omega | (simp only [zlc, zln, zlm, zla]; omega))))
        refine ⟨⟨y, g1, by omega, by omega⟩, Nat.lt_succ_self _, ent_of ?_⟩
        repeat' first | (with_reducible first | exact ⟨⟩ | exact rfl | exact lr _) | ((conv => whnf); with_reducible first | apply And.intro | exact ⟨⟩) | exact rfl | exact fun h => h | exact lr _
        all_goals try (conv => whnf)
      | true =>
        rw [ax_scanDown_end (.inr (by simp [ltI, hl]))] at g1
        subst g1
        repeat' ((conv => whnf); first | with_reducible refine zol ?_ | ((with_reducible refine fk (fun hc => ?_) fun hc => ?_) <;> first | exact absurd hc (by decide) | (exfalso; simp only [*, reduceCtorEq, Bool.not_true, Bool.not_false] at hc; done) | skip) | (rewrite [uA_st]) | (refine ⟨_, uA_rd _ _ (by first | omega | (simp only [Array.size_setIfInBounds, size_swp]; omega)), ?_⟩) | ((with_reducible apply And.intro); focus (simp only [List.length_set, uA_len, Array.size_setIfInBounds, size_swp]; omega)) | (refine zll ?_; (conv => whnf); refine ⟨_, uLess_c _ _, ?_⟩) | ((with_reducible apply And.intro); focus (first | rfl | exact znb rfl | omega | (simp only [zlc, zln, zlm, zla]; omega))))
        refine ⟨(), ent_of ?_⟩
        repeat' first | (with_reducible first | exact ⟨⟩ | exact rfl | exact lr _) | ((conv => whnf); with_reducible first | apply And.intro | exact ⟨⟩) | exact rfl | exact fun h => h | exact lr _
        all_goals try (conv => whnf)
    · have d0 : decide ((I : Int) ≤ (x : Int)) = false := by simp only [zdf]; omega
      rw [ax_scanDown_end (.inl hx)] at g1
      subst g1
      repeat' ((conv => whnf); first | with_reducible refine zol ?_ | ((with_reducible refine fk (fun hc => ?_) fun hc => ?_) <;> first | exact absurd hc (by decide) | (exfalso; simp only [*, reduceCtorEq, Bool.not_true, Bool.not_false] at hc; done) | skip) | (rewrite [uA_st]) | (refine ⟨_, uA_rd _ _ (by first | omega | (simp only [Array.size_setIfInBounds, size_swp]; omega)), ?_⟩) | ((with_reducible apply And.intro); focus (simp only [List.length_set, uA_len, Array.size_setIfInBounds, size_swp]; omega)) | (refine zll ?_; (conv => whnf); refine ⟨_, uLess_c _ _, ?_⟩) | ((with_reducible apply And.intro); focus (first | rfl | exact znb rfl | omega | (simp only [zlc, zln, zlm, zla]; omega))))
      refine ⟨(), ent_of ?_⟩
      repeat' first | (with_reducible first | exact ⟨⟩ | exact rfl | exact lr _) | ((conv => whnf); with_reducible first | apply And.intro | exact ⟨⟩) | exact rfl | exact fun h => h | exact lr _
      all_goals try (conv => whnf)
  rw [hJ] at e
  clear hI hJ e0 e1
  by_cases hIJ : I > J
  · have d0 : decide ((I : Int) > (J : Int)) = true := by simp only [zdt]; omega
    rw [if_pos hIJ] at e
    simp only [Prod.mk.injEq] at e
    obtain ⟨rfl, rfl, rfl⟩ := e
    repeat' ((conv => whnf); first | with_reducible refine zol ?_ | ((with_reducible refine fk (fun hc => ?_) fun hc => ?_) <;> first | exact absurd hc (by decide) | (exfalso; simp only [*, reduceCtorEq, Bool.not_true, Bool.not_false] at hc; done) | skip) | (rewrite [uA_st]) | (refine ⟨_, uA_rd _ _ (by first | omega | (simp only [Array.size_setIfInBounds, size_swp]; omega)), ?_⟩) | ((with_reducible apply And.intro); focus (simp only [List.length_set, uA_len, Array.size_setIfInBounds, size_swp]; omega)) | (refine zll ?_; (conv => whnf); refine ⟨_, uLess_c _ _, ?_⟩) | ((with_reducible apply And.intro); focus (first | rfl | exact znb rfl | omega | (simp only [zlc, zln, zlm, zla]; omega))))
    refine ⟨_, _, ⟨rfl, rfl⟩, ?_⟩
    repeat' first | (with_reducible first | exact ⟨⟩ | exact rfl | exact lr _) | ((conv => whnf); with_reducible first | apply And.intro | exact ⟨⟩) | exact rfl | exact fun h => h | exact lr _
    all_goals try (conv => whnf)
  have d0 : decide ((I : Int) > (J : Int)) = false := by simp only [zdf]; omega
  rw [if_neg hIJ] at e
  have wI : IntKind.i64.wrap ((I : Int) + 1) = ((I + 1 : Nat) : Int) := by rw [wrapI (by omega) (by omega)]; omega
  have wJ : IntKind.i64.wrap ((J : Int) - 1) = ((J - 1 : Nat) : Int) := by rw [wrapI (by omega) (by omega)]; omega
  obtain ⟨⟨p', E'⟩, hr⟩ : ∃ x, partLoop ltInt a (I + 1) (J - 1) (swp D I J) = x := ⟨_, rfl⟩
  simp only [hr, Prod.mk.injEq] at e
  obtain ⟨rfl, rfl, rfl⟩ := e
  repeat' ((conv => whnf); first | with_reducible refine zor ?_ | with_reducible refine zoc ?_ | with_reducible refine zos ?_ | ((with_reducible refine fk (fun hc => ?_) fun hc => ?_) <;> first | exact absurd hc (by decide) | (exfalso; simp only [*, reduceCtorEq, Bool.not_true, Bool.not_false] at hc; done) | skip) | rewrite [wI] | rewrite [wJ] | (rewrite [uA_st]) | (refine ⟨_, uA_rd _ _ (by first | omega | (simp only [Array.size_setIfInBounds, size_swp]; omega)), ?_⟩) | ((with_reducible apply And.intro); focus (simp only [List.length_set, uA_len, Array.size_setIfInBounds, size_swp]; omega)) | (refine zll ?_; (conv => whnf); refine ⟨_, uLess_c _ _, ?_⟩) | ((with_reducible apply And.intro); focus (first | rfl | exact znb rfl | omega | (simp only [zlc, zln, zlm, zla]; omega))))
  refine Or.inl ?_
  repeat' ((conv => whnf); first | with_reducible refine zor ?_ | with_reducible refine zoc ?_ | with_reducible refine zos ?_ | ((with_reducible refine fk (fun hc => ?_) fun hc => ?_) <;> first | exact absurd hc (by decide) | (exfalso; simp only [*, reduceCtorEq] at hc; done) | skip) | ((with_reducible apply And.intro); focus (first | rfl | exact znb rfl | omega | (simp only [zlc, zln, zlm, zla]; omega))))
  refine ⟨{x : Nat × Nat × Array Int // x.2.2.size = A.size ∧ partLoop ltInt a x.1 x.2.1 x.2.2 = (p', E') ∧ a < x.1 ∧ a ≤ x.2.1 ∧ x.1 ≤ x.2.1 + 2 ∧ x.2.1 < b}, fun ⟨(i, j, F), _⟩ => ⟨[(0, .slw 1 0), (1, .pv (ii a)), (10, .pv (ii i)), (11, .pv (ii j))], 1000000000, [(1, .arr 22 0 1 (uA F))]⟩, fun ⟨(i, j, _), _⟩ => j + 1 - i + (if i ≤ j then 1 else 0), ⟨⟨(I + 1, J - 1, swp D I J), by rw [size_swp]; exact hDs, hr, by show a < I + 1; omega, by show a ≤ J - 1; omega, by show I + 1 ≤ J - 1 + 2; omega, by show J - 1 < b; omega⟩, ent_of ?_⟩, ?_⟩
  · repeat' first
      | fail
      | with_reducible exact True.intro
      | with_reducible exact rfl
      | with_reducible exact leRs_refl _
      | ((conv => whnf); with_reducible apply And.intro)
      | ((conv => whnf); with_reducible exact True.intro)
      | exact rfl
      | exact fun h => h
      | exact leRs_refl _
    all_goals try (conv => whnf)
  clear hr wI wJ d0 hIJ hDs hD
  rintro ⟨⟨i, j, F⟩, q1, q2, q3, q4, q5, q6⟩
  simp only at q1 q2 q3 q4 q5 q6
  rw [partLoop_eq] at q2
  clear hIa hIb hJa hJb
  repeat' ((conv => whnf); first | with_reducible refine zor ?_ | with_reducible refine zoc ?_ | with_reducible refine zos ?_ | ((with_reducible refine fk (fun hc => ?_) fun hc => ?_) <;> first | exact absurd hc (by decide) | (exfalso; simp only [*, reduceCtorEq] at hc; done) | skip) | ((with_reducible apply And.intro); focus (first | rfl | exact znb rfl | omega | (simp only [zlc, zln, zlm, zla]; omega))))
  obtain ⟨K, hK⟩ : ∃ x, scanUp (fun x => ltInt x F[a]!) F j i = x := ⟨_, rfl⟩
  have hKa : i ≤ K := by rw [← hK]; exact scanUp_ge _ _ _ _
  have hKb : K ≤ j + 2 := by rw [← hK]; exact ax_scanUp_le2 _ _ _ _ _ (Nat.le_refl _) (by omega)
  refine Or.inr ⟨Unit, fun _ => ⟨[(0, .slw 1 0), (1, .pv (ii a)), (10, .pv (ii K)), (11, .pv (ii j))], 1000000000, [(1, .arr 22 0 1 (uA F))]⟩, ?_, fun _ => ?_⟩
  · repeat' ((conv => whnf)
             first
             | with_reducible refine zor ?_
             | with_reducible refine zoc ?_
             | with_reducible refine zos ?_
             | ((with_reducible refine fk (fun hc => ?_) fun hc => ?_) <;> first | exact absurd hc (by decide) | (exfalso; simp only [*, reduceCtorEq] at hc; done) | skip)
             | ((with_reducible apply And.intro); focus (first | rfl | exact znb rfl | omega | (simp only [zlc, zln, zlm, zla]; omega))))
    refine ⟨{x : Nat // scanUp (fun x => ltInt x F[a]!) F j x = K ∧ a < x ∧ x ≤ j + 2}, fun ⟨x, _⟩ => ⟨[(0, .slw 1 0), (1, .pv (ii a)), (10, .pv (ii x)), (11, .pv (ii j))], 1000000000, [(1, .arr 22 0 1 (uA F))]⟩, fun ⟨x, _⟩ => j + 2 - x, ⟨⟨i, hK, by omega, by omega⟩, ent_of ?_⟩, ?_⟩
    · repeat' first
        | fail
        | with_reducible exact True.intro
        | with_reducible exact rfl
        | with_reducible exact leRs_refl _
        | ((conv => whnf); with_reducible apply And.intro)
        | ((conv => whnf); with_reducible exact True.intro)
        | exact rfl
        | exact fun h => h
        | exact leRs_refl _
      all_goals try (conv => whnf)
      all_goals first | omega | (refine leRs_of_eq ?_; exact congrArg uA hD)
    rintro ⟨x, g1, g2, g3⟩
    have wx : IntKind.i64.wrap ((x : Int) + 1) = ((x + 1 : Nat) : Int) := by rw [wrapI (by omega) (by omega)]; omega
    by_cases hx : x ≤ j
    · have d0 : decide ((x : Int) ≤ (j : Int)) = true := by simp only [zdt]; omega
      cases hl : decide (F[x]! < F[a]!) with
      | true =>
        rw [ax_scanUp_one hx (by simp [ltI, hl])] at g1
        repeat' ((conv => whnf); first | with_reducible refine zol ?_ | ((with_reducible refine fk (fun hc => ?_) fun hc => ?_) <;> first | exact absurd hc (by decide) | (exfalso; simp only [*, reduceCtorEq, Bool.not_true, Bool.not_false] at hc; done) | skip) | rewrite [wx] | (rewrite [uA_st]) | (refine ⟨_, uA_rd _ _ (by first | omega | (simp only [Array.size_setIfInBounds, size_swp]; omega)), ?_⟩) | ((with_reducible apply And.intro); focus (simp only [List.length_set, uA_len, Array.size_setIfInBounds, size_swp]; omega)) | (refine zll ?_; (conv => whnf); refine ⟨_, uLess_c _ _, ?_⟩) | ((with_reducible apply And.intro); focus (first | rfl | exact znb rfl | omega | (simp only [zlc, zln, zlm, zla]; omega))))
        refine ⟨⟨x + 1, g1, by omega, by omega⟩, (by show j + 2 - (x + 1) < j + 2 - x; omega), ent_of ?_⟩
        repeat' first | (with_reducible first | exact ⟨⟩ | exact rfl | exact lr _) | ((conv => whnf); with_reducible first | apply And.intro | exact ⟨⟩) | exact rfl | exact fun h => h | exact lr _
        all_goals try (conv => whnf)
      | false =>
        rw [ax_scanUp_end (.inr (by simp [ltI, hl]))] at g1
        subst g1
        repeat' ((conv => whnf); first | with_reducible refine zol ?_ | ((with_reducible refine fk (fun hc => ?_) fun hc => ?_) <;> first | exact absurd hc (by decide) | (exfalso; simp only [*, reduceCtorEq, Bool.not_true, Bool.not_false] at hc; done) | skip) | (rewrite [uA_st]) | (refine ⟨_, uA_rd _ _ (by first | omega | (simp only [Array.size_setIfInBounds, size_swp]; omega)), ?_⟩) | ((with_reducible apply And.intro); focus (simp only [List.length_set, uA_len, Array.size_setIfInBounds, size_swp]; omega)) | (refine zll ?_; (conv => whnf); refine ⟨_, uLess_c _ _, ?_⟩) | ((with_reducible apply And.intro); focus (first | rfl | exact znb rfl | omega | (simp only [zlc, zln, zlm, zla]; omega))))
        refine ⟨(), ent_of ?_⟩
        repeat' first | (with_reducible first | exact ⟨⟩ | exact rfl | exact lr _) | ((conv => whnf); with_reducible first | apply And.intro | exact ⟨⟩) | exact rfl | exact fun h => h | exact lr _
        all_goals try (conv => whnf)
    · have d0 : decide ((x : Int) ≤ (j : Int)) = false := by simp only [zdf]; omega
      rw [ax_scanUp_end (.inl hx)] at g1
      subst g1
      repeat' ((conv => whnf); first | with_reducible refine zol ?_ | ((with_reducible refine fk (fun hc => ?_) fun hc => ?_) <;> first | exact absurd hc (by decide) | (exfalso; simp only [*, reduceCtorEq, Bool.not_true, Bool.not_false] at hc; done) | skip) | (rewrite [uA_st]) | (refine ⟨_, uA_rd _ _ (by first | omega | (simp only [Array.size_setIfInBounds, size_swp]; omega)), ?_⟩) | ((with_reducible apply And.intro); focus (simp only [List.length_set, uA_len, Array.size_setIfInBounds, size_swp]; omega)) | (refine zll ?_; (conv => whnf); refine ⟨_, uLess_c _ _, ?_⟩) | ((with_reducible apply And.intro); focus (first | rfl | exact znb rfl | omega | (simp only [zlc, zln, zlm, zla]; omega))))
      refine ⟨(), ent_of ?_⟩
      repeat' first | (with_reducible first | exact ⟨⟩ | exact rfl | exact lr _) | ((conv => whnf); with_reducible first | apply And.intro | exact ⟨⟩) | exact rfl | exact fun h => h | exact lr _
      all_goals try (conv => whnf)
  rw [hK] at q2
  obtain ⟨L, hL⟩ : ∃ x, scanDown (fun x => !ltInt x F[a]!) F K j = x := ⟨_, rfl⟩
  have hLa : L ≤ j := by rw [← hL]; exact scanDown_le _ _ _ _
  have hLb : a ≤ L := by rw [← hL]; exact ax_scanDown_ge2 _ _ _ _ (by omega) _ (by omega)
  refine Or.inr ⟨Unit, fun _ => ⟨[(0, .slw 1 0), (1, .pv (ii a)), (10, .pv (ii K)), (11, .pv (ii L))], 1000000000, [(1, .arr 22 0 1 (uA F))]⟩, ?_, fun _ => ?_⟩
  · repeat' ((conv => whnf)
             first
             | with_reducible refine zor ?_
             | with_reducible refine zoc ?_
             | with_reducible refine zos ?_
             | ((with_reducible refine fk (fun hc => ?_) fun hc => ?_) <;> first | exact absurd hc (by decide) | (exfalso; simp only [*, reduceCtorEq] at hc; done) | skip)
             | ((with_reducible apply And.intro); focus (first | rfl | exact znb rfl | omega | (simp only [zlc, zln, zlm, zla]; omega))))
    refine ⟨{x : Nat // scanDown (fun x => !ltInt x F[a]!) F K x = L ∧ a ≤ x ∧ x < F.size}, fun ⟨x, _⟩ => ⟨[(0, .slw 1 0), (1, .pv (ii a)), (10, .pv (ii K)), (11, .pv (ii x))], 1000000000, [(1, .arr 22 0 1 (uA F))]⟩, fun ⟨x, _⟩ => x, ⟨⟨j, hL, by omega, by omega⟩, ent_of ?_⟩, ?_⟩
    · repeat' first
        | fail
        | with_reducible exact True.intro
        | with_reducible exact rfl
        | with_reducible exact leRs_refl _
        | ((conv => whnf); with_reducible apply And.intro)
        | ((conv => whnf); with_reducible exact True.intro)
        | exact rfl
        | exact fun h => h
        | exact leRs_refl _
      all_goals try (conv => whnf)
    rintro ⟨x, g1, g2, g3⟩
    by_cases hx : K ≤ x
    · obtain ⟨y, rfl⟩ : ∃ y, x = y + 1 := ⟨x - 1, by omega⟩
      have wy : IntKind.i64.wrap (((y + 1 : Nat) : Int) - 1) = (y : Int) := by rw [wrapI (by omega) (by omega)]; omega
      have d0 : decide ((K : Int) ≤ ((y + 1 : Nat) : Int)) = true := by simp only [zdt]; omega
      cases hl : decide (F[y + 1]! < F[a]!) with
      | false =>
        rw [ax_scanDown_one hx (by simp [ltI, hl])] at g1
        repeat' ((conv => whnf); first | with_reducible refine zol ?_ | ((with_reducible refine fk (fun hc => ?_) fun hc => ?_) <;> first | exact absurd hc (by decide) | (exfalso; simp only [*, reduceCtorEq, Bool.not_true, Bool.not_false] at hc; done) | skip) | rewrite [wy] | (rewrite [uA_st]) | (refine ⟨_, uA_rd _ _ (by first | omega | (simp only [Array.size_setIfInBounds, size_swp]; omega)), ?_⟩) | ((with_reducible apply And.intro); focus (simp only [List.length_set, uA_len, Array.size_setIfInBounds, size_swp]; omega)) | (refine zll ?_; (conv => whnf); refine ⟨_, uLess_c _ _, ?_⟩) | ((with_reducible apply And.intro); focus (first | rfl | exact znb rfl | omega | (simp only [zlc, zln, zlm, zla]; omega))))
        refine ⟨⟨y, g1, by omega, by omega⟩, Nat.lt_succ_self _, ent_of ?_⟩
        repeat' first | (with_reducible first | exact ⟨⟩ | exact rfl | exact lr _) | ((conv => whnf); with_reducible first | apply And.intro | exact ⟨⟩) | exact rfl | exact fun h => h | exact lr _
        all_goals try (conv => whnf)
      | true =>
        rw [ax_scanDown_end (.inr (by simp [ltI, hl]))] at g1
        subst g1
        repeat' ((conv => whnf); first | with_reducible refine zol ?_ | ((with_reducible refine fk (fun hc => ?_) fun hc => ?_) <;> first | exact absurd hc (by decide) | (exfalso; simp only [*, reduceCtorEq, Bool.not_true, Bool.not_false] at hc; done) | skip) | (rewrite [uA_st]) | (refine ⟨_, uA_rd _ _ (by first | omega | (simp only [Array.size_setIfInBounds, size_swp]; omega)), ?_⟩) | ((with_reducible apply And.intro); focus (simp only [List.length_set, uA_len, Array.size_setIfInBounds, size_swp]; omega)) | (refine zll ?_; (conv => whnf); refine ⟨_, uLess_c _ _, ?_⟩) | ((with_reducible apply And.intro); focus (first | rfl | exact znb rfl | omega | (simp only [zlc, zln, zlm, zla]; omega))))
        refine ⟨(), ent_of ?_⟩
        repeat' first | (with_reducible first | exact ⟨⟩ | exact rfl | exact lr _) | ((conv => whnf); with_reducible first | apply And.intro | exact ⟨⟩) | exact rfl | exact fun h => h | exact lr _
        all_goals try (conv => whnf)
    · have d0 : decide ((K : Int) ≤ (x : Int)) = false := by simp only [zdf]; omega
      rw [ax_scanDown_end (.inl hx)] at g1
      subst g1
      repeat' ((conv => whnf); first | with_reducible refine zol ?_ | ((with_reducible refine fk (fun hc => ?_) fun hc => ?_) <;> first | exact absurd hc (by decide) | (exfalso; simp only [*, reduceCtorEq, Bool.not_true, Bool.not_false] at hc; done) | skip) | (rewrite [uA_st]) | (refine ⟨_, uA_rd _ _ (by first | omega | (simp only [Array.size_setIfInBounds, size_swp]; omega)), ?_⟩) | ((with_reducible apply And.intro); focus (simp only [List.length_set, uA_len, Array.size_setIfInBounds, size_swp]; omega)) | (refine zll ?_; (conv => whnf); refine ⟨_, uLess_c _ _, ?_⟩) | ((with_reducible apply And.intro); focus (first | rfl | exact znb rfl | omega | (simp only [zlc, zln, zlm, zla]; omega))))
      refine ⟨(), ent_of ?_⟩
      repeat' first | (with_reducible first | exact ⟨⟩ | exact rfl | exact lr _) | ((conv => whnf); with_reducible first | apply And.intro | exact ⟨⟩) | exact rfl | exact fun h => h | exact lr _
      all_goals try (conv => whnf)
  rw [hL] at q2
  by_cases hKL : K > L
  · have d0 : decide ((K : Int) > (L : Int)) = true := by simp only [zdt]; omega
    rw [if_pos hKL] at q2
    simp only [Prod.mk.injEq] at q2
    obtain ⟨rfl, rfl⟩ := q2
    repeat' ((conv => whnf); first | with_reducible refine zol ?_ | ((with_reducible refine fk (fun hc => ?_) fun hc => ?_) <;> first | exact absurd hc (by decide) | (exfalso; simp only [*, reduceCtorEq, Bool.not_true, Bool.not_false] at hc; done) | skip) | (rewrite [uA_st]) | (refine ⟨_, uA_rd _ _ (by first | omega | (simp only [Array.size_setIfInBounds, size_swp]; omega)), ?_⟩) | ((with_reducible apply And.intro); focus (simp only [List.length_set, uA_len, Array.size_setIfInBounds, size_swp]; omega)) | (refine zll ?_; (conv => whnf); refine ⟨_, uLess_c _ _, ?_⟩) | ((with_reducible apply And.intro); focus (first | rfl | exact znb rfl | omega | (simp only [zlc, zln, zlm, zla]; omega))))
    refine ⟨_, _, ⟨rfl, rfl⟩, ?_⟩
    repeat' first | (with_reducible first | exact ⟨⟩ | exact rfl | exact lr _) | ((conv => whnf); with_reducible first | apply And.intro | exact ⟨⟩) | exact rfl | exact fun h => h | exact lr _
    all_goals try (conv => whnf)
  have d0 : decide ((K : Int) > (L : Int)) = false := by simp only [zdf]; omega
  rw [if_neg hKL] at q2
  have wI : IntKind.i64.wrap ((K : Int) + 1) = ((K + 1 : Nat) : Int) := by rw [wrapI (by omega) (by omega)]; omega
  have wJ : IntKind.i64.wrap ((L : Int) - 1) = ((L - 1 : Nat) : Int) := by rw [wrapI (by omega) (by omega)]; omega
  repeat' ((conv => whnf); first | with_reducible refine zol ?_ | ((with_reducible refine fk (fun hc => ?_) fun hc => ?_) <;> first | exact absurd hc (by decide) | (exfalso; simp only [*, reduceCtorEq, Bool.not_true, Bool.not_false] at hc; done) | skip) | rewrite [wI] | rewrite [wJ] | (rewrite [uA_st]) | (refine ⟨_, uA_rd _ _ (by first | omega | (simp only [Array.size_setIfInBounds, size_swp]; omega)), ?_⟩) | ((with_reducible apply And.intro); focus (simp only [List.length_set, uA_len, Array.size_setIfInBounds, size_swp]; omega)) | (refine zll ?_; (conv => whnf); refine ⟨_, uLess_c _ _, ?_⟩) | ((with_reducible apply And.intro); focus (first | rfl | exact znb rfl | omega | (simp only [zlc, zln, zlm, zla]; omega))))
  refine ⟨⟨(K + 1, L - 1, swp F K L), by rw [size_swp]; exact q1, q2, by show a < K + 1; omega, by show a ≤ L - 1; omega, by show K + 1 ≤ L - 1 + 2; omega, by show L - 1 < b; omega⟩, (by show (L - 1) + 1 - (K + 1) + (if K + 1 ≤ L - 1 then 1 else 0) < j + 1 - i + (if i ≤ j then 1 else 0); split <;> split <;> omega), ent_of ?_⟩
  repeat' first | (with_reducible first | exact ⟨⟩ | exact rfl | exact lr _) | ((conv => whnf); with_reducible first | apply And.intro | exact ⟨⟩) | exact rfl | exact fun h => h | exact lr _
  all_goals try (conv => whnf)
theorem fn_uPEq : FnOk Tryz.prog 85 Tryz.f85 := ⟨Tryz.func85, by kernel_rfl, by kernel_rfl, by kernel_rfl⟩
theorem uPEq_g (A : Array Int) (a b pivot : Nat) (h1 : a ≤ pivot) (h2 : pivot < b) (hb : b ≤ A.size) (hs : A.size < 4611686018427387904) (p : Nat) (E : Array Int) (e : partitionEqual ltInt A a b pivot = (p, E)) :
    GCx Tryz.prog 85 [.slw 1 0, .pv (ii a), .pv (ii b), .pv (ii pivot)] [(1, .arr 22 0 1 (uA A))] (.pv (ii p)) [(1, .arr 22 0 1 (uA E))] := by
  unfold partitionEqual at e
  have e0 : IntKind.i64.wrap ((a : Int) + 1) = ((a + 1 : Nat) : Int) := by rw [wrapI (by omega) (by omega)]; omega
  have e1 : IntKind.i64.wrap ((b : Int) - 1) = ((b - 1 : Nat) : Int) := by rw [wrapI (by omega) (by omega)]; omega
  refine GC_of_VC tabOk (draw_ok mixed tabOk) fn_uPEq rfl ?_
  repeat' ((conv => whnf); first | with_reducible refine zol ?_ | ((with_reducible refine fk (fun hc => ?_) fun hc => ?_) <;> first | exact absurd hc (by decide) | (exfalso; simp only [*, reduceCtorEq, Bool.not_true, Bool.not_false] at hc; done) | skip) | rewrite [e0] | rewrite [e1] | (rewrite [uA_st]) | (refine ⟨_, uA_rd _ _ (by first | omega | (simp only [Array.size_setIfInBounds, size_swp]; omega)), ?_⟩) | ((with_reducible apply And.intro); focus (simp only [List.length_set, uA_len, Array.size_setIfInBounds, size_swp]; omega)) | (refine zll ?_; (conv => whnf); refine ⟨_, uLess_c _ _, ?_⟩) | ((with_reducible apply And.intro); focus (first | rfl | exact znb rfl | omega | (simp only [zlc, zln, zlm, zla]; omega))))
  refine ⟨{x : Nat × Nat × Array Int // x.2.2.size = A.size ∧ partEqLoop ltInt a x.1 x.2.1 x.2.2 = (p, E) ∧ a < x.1 ∧ a ≤ x.2.1 ∧ x.1 ≤ x.2.1 + 2 ∧ x.2.1 < b}, fun ⟨(i, j, F), _⟩ => ⟨[(0, .slw 1 0), (1, .pv (ii a)), (9, .pv (ii i)), (10, .pv (ii j))], 1000000000, [(1, .arr 22 0 1 (uA F))]⟩, fun ⟨(i, j, _), _⟩ => j + 1 - i + (if i ≤ j then 1 else 0), ⟨⟨(a + 1, b - 1, swp A a pivot), by rw [size_swp], e, by show a < a + 1; omega, by show a ≤ b - 1; omega, by show a + 1 ≤ b - 1 + 2; omega, by show b - 1 < b; omega⟩, ent_of ?_⟩, ?_⟩
  · repeat' first
      | fail
      | with_reducible exact True.intro
      | with_reducible exact rfl
      | with_reducible exact leRs_refl _
      | ((conv => whnf); with_reducible apply And.intro)
      | ((conv => whnf); with_reducible exact True.intro)
      | exact rfl
      | exact fun h => h
      | exact leRs_refl _
    all_goals try (conv => whnf)
  clear e e0 e1
  rintro ⟨⟨i, j, F⟩, q1, q2, q3, q4, q5, q6⟩
  simp only at q1 q2 q3 q4 q5 q6
  rw [partEqLoop_eq] at q2
  repeat' ((conv => whnf); first | with_reducible refine zor ?_ | with_reducible refine zoc ?_ | with_reducible refine zos ?_ | ((with_reducible refine fk (fun hc => ?_) fun hc => ?_) <;> first | exact absurd hc (by decide) | (exfalso; simp only [*, reduceCtorEq] at hc; done) | skip) | ((with_reducible apply And.intro); focus (first | rfl | exact znb rfl | omega | (simp only [zlc, zln, zlm, zla]; omega))))
  obtain ⟨K, hK⟩ : ∃ x, scanUp (fun x => !ltInt F[a]! x) F j i = x := ⟨_, rfl⟩
  have hKa : i ≤ K := by rw [← hK]; exact scanUp_ge _ _ _ _
  have hKb : K ≤ j + 2 := by rw [← hK]; exact ax_scanUp_le2 _ _ _ _ _ (Nat.le_refl _) (by omega)
  refine Or.inr ⟨Unit, fun _ => ⟨[(0, .slw 1 0), (1, .pv (ii a)), (9, .pv (ii K)), (10, .pv (ii j))], 1000000000, [(1, .arr 22 0 1 (uA F))]⟩, ?_, fun _ => ?_⟩
  · repeat' ((conv => whnf)
             first
             | with_reducible refine zor ?_
             | with_reducible refine zoc ?_
             | with_reducible refine zos ?_
             | ((with_reducible refine fk (fun hc => ?_) fun hc => ?_) <;> first | exact absurd hc (by decide) | (exfalso; simp only [*, reduceCtorEq] at hc; done) | skip)
             | ((with_reducible apply And.intro); focus (first | rfl | exact znb rfl | omega | (simp only [zlc, zln, zlm, zla]; omega))))
    refine ⟨{x : Nat // scanUp (fun x => !ltInt F[a]! x) F j x = K ∧ a < x ∧ x ≤ j + 2}, fun ⟨x, _⟩ => ⟨[(0, .slw 1 0), (1, .pv (ii a)), (9, .pv (ii x)), (10, .pv (ii j))], 1000000000, [(1, .arr 22 0 1 (uA F))]⟩, fun ⟨x, _⟩ => j + 2 - x, ⟨⟨i, hK, by omega, by omega⟩, ent_of ?_⟩, ?_⟩
    · repeat' first
        | fail
        | with_reducible exact True.intro
        | with_reducible exact rfl
        | with_reducible exact leRs_refl _
        | ((conv => whnf); with_reducible apply And.intro)
        | ((conv => whnf); with_reducible exact True.intro)
        | exact rfl
        | exact fun h => h
        | exact leRs_refl _
      all_goals try (conv => whnf)
      all_goals first | omega | (refine leRs_of_eq ?_; exact congrArg uA hD)
    rintro ⟨x, g1, g2, g3⟩
    have wx : IntKind.i64.wrap ((x : Int) + 1) = ((x + 1 : Nat) : Int) := by rw [wrapI (by omega) (by omega)]; omega
    by_cases hx : x ≤ j
    · have d0 : decide ((x : Int) ≤ (j : Int)) = true := by simp only [zdt]; omega
      cases hl : decide (F[a]! < F[x]!) with
      | false =>
        rw [ax_scanUp_one hx (by simp [ltI, hl])] at g1
        repeat' ((conv => whnf); first | with_reducible refine zol ?_ | ((with_reducible refine fk (fun hc => ?_) fun hc => ?_) <;> first | exact absurd hc (by decide) | (exfalso; simp only [*, reduceCtorEq, Bool.not_true, Bool.not_false] at hc; done) | skip) | rewrite [wx] | (rewrite [uA_st]) | (refine ⟨_, uA_rd _ _ (by first | omega | (simp only [Array.size_setIfInBounds, size_swp]; omega)), ?_⟩) | ((with_reducible apply And.intro); focus (simp only [List.length_set, uA_len, Array.size_setIfInBounds, size_swp]; omega)) | (refine zll ?_; (conv => whnf); refine ⟨_, uLess_c _ _, ?_⟩) | ((with_reducible apply And.intro); focus (first | rfl | exact znb rfl | omega | (simp only [zlc, zln, zlm, zla]; omega))))
        refine ⟨⟨x + 1, g1, by omega, by omega⟩, (by show j + 2 - (x + 1) < j + 2 - x; omega), ent_of ?_⟩
        repeat' first | (with_reducible first | exact ⟨⟩ | exact rfl | exact lr _) | ((conv => whnf); with_reducible first | apply And.intro | exact ⟨⟩) | exact rfl | exact fun h => h | exact lr _
        all_goals try (conv => whnf)
      | true =>
        rw [ax_scanUp_end (.inr (by simp [ltI, hl]))] at g1
        subst g1
        repeat' ((conv => whnf); first | with_reducible refine zol ?_ | ((with_reducible refine fk (fun hc => ?_) fun hc => ?_) <;> first | exact absurd hc (by decide) | (exfalso; simp only [*, reduceCtorEq, Bool.not_true, Bool.not_false] at hc; done) | skip) | (rewrite [uA_st]) | (refine ⟨_, uA_rd _ _ (by first | omega | (simp only [Array.size_setIfInBounds, size_swp]; omega)), ?_⟩) | ((with_reducible apply And.intro); focus (simp only [List.length_set, uA_len, Array.size_setIfInBounds, size_swp]; omega)) | (refine zll ?_; (conv => whnf); refine ⟨_, uLess_c _ _, ?_⟩) | ((with_reducible apply And.intro); focus (first | rfl | exact znb rfl | omega | (simp only [zlc, zln, zlm, zla]; omega))))
        refine ⟨(), ent_of ?_⟩
        repeat' first | (with_reducible first | exact ⟨⟩ | exact rfl | exact lr _) | ((conv => whnf); with_reducible first | apply And.intro | exact ⟨⟩) | exact rfl | exact fun h => h | exact lr _
        all_goals try (conv => whnf)
    · have d0 : decide ((x : Int) ≤ (j : Int)) = false := by simp only [zdf]; omega
      rw [ax_scanUp_end (.inl hx)] at g1
      subst g1
      repeat' ((conv => whnf); first | with_reducible refine zol ?_ | ((with_reducible refine fk (fun hc => ?_) fun hc => ?_) <;> first | exact absurd hc (by decide) | (exfalso; simp only [*, reduceCtorEq, Bool.not_true, Bool.not_false] at hc; done) | skip) | (rewrite [uA_st]) | (refine ⟨_, uA_rd _ _ (by first | omega | (simp only [Array.size_setIfInBounds, size_swp]; omega)), ?_⟩) | ((with_reducible apply And.intro); focus (simp only [List.length_set, uA_len, Array.size_setIfInBounds, size_swp]; omega)) | (refine zll ?_; (conv => whnf); refine ⟨_, uLess_c _ _, ?_⟩) | ((with_reducible apply And.intro); focus (first | rfl | exact znb rfl | omega | (simp only [zlc, zln, zlm, zla]; omega))))
      refine ⟨(), ent_of ?_⟩
      repeat' first | (with_reducible first | exact ⟨⟩ | exact rfl | exact lr _) | ((conv => whnf); with_reducible first | apply And.intro | exact ⟨⟩) | exact rfl | exact fun h => h | exact lr _
      all_goals try (conv => whnf)
  rw [hK] at q2
  obtain ⟨L, hL⟩ : ∃ x, scanDown (fun x => ltInt F[a]! x) F K j = x := ⟨_, rfl⟩
  have hLa : L ≤ j := by rw [← hL]; exact scanDown_le _ _ _ _
  have hLb : a ≤ L := by rw [← hL]; exact ax_scanDown_ge2 _ _ _ _ (by omega) _ (by omega)
  refine Or.inr ⟨Unit, fun _ => ⟨[(0, .slw 1 0), (1, .pv (ii a)), (9, .pv (ii K)), (10, .pv (ii L))], 1000000000, [(1, .arr 22 0 1 (uA F))]⟩, ?_, fun _ => ?_⟩
  · repeat' ((conv => whnf)
             first
             | with_reducible refine zor ?_
             | with_reducible refine zoc ?_
             | with_reducible refine zos ?_
             | ((with_reducible refine fk (fun hc => ?_) fun hc => ?_) <;> first | exact absurd hc (by decide) | (exfalso; simp only [*, reduceCtorEq] at hc; done) | skip)
             | ((with_reducible apply And.intro); focus (first | rfl | exact znb rfl | omega | (simp only [zlc, zln, zlm, zla]; omega))))
    refine ⟨{x : Nat // scanDown (fun x => ltInt F[a]! x) F K x = L ∧ a ≤ x ∧ x < F.size}, fun ⟨x, _⟩ => ⟨[(0, .slw 1 0), (1, .pv (ii a)), (9, .pv (ii K)), (10, .pv (ii x))], 1000000000, [(1, .arr 22 0 1 (uA F))]⟩, fun ⟨x, _⟩ => x, ⟨⟨j, hL, by omega, by omega⟩, ent_of ?_⟩, ?_⟩
    · repeat' first
        | fail
        | with_reducible exact True.intro
        | with_reducible exact rfl
        | with_reducible exact leRs_refl _
        | ((conv => whnf); with_reducible apply And.intro)
        | ((conv => whnf); with_reducible exact True.intro)
        | exact rfl
        | exact fun h => h
        | exact leRs_refl _
      all_goals try (conv => whnf)
    rintro ⟨x, g1, g2, g3⟩
    by_cases hx : K ≤ x
    · obtain ⟨y, rfl⟩ : ∃ y, x = y + 1 := ⟨x - 1, by omega⟩
      have wy : IntKind.i64.wrap (((y + 1 : Nat) : Int) - 1) = (y : Int) := by rw [wrapI (by omega) (by omega)]; omega
      have d0 : decide ((K : Int) ≤ ((y + 1 : Nat) : Int)) = true := by simp only [zdt]; omega
      cases hl : decide (F[a]! < F[y + 1]!) with
      | true =>
        rw [ax_scanDown_one hx (by simp [ltI, hl])] at g1
        repeat' ((conv => whnf); first | with_reducible refine zol ?_ | ((with_reducible refine fk (fun hc => ?_) fun hc => ?_) <;> first | exact absurd hc (by decide) | (exfalso; simp only [*, reduceCtorEq, Bool.not_true, Bool.not_false] at hc; done) | skip) | rewrite [wy] | (rewrite [uA_st]) | (refine ⟨_, uA_rd _ _ (by first | omega | (simp only [Array.size_setIfInBounds, size_swp]; omega)), ?_⟩) | ((with_reducible apply And.intro); focus (simp only [List.length_set, uA_len, Array.size_setIfInBounds, size_swp]; omega)) | (refine zll ?_; (conv => whnf); refine ⟨_, uLess_c _ _, ?_⟩) | ((with_reducible apply And.intro); focus (first | rfl | exact znb rfl | omega | (simp only [zlc, zln, zlm, zla]; omega))))
        refine ⟨⟨y, g1, by omega, by omega⟩, Nat.lt_succ_self _, ent_of ?_⟩
        repeat' first | (with_reducible first | exact ⟨⟩ | exact rfl | exact lr _) | ((conv => whnf); with_reducible first | apply And.intro | exact ⟨⟩) | exact rfl | exact fun h => h | exact lr _
        all_goals try (conv => whnf)
      | false =>
        rw [ax_scanDown_end (.inr (by simp [ltI, hl]))] at g1
        subst g1
        repeat' ((conv => whnf); first | with_reducible refine zol ?_ | ((with_reducible refine fk (fun hc => ?_) fun hc => ?_) <;> first | exact absurd hc (by decide) | (exfalso; simp only [*, reduceCtorEq, Bool.not_true, Bool.not_false] at hc; done) | skip) | (rewrite [uA_st]) | (refine ⟨_, uA_rd _ _ (by first | omega | (simp only [Array.size_setIfInBounds, size_swp]; omega)), ?_⟩) | ((with_reducible apply And.intro); focus (simp only [List.length_set, uA_len, Array.size_setIfInBounds, size_swp]; omega)) | (refine zll ?_; (conv => whnf); refine ⟨_, uLess_c _ _, ?_⟩) | ((with_reducible apply And.intro); focus (first | rfl | exact znb rfl | omega | (simp only [zlc, zln, zlm, zla]; omega))))
        refine ⟨(), ent_of ?_⟩
        repeat' first | (with_reducible first | exact ⟨⟩ | exact rfl | exact lr _) | ((conv => whnf); with_reducible first | apply And.intro | exact ⟨⟩) | exact rfl | exact fun h => h | exact lr _
        all_goals try (conv => whnf)
    · have d0 : decide ((K : Int) ≤ (x : Int)) = false := by simp only [zdf]; omega
      rw [ax_scanDown_end (.inl hx)] at g1
      subst g1
      repeat' ((conv => whnf); first | with_reducible refine zol ?_ | ((with_reducible refine fk (fun hc => ?_) fun hc => ?_) <;> first | exact absurd hc (by decide) | (exfalso; simp only [*, reduceCtorEq, Bool.not_true, Bool.not_false] at hc; done) | skip) | (rewrite [uA_st]) | (refine ⟨_, uA_rd _ _ (by first | omega | (simp only [Array.size_setIfInBounds, size_swp]; omega)), ?_⟩) | ((with_reducible apply And.intro); focus (simp only [List.length_set, uA_len, Array.size_setIfInBounds, size_swp]; omega)) | (refine zll ?_; (conv => whnf); refine ⟨_, uLess_c _ _, ?_⟩) | ((with_reducible apply And.intro); focus (first | rfl | exact znb rfl | omega | (simp only [zlc, zln, zlm, zla]; omega))))
      refine ⟨(), ent_of ?_⟩
      repeat' first | (with_reducible first | exact ⟨⟩ | exact rfl | exact lr _) | ((conv => whnf); with_reducible first | apply And.intro | exact ⟨⟩) | exact rfl | exact fun h => h | exact lr _
      all_goals try (conv => whnf)
  rw [hL] at q2
  by_cases hKL : K > L
  · have d0 : decide ((K : Int) > (L : Int)) = true := by simp only [zdt]; omega
    rw [if_pos hKL] at q2
    simp only [Prod.mk.injEq] at q2
    obtain ⟨rfl, rfl⟩ := q2
    repeat' ((conv => whnf); first | with_reducible refine zol ?_ | ((with_reducible refine fk (fun hc => ?_) fun hc => ?_) <;> first | exact absurd hc (by decide) | (exfalso; simp only [*, reduceCtorEq, Bool.not_true, Bool.not_false] at hc; done) | skip) | (rewrite [uA_st]) | (refine ⟨_, uA_rd _ _ (by first | omega | (simp only [Array.size_setIfInBounds, size_swp]; omega)), ?_⟩) | ((with_reducible apply And.intro); focus (simp only [List.length_set, uA_len, Array.size_setIfInBounds, size_swp]; omega)) | (refine zll ?_; (conv => whnf); refine ⟨_, uLess_c _ _, ?_⟩) | ((with_reducible apply And.intro); focus (first | rfl | exact znb rfl | omega | (simp only [zlc, zln, zlm, zla]; omega))))
    refine ⟨_, _, ⟨rfl, rfl⟩, ?_⟩
    repeat' first | (with_reducible first | exact ⟨⟩ | exact rfl | exact lr _) | ((conv => whnf); with_reducible first | apply And.intro | exact ⟨⟩) | exact rfl | exact fun h => h | exact lr _
    all_goals try (conv => whnf)
  have d0 : decide ((K : Int) > (L : Int)) = false := by simp only [zdf]; omega
  rw [if_neg hKL] at q2
  have wI : IntKind.i64.wrap ((K : Int) + 1) = ((K + 1 : Nat) : Int) := by rw [wrapI (by omega) (by omega)]; omega
  have wJ : IntKind.i64.wrap ((L : Int) - 1) = ((L - 1 : Nat) : Int) := by rw [wrapI (by omega) (by omega)]; omega
  repeat' ((conv => whnf); first | with_reducible refine zol ?_ | ((with_reducible refine fk (fun hc => ?_) fun hc => ?_) <;> first | exact absurd hc (by decide) | (exfalso; simp only [*, reduceCtorEq, Bool.not_true, Bool.not_false] at hc; done) | skip) | rewrite [wI] | rewrite [wJ] | (rewrite [uA_st]) | (refine ⟨_, uA_rd _ _ (by first | omega | (simp only [Array.size_setIfInBounds, size_swp]; omega)), ?_⟩) | ((with_reducible apply And.intro); focus (simp only [List.length_set, uA_len, Array.size_setIfInBounds, size_swp]; omega)) | (refine zll ?_; (conv => whnf); refine ⟨_, uLess_c _ _, ?_⟩) | ((with_reducible apply And.intro); focus (first | rfl | exact znb rfl | omega | (simp only [zlc, zln, zlm, zla]; omega))))
  refine ⟨⟨(K + 1, L - 1, swp F K L), by rw [size_swp]; exact q1, q2, by show a < K + 1; omega, by show a ≤ L - 1; omega, by show K + 1 ≤ L - 1 + 2; omega, by show L - 1 < b; omega⟩, (by show (L - 1) + 1 - (K + 1) + (if K + 1 ≤ L - 1 then 1 else 0) < j + 1 - i + (if i ≤ j then 1 else 0); split <;> split <;> omega), ent_of ?_⟩
  repeat' first | (with_reducible first | exact ⟨⟩ | exact rfl | exact lr _) | ((conv => whnf); with_reducible first | apply And.intro | exact ⟨⟩) | exact rfl | exact fun h => h | exact lr _
  all_goals try (conv => whnf)
end Go.Proofs.YtgblabmhgdiicaaGreat.Tb
