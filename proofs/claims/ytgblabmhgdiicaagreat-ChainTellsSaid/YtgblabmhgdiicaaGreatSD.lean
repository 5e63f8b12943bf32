/-
  Contracts of functions of the program and of the document, each for every input that its premises name.
-/
import Derived.Test.YtgblabmhgdiicaaGreatSB
set_option linter.unusedSectionVars false
set_option maxRecDepth 100000
set_option maxHeartbeats 4000000
set_option linter.unusedVariables false
set_option linter.unusedSimpArgs false
open Go Go.AX Go.Sort
namespace Go.Proofs.YtgblabmhgdiicaaGreat.Tb
theorem fn_uOrd2 : FnOk Tryz.prog 139 Tryz.f139 := ⟨Tryz.func139, by kernel_rfl, by kernel_rfl, by kernel_rfl⟩
theorem uOrd2_g (A : Array Int) (a b s : Nat) (ha : a < A.size) (hb : b < A.size) (hs : A.size < 4611686018427387904) (h : s < 1000) (p q s' : Nat) (e : order2 ltInt A a b s = (p, q, s')) :
    GCx Tryz.prog 139 [.slw 1 0, .pv (ii a), .pv (ii b), .ptr 2 0] [(1, .arr 22 0 1 (uA A)), (2, .var [.pv (ii s)])] (.pv (.tup [ii p, ii q])) [(1, .arr 22 0 1 (uA A)), (2, .var [.pv (ii s')])] := by
  have ws : IntKind.i64.wrap ((s : Int) + 1) = ((s + 1 : Nat) : Int) := by rw [wrapI (by omega) (by omega)]; omega
  unfold order2 at e
  rw [ltI] at e
  cases hl : decide (A[b]! < A[a]!) with
  | true =>
    simp only [hl, if_true, Prod.mk.injEq] at e
    obtain ⟨rfl, rfl, rfl⟩ := e
    refine GC_of_VC tabOk (draw_ok mixed tabOk) fn_uOrd2 rfl ?_
    repeat' ((conv => whnf); first | with_reducible refine zol ?_ | ((with_reducible refine fk (fun hc => ?_) fun hc => ?_) <;> first | exact absurd hc (by decide) | (exfalso; simp only [*, reduceCtorEq, Bool.not_true, Bool.not_false] at hc; done) | skip) | rewrite [ws] | (rewrite [uA_st]) | (refine ⟨_, uA_rd _ _ (by first | omega | (simp only [Array.size_setIfInBounds, size_swp]; omega)), ?_⟩) | ((with_reducible apply And.intro); focus (simp only [List.length_set, uA_len, Array.size_setIfInBounds, size_swp]; omega)) | (refine zll ?_; (conv => whnf); refine ⟨_, uLess_c _ _, ?_⟩) | ((with_reducible apply And.intro); focus (first | rfl | exact znb rfl | omega | (simp only [zlc, zln, zlm, zla]; omega))))
    refine ⟨_, _, ⟨rfl, rfl⟩, ?_⟩
    repeat' first | (with_reducible first | exact ⟨⟩ | exact rfl | exact lr _) | ((conv => whnf); with_reducible first | apply And.intro | exact ⟨⟩) | exact rfl | exact fun h => h | exact lr _
    all_goals try (conv => whnf)
  | false =>
    simp only [hl, Bool.false_eq_true, if_false, Prod.mk.injEq] at e
    obtain ⟨rfl, rfl, rfl⟩ := e
    refine GC_of_VC tabOk (draw_ok mixed tabOk) fn_uOrd2 rfl ?_
    repeat' ((conv => whnf); first | with_reducible refine zol ?_ | ((with_reducible refine fk (fun hc => ?_) fun hc => ?_) <;> first | exact absurd hc (by decide) | (exfalso; simp only [*, reduceCtorEq, Bool.not_true, Bool.not_false] at hc; done) | skip) | rewrite [ws] | (rewrite [uA_st]) | (refine ⟨_, uA_rd _ _ (by first | omega | (simp only [Array.size_setIfInBounds, size_swp]; omega)), ?_⟩) | ((with_reducible apply And.intro); focus (simp only [List.length_set, uA_len, Array.size_setIfInBounds, size_swp]; omega)) | (refine zll ?_; (conv => whnf); refine ⟨_, uLess_c _ _, ?_⟩) | ((with_reducible apply And.intro); focus (first | rfl | exact znb rfl | omega | (simp only [zlc, zln, zlm, zla]; omega))))
    refine ⟨_, _, ⟨rfl, rfl⟩, ?_⟩
    repeat' first | (with_reducible first | exact ⟨⟩ | exact rfl | exact lr _) | ((conv => whnf); with_reducible first | apply And.intro | exact ⟨⟩) | exact rfl | exact fun h => h | exact lr _
    all_goals try (conv => whnf)
theorem ord2_in {A : Array Int} {a b s p q s' : Nat} (e : order2 ltInt A a b s = (p, q, s')) : ((p = a ∧ q = b) ∨ (p = b ∧ q = a)) ∧ s' ≤ s + 1 := by
  have h1 := order2_mem ltInt A a b s
  have h2 := order2_count (lt := ltInt) A a b s
  rw [e] at h1 h2
  exact ⟨h1, h2⟩
theorem fn_uMed : FnOk Tryz.prog 120 Tryz.f120 := ⟨Tryz.func120, by kernel_rfl, by kernel_rfl, by kernel_rfl⟩
theorem uMed_g (A : Array Int) (a b c s : Nat) (ha : a < A.size) (hb : b < A.size) (hcc : c < A.size) (hs : A.size < 4611686018427387904) (h : s < 900) (p s' : Nat) (e : median ltInt A a b c s = (p, s')) :
    GCx Tryz.prog 120 [.slw 1 0, .pv (ii a), .pv (ii b), .pv (ii c), .ptr 2 0] [(1, .arr 22 0 1 (uA A)), (2, .var [.pv (ii s)])] (.pv (ii p)) [(1, .arr 22 0 1 (uA A)), (2, .var [.pv (ii s')])] := by
  unfold median at e
  obtain ⟨⟨p1, q1, s1⟩, e1⟩ : ∃ x, order2 ltInt A a b s = x := ⟨_, rfl⟩
  simp only [e1] at e
  obtain ⟨⟨p2, q2, s2⟩, e2⟩ : ∃ x, order2 ltInt A q1 c s1 = x := ⟨_, rfl⟩
  simp only [e2] at e
  obtain ⟨⟨p3, q3, s3⟩, e3⟩ : ∃ x, order2 ltInt A p1 p2 s2 = x := ⟨_, rfl⟩
  simp only [e3, Prod.mk.injEq] at e
  obtain ⟨rfl, rfl⟩ := e
  have i1 := ord2_in e1
  have i2 := ord2_in e2
  have c1 := uOrd2_g A a b s ha hb hs (by omega) _ _ _ e1
  have c2 := uOrd2_g A q1 c s1 (by omega) hcc hs (by omega) _ _ _ e2
  have c3 := uOrd2_g A p1 p2 s2 (by omega) (by omega) hs (by omega) _ _ _ e3
  clear e1 e2 e3 i1 i2
  refine GC_of_VC tabOk (draw_ok mixed tabOk) fn_uMed rfl ?_
  repeat' ((conv => whnf); first | with_reducible refine zol ?_ | ((with_reducible refine fk (fun hc => ?_) fun hc => ?_) <;> first | exact absurd hc (by decide) | (exfalso; simp only [*, reduceCtorEq] at hc; done) | skip) | (refine zlr ?_; (conv => whnf); refine ⟨_, _, GCx_pre (c1) ?_, ?_⟩; focus ((repeat' first | (with_reducible first | exact ⟨⟩ | exact rfl | exact lr _) | ((conv => whnf); with_reducible first | apply And.intro | exact ⟨⟩) | exact rfl | exact fun h => h | assumption | exact lr _); done)) | (refine zlr ?_; (conv => whnf); refine ⟨_, _, GCx_pre (c2) ?_, ?_⟩; focus ((repeat' first | (with_reducible first | exact ⟨⟩ | exact rfl | exact lr _) | ((conv => whnf); with_reducible first | apply And.intro | exact ⟨⟩) | exact rfl | exact fun h => h | assumption | exact lr _); done)) | (refine zlr ?_; (conv => whnf); refine ⟨_, _, GCx_pre (c3) ?_, ?_⟩; focus ((repeat' first | (with_reducible first | exact ⟨⟩ | exact rfl | exact lr _) | ((conv => whnf); with_reducible first | apply And.intro | exact ⟨⟩) | exact rfl | exact fun h => h | assumption | exact lr _); done)) | ((with_reducible apply And.intro); focus (first | rfl | exact znb rfl | omega | (simp only [zlc, zln, zlm, zla]; omega))))
  refine ⟨_, _, ⟨rfl, rfl⟩, ?_⟩
  repeat' first | (with_reducible first | exact ⟨⟩ | exact rfl | exact lr _) | ((conv => whnf); with_reducible first | apply And.intro | exact ⟨⟩) | exact rfl | exact fun h => h | exact lr _
  all_goals try (conv => whnf)
theorem med_in {A : Array Int} {a b c s p s' : Nat} (e : median ltInt A a b c s = (p, s')) : (p = a ∨ p = b ∨ p = c) ∧ s' ≤ s + 3 := by
  have h1 := median_mem ltInt A a b c s
  have h2 := median_count (lt := ltInt) A a b c s
  rw [e] at h1 h2
  exact ⟨h1, h2⟩
theorem fn_uMedA : FnOk Tryz.prog 119 Tryz.f119 := ⟨Tryz.func119, by kernel_rfl, by kernel_rfl, by kernel_rfl⟩
theorem uMedA_g (A : Array Int) (a s : Nat) (h0 : 0 < a) (ha : a + 1 < A.size) (hs : A.size < 4611686018427387904) (h : s < 900) (p s' : Nat) (e : medianAdjacent ltInt A a s = (p, s')) :
    GCx Tryz.prog 119 [.slw 1 0, .pv (ii a), .ptr 2 0] [(1, .arr 22 0 1 (uA A)), (2, .var [.pv (ii s)])] (.pv (ii p)) [(1, .arr 22 0 1 (uA A)), (2, .var [.pv (ii s')])] := by
  have w1 : IntKind.i64.wrap ((a : Int) - 1) = ((a - 1 : Nat) : Int) := by rw [wrapI (by omega) (by omega)]; omega
  have w2 : IntKind.i64.wrap ((a : Int) + 1) = ((a + 1 : Nat) : Int) := by rw [wrapI (by omega) (by omega)]; omega
  have c1 := uMed_g A (a - 1) a (a + 1) s (by omega) (by omega) ha hs h _ _ e
  refine GC_of_VC tabOk (draw_ok mixed tabOk) fn_uMedA rfl ?_
  repeat' ((conv => whnf); first | with_reducible refine zol ?_ | ((with_reducible refine fk (fun hc => ?_) fun hc => ?_) <;> first | exact absurd hc (by decide) | (exfalso; simp only [*, reduceCtorEq] at hc; done) | skip) | rewrite [w1] | rewrite [w2] | (refine zlr ?_; (conv => whnf); refine ⟨_, _, GCx_pre (c1) ?_, ?_⟩; focus ((repeat' first | (with_reducible first | exact ⟨⟩ | exact rfl | exact lr _) | ((conv => whnf); with_reducible first | apply And.intro | exact ⟨⟩) | exact rfl | exact fun h => h | assumption | exact lr _); done)) | ((with_reducible apply And.intro); focus (first | rfl | exact znb rfl | omega | (simp only [zlc, zln, zlm, zla]; omega))))
  refine ⟨_, _, ⟨rfl, rfl⟩, ?_⟩
  repeat' first | (with_reducible first | exact ⟨⟩ | exact rfl | exact lr _) | ((conv => whnf); with_reducible first | apply And.intro | exact ⟨⟩) | exact rfl | exact fun h => h | exact lr _
  all_goals try (conv => whnf)
def hintN : Hint → Int
  | .unknown => 0
  | .increasing => 1
  | .decreasing => 2
theorem fn_uPiv : FnOk Tryz.prog 81 Tryz.f81 := ⟨Tryz.func81, by kernel_rfl, by kernel_rfl, by kernel_rfl⟩
theorem uPiv_g (A : Array Int) (a b : Nat) (hab : a < b) (h8 : 8 ≤ b - a) (hb : b ≤ A.size) (hs : A.size < 4611686018427387904) (p : Nat) (hh : Hint) (e : choosePivot ltInt A a b = (p, hh)) :
    GCx Tryz.prog 81 [.slw 1 0, .pv (ii a), .pv (ii b)] [(1, .arr 22 0 1 (uA A))] (.pv (.tup [ii p, ii (hintN hh)])) [(1, .arr 22 0 1 (uA A))] := by
  obtain ⟨m, rfl⟩ : ∃ m, b = a + m := ⟨b - a, by omega⟩
  unfold choosePivot at e
  rw [show a + m - a = m from by omega] at e h8
  simp only [ge_iff_le, h8, if_true] at e
  have w0 : IntKind.i64.wrap (((a + m : Nat) : Int) - (a : Int)) = (m : Int) := by rw [wrapI (by omega) (by omega)]; omega
  have w1 : IntKind.i64.wrap (Int.tdiv (m : Int) 4) = ((m / 4 : Nat) : Int) := by rw [Int.tdiv_eq_ediv_of_nonneg (by omega), wrapI (by omega) (by omega)]; rfl
  have w2 : IntKind.i64.wrap (((m / 4 : Nat) : Int) * 1) = ((m / 4 * 1 : Nat) : Int) := by rw [wrapI (by omega) (by omega)]; omega
  have w3 : IntKind.i64.wrap (((m / 4 : Nat) : Int) * 2) = ((m / 4 * 2 : Nat) : Int) := by rw [wrapI (by omega) (by omega)]; omega
  have w4 : IntKind.i64.wrap (((m / 4 : Nat) : Int) * 3) = ((m / 4 * 3 : Nat) : Int) := by rw [wrapI (by omega) (by omega)]; omega
  have w5 : IntKind.i64.wrap ((a : Int) + ((m / 4 * 1 : Nat) : Int)) = ((a + m / 4 * 1 : Nat) : Int) := by rw [wrapI (by omega) (by omega)]; omega
  have w6 : IntKind.i64.wrap ((a : Int) + ((m / 4 * 2 : Nat) : Int)) = ((a + m / 4 * 2 : Nat) : Int) := by rw [wrapI (by omega) (by omega)]; omega
  have w7 : IntKind.i64.wrap ((a : Int) + ((m / 4 * 3 : Nat) : Int)) = ((a + m / 4 * 3 : Nat) : Int) := by rw [wrapI (by omega) (by omega)]; omega
  have d0 : decide ((m : Int) ≥ 8) = true := by simp only [zdt]; omega
  have fin : ∀ (q s' : Nat), (q, if s' = 0 then Hint.increasing else if s' = 12 then Hint.decreasing else Hint.unknown) = (p, hh) → q = p ∧ ((((s' : Int) == 0) = true ∧ hh = .increasing) ∨ (((s' : Int) == 0) = false ∧ ((s' : Int) == 12) = true ∧ hh = .decreasing) ∨ (((s' : Int) == 0) = false ∧ ((s' : Int) == 12) = false ∧ hh = .unknown)) := by
    intro q s' h
    simp only [Prod.mk.injEq] at h
    obtain ⟨h1, h2⟩ := h
    refine ⟨h1, ?_⟩
    by_cases h3 : s' = 0
    · rw [if_pos h3] at h2; exact .inl ⟨by simp; omega, h2.symm⟩
    · rw [if_neg h3] at h2
      by_cases h4 : s' = 12
      · rw [if_pos h4] at h2; exact .inr (.inl ⟨by simp; omega, by simp; omega, h2.symm⟩)
      · rw [if_neg h4] at h2; exact .inr (.inr ⟨by simp; omega, by simp; omega, h2.symm⟩)
  by_cases h50 : 50 ≤ m
  · simp only [h50, if_true] at e
    have d1 : decide ((m : Int) ≥ 50) = true := by simp only [zdt]; omega
    obtain ⟨⟨p1, s1⟩, e1⟩ : ∃ x, medianAdjacent ltInt A (a + m / 4 * 1) 0 = x := ⟨_, rfl⟩
    simp only [e1] at e
    obtain ⟨⟨p2, s2⟩, e2⟩ : ∃ x, medianAdjacent ltInt A (a + m / 4 * 2) s1 = x := ⟨_, rfl⟩
    simp only [e2] at e
    obtain ⟨⟨p3, s3⟩, e3⟩ : ∃ x, medianAdjacent ltInt A (a + m / 4 * 3) s2 = x := ⟨_, rfl⟩
    simp only [e3] at e
    obtain ⟨⟨p4, s4⟩, e4⟩ : ∃ x, median ltInt A p1 p2 p3 s3 = x := ⟨_, rfl⟩
    simp only [e4] at e
    have i1 := med_in e1
    have i2 := med_in e2
    have i3 := med_in e3
    have c1 := uMedA_g A _ 0 (by omega) (by omega) hs (by omega) _ _ e1
    have c2 := uMedA_g A _ s1 (by omega) (by omega) hs (by omega) _ _ e2
    have c3 := uMedA_g A _ s2 (by omega) (by omega) hs (by omega) _ _ e3
    have c4 := uMed_g A _ _ _ s3 (by omega) (by omega) (by omega) hs (by omega) _ _ e4
    obtain ⟨rfl, hf⟩ := fin _ _ e
    clear e e1 e2 e3 e4 i1 i2 i3 fin
    rcases hf with ⟨f1, rfl⟩ | ⟨f1, f2, rfl⟩ | ⟨f1, f2, rfl⟩
    all_goals
      refine GC_of_VC tabOk (draw_ok mixed tabOk) fn_uPiv rfl ?_
      repeat' ((conv => whnf); first | with_reducible refine zol ?_ | ((with_reducible refine fk (fun hc => ?_) fun hc => ?_) <;> first | exact absurd hc (by decide) | (exfalso; simp only [*, reduceCtorEq] at hc; done) | skip) | rewrite [w0] | rewrite [w1] | rewrite [w2] | rewrite [w3] | rewrite [w4] | rewrite [w5] | rewrite [w6] | rewrite [w7] | (refine zlr ?_; (conv => whnf); refine ⟨_, _, GCx_pre (c1) ?_, ?_⟩; focus ((repeat' first | (with_reducible first | exact ⟨⟩ | exact rfl | exact lr _) | ((conv => whnf); with_reducible first | apply And.intro | exact ⟨⟩) | exact rfl | exact fun h => h | assumption | exact lr _); done)) | (refine zlr ?_; (conv => whnf); refine ⟨_, _, GCx_pre (c2) ?_, ?_⟩; focus ((repeat' first | (with_reducible first | exact ⟨⟩ | exact rfl | exact lr _) | ((conv => whnf); with_reducible first | apply And.intro | exact ⟨⟩) | exact rfl | exact fun h => h | assumption | exact lr _); done)) | (refine zlr ?_; (conv => whnf); refine ⟨_, _, GCx_pre (c3) ?_, ?_⟩; focus ((repeat' first | (with_reducible first | exact ⟨⟩ | exact rfl | exact lr _) | ((conv => whnf); with_reducible first | apply And.intro | exact ⟨⟩) | exact rfl | exact fun h => h | assumption | exact lr _); done)) | (refine zlr ?_; (conv => whnf); refine ⟨_, _, GCx_pre (c4) ?_, ?_⟩; focus ((repeat' first | (with_reducible first | exact ⟨⟩ | exact rfl | exact lr _) | ((conv => whnf); with_reducible first | apply And.intro | exact ⟨⟩) | exact rfl | exact fun h => h | assumption | exact lr _); done)) | ((with_reducible apply And.intro); focus (first | rfl | exact znb rfl | omega | (simp only [zlc, zln, zlm, zla]; omega))))
      refine ⟨_, _, ⟨rfl, rfl⟩, ?_⟩
      repeat' first | (with_reducible first | exact ⟨⟩ | exact rfl | exact lr _) | ((conv => whnf); with_reducible first | apply And.intro | exact ⟨⟩) | exact rfl | exact fun h => h | exact lr _
      all_goals try (conv => whnf)
  · simp only [h50, if_false] at e
    have d1 : decide ((m : Int) ≥ 50) = false := by simp only [zdf]; omega
    obtain ⟨⟨p4, s4⟩, e4⟩ : ∃ x, median ltInt A (a + m / 4 * 1) (a + m / 4 * 2) (a + m / 4 * 3) 0 = x := ⟨_, rfl⟩
    simp only [e4] at e
    have c4 := uMed_g A _ _ _ 0 (by omega) (by omega) (by omega) hs (by omega) _ _ e4
    obtain ⟨rfl, hf⟩ := fin _ _ e
    clear e e4 fin
    rcases hf with ⟨f1, rfl⟩ | ⟨f1, f2, rfl⟩ | ⟨f1, f2, rfl⟩
    all_goals
      refine GC_of_VC tabOk (draw_ok mixed tabOk) fn_uPiv rfl ?_
      repeat' ((conv => whnf); first | with_reducible refine zol ?_ | ((with_reducible refine fk (fun hc => ?_) fun hc => ?_) <;> first | exact absurd hc (by decide) | (exfalso; simp only [*, reduceCtorEq] at hc; done) | skip) | rewrite [w0] | rewrite [w1] | rewrite [w2] | rewrite [w3] | rewrite [w4] | rewrite [w5] | rewrite [w6] | rewrite [w7] | (refine zlr ?_; (conv => whnf); refine ⟨_, _, GCx_pre (c4) ?_, ?_⟩; focus ((repeat' first | (with_reducible first | exact ⟨⟩ | exact rfl | exact lr _) | ((conv => whnf); with_reducible first | apply And.intro | exact ⟨⟩) | exact rfl | exact fun h => h | assumption | exact lr _); done)) | ((with_reducible apply And.intro); focus (first | rfl | exact znb rfl | omega | (simp only [zlc, zln, zlm, zla]; omega))))
      refine ⟨_, _, ⟨rfl, rfl⟩, ?_⟩
      repeat' first | (with_reducible first | exact ⟨⟩ | exact rfl | exact lr _) | ((conv => whnf); with_reducible first | apply And.intro | exact ⟨⟩) | exact rfl | exact fun h => h | exact lr _
      all_goals try (conv => whnf)
end Go.Proofs.YtgblabmhgdiicaaGreat.Tb
