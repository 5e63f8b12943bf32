/-
  Contracts of functions of the program and of the document, each for every input that its premises name.
-/
import Derived.Test.YtgblabmhgdiicaaGreatTab
import Derived.Test.YtgblabmhgdiicaaGreatAd
set_option linter.unusedSectionVars false
set_option maxRecDepth 100000
set_option maxHeartbeats 4000000
set_option linter.unusedVariables false
set_option linter.unusedSimpArgs false
open Go Go.AX Go.Sort
namespace Go.Proofs.YtgblabmhgdiicaaGreat.Tb
theorem mixed : Tryz.prog.follows .mixedOrders = true := by kernel_rfl
theorem fn_uNaN : FnOk Tryz.prog 121 Tryz.f121 := ⟨Tryz.func121, by kernel_rfl, by kernel_rfl, by kernel_rfl⟩
theorem uNaN_c (x : Int) : PCx Tryz.prog 121 [uu x] (bl false) := by
  refine PC.le ?_
  have e : (x != x) = false := by simp
  refine PC_of_VC tabOk (draw_ok mixed tabOk) fn_uNaN rfl ?_
  repeat' ((conv => whnf); first | with_reducible refine zol ?_ | ((with_reducible refine fk (fun hc => ?_) fun hc => ?_) <;> first | exact absurd hc (by decide) | (exfalso; simp only [*, reduceCtorEq] at hc; done) | skip) | ((with_reducible apply And.intro); focus (first | rfl | exact znb rfl | omega | (simp only [zlc, zln, zlm, zla]; omega))))
  repeat' first | (with_reducible first | exact ⟨⟩ | exact rfl | exact lr _) | ((conv => whnf); with_reducible first | apply And.intro | exact ⟨⟩) | exact rfl | exact fun h => h | exact lr _
  all_goals try (conv => whnf)
  all_goals exact e
theorem fn_uLess : FnOk Tryz.prog 84 Tryz.f84 := ⟨Tryz.func84, by kernel_rfl, by kernel_rfl, by kernel_rfl⟩
theorem uLess_c (x y : Int) : PCx Tryz.prog 84 [uu x, uu y] (bl (decide (x < y))) := by
  refine PC.le ?_
  refine PC_of_VC tabOk (draw_ok mixed tabOk) fn_uLess rfl ?_
  repeat' ((conv => whnf); first | with_reducible refine zol ?_ | ((with_reducible refine fk (fun hc => ?_) fun hc => ?_) <;> first | exact absurd hc (by decide) | (exfalso; simp only [*, reduceCtorEq] at hc; done) | skip) | (refine zll ?_; (conv => whnf); refine ⟨_, uNaN_c _, ?_⟩) | ((with_reducible apply And.intro); focus (first | rfl | exact znb rfl | omega | (simp only [zlc, zln, zlm, zla]; omega))))
  all_goals
    repeat' first | (with_reducible first | exact ⟨⟩ | exact rfl | exact lr _) | ((conv => whnf); with_reducible first | apply And.intro | exact ⟨⟩) | exact rfl | exact fun h => h | exact lr _
    all_goals try (conv => whnf)
theorem fn_uIns : FnOk Tryz.prog 78 Tryz.f78 := ⟨Tryz.func78, by kernel_rfl, by kernel_rfl, by kernel_rfl⟩
theorem uIns_g (A : Array Int) (a b : Nat) (hab : a ≤ b) (hb : b ≤ A.size) (hs : A.size < 4611686018427387904) :
    GCx Tryz.prog 78 [.slw 1 0, .pv (ii a), .pv (ii b)] [(1, .arr 22 0 1 (uA A))] (.pv (.tup [])) [(1, .arr 22 0 1 (uA (insertionSort ltInt A a b)))] := by
  obtain ⟨X, hX⟩ : ∃ X, insertionSort ltInt A a b = X := ⟨_, rfl⟩
  rw [hX]
  unfold insertionSort at hX
  have eA : IntKind.i64.wrap ((a : Int) + 1) = ((a + 1 : Nat) : Int) := by rw [wrapI (by omega) (by omega)]; omega
  refine GC_of_VC tabOk (draw_ok mixed tabOk) fn_uIns rfl ?_
  repeat' ((conv => whnf); first | with_reducible refine zol ?_ | ((with_reducible refine fk (fun hc => ?_) fun hc => ?_) <;> first | exact absurd hc (by decide) | (exfalso; simp only [*, reduceCtorEq] at hc; done) | skip) | ((with_reducible apply And.intro); focus (first | rfl | exact znb rfl | omega | (simp only [zlc, zln, zlm, zla]; omega))))
  refine ⟨{p : Nat × Array Int // p.2.size = A.size ∧ insOuter ltInt a b p.1 p.2 = X ∧ a + 1 ≤ p.1 ∧ p.1 ≤ b + 1}, fun ⟨(i, D), _⟩ => ⟨[(0, .slw 1 0), (1, .pv (ii a)), (2, .pv (ii b)), (6, .pv (ii i))], 1000000000, [(1, .arr 22 0 1 (uA D))]⟩, fun ⟨(i, _), _⟩ => b + 1 - i, ⟨⟨(a + 1, A), rfl, hX, Nat.le_refl _, by omega⟩, ent_of ?_⟩, ?_⟩
  · repeat' first
      | fail
      | with_reducible exact True.intro
      | with_reducible exact rfl
      | with_reducible exact leRs_refl _
      | ((conv => whnf); with_reducible apply And.intro)
      | ((conv => whnf); with_reducible exact True.intro)
      | exact rfl
      | exact fun h => h
      | exact leRs_refl _
    all_goals try (conv => whnf)
    all_goals exact eA
  clear hX eA
  rintro ⟨⟨i, D⟩, h1, h2, h3, h4⟩
  simp only at h1 h2 h3 h4
  by_cases hlt : i < b
  · have d0 : decide ((i : Int) < (b : Int)) = true := by simp only [zdt]; omega
    have eW : IntKind.i64.wrap ((i : Int) + 1) = ((i + 1 : Nat) : Int) := by rw [wrapI (by omega) (by omega)]; omega
    rw [insOuter, if_pos hlt] at h2
    repeat' ((conv => whnf); first | with_reducible refine zol ?_ | ((with_reducible refine fk (fun hc => ?_) fun hc => ?_) <;> first | exact absurd hc (by decide) | (exfalso; simp only [*, reduceCtorEq] at hc; done) | skip) | ((with_reducible apply And.intro); focus (first | rfl | exact znb rfl | omega | (simp only [zlc, zln, zlm, zla]; omega))))
    refine ⟨{p : Nat × Array Int // p.2.size = A.size ∧ insOuter ltInt a b (i + 1) (insInner ltInt a p.1 p.2) = X ∧ p.1 ≤ i}, fun ⟨(j, E), _⟩ => ⟨[(0, .slw 1 0), (1, .pv (ii a)), (2, .pv (ii b)), (6, .pv (ii i)), (7, .pv (ii j))], 1000000000, [(1, .arr 22 0 1 (uA E))]⟩, fun ⟨(j, _), _⟩ => j, ⟨⟨(i, D), h1, h2, Nat.le_refl _⟩, ent_of ?_⟩, ?_⟩
    · repeat' first
        | fail
        | with_reducible exact True.intro
        | with_reducible exact rfl
        | with_reducible exact leRs_refl _
        | ((conv => whnf); with_reducible apply And.intro)
        | ((conv => whnf); with_reducible exact True.intro)
        | exact rfl
        | exact fun h => h
        | exact leRs_refl _
      all_goals try (conv => whnf)
    rintro ⟨⟨j, E⟩, g1, g2, g3⟩
    simp only at g1 g2 g3
    by_cases hja : a < j
    · have d1 : decide ((j : Int) > (a : Int)) = true := by simp only [zdt]; omega
      obtain ⟨m, rfl⟩ : ∃ m, j = m + 1 := ⟨j - 1, by omega⟩
      have eM : IntKind.i64.wrap (((m + 1 : Nat) : Int) - 1) = (m : Int) := by rw [wrapI (by omega) (by omega)]; omega
      have r1 := uA_get E (n := ((m + 1 : Nat) : Int)) (m + 1) rfl (by omega)
      have r0 := uA_get E (n := IntKind.i64.wrap (((m + 1 : Nat) : Int) - 1)) m eM (by omega)
      have r2 : ((uA E).set (((m + 1 : Nat) : Int)).toNat [uu E[m]!])[(IntKind.i64.wrap (((m + 1 : Nat) : Int) - 1)).toNat]? = some (uRow E[m]!) := by
        rw [eM, Int.toNat_natCast, Int.toNat_natCast, List.getElem?_set_ne (by omega)]
        exact uA_nat E m (by omega)
      rw [insInner] at g2
      cases hl : decide (E[m + 1]! < E[m]!) with
      | true =>
        rw [if_pos (by rw [ltI, hl]; simp; omega)] at g2
        repeat' ((conv => whnf); first | with_reducible refine zol ?_ | ((with_reducible refine fk (fun hc => ?_) fun hc => ?_) <;> first | exact absurd hc (by decide) | (exfalso; simp only [*, reduceCtorEq] at hc; done) | skip) | ((refine ⟨_, r1, ?_⟩)) | ((refine ⟨_, r0, ?_⟩)) | ((refine ⟨_, r2, ?_⟩)) | (refine zll ?_; (conv => whnf); refine ⟨_, uLess_c _ _, ?_⟩) | (((with_reducible apply And.intro); focus (simp only [List.length_set, uA_len]; omega))) | (((with_reducible apply And.intro); focus (rw [eM]; simp only [List.length_set, uA_len]; omega))) | ((with_reducible apply And.intro); focus (first | rfl | exact znb rfl | omega | (simp only [zlc, zln, zlm, zla]; omega))))
        refine ⟨⟨(m, swp E (m + 1) m), by rw [size_swp]; exact g1, g2, by omega⟩, Nat.lt_succ_self _, ent_of ?_⟩
        repeat' first | (with_reducible first | exact ⟨⟩ | exact rfl | exact lr _) | ((conv => whnf); with_reducible first | apply And.intro | exact ⟨⟩) | exact rfl | exact fun h => h | exact lr _
        all_goals try (conv => whnf)
        all_goals first
          | exact eM
          | (refine leRs_of_eq ?_
             rw [eM, ← uA_swp]
             rfl)
      | false =>
        rw [if_neg (by rw [ltI, hl]; simp)] at g2
        repeat' ((conv => whnf); first | with_reducible refine zol ?_ | ((with_reducible refine fk (fun hc => ?_) fun hc => ?_) <;> first | exact absurd hc (by decide) | (exfalso; simp only [*, reduceCtorEq] at hc; done) | skip) | ((refine ⟨_, r1, ?_⟩)) | ((refine ⟨_, r0, ?_⟩)) | (refine zll ?_; (conv => whnf); refine ⟨_, uLess_c _ _, ?_⟩) | (((with_reducible apply And.intro); focus (simp only [List.length_set, uA_len]; omega))) | (((with_reducible apply And.intro); focus (rw [eM]; simp only [List.length_set, uA_len]; omega))) | ((with_reducible apply And.intro); focus (first | rfl | exact znb rfl | omega | (simp only [zlc, zln, zlm, zla]; omega))))
        refine ⟨⟨(i + 1, E), g1, g2, by omega, by omega⟩, (by show b + 1 - (i + 1) < b + 1 - i; omega), ent_of ?_⟩
        repeat' first | (with_reducible first | exact ⟨⟩ | exact rfl | exact lr _) | ((conv => whnf); with_reducible first | apply And.intro | exact ⟨⟩) | exact rfl | exact fun h => h | exact lr _
        all_goals try (conv => whnf)
        all_goals exact eW
    · have d1 : decide ((j : Int) > (a : Int)) = false := by simp only [zdf]; omega
      have e2 : insInner ltInt a j E = E := by
        cases j with
        | zero => rfl
        | succ m => rw [insInner, if_neg (by simp; omega)]
      rw [e2] at g2
      repeat' ((conv => whnf); first | with_reducible refine zol ?_ | ((with_reducible refine fk (fun hc => ?_) fun hc => ?_) <;> first | exact absurd hc (by decide) | (exfalso; simp only [*, reduceCtorEq] at hc; done) | skip) | ((with_reducible apply And.intro); focus (first | rfl | exact znb rfl | omega | (simp only [zlc, zln, zlm, zla]; omega))))
      refine ⟨⟨(i + 1, E), g1, g2, by omega, by omega⟩, (by show b + 1 - (i + 1) < b + 1 - i; omega), ent_of ?_⟩
      repeat' first | (with_reducible first | exact ⟨⟩ | exact rfl | exact lr _) | ((conv => whnf); with_reducible first | apply And.intro | exact ⟨⟩) | exact rfl | exact fun h => h | exact lr _
      all_goals try (conv => whnf)
      all_goals exact eW
  · have d0 : decide ((i : Int) < (b : Int)) = false := by simp only [zdf]; omega
    rw [insOuter, if_neg hlt] at h2
    subst h2
    repeat' ((conv => whnf); first | with_reducible refine zol ?_ | ((with_reducible refine fk (fun hc => ?_) fun hc => ?_) <;> first | exact absurd hc (by decide) | (exfalso; simp only [*, reduceCtorEq] at hc; done) | skip) | ((with_reducible apply And.intro); focus (first | rfl | exact znb rfl | omega | (simp only [zlc, zln, zlm, zla]; omega))))
    refine ⟨_, _, ⟨rfl, rfl⟩, ?_⟩
    repeat' first | (with_reducible first | exact ⟨⟩ | exact rfl | exact lr _) | ((conv => whnf); with_reducible first | apply And.intro | exact ⟨⟩) | exact rfl | exact fun h => h | exact lr _
    all_goals try (conv => whnf)
end Go.Proofs.YtgblabmhgdiicaaGreat.Tb
