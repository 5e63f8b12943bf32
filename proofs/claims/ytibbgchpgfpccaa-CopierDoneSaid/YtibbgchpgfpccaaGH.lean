/-
  Contracts of functions of the program and of the document, each for every input that its premises name.
-/
import Derived.Test.YtibbgchpgfpccaaGC
import Derived.Test.YtibbgchpgfpccaaAd
set_option maxRecDepth 100000
set_option maxHeartbeats 4000000
set_option linter.unusedVariables false
set_option linter.unusedSimpArgs false
open Go Go.AX
namespace Go.Proofs.Ytibbgchpgfpccaa.Tb
theorem u8_beq (x y : UInt8) : (((x.toNat : Int) == (y.toNat : Int)) : Bool) = decide (x = y) := by
  by_cases h : x = y
  · subst h; simp
  · have : (x.toNat : Int) ≠ (y.toNat : Int) := fun e => h (UInt8.toNat_inj.1 (by omega))
    simp [h, this]
theorem fn_equalByte : FnOk Try.prog 74 Try.f74 := ⟨Try.func74, by kernel_rfl, by kernel_rfl, by kernel_rfl⟩
theorem equalByte_c (l m : List UInt8) : PCx Try.prog 74 [bys l, bys m] (bl (decide (l = m))) := by
  refine PC.le (PC_bd fn_equalByte fun hb => ?_)
  have hb : l.length ≤ 9223372036854775807 ∧ m.length ≤ 9223372036854775807 := by simpa [bdL, bdP, bys] using hb
  refine PC_of_VC tabOk (draw_ok mixed tabOk) fn_equalByte rfl ?_
  repeat' ((conv => whnf)
           first
           | with_reducible refine (Or.inl ?_ : VC _ _ _ _ _ ∨ _)
           | ((with_reducible refine (⟨fun hc => ?_, fun hc => ?_⟩ : (_ = true → _) ∧ (_ = false → _))) <;> first | exact absurd hc (by decide) | (exfalso; simp only [*, reduceCtorEq] at hc; done) | skip)
           | ((with_reducible refine And.intro ?_ ?_); focus (first | rfl | exact Nat.le_of_ble_eq_true rfl | omega | (simp only [List.length_cons, List.length_nil, List.length_map, List.length_append]; omega))))
  · repeat' first
      | fail
      | exact True.intro
      | exact rfl
      | exact id
      | exact leRs_refl _
      | ((conv => whnf); with_reducible refine And.intro ?_ ?_)
      | ((conv => whnf); exact True.intro)
    all_goals try (conv => whnf)
    simp at hc
    simp; rintro rfl; exact hc rfl
  have hlen : l.length = m.length := by simp at hc; omega
  refine ⟨{k : Nat // k ≤ l.length ∧ ∀ j (hj : j < l.length), j < k → l[j] = m[j]}, fun ⟨k, _⟩ => ⟨[(0, .pv (bys l)), (1, .pv (bys m)), (12, .pv (ii l.length)), (13, .pv (ii k))], 1000000000, []⟩, fun ⟨k, _⟩ => l.length - k, ⟨⟨0, by simp⟩, ent_of ?_⟩, ?_⟩
  · repeat' first
      | fail
      | exact True.intro
      | exact rfl
      | exact id
      | exact leRs_refl _
      | ((conv => whnf); with_reducible refine And.intro ?_ ?_)
      | ((conv => whnf); exact True.intro)
    all_goals try (conv => whnf)
    simp
  rintro ⟨k, hk, hn⟩
  repeat' ((conv => whnf)
           first
           | with_reducible refine (Or.inl ?_ : VC _ _ _ _ _ ∨ _)
           | ((with_reducible refine (⟨fun hc => ?_, fun hc => ?_⟩ : (_ = true → _) ∧ (_ = false → _))) <;> first | exact absurd hc (by decide) | (exfalso; simp only [*, reduceCtorEq] at hc; done) | skip)
           | ((with_reducible refine And.intro ?_ ?_); focus (first | rfl | exact Nat.le_of_ble_eq_true rfl | omega | (simp only [List.length_cons, List.length_nil, List.length_map, List.length_append]; omega))))
  · have hlt : k < l.length := by simpa using hc
    refine ⟨_, rowK _ _ _ hlt, ?_⟩
    repeat' ((conv => whnf)
             first
             | with_reducible refine (Or.inl ?_ : VC _ _ _ _ _ ∨ _)
             | ((with_reducible refine (⟨fun hc => ?_, fun hc => ?_⟩ : (_ = true → _) ∧ (_ = false → _))) <;> first | exact absurd hc (by decide) | (exfalso; simp only [*, reduceCtorEq] at hc; done) | skip)
             | ((with_reducible refine And.intro ?_ ?_); focus (first | rfl | exact Nat.le_of_ble_eq_true rfl | omega | (simp only [List.length_cons, List.length_nil, List.length_map, List.length_append]; omega))))
    refine ⟨_, rowK _ _ _ (hlen ▸ hlt), ?_⟩
    repeat' ((conv => whnf)
             first
             | with_reducible refine (Or.inl ?_ : VC _ _ _ _ _ ∨ _)
             | ((with_reducible refine (⟨fun hc => ?_, fun hc => ?_⟩ : (_ = true → _) ∧ (_ = false → _))) <;> first | exact absurd hc (by decide) | (exfalso; simp only [*, reduceCtorEq] at hc; done) | skip)
             | ((with_reducible refine And.intro ?_ ?_); focus (first | rfl | exact Nat.le_of_ble_eq_true rfl | omega | (simp only [List.length_cons, List.length_nil, List.length_map, List.length_append]; omega))))
    · repeat' first
        | fail
        | exact True.intro
        | exact rfl
        | exact id
        | exact leRs_refl _
        | ((conv => whnf); with_reducible refine And.intro ?_ ?_)
        | ((conv => whnf); exact True.intro)
      all_goals try (conv => whnf)
      rw [bne, u8_beq] at hc
      simp at hc ⊢
      rintro rfl
      exact hc rfl
    · repeat' ((conv => whnf)
               first
               | with_reducible refine (Or.inl ?_ : VC _ _ _ _ _ ∨ _)
               | ((with_reducible refine (⟨fun hc => ?_, fun hc => ?_⟩ : (_ = true → _) ∧ (_ = false → _))) <;> first | exact absurd hc (by decide) | (exfalso; simp only [*, reduceCtorEq] at hc; done) | skip)
               | ((with_reducible refine And.intro ?_ ?_); focus (first | rfl | exact Nat.le_of_ble_eq_true rfl | omega | (simp only [List.length_cons, List.length_nil, List.length_map, List.length_append]; omega))))
      refine ⟨⟨k + 1, hlt, step_lt hn fun _ => ?_⟩, dec_lt hlt, ent_of ?_⟩
      · rw [bne, u8_beq] at hc
        simpa using hc
      repeat' first
        | fail
        | exact True.intro
        | exact rfl
        | exact id
        | exact leRs_refl _
        | ((conv => whnf); with_reducible refine And.intro ?_ ?_)
        | ((conv => whnf); exact True.intro)
      all_goals try (conv => whnf)
      exact wrapI (by omega) (by omega)
  · repeat' first
      | fail
      | exact True.intro
      | exact rfl
      | exact id
      | exact leRs_refl _
      | ((conv => whnf); with_reducible refine And.intro ?_ ?_)
      | ((conv => whnf); exact True.intro)
    all_goals try (conv => whnf)
    have : k = l.length := by simp at hc; omega
    subst this
    simp
    exact List.ext_getElem hlen fun i h1 h2 => hn i h1 h1
theorem fn_cSame1 : FnOk Try.prog 73 Try.f73 := ⟨Try.func73, by kernel_rfl, by kernel_rfl, by kernel_rfl⟩
theorem cSame1_c (x y : Fr) : PCx Try.prog 73 ([] ++ ([.agg x.c, .agg y.c] ++ [])) (bl (decide (x = y))) := by
  refine PC.le ?_
  refine PC_of_VC tabOk (draw_ok mixed tabOk) fn_cSame1 rfl ?_
  repeat' ((conv => whnf)
           first
           | with_reducible refine (Or.inl ?_ : VC _ _ _ _ _ ∨ _)
           | ((with_reducible refine (⟨fun hc => ?_, fun hc => ?_⟩ : (_ = true → _) ∧ (_ = false → _))) <;> first | exact absurd hc (by decide) | (exfalso; simp only [*, reduceCtorEq] at hc; done) | skip)
           | (refine Or.inl ?_; (conv => whnf); refine ⟨_, equalPlace_c _ _, ?_⟩)
           | ((with_reducible refine And.intro ?_ ?_); focus (first | rfl | exact Nat.le_of_ble_eq_true rfl | omega | (simp only [List.length_cons, List.length_nil, List.length_map, List.length_append]; omega))))
  all_goals
    repeat' first
      | fail
      | exact True.intro
      | exact rfl
      | exact id
      | exact leRs_refl _
      | ((conv => whnf); with_reducible refine And.intro ?_ ?_)
      | ((conv => whnf); exact True.intro)
    all_goals try (conv => whnf)
    cases x; cases y
    simp_all
theorem fn_equalFuncF : FnOk Try.prog 72 Try.f72 := ⟨Try.func72, by kernel_rfl, by kernel_rfl, by kernel_rfl⟩
theorem equalFuncF_c (l m : List Fr) : PCx Try.prog 72 [slF l, slF m, .fn (.func 73) [] []] (bl (decide (l = m))) := by
  refine PC.le (PC_bd fn_equalFuncF fun hb => ?_)
  have hb : l.length ≤ 9223372036854775807 ∧ m.length ≤ 9223372036854775807 := by simp [bdL, bdP, slF] at hb; omega
  refine PC_of_VC tabOk (draw_ok mixed tabOk) fn_equalFuncF rfl ?_
  repeat' ((conv => whnf)
           first
           | with_reducible refine (Or.inl ?_ : VC _ _ _ _ _ ∨ _)
           | ((with_reducible refine (⟨fun hc => ?_, fun hc => ?_⟩ : (_ = true → _) ∧ (_ = false → _))) <;> first | exact absurd hc (by decide) | (exfalso; simp only [*, reduceCtorEq] at hc; done) | skip)
           | ((with_reducible refine And.intro ?_ ?_); focus (first | rfl | exact Nat.le_of_ble_eq_true rfl | omega | (simp only [List.length_cons, List.length_nil, List.length_map, List.length_append]; omega))))
  · repeat' first
      | fail
      | exact True.intro
      | exact rfl
      | exact id
      | exact leRs_refl _
      | ((conv => whnf); with_reducible refine And.intro ?_ ?_)
      | ((conv => whnf); exact True.intro)
    all_goals try (conv => whnf)
    simp at hc
    simp; rintro rfl; exact hc rfl
  have hlen : l.length = m.length := by simp at hc; omega
  refine ⟨{k : Nat // k ≤ l.length ∧ ∀ j (hj : j < l.length), j < k → l[j] = m[j]}, fun ⟨k, _⟩ => ⟨[(1, .pv (slF m)), (2, .pv (.fn (.func 73) [] [])), (15, .pv (slF l)), (16, .pv (ii l.length)), (17, .pv (ii k))], 1000000000, []⟩, fun ⟨k, _⟩ => l.length - k, ⟨⟨0, by simp⟩, ent_of ?_⟩, ?_⟩
  · repeat' first
      | fail
      | exact True.intro
      | exact rfl
      | exact id
      | exact leRs_refl _
      | ((conv => whnf); with_reducible refine And.intro ?_ ?_)
      | ((conv => whnf); exact True.intro)
    all_goals try (conv => whnf)
    simp
  rintro ⟨k, hk, hn⟩
  repeat' ((conv => whnf)
           first
           | with_reducible refine (Or.inl ?_ : VC _ _ _ _ _ ∨ _)
           | ((with_reducible refine (⟨fun hc => ?_, fun hc => ?_⟩ : (_ = true → _) ∧ (_ = false → _))) <;> first | exact absurd hc (by decide) | (exfalso; simp only [*, reduceCtorEq] at hc; done) | skip)
           | ((with_reducible refine And.intro ?_ ?_); focus (first | rfl | exact Nat.le_of_ble_eq_true rfl | omega | (simp only [List.length_cons, List.length_nil, List.length_map, List.length_append]; omega))))
  · have hlt : k < l.length := by simpa using hc
    refine ⟨_, rowK _ _ _ hlt, ?_⟩
    repeat' ((conv => whnf)
             first
             | with_reducible refine (Or.inl ?_ : VC _ _ _ _ _ ∨ _)
             | ((with_reducible refine (⟨fun hc => ?_, fun hc => ?_⟩ : (_ = true → _) ∧ (_ = false → _))) <;> first | exact absurd hc (by decide) | (exfalso; simp only [*, reduceCtorEq] at hc; done) | skip)
             | ((with_reducible refine And.intro ?_ ?_); focus (first | rfl | exact Nat.le_of_ble_eq_true rfl | omega | (simp only [List.length_cons, List.length_nil, List.length_map, List.length_append]; omega))))
    refine ⟨_, rowK _ _ _ (hlen ▸ hlt), ?_⟩
    repeat' ((conv => whnf)
             first
             | with_reducible refine (Or.inl ?_ : VC _ _ _ _ _ ∨ _)
             | ((with_reducible refine (⟨fun hc => ?_, fun hc => ?_⟩ : (_ = true → _) ∧ (_ = false → _))) <;> first | exact absurd hc (by decide) | (exfalso; simp only [*, reduceCtorEq] at hc; done) | skip)
             | (refine Or.inl ?_; (conv => whnf); refine ⟨_, cSame1_c (l[k]) (m[k]), ?_⟩)
             | ((with_reducible refine And.intro ?_ ?_); focus (first | rfl | exact Nat.le_of_ble_eq_true rfl | omega | (simp only [List.length_cons, List.length_nil, List.length_map, List.length_append]; omega))))
    · repeat' first
        | fail
        | exact True.intro
        | exact rfl
        | exact id
        | exact leRs_refl _
        | ((conv => whnf); with_reducible refine And.intro ?_ ?_)
        | ((conv => whnf); exact True.intro)
      all_goals try (conv => whnf)
      simp at hc ⊢
      rintro rfl
      exact hc rfl
    · repeat' ((conv => whnf)
               first
               | with_reducible refine (Or.inl ?_ : VC _ _ _ _ _ ∨ _)
               | ((with_reducible refine (⟨fun hc => ?_, fun hc => ?_⟩ : (_ = true → _) ∧ (_ = false → _))) <;> first | exact absurd hc (by decide) | (exfalso; simp only [*, reduceCtorEq] at hc; done) | skip)
               | ((with_reducible refine And.intro ?_ ?_); focus (first | rfl | exact Nat.le_of_ble_eq_true rfl | omega | (simp only [List.length_cons, List.length_nil, List.length_map, List.length_append]; omega))))
      refine ⟨⟨k + 1, hlt, step_lt hn fun _ => ?_⟩, dec_lt hlt, ent_of ?_⟩
      · simpa using hc
      repeat' first
        | fail
        | exact True.intro
        | exact rfl
        | exact id
        | exact leRs_refl _
        | ((conv => whnf); with_reducible refine And.intro ?_ ?_)
        | ((conv => whnf); exact True.intro)
      all_goals try (conv => whnf)
      exact wrapI (by omega) (by omega)
  · repeat' first
      | fail
      | exact True.intro
      | exact rfl
      | exact id
      | exact leRs_refl _
      | ((conv => whnf); with_reducible refine And.intro ?_ ?_)
      | ((conv => whnf); exact True.intro)
    all_goals try (conv => whnf)
    have : k = l.length := by simp at hc; omega
    subst this
    simp
    exact List.ext_getElem hlen fun i h1 h2 => hn i h1 h1
def sameC (a b : Cp) : Bool :=
  decide (a.l.frags = b.l.frags) && ((a.l.id == b.l.id) && ((a.l.w == b.l.w) && ((a.l.a == b.l.a) && ((a.l.closed == b.l.closed) && ((a.l.last == b.l.last) && ((a.from_ == b.from_) && ((a.to == b.to) && ((a.phase == b.phase) && ((a.n == b.n) && ((a.born == b.born) && ((a.since == b.since) && (decide (a.none = b.none) && decide (a.body = b.body)))))))))))))
theorem sameC_iff (a b : Cp) : sameC a b = decide (a = b) := by
  rw [Bool.eq_iff_iff]
  obtain ⟨⟨_, _, _, _, _, _⟩, _, _, _, _, _, _, _, _⟩ := a
  obtain ⟨⟨_, _, _, _, _, _⟩, _, _, _, _, _, _, _, _⟩ := b
  simp [sameC]
  grind
theorem fn_cSame : FnOk Try.prog 37 Try.f37 := ⟨Try.func37, by kernel_rfl, by kernel_rfl, by kernel_rfl⟩
theorem cSame_c (a b : Cp) : PCx Try.prog 37 [.agg a.c, .agg b.c] (bl (decide (a = b))) := by
  refine PC.le ?_
  rw [← sameC_iff]
  refine PC_of_VC tabOk (draw_ok mixed tabOk) fn_cSame rfl ?_
  repeat' ((conv => whnf)
           first
           | with_reducible refine (Or.inl ?_ : VC _ _ _ _ _ ∨ _)
           | ((with_reducible refine (⟨fun hc => ?_, fun hc => ?_⟩ : (_ = true → _) ∧ (_ = false → _))) <;> first | exact absurd hc (by decide) | (exfalso; simp only [*, reduceCtorEq] at hc; done) | skip)
           | (refine Or.inl ?_; (conv => whnf); refine ⟨_, equalFuncF_c _ _, ?_⟩)
           | (refine Or.inl ?_; (conv => whnf); refine ⟨_, equalPlace_c _ _, ?_⟩)
           | (refine Or.inl ?_; (conv => whnf); refine ⟨_, equalByte_c _ _, ?_⟩)
           | ((with_reducible refine And.intro ?_ ?_); focus (first | rfl | exact Nat.le_of_ble_eq_true rfl | omega | (simp only [List.length_cons, List.length_nil, List.length_map, List.length_append]; omega))))
  all_goals
    repeat' first
      | fail
      | exact True.intro
      | exact rfl
      | exact id
      | exact leRs_refl _
      | ((conv => whnf); with_reducible refine And.intro ?_ ?_)
      | ((conv => whnf); exact True.intro)
    all_goals try (conv => whnf)
    simp only [Pl.beq] at *
    simp only [sameC, *, Bool.true_and, Bool.false_and, Bool.and_true, Bool.and_false]
end Go.Proofs.Ytibbgchpgfpccaa.Tb
