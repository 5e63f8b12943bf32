/-
  Contracts of functions of the program and of the document, each for every input that its premises name.
-/
import Derived.Test.YtibbgchpgfpccaaFD
set_option maxRecDepth 100000
set_option maxHeartbeats 4000000
set_option linter.unusedVariables false
set_option linter.unusedSimpArgs false
open Go Go.AX
namespace Go.Proofs.Ytibbgchpgfpccaa.Tb
theorem fn_rTick : FnOk Try.prog 13 Try.f13 := ⟨Try.func13, by kernel_rfl, by kernel_rfl, by kernel_rfl⟩
theorem rTick_c (f : Ft) (now : Int) (h : Ft.sm f) (ha : -9223372036854775808 ≤ f.at_ ∧ f.at_ < 9223372036854775807) (hn : 0 ≤ now ∧ now ≤ 18446744073709551615) (hs : 0 ≤ f.since ∧ f.since ≤ 18446744073709551615) :
    PCx Try.prog 13 [.agg f.c, uu now] (.tup [.agg (tickP f now).1.c, slR (tickP f now).2]) := by
  refine PC.le ?_
  have hw : IntKind.i64.wrap (f.at_ + 1) = f.at_ + 1 := wrapI (by omega) (by omega)
  have hu : IntKind.u64.wrap ((if f.since > now then f.since else now) - f.since) = (if f.since > now then f.since else now) - f.since := wrapU (by split <;> omega) (by split <;> omega)
  obtain ⟨X, hX⟩ : ∃ X, X = tickP f now := ⟨_, rfl⟩
  rw [← hX]
  refine PC_of_VC tabOk (draw_ok mixed tabOk) fn_rTick rfl ?_
  rcases askP_cases f (f.at_ + 1) now with ⟨hs, he⟩ | ⟨hs, he⟩
  · repeat' ((conv => whnf)
             first
             | with_reducible refine (Or.inl ?_ : VC _ _ _ _ _ ∨ _)
             | ((with_reducible refine (⟨fun hc => ?_, fun hc => ?_⟩ : (_ = true → _) ∧ (_ = false → _))) <;> first | exact absurd hc (by decide) | (exfalso; simp only [*, reduceCtorEq] at hc; done) | skip)
             | (refine Or.inr ?_; (conv => whnf); refine ⟨_, _, rown_g f h, ?_⟩)
             | (refine Or.inr ?_; (conv => whnf); refine ⟨_, _, GCx_pre (ask0_g f (f.at_ + 1) now hs.out) ?_, ?_⟩; focus ((repeat' first | exact True.intro | exact rfl | exact id | assumption | exact leRs_refl _ | ((conv => whnf); with_reducible refine And.intro ?_ ?_) | ((conv => whnf); exact True.intro)); done))
             | ((with_reducible refine And.intro ?_ ?_); focus (first | rfl | exact Nat.le_of_ble_eq_true rfl | omega | (simp only [List.length_cons, List.length_nil, List.length_map, List.length_append]; omega))))
    all_goals try rw [hu] at hc
    all_goals
      simp only [tickP, *, Bool.true_or, Bool.or_true, Bool.false_or, Bool.or_false, Bool.true_and, Bool.and_true, Bool.false_and, Bool.and_false, Bool.not_true, Bool.not_false, Bool.false_eq_true, ↓reduceIte] at hX
      subst hX
      repeat' first
        | exact True.intro
        | exact rfl
        | exact id
        | exact leRs_refl _
        | ((conv => whnf); with_reducible refine And.intro ?_ ?_)
        | ((conv => whnf); exact True.intro)
  · repeat' ((conv => whnf)
             first
             | with_reducible refine (Or.inl ?_ : VC _ _ _ _ _ ∨ _)
             | ((with_reducible refine (⟨fun hc => ?_, fun hc => ?_⟩ : (_ = true → _) ∧ (_ = false → _))) <;> first | exact absurd hc (by decide) | (exfalso; simp only [*, reduceCtorEq] at hc; done) | skip)
             | (refine Or.inr ?_; (conv => whnf); refine ⟨_, _, rown_g f h, ?_⟩)
             | (refine Or.inr ?_; (conv => whnf); refine ⟨_, _, GCx_pre (ask1_g f (f.at_ + 1) now hs.out) ?_, ?_⟩; focus ((repeat' first | exact True.intro | exact rfl | exact id | assumption | exact leRs_refl _ | ((conv => whnf); with_reducible refine And.intro ?_ ?_) | ((conv => whnf); exact True.intro)); done))
             | ((with_reducible refine And.intro ?_ ?_); focus (first | rfl | exact Nat.le_of_ble_eq_true rfl | omega | (simp only [List.length_cons, List.length_nil, List.length_map, List.length_append]; omega))))
    all_goals try rw [hu] at hc
    all_goals
      simp only [tickP, *, Bool.true_or, Bool.or_true, Bool.false_or, Bool.or_false, Bool.true_and, Bool.and_true, Bool.false_and, Bool.and_false, Bool.not_true, Bool.not_false, Bool.false_eq_true, ↓reduceIte] at hX
      subst hX
      repeat' first
        | exact True.intro
        | exact rfl
        | exact id
        | exact leRs_refl _
        | ((conv => whnf); with_reducible refine And.intro ?_ ?_)
        | ((conv => whnf); exact True.intro)
theorem fn_rMoved : FnOk Try.prog 17 Try.f17 := ⟨Try.func17, by kernel_rfl, by kernel_rfl, by kernel_rfl⟩
theorem rMoved_c (f : Ft) (now : Int) (l : Lg) (h : Ft.sm f) (hl : l.ok) (hf : frsOk l.frags) (hn : 0 ≤ f.n ∧ f.n ≤ 18446744073709551615) :
    PCx Try.prog 17 [.agg f.c, uu now, .agg l.c] (.tup [.agg (movedP f now l).1.c, slR (movedP f now l).2]) := by
  refine PC.le ?_
  obtain ⟨X, hX⟩ : ∃ X, X = movedP f now l := ⟨_, rfl⟩
  rw [← hX]
  refine PC_of_VC tabOk (draw_ok mixed tabOk) fn_rMoved rfl ?_
  rcases askP_cases { f with set := setOf l.frags l.w f.n } 0 now with ⟨hs, he⟩ | ⟨hs, he⟩
  · repeat' ((conv => whnf)
             first
             | with_reducible refine (Or.inl ?_ : VC _ _ _ _ _ ∨ _)
             | ((with_reducible refine (⟨fun hc => ?_, fun hc => ?_⟩ : (_ = true → _) ∧ (_ = false → _))) <;> first | exact absurd hc (by decide) | (exfalso; simp only [*, reduceCtorEq] at hc; done) | skip)
             | (refine Or.inr ?_; (conv => whnf); refine ⟨_, _, rown_g f h, ?_⟩)
             | (refine Or.inl ?_; (conv => whnf); refine ⟨_, mayLedger_c _ hl, ?_⟩)
             | (refine Or.inl ?_; (conv => whnf); refine ⟨_, sSet_c _ _ _ hf hn, ?_⟩)
             | (refine Or.inl ?_; (conv => whnf); refine ⟨_, equalPlace_c _ _, ?_⟩)
             | (refine Or.inr ?_; (conv => whnf); refine ⟨_, _, GCx_pre (ask0_g { f with set := setOf l.frags l.w f.n } 0 now hs.out) ?_, ?_⟩; focus ((repeat' first | exact True.intro | exact rfl | exact id | assumption | exact leRs_refl _ | ((conv => whnf); with_reducible refine And.intro ?_ ?_) | ((conv => whnf); exact True.intro)); done))
             | ((with_reducible refine And.intro ?_ ?_); focus (first | rfl | exact Nat.le_of_ble_eq_true rfl | omega | (simp only [List.length_cons, List.length_nil, List.length_map, List.length_append]; omega))))
    all_goals
      simp only [movedP, *, Bool.true_or, Bool.or_true, Bool.false_or, Bool.or_false, Bool.true_and, Bool.and_true, Bool.false_and, Bool.and_false, Bool.not_true, Bool.not_false, Bool.false_eq_true, ↓reduceIte] at hX
      subst hX
      repeat' first
        | exact True.intro
        | exact rfl
        | exact id
        | exact leRs_refl _
        | ((conv => whnf); with_reducible refine And.intro ?_ ?_)
        | ((conv => whnf); exact True.intro)
  · repeat' ((conv => whnf)
             first
             | with_reducible refine (Or.inl ?_ : VC _ _ _ _ _ ∨ _)
             | ((with_reducible refine (⟨fun hc => ?_, fun hc => ?_⟩ : (_ = true → _) ∧ (_ = false → _))) <;> first | exact absurd hc (by decide) | (exfalso; simp only [*, reduceCtorEq] at hc; done) | skip)
             | (refine Or.inr ?_; (conv => whnf); refine ⟨_, _, rown_g f h, ?_⟩)
             | (refine Or.inl ?_; (conv => whnf); refine ⟨_, mayLedger_c _ hl, ?_⟩)
             | (refine Or.inl ?_; (conv => whnf); refine ⟨_, sSet_c _ _ _ hf hn, ?_⟩)
             | (refine Or.inl ?_; (conv => whnf); refine ⟨_, equalPlace_c _ _, ?_⟩)
             | (refine Or.inr ?_; (conv => whnf); refine ⟨_, _, GCx_pre (ask1_g { f with set := setOf l.frags l.w f.n } 0 now hs.out) ?_, ?_⟩; focus ((repeat' first | exact True.intro | exact rfl | exact id | assumption | exact leRs_refl _ | ((conv => whnf); with_reducible refine And.intro ?_ ?_) | ((conv => whnf); exact True.intro)); done))
             | ((with_reducible refine And.intro ?_ ?_); focus (first | rfl | exact Nat.le_of_ble_eq_true rfl | omega | (simp only [List.length_cons, List.length_nil, List.length_map, List.length_append]; omega))))
    all_goals
      simp only [movedP, *, Bool.true_or, Bool.or_true, Bool.false_or, Bool.or_false, Bool.true_and, Bool.and_true, Bool.false_and, Bool.and_false, Bool.not_true, Bool.not_false, Bool.false_eq_true, ↓reduceIte] at hX
      subst hX
      repeat' first
        | exact True.intro
        | exact rfl
        | exact id
        | exact leRs_refl _
        | ((conv => whnf); with_reducible refine And.intro ?_ ?_)
        | ((conv => whnf); exact True.intro)
theorem fn_rSame : FnOk Try.prog 26 Try.f26 := ⟨Try.func26, by kernel_rfl, by kernel_rfl, by kernel_rfl⟩
theorem rSame_c (a b : Ft) : PCx Try.prog 26 [.agg a.c, .agg b.c] (bl (decide (a = b))) := by
  refine PC.le ?_
  rw [← sameP_iff]
  refine PC_of_VC tabOk (draw_ok mixed tabOk) fn_rSame rfl ?_
  repeat' ((conv => whnf)
           first
           | with_reducible refine (Or.inl ?_ : VC _ _ _ _ _ ∨ _)
           | ((with_reducible refine (⟨fun hc => ?_, fun hc => ?_⟩ : (_ = true → _) ∧ (_ = false → _))) <;> first | exact absurd hc (by decide) | (exfalso; simp only [*, reduceCtorEq] at hc; done) | skip)
           | (refine Or.inl ?_; (conv => whnf); refine ⟨_, equalPlace_c _ _, ?_⟩)
           | ((refine ⟨_, rfl, ?_⟩))
           | ((with_reducible refine And.intro ?_ ?_); focus (first | rfl | exact Nat.le_of_ble_eq_true rfl | omega | (simp only [List.length_cons, List.length_nil, List.length_map, List.length_append]; omega))))
  all_goals
    repeat' first
      | fail
      | exact True.intro
      | exact rfl
      | exact id
      | exact leRs_refl _
      | ((conv => whnf); with_reducible refine And.intro ?_ ?_)
      | ((conv => whnf); exact True.intro)
    all_goals try (conv => whnf)
    simp only [sameP, *, Bool.true_or, Bool.or_true, Bool.false_or, Bool.or_false, Bool.true_and, Bool.and_true, Bool.false_and, Bool.and_false, ByteArray.toList_mk]
theorem fn_r14Same : FnOk Try.prog 14 Try.f14 := ⟨Try.func14, by kernel_rfl, by kernel_rfl, by kernel_rfl⟩
theorem r14Same_c (l m : List Pl) : PCx Try.prog 14 [slP l, slP m] (bl (decide (l = m))) := by
  refine PC.le (PC_bd fn_r14Same fun hb => ?_)
  have hb : l.length ≤ 9223372036854775807 ∧ m.length ≤ 9223372036854775807 := by simpa [bdL, bdP, slP] using hb
  refine PC_of_VC tabOk (draw_ok mixed tabOk) fn_r14Same rfl ?_
  by_cases hlen : l.length = m.length
  · repeat' ((conv => whnf)
             first
             | with_reducible refine (Or.inl ?_ : VC _ _ _ _ _ ∨ _)
             | ((with_reducible refine (⟨fun hc => ?_, fun hc => ?_⟩ : (_ = true → _) ∧ (_ = false → _))) <;> first | exact absurd hc (by decide) | (exfalso; simp only [*, reduceCtorEq] at hc; done) | skip)
             | ((with_reducible refine And.intro ?_ ?_); focus (first | rfl | exact Nat.le_of_ble_eq_true rfl | omega | (simp only [List.length_cons, List.length_nil, List.length_map, List.length_append]; omega))))
    · simp [hlen] at hc
    refine ⟨{k : Nat // k ≤ l.length ∧ ∀ j (hj : j < l.length), j < k → l[j] = m[j]}, fun ⟨k, _⟩ => ⟨[(0, .pv (slP l)), (1, .pv (slP m)), (5, .pv (ii k))], 1000000000, []⟩, fun ⟨k, _⟩ => l.length - k, ⟨⟨0, by simp⟩, ent_of ?_⟩, ?_⟩
    · repeat' first
        | fail
        | exact True.intro
        | exact rfl
        | exact id
        | exact leRs_refl _
        | ((conv => whnf); with_reducible refine And.intro ?_ ?_)
        | ((conv => whnf); exact True.intro)
      all_goals try (conv => whnf)
    rintro ⟨k, hk, hn⟩
    repeat' ((conv => whnf)
             first
             | with_reducible refine (Or.inl ?_ : VC _ _ _ _ _ ∨ _)
             | ((with_reducible refine (⟨fun hc => ?_, fun hc => ?_⟩ : (_ = true → _) ∧ (_ = false → _))) <;> first | exact absurd hc (by decide) | (exfalso; simp only [*, reduceCtorEq] at hc; done) | skip)
             | ((with_reducible refine And.intro ?_ ?_); focus (first | rfl | exact Nat.le_of_ble_eq_true rfl | omega | (simp only [List.length_cons, List.length_nil, List.length_map, List.length_append]; omega))))
    · have hlt : k < l.length := by simpa using hc
      refine ⟨_, rowK _ _ _ hlt, ?_⟩
      repeat' ((conv => whnf)
               first
               | with_reducible refine (Or.inl ?_ : VC _ _ _ _ _ ∨ _)
               | ((with_reducible refine (⟨fun hc => ?_, fun hc => ?_⟩ : (_ = true → _) ∧ (_ = false → _))) <;> first | exact absurd hc (by decide) | (exfalso; simp only [*, reduceCtorEq] at hc; done) | skip)
               | ((refine ⟨_, rowK _ _ _ (hlen ▸ hlt), ?_⟩))
               | ((with_reducible refine And.intro ?_ ?_); focus (first | rfl | exact Nat.le_of_ble_eq_true rfl | omega | (simp only [List.length_cons, List.length_nil, List.length_map, List.length_append]; omega))))
      · repeat' first
          | fail
          | exact True.intro
          | exact rfl
          | exact id
          | exact leRs_refl _
          | ((conv => whnf); with_reducible refine And.intro ?_ ?_)
          | ((conv => whnf); exact True.intro)
        all_goals try (conv => whnf)
        rw [Pl.beq] at hc
        simp at hc ⊢
        rintro rfl
        exact hc rfl
      · repeat' ((conv => whnf)
                 first
                 | with_reducible refine (Or.inl ?_ : VC _ _ _ _ _ ∨ _)
                 | ((with_reducible refine (⟨fun hc => ?_, fun hc => ?_⟩ : (_ = true → _) ∧ (_ = false → _))) <;> first | exact absurd hc (by decide) | (exfalso; simp only [*, reduceCtorEq] at hc; done) | skip)
                 | ((with_reducible refine And.intro ?_ ?_); focus (first | rfl | exact Nat.le_of_ble_eq_true rfl | omega | (simp only [List.length_cons, List.length_nil, List.length_map, List.length_append]; omega))))
        refine ⟨⟨k + 1, hlt, step_lt hn fun _ => ?_⟩, dec_lt hlt, ent_of ?_⟩
        · rw [Pl.beq] at hc
          simpa using hc
        · repeat' first
            | fail
            | exact True.intro
            | exact rfl
            | exact id
            | exact leRs_refl _
            | ((conv => whnf); with_reducible refine And.intro ?_ ?_)
            | ((conv => whnf); exact True.intro)
          all_goals try (conv => whnf)
          exact wrapI (by omega) (by omega)
    · repeat' first
        | fail
        | exact True.intro
        | exact rfl
        | exact id
        | exact leRs_refl _
        | ((conv => whnf); with_reducible refine And.intro ?_ ?_)
        | ((conv => whnf); exact True.intro)
      all_goals try (conv => whnf)
      have : k = l.length := by simp at hc; omega
      subst this
      simp
      exact List.ext_getElem hlen fun i h1 h2 => hn i h1 h1
  · repeat' ((conv => whnf)
             first
             | with_reducible refine (Or.inl ?_ : VC _ _ _ _ _ ∨ _)
             | ((with_reducible refine (⟨fun hc => ?_, fun hc => ?_⟩ : (_ = true → _) ∧ (_ = false → _))) <;> first | exact absurd hc (by decide) | (exfalso; simp only [*, reduceCtorEq] at hc; done) | skip)
             | ((with_reducible refine And.intro ?_ ?_); focus (first | rfl | exact Nat.le_of_ble_eq_true rfl | omega | (simp only [List.length_cons, List.length_nil, List.length_map, List.length_append]; omega))))
    · repeat' first
        | fail
        | exact True.intro
        | exact rfl
        | exact id
        | exact leRs_refl _
        | ((conv => whnf); with_reducible refine And.intro ?_ ?_)
        | ((conv => whnf); exact True.intro)
      all_goals try (conv => whnf)
      simp; rintro rfl; exact hlen rfl
    · exfalso; simp at hc; omega
theorem fn_r14Has : FnOk Try.prog 19 Try.f19 := ⟨Try.func19, by kernel_rfl, by kernel_rfl, by kernel_rfl⟩
theorem r14Has_c (l : List Pl) (a b : Int) : PCx Try.prog 19 [slP l, .agg [ii a, uu b]] (bl (l.any fun y => y == ⟨a, b⟩)) := by
  refine PC.le (PC_bd fn_r14Has fun hb => ?_)
  have hb : l.length ≤ 9223372036854775807 := by simpa [bdL, bdP, slP] using hb
  refine PC_of_VC tabOk (draw_ok mixed tabOk) fn_r14Has rfl ?_
  repeat' ((conv => whnf)
           first
           | with_reducible refine (Or.inl ?_ : VC _ _ _ _ _ ∨ _)
           | ((with_reducible refine (⟨fun hc => ?_, fun hc => ?_⟩ : (_ = true → _) ∧ (_ = false → _))) <;> first | exact absurd hc (by decide) | (exfalso; simp only [*, reduceCtorEq] at hc; done) | skip)
           | ((with_reducible refine And.intro ?_ ?_); focus (first | rfl | exact Nat.le_of_ble_eq_true rfl | omega | (simp only [List.length_cons, List.length_nil, List.length_map, List.length_append]; omega))))
  refine ⟨{k : Nat // k ≤ l.length ∧ ∀ j (hj : j < l.length), j < k → (l[j] == ⟨a, b⟩) = false}, fun ⟨k, _⟩ => ⟨[(0, .pv (slP l)), (3, .ptr 1003 0), (5, .pv (ii k))], 1000000000, [(1003, .var [.pv (ii a), .pv (uu b)])]⟩, fun ⟨k, _⟩ => l.length - k, ⟨⟨0, by simp⟩, ent_of ?_⟩, ?_⟩
  · repeat' first
      | fail
      | exact True.intro
      | exact rfl
      | exact id
      | exact leRs_refl _
      | ((conv => whnf); with_reducible refine And.intro ?_ ?_)
      | ((conv => whnf); exact True.intro)
    all_goals try (conv => whnf)
  rintro ⟨k, hk, hn⟩
  repeat' ((conv => whnf)
           first
           | with_reducible refine (Or.inl ?_ : VC _ _ _ _ _ ∨ _)
           | ((with_reducible refine (⟨fun hc => ?_, fun hc => ?_⟩ : (_ = true → _) ∧ (_ = false → _))) <;> first | exact absurd hc (by decide) | (exfalso; simp only [*, reduceCtorEq] at hc; done) | skip)
           | ((with_reducible refine And.intro ?_ ?_); focus (first | rfl | exact Nat.le_of_ble_eq_true rfl | omega | (simp only [List.length_cons, List.length_nil, List.length_map, List.length_append]; omega))))
  · have hlt : k < l.length := by simpa using hc
    refine ⟨_, rowK _ _ _ hlt, ?_⟩
    repeat' ((conv => whnf)
             first
             | with_reducible refine (Or.inl ?_ : VC _ _ _ _ _ ∨ _)
             | ((with_reducible refine (⟨fun hc => ?_, fun hc => ?_⟩ : (_ = true → _) ∧ (_ = false → _))) <;> first | exact absurd hc (by decide) | (exfalso; simp only [*, reduceCtorEq] at hc; done) | skip)
             | ((with_reducible refine And.intro ?_ ?_); focus (first | rfl | exact Nat.le_of_ble_eq_true rfl | omega | (simp only [List.length_cons, List.length_nil, List.length_map, List.length_append]; omega))))
    · repeat' first
        | fail
        | exact True.intro
        | exact rfl
        | exact id
        | exact leRs_refl _
        | ((conv => whnf); with_reducible refine And.intro ?_ ?_)
        | ((conv => whnf); exact True.intro)
      all_goals try (conv => whnf)
      rw [Pl.beql] at hc
      exact (List.any_eq_true.2 ⟨l[k], List.getElem_mem hlt, hc⟩).symm
    · repeat' ((conv => whnf)
               first
               | with_reducible refine (Or.inl ?_ : VC _ _ _ _ _ ∨ _)
               | ((with_reducible refine (⟨fun hc => ?_, fun hc => ?_⟩ : (_ = true → _) ∧ (_ = false → _))) <;> first | exact absurd hc (by decide) | (exfalso; simp only [*, reduceCtorEq] at hc; done) | skip)
               | ((with_reducible refine And.intro ?_ ?_); focus (first | rfl | exact Nat.le_of_ble_eq_true rfl | omega | (simp only [List.length_cons, List.length_nil, List.length_map, List.length_append]; omega))))
      refine ⟨⟨k + 1, hlt, step_lt hn fun _ => (by rw [← Pl.beql]; exact hc)⟩, dec_lt hlt, ent_of ?_⟩
      repeat' first
        | fail
        | exact True.intro
        | exact rfl
        | exact id
        | exact leRs_refl _
        | ((conv => whnf); with_reducible refine And.intro ?_ ?_)
        | ((conv => whnf); exact True.intro)
      all_goals try (conv => whnf)
      exact wrapI (by omega) (by omega)
  · repeat' first
      | fail
      | exact True.intro
      | exact rfl
      | exact id
      | exact leRs_refl _
      | ((conv => whnf); with_reducible refine And.intro ?_ ?_)
      | ((conv => whnf); exact True.intro)
    all_goals try (conv => whnf)
    have : k = l.length := by simp at hc; omega
    subst this
    refine (Bool.eq_false_iff.2 fun h => ?_).symm
    obtain ⟨x, hx, hp⟩ := List.any_eq_true.1 h
    rw [all_of (q := fun x => (x == (⟨a, b⟩ : Pl)) = false) hn x hx] at hp; cases hp
theorem fn_r14Frag : FnOk Try.prog 51 Try.f51 := ⟨Try.func51, by kernel_rfl, by kernel_rfl, by kernel_rfl⟩
theorem r14Frag_c (l : List Fr) (n : Int) : PCx Try.prog 51 [slF l, uu n] (ii (lastIx (fun f => decide (f.first ≤ n)) l)) := by
  refine PC.le (PC_bd fn_r14Frag fun hb => ?_)
  have hb : l.length ≤ 9223372036854775807 := by simpa [bdL, bdP, slF] using hb
  refine PC_of_VC tabOk (draw_ok mixed tabOk) fn_r14Frag rfl ?_
  repeat' ((conv => whnf)
           first
           | with_reducible refine (Or.inl ?_ : VC _ _ _ _ _ ∨ _)
           | ((with_reducible refine (⟨fun hc => ?_, fun hc => ?_⟩ : (_ = true → _) ∧ (_ = false → _))) <;> first | exact absurd hc (by decide) | (exfalso; simp only [*, reduceCtorEq] at hc; done) | skip)
           | ((with_reducible refine And.intro ?_ ?_); focus (first | rfl | exact Nat.le_of_ble_eq_true rfl | omega | (simp only [List.length_cons, List.length_nil, List.length_map, List.length_append]; omega))))
  refine ⟨{k : Nat // k ≤ l.length ∧ ∀ j (hj : j < l.length), k ≤ j → decide (l[j].first ≤ n) = false}, fun ⟨k, _⟩ => ⟨[(0, .pv (slF l)), (1, .pv (uu n)), (5, .pv (ii (((k : Nat) : Int) - 1)))], 1000000000, []⟩, fun ⟨k, _⟩ => k, ⟨⟨l.length, Nat.le_refl _, fun j hj h => by omega⟩, ent_of ?_⟩, ?_⟩
  · repeat' first
      | fail
      | exact True.intro
      | exact rfl
      | exact id
      | exact leRs_refl _
      | ((conv => whnf); with_reducible refine And.intro ?_ ?_)
      | ((conv => whnf); exact True.intro)
    all_goals try (conv => whnf)
    rw [wrapI (by simp; omega) (by simp; omega), List.length_map]
  rintro ⟨k, hk, hn⟩
  repeat' ((conv => whnf)
           first
           | with_reducible refine (Or.inl ?_ : VC _ _ _ _ _ ∨ _)
           | ((with_reducible refine (⟨fun hc => ?_, fun hc => ?_⟩ : (_ = true → _) ∧ (_ = false → _))) <;> first | exact absurd hc (by decide) | (exfalso; simp only [*, reduceCtorEq] at hc; done) | skip)
           | ((with_reducible refine And.intro ?_ ?_); focus (first | rfl | exact Nat.le_of_ble_eq_true rfl | omega | (simp only [List.length_cons, List.length_nil, List.length_map, List.length_append]; omega))))
  · have hlt : k - 1 < l.length ∧ 1 ≤ k := by simp at hc; omega
    repeat' ((conv => whnf)
             first
             | with_reducible refine (Or.inl ?_ : VC _ _ _ _ _ ∨ _)
             | ((with_reducible refine (⟨fun hc => ?_, fun hc => ?_⟩ : (_ = true → _) ∧ (_ = false → _))) <;> first | exact absurd hc (by decide) | (exfalso; simp only [*, reduceCtorEq] at hc; done) | skip)
             | ((refine ⟨by simp at hc; omega, _, rowE _ _ (k := k - 1) (by omega) hlt.1, ?_⟩))
             | ((with_reducible refine And.intro ?_ ?_); focus (first | rfl | exact Nat.le_of_ble_eq_true rfl | omega | (simp only [List.length_cons, List.length_nil, List.length_map, List.length_append]; omega))))
    · repeat' first
        | fail
        | exact True.intro
        | exact rfl
        | exact id
        | exact leRs_refl _
        | ((conv => whnf); with_reducible refine And.intro ?_ ?_)
        | ((conv => whnf); exact True.intro)
      all_goals try (conv => whnf)
      rw [lastIx_at _ hlt.1 (fun j hj h => hn j hj (by omega)) hc]
      omega
    · repeat' ((conv => whnf)
               first
               | with_reducible refine (Or.inl ?_ : VC _ _ _ _ _ ∨ _)
               | ((with_reducible refine (⟨fun hc => ?_, fun hc => ?_⟩ : (_ = true → _) ∧ (_ = false → _))) <;> first | exact absurd hc (by decide) | (exfalso; simp only [*, reduceCtorEq] at hc; done) | skip)
               | ((with_reducible refine And.intro ?_ ?_); focus (first | rfl | exact Nat.le_of_ble_eq_true rfl | omega | (simp only [List.length_cons, List.length_nil, List.length_map, List.length_append]; omega))))
      refine ⟨⟨k - 1, by omega, fun j hj h => ?_⟩, (show k - 1 < k by omega), ent_of ?_⟩
      · by_cases e : j = k - 1
        · subst e; exact hc
        · exact hn j hj (by omega)
      · repeat' first
          | fail
          | exact True.intro
          | exact rfl
          | exact id
          | exact leRs_refl _
          | ((conv => whnf); with_reducible refine And.intro ?_ ?_)
          | ((conv => whnf); exact True.intro)
        all_goals try (conv => whnf)
        rw [wrapI (by omega) (by omega)]; omega
  · repeat' first
      | fail
      | exact True.intro
      | exact rfl
      | exact id
      | exact leRs_refl _
      | ((conv => whnf); with_reducible refine And.intro ?_ ?_)
      | ((conv => whnf); exact True.intro)
    all_goals try (conv => whnf)
    rw [lastIx_none _ (fun x hx => ?_)]
    obtain ⟨j, hj, rfl⟩ := List.getElem_of_mem hx
    exact hn j hj (by simp at hc; omega)
theorem fn_r14Set : FnOk Try.prog 15 Try.f15 := ⟨Try.func15, by kernel_rfl, by kernel_rfl, by kernel_rfl⟩
theorem r14Set_c (l : List Fr) (w n : Int) (h : frsOk l) (hn : 0 ≤ n ∧ n ≤ 18446744073709551615) : PCx Try.prog 15 [slF l, ii w, uu n] (slP (setOf l w n)) := by
  refine PC.le (PC_bd fn_r14Set fun hb => ?_)
  have hb : l.length ≤ 9223372036854775807 := by simpa [bdL, bdP, slF] using hb
  refine PC_of_VC tabOk (draw_ok mixed tabOk) fn_r14Set rfl ?_
  rcases lastIx_lastP (fun f : Fr => decide (f.first ≤ n)) l with ⟨e1, e2⟩ | ⟨k, hk, e1, e2⟩
  · have hF : PCx Try.prog 51 [slF l, uu n] (ii (-1)) := e1 ▸ r14Frag_c l n
    repeat' ((conv => whnf)
             first
             | with_reducible refine (Or.inl ?_ : VC _ _ _ _ _ ∨ _)
             | ((with_reducible refine (⟨fun hc => ?_, fun hc => ?_⟩ : (_ = true → _) ∧ (_ = false → _))) <;> first | exact absurd hc (by decide) | (exfalso; simp only [*, reduceCtorEq] at hc; done) | skip)
             | (refine Or.inl ?_; (conv => whnf); refine ⟨_, hF, ?_⟩)
             | ((with_reducible refine And.intro ?_ ?_); focus (first | rfl | exact Nat.le_of_ble_eq_true rfl | omega | (simp only [List.length_cons, List.length_nil, List.length_map, List.length_append]; omega))))
    repeat' first
      | fail
      | exact True.intro
      | exact rfl
      | exact id
      | exact leRs_refl _
      | ((conv => whnf); with_reducible refine And.intro ?_ ?_)
      | ((conv => whnf); exact True.intro)
    all_goals try (conv => whnf)
    simp [setOf, fragAt, e2]
  · have hF : PCx Try.prog 51 [slF l, uu n] (ii (k : Nat)) := e1 ▸ r14Frag_c l n
    have hf : fragAt l n = some l[k] := e2
    obtain ⟨⟨f1, f2, f3⟩, f4⟩ := fragAt_ok h hf
    repeat' ((conv => whnf)
             first
             | with_reducible refine (Or.inl ?_ : VC _ _ _ _ _ ∨ _)
             | ((with_reducible refine (⟨fun hc => ?_, fun hc => ?_⟩ : (_ = true → _) ∧ (_ = false → _))) <;> first | exact absurd hc (by decide) | (exfalso; simp only [*, reduceCtorEq] at hc; done) | skip)
             | (refine Or.inl ?_; (conv => whnf); refine ⟨_, hF, ?_⟩)
             | ((refine ⟨_, rowK _ _ _ hk, ?_⟩))
             | ((with_reducible refine And.intro ?_ ?_); focus (first | rfl | exact Nat.le_of_ble_eq_true rfl | omega | (simp only [List.length_cons, List.length_nil, List.length_map, List.length_append]; omega))))
    all_goals try (exfalso; grind)
    · repeat' first
        | fail
        | exact True.intro
        | exact rfl
        | exact id
        | exact leRs_refl _
        | ((conv => whnf); with_reducible refine And.intro ?_ ?_)
        | ((conv => whnf); exact True.intro)
      all_goals try (conv => whnf)
      simp only [decide_eq_true_eq, decide_eq_false_iff_not, List.length_map] at *
      simp only [setOf, hf]
      rw [if_neg (by omega)]; rfl
    · repeat' first
        | fail
        | exact True.intro
        | exact rfl
        | exact id
        | exact leRs_refl _
        | ((conv => whnf); with_reducible refine And.intro ?_ ?_)
        | ((conv => whnf); exact True.intro)
      all_goals try (conv => whnf)
      simp only [decide_eq_true_eq, decide_eq_false_iff_not, List.length_map] at *
      simp only [setOf, hf]
      rw [if_neg (by omega)]; rfl
    · have hw : 1 ≤ w ∧ w ≤ l[k].bookies.length := by simp only [decide_eq_true_eq, decide_eq_false_iff_not, List.length_map] at *; omega
      have hpos : 0 < l[k].bookies.length := by omega
      have hlow := Int.emod_nonneg (n - l[k].first) (b := (l[k].bookies.length : Int)) (by omega)
      have hup := Int.emod_lt_of_pos (n - l[k].first) (b := (l[k].bookies.length : Int)) (by omega)
      have eI : IntKind.i64.wrap ((IntKind.u64.wrap (n - l[k].first)).tmod (IntKind.u64.wrap ((l[k].bookies.map Pl.c).length : Int))) = (n - l[k].first) % (l[k].bookies.length : Int) := by
        rw [wrapU (by omega) (by omega), List.length_map, wrapU (by omega) (by omega), Int.tmod_eq_emod_of_nonneg (by omega)]
        exact wrapI (by omega) (by omega)
      obtain ⟨c, hc0⟩ : ∃ c : Nat, c = ((n - l[k].first) % (l[k].bookies.length : Int)).toNat := ⟨_, rfl⟩
      have hcl : c < l[k].bookies.length := by omega
      have hset : setOf l w n = fromPl l[k].bookies c w.toNat := by simp only [setOf, hf]; rw [if_pos hw, hc0]
      have hcs : ∀ i, fromPl l[k].bookies c (i + 1) = fromPl l[k].bookies c i ++ [l[k].bookies[(c + i) % l[k].bookies.length]!] := fun i => by simp [fromPl, List.range_succ]
      have hfl : ∀ i, (fromPl l[k].bookies c i).length = i := fun i => by simp [fromPl]
      rw [hset]
      generalize hbk : l[k].bookies = bk at *
      repeat' ((conv => whnf)
               first
               | with_reducible refine (Or.inl ?_ : VC _ _ _ _ _ ∨ _)
               | ((with_reducible refine (⟨fun hc => ?_, fun hc => ?_⟩ : (_ = true → _) ∧ (_ = false → _))) <;> first | exact absurd hc (by decide) | (exfalso; simp only [*, reduceCtorEq] at hc; done) | skip)
               | (((with_reducible refine And.intro ?_ ?_); focus (rw [List.length_map, wrapU (by omega) (by omega)]; omega)))
               | ((with_reducible refine And.intro ?_ ?_); focus (first | rfl | exact Nat.le_of_ble_eq_true rfl | omega | (simp only [List.length_cons, List.length_nil, List.length_map, List.length_append]; omega))))
      refine ⟨{i : Nat // i ≤ w.toNat}, fun ⟨i, _⟩ => ⟨[(1, .pv (ii w)), (8, .slw 1008 0), (9, .pv (slP bk)), (10, .pv (ii (((c + i) % bk.length : Nat) : Int)))], 1000000000, [(1008, .arr 38 0 2 ((fromPl bk c i).map Pl.c))]⟩, fun ⟨i, _⟩ => w.toNat - i, ⟨⟨0, Nat.zero_le _⟩, ent_of ?_⟩, ?_⟩
      · repeat' first
          | fail
          | exact True.intro
          | exact rfl
          | exact id
          | exact leRs_refl _
          | ((conv => whnf); with_reducible refine And.intro ?_ ?_)
          | ((conv => whnf); exact True.intro)
        all_goals try (conv => whnf)
        rw [eI, Nat.add_zero, Nat.mod_eq_of_lt hcl]; omega
      rintro ⟨i, hi⟩
      have hm : (c + i) % bk.length < bk.length := Nat.mod_lt _ hpos
      have hwr : IntKind.i64.wrap ((((c + i) % bk.length : Nat) : Int) + 1) = (((c + i) % bk.length + 1 : Nat) : Int) := by rw [wrapI (by omega) (by omega)]; omega
      have hrow : [(bk[(c + i) % bk.length]).c] = [bk[(c + i) % bk.length]!].map Pl.c := by rw [getElem!_pos bk _ hm]; rfl
      have hms := mod_succ (c + i) bk.length hpos
      repeat' ((conv => whnf)
               first
               | with_reducible refine (Or.inl ?_ : VC _ _ _ _ _ ∨ _)
               | ((with_reducible refine (⟨fun hc => ?_, fun hc => ?_⟩ : (_ = true → _) ∧ (_ = false → _))) <;> first | exact absurd hc (by decide) | (exfalso; simp only [*, reduceCtorEq] at hc; done) | skip)
               | ((with_reducible refine And.intro ?_ ?_); focus (first | rfl | exact Nat.le_of_ble_eq_true rfl | omega | (simp only [List.length_cons, List.length_nil, List.length_map, List.length_append]; omega))))
      · have hiw : i < w.toNat := by simp [hfl] at hc; omega
        refine ⟨_, rowK _ _ _ hm, ?_⟩
        repeat' ((conv => whnf)
                 first
                 | with_reducible refine (Or.inl ?_ : VC _ _ _ _ _ ∨ _)
                 | ((with_reducible refine (⟨fun hc => ?_, fun hc => ?_⟩ : (_ = true → _) ∧ (_ = false → _))) <;> first | exact absurd hc (by decide) | (exfalso; simp only [*, reduceCtorEq] at hc; done) | skip)
                 | (((with_reducible refine And.intro ?_ ?_); focus (simp [hfl]; omega)))
                 | ((with_reducible refine And.intro ?_ ?_); focus (first | rfl | exact Nat.le_of_ble_eq_true rfl | omega | (simp only [List.length_cons, List.length_nil, List.length_map, List.length_append]; omega))))
        · rw [hwr] at hc
          rw [beq_iff_eq, List.length_map, Int.ofNat_inj] at hc
          rw [if_pos hc] at hms
          refine ⟨⟨i + 1, hiw⟩, dec_lt hiw, ent_of ?_⟩
          repeat' first
            | fail
            | exact True.intro
            | exact rfl
            | exact id
            | exact leRs_refl _
            | ((conv => whnf); with_reducible refine And.intro ?_ ?_)
            | ((conv => whnf); exact True.intro)
          all_goals try (conv => whnf)
          all_goals first
            | (refine leRs_of_eq ?_; rw [hcs, List.map_append, ← hrow]; rfl)
            | (rw [← Nat.add_assoc, hms]; rfl)
        · rw [hwr] at hc
          rw [beq_eq_false_iff_ne, ne_eq, List.length_map, Int.ofNat_inj] at hc
          rw [if_neg hc] at hms
          refine ⟨⟨i + 1, hiw⟩, dec_lt hiw, ent_of ?_⟩
          repeat' first
            | fail
            | exact True.intro
            | exact rfl
            | exact id
            | exact leRs_refl _
            | ((conv => whnf); with_reducible refine And.intro ?_ ?_)
            | ((conv => whnf); exact True.intro)
          all_goals try (conv => whnf)
          all_goals first
            | (refine leRs_of_eq ?_; rw [hcs, List.map_append, ← hrow]; rfl)
            | (rw [← Nat.add_assoc, hms]; exact hwr)
      · have : i = w.toNat := by simp [hfl] at hc; omega
        subst this
        repeat' first
          | fail
          | exact True.intro
          | exact rfl
          | exact id
          | exact leRs_refl _
          | ((conv => whnf); with_reducible refine And.intro ?_ ?_)
          | ((conv => whnf); exact True.intro)
        all_goals try (conv => whnf)
theorem fn_r07Place : FnOk Try.prog 98 Try.f98 := ⟨Try.func98, by kernel_rfl, by kernel_rfl, by kernel_rfl⟩
theorem r07Place_c (a b : Int) : PCx Try.prog 98 [.agg [ii a, uu b]] (bl (mayPl ⟨a, b⟩)) := by
  refine PC.le ?_
  refine PC_of_VC tabOk (draw_ok mixed tabOk) fn_r07Place rfl ?_
  repeat' ((conv => whnf)
           first
           | with_reducible refine (Or.inl ?_ : VC _ _ _ _ _ ∨ _)
           | ((with_reducible refine (⟨fun hc => ?_, fun hc => ?_⟩ : (_ = true → _) ∧ (_ = false → _))) <;> first | exact absurd hc (by decide) | (exfalso; simp only [*, reduceCtorEq] at hc; done) | skip)
           | ((with_reducible refine And.intro ?_ ?_); focus (first | rfl | exact Nat.le_of_ble_eq_true rfl | omega | (simp only [List.length_cons, List.length_nil, List.length_map, List.length_append]; omega))))
  all_goals
    repeat' first
      | fail
      | exact True.intro
      | exact rfl
      | exact id
      | exact leRs_refl _
      | ((conv => whnf); with_reducible refine And.intro ?_ ?_)
      | ((conv => whnf); exact True.intro)
    all_goals try (conv => whnf)
    simp only [mayPl, fromZ]
    simp only [decide_eq_true_eq, decide_eq_false_iff_not] at *
    first
      | (symm; simp only [Bool.and_eq_false_iff, decide_eq_false_iff_not]; omega)
      | (rw [Bool.eq_iff_iff]; simp only [Bool.and_eq_true, decide_eq_true_eq]; omega)
theorem fn_r07Frags : FnOk Try.prog 57 Try.f57 := ⟨Try.func57, by kernel_rfl, by kernel_rfl, by kernel_rfl⟩
theorem r07Frags_c (w : Int) (l : List Fr) : PCx Try.prog 57 [ii w, slF l] (bl (mayFrs w l)) := by
  refine PC.le (PC_bd fn_r07Frags fun hb => ?_)
  have hb : l.length ≤ 9223372036854775807 := by simpa [bdL, bdP, slF] using hb
  refine PC_of_VC tabOk (draw_ok mixed tabOk) fn_r07Frags rfl ?_
  cases hf1 : first1 l with
  | false =>
    cases l with
    | nil =>
      repeat' ((conv => whnf)
               first
               | with_reducible refine (Or.inl ?_ : VC _ _ _ _ _ ∨ _)
               | ((with_reducible refine (⟨fun hc => ?_, fun hc => ?_⟩ : (_ = true → _) ∧ (_ = false → _))) <;> first | exact absurd hc (by decide) | (exfalso; simp only [*, reduceCtorEq] at hc; done) | skip)
               | ((with_reducible refine And.intro ?_ ?_); focus (first | rfl | exact Nat.le_of_ble_eq_true rfl | omega | (simp only [List.length_cons, List.length_nil, List.length_map, List.length_append]; omega))))
      repeat' first
        | fail
        | exact True.intro
        | exact rfl
        | exact id
        | exact leRs_refl _
        | ((conv => whnf); with_reducible refine And.intro ?_ ?_)
        | ((conv => whnf); exact True.intro)
      all_goals try (conv => whnf)
      all_goals simp [mayFrs, fromZ]
    | cons x r =>
      repeat' ((conv => whnf)
               first
               | with_reducible refine (Or.inl ?_ : VC _ _ _ _ _ ∨ _)
               | ((with_reducible refine (⟨fun hc => ?_, fun hc => ?_⟩ : (_ = true → _) ∧ (_ = false → _))) <;> first | exact absurd hc (by decide) | (exfalso; simp only [*, reduceCtorEq] at hc; done) | skip)
               | ((refine ⟨_, rfl, ?_⟩))
               | ((with_reducible refine And.intro ?_ ?_); focus (first | rfl | exact Nat.le_of_ble_eq_true rfl | omega | (simp only [List.length_cons, List.length_nil, List.length_map, List.length_append]; omega))))
      all_goals try (exfalso; simp [first1] at hf1 hc; exact hf1 hc)
      all_goals
        repeat' first
          | fail
          | exact True.intro
          | exact rfl
          | exact id
          | exact leRs_refl _
          | ((conv => whnf); with_reducible refine And.intro ?_ ?_)
          | ((conv => whnf); exact True.intro)
        all_goals try (conv => whnf)
        all_goals (simp only [mayFrs, hf1, Bool.false_and, Bool.and_false])
  | true =>
    obtain ⟨h0, e0⟩ := (first1_iff l).1 hf1
    have hrow : (l.map Fr.c)[(0 : Int).toNat]? = some l[0].c := rowK Fr.c l 0 h0
    have hlen : (¬ (1 ≤ l.length ∧ l.length ≤ 6)) → mayFrs w l = false := fun h => by
      cases e : mayFrs w l with
      | false => rfl
      | true => exact absurd ⟨((mayFrs_iff w l).1 e).1, ((mayFrs_iff w l).1 e).2.1⟩ h
    repeat' ((conv => whnf)
             first
             | with_reducible refine (Or.inl ?_ : VC _ _ _ _ _ ∨ _)
             | ((with_reducible refine (⟨fun hc => ?_, fun hc => ?_⟩ : (_ = true → _) ∧ (_ = false → _))) <;> first | exact absurd hc (by decide) | (exfalso; simp only [*, reduceCtorEq] at hc; done) | skip)
             | ((refine ⟨_, hrow, ?_⟩))
             | ((with_reducible refine And.intro ?_ ?_); focus (first | rfl | exact Nat.le_of_ble_eq_true rfl | omega | (simp only [List.length_cons, List.length_nil, List.length_map, List.length_append]; omega))))
    · repeat' first
        | fail
        | exact True.intro
        | exact rfl
        | exact id
        | exact leRs_refl _
        | ((conv => whnf); with_reducible refine And.intro ?_ ?_)
        | ((conv => whnf); exact True.intro)
      all_goals try (conv => whnf)
      exact (hlen (by simp at *; omega)).symm
    · repeat' first
        | fail
        | exact True.intro
        | exact rfl
        | exact id
        | exact leRs_refl _
        | ((conv => whnf); with_reducible refine And.intro ?_ ?_)
        | ((conv => whnf); exact True.intro)
      all_goals try (conv => whnf)
      exact (hlen (by simp at *; omega)).symm
    · exfalso; simp [e0] at hc
    have h6 : 1 ≤ l.length ∧ l.length ≤ 6 := by simp at *; omega
    refine ⟨{k : Nat // k ≤ l.length ∧ ∀ j (hj : j < l.length), j < k → frGood w l j hj}, fun ⟨k, _⟩ => ⟨[(0, .pv (ii w)), (1, .pv (slF l)), (5, .pv (ii k))], 1000000000, []⟩, fun ⟨k, _⟩ => l.length - k, ⟨⟨0, by simp⟩, ent_of ?_⟩, ?_⟩
    · repeat' first
        | fail
        | exact True.intro
        | exact rfl
        | exact id
        | exact leRs_refl _
        | ((conv => whnf); with_reducible refine And.intro ?_ ?_)
        | ((conv => whnf); exact True.intro)
      all_goals try (conv => whnf)
    rintro ⟨k, hk, hn⟩
    repeat' ((conv => whnf)
             first
             | with_reducible refine (Or.inl ?_ : VC _ _ _ _ _ ∨ _)
             | ((with_reducible refine (⟨fun hc => ?_, fun hc => ?_⟩ : (_ = true → _) ∧ (_ = false → _))) <;> first | exact absurd hc (by decide) | (exfalso; simp only [*, reduceCtorEq] at hc; done) | skip)
             | ((with_reducible refine And.intro ?_ ?_); focus (first | rfl | exact Nat.le_of_ble_eq_true rfl | omega | (simp only [List.length_cons, List.length_nil, List.length_map, List.length_append]; omega))))
    · have hlt : k < l.length := by simpa using hc
      have hbad : ¬ frGood w l k hlt → mayFrs w l = false := mayFrs_not hlt
      have e1 (h : 0 < k) : IntKind.i64.wrap (((k : Nat) : Int) - 1) = ((k - 1 : Nat) : Int) := by rw [wrapI (by omega) (by omega)]; omega
      refine ⟨_, rowK _ _ _ hlt, ?_⟩
      repeat' ((conv => whnf)
               first
               | with_reducible refine (Or.inl ?_ : VC _ _ _ _ _ ∨ _)
               | ((with_reducible refine (⟨fun hc => ?_, fun hc => ?_⟩ : (_ = true → _) ∧ (_ = false → _))) <;> first | exact absurd hc (by decide) | (exfalso; simp only [*, reduceCtorEq] at hc; done) | skip)
               | ((refine ⟨_, rowK _ _ _ hlt, ?_⟩))
               | ((refine ⟨by rw [e1 (by simp at hc; omega)]; omega, _, rowE _ _ (e1 (by simp at hc; omega)) (by omega), ?_⟩))
               | ((with_reducible refine And.intro ?_ ?_); focus (first | rfl | exact Nat.le_of_ble_eq_true rfl | omega | (simp only [List.length_cons, List.length_nil, List.length_map, List.length_append]; omega))))
      all_goals
        first
          | (have hgood : (∀ x ∈ l[k].bookies, mayPl x = true) → (l[k].bookies.map (·.node)).Nodup → frGood w l k hlt := fun h1 h2 => by
               simp only [decide_eq_true_eq, decide_eq_false_iff_not, List.length_map] at *
               exact ⟨by omega, fun h => by omega, by omega, by omega, List.all_eq_true.2 h1, h2⟩)
          | (have hb2 : ¬ frGood w l k hlt := fun g => by
               obtain ⟨g1, g2, g3, g4, _⟩ := g
               simp only [decide_eq_true_eq, decide_eq_false_iff_not, List.length_map] at *
               by_cases hk0 : 0 < k
               · have g2 := g2 hk0
                 omega
               · omega
             repeat' first
               | fail
               | exact True.intro
               | exact rfl
               | exact id
               | exact leRs_refl _
               | ((conv => whnf); with_reducible refine And.intro ?_ ?_)
               | ((conv => whnf); exact True.intro)
             all_goals try (conv => whnf)
             exact (hbad hb2).symm)
      all_goals
        repeat' ((conv => whnf)
                 first
                 | with_reducible refine (Or.inl ?_ : VC _ _ _ _ _ ∨ _)
                 | ((with_reducible refine (⟨fun hc => ?_, fun hc => ?_⟩ : (_ = true → _) ∧ (_ = false → _))) <;> first | exact absurd hc (by decide) | (exfalso; simp only [*, reduceCtorEq] at hc; done) | skip)
                 | ((with_reducible refine And.intro ?_ ?_); focus (first | rfl | exact Nat.le_of_ble_eq_true rfl | omega | (simp only [List.length_cons, List.length_nil, List.length_map, List.length_append]; omega))))
        generalize hbk : l[k].bookies = bk at *
        have hbl : bk.length ≤ 5 := by simp only [decide_eq_true_eq, decide_eq_false_iff_not, List.length_map] at *; omega
        refine ⟨{j : Nat // j ≤ bk.length ∧ (∀ i (hi : i < bk.length), i < j → mayPl bk[i] = true) ∧ ((bk.take j).map (·.node)).Nodup}, fun ⟨j, _⟩ => ⟨[(0, .pv (ii w)), (1, .pv (slF l)), (5, .pv (ii k)), (6, .pv (slP bk)), (7, .pv (ii j))], 1000000000, []⟩, fun ⟨j, _⟩ => bk.length - j, ⟨⟨0, by simp⟩, ent_of ?_⟩, ?_⟩
        · repeat' first
            | fail
            | exact True.intro
            | exact rfl
            | exact id
            | exact leRs_refl _
            | ((conv => whnf); with_reducible refine And.intro ?_ ?_)
            | ((conv => whnf); exact True.intro)
          all_goals try (conv => whnf)
        rintro ⟨j, hj, hm, hd⟩
        repeat' ((conv => whnf)
                 first
                 | with_reducible refine (Or.inl ?_ : VC _ _ _ _ _ ∨ _)
                 | ((with_reducible refine (⟨fun hc => ?_, fun hc => ?_⟩ : (_ = true → _) ∧ (_ = false → _))) <;> first | exact absurd hc (by decide) | (exfalso; simp only [*, reduceCtorEq] at hc; done) | skip)
                 | ((with_reducible refine And.intro ?_ ?_); focus (first | rfl | exact Nat.le_of_ble_eq_true rfl | omega | (simp only [List.length_cons, List.length_nil, List.length_map, List.length_append]; omega))))
        · have hjl : j < bk.length := by simpa using hc
          refine ⟨_, rowK _ _ _ hjl, ?_⟩
          repeat' ((conv => whnf)
                   first
                   | with_reducible refine (Or.inl ?_ : VC _ _ _ _ _ ∨ _)
                   | ((with_reducible refine (⟨fun hc => ?_, fun hc => ?_⟩ : (_ = true → _) ∧ (_ = false → _))) <;> first | exact absurd hc (by decide) | (exfalso; simp only [*, reduceCtorEq] at hc; done) | skip)
                   | (refine Or.inl ?_; (conv => whnf); refine ⟨_, r07Place_c _ _, ?_⟩)
                   | ((with_reducible refine And.intro ?_ ?_); focus (first | rfl | exact Nat.le_of_ble_eq_true rfl | omega | (simp only [List.length_cons, List.length_nil, List.length_map, List.length_append]; omega))))
          · repeat' first
              | fail
              | exact True.intro
              | exact rfl
              | exact id
              | exact leRs_refl _
              | ((conv => whnf); with_reducible refine And.intro ?_ ?_)
              | ((conv => whnf); exact True.intro)
            all_goals try (conv => whnf)
            refine (hbad fun g => ?_).symm
            have := List.all_eq_true.1 g.2.2.2.2.1 bk[j] (by rw [hbk]; exact List.getElem_mem hjl)
            rw [Pl.eta] at hc
            rw [this] at hc; cases hc
          repeat' ((conv => whnf)
                   first
                   | with_reducible refine (Or.inl ?_ : VC _ _ _ _ _ ∨ _)
                   | ((with_reducible refine (⟨fun hc => ?_, fun hc => ?_⟩ : (_ = true → _) ∧ (_ = false → _))) <;> first | exact absurd hc (by decide) | (exfalso; simp only [*, reduceCtorEq] at hc; done) | skip)
                   | ((with_reducible refine And.intro ?_ ?_); focus (first | rfl | exact Nat.le_of_ble_eq_true rfl | omega | (simp only [List.length_cons, List.length_nil, List.length_map, List.length_append]; omega))))
          refine ⟨{i : Nat // i ≤ j ∧ ∀ x (hx : x < bk.length), x < i → bk[x].node ≠ bk[j].node}, fun ⟨i, _⟩ => ⟨[(0, .pv (ii w)), (1, .pv (slF l)), (5, .pv (ii k)), (6, .pv (slP bk)), (7, .pv (ii j)), (8, .pv (ii i))], 1000000000, []⟩, fun ⟨i, _⟩ => j - i, ⟨⟨0, by simp⟩, ent_of ?_⟩, ?_⟩
          · repeat' first
              | fail
              | exact True.intro
              | exact rfl
              | exact id
              | exact leRs_refl _
              | ((conv => whnf); with_reducible refine And.intro ?_ ?_)
              | ((conv => whnf); exact True.intro)
            all_goals try (conv => whnf)
          have hpl : mayPl bk[j] = true := by rw [Pl.eta] at hc; simpa using hc
          rintro ⟨i, hi, hx⟩
          repeat' ((conv => whnf)
                   first
                   | with_reducible refine (Or.inl ?_ : VC _ _ _ _ _ ∨ _)
                   | ((with_reducible refine (⟨fun hc => ?_, fun hc => ?_⟩ : (_ = true → _) ∧ (_ = false → _))) <;> first | exact absurd hc (by decide) | (exfalso; simp only [*, reduceCtorEq] at hc; done) | skip)
                   | ((with_reducible refine And.intro ?_ ?_); focus (first | rfl | exact Nat.le_of_ble_eq_true rfl | omega | (simp only [List.length_cons, List.length_nil, List.length_map, List.length_append]; omega))))
          · have hij : i < j := by simpa using hc
            refine ⟨_, rowK _ _ _ (by omega : i < bk.length), ?_⟩
            repeat' ((conv => whnf)
                     first
                     | with_reducible refine (Or.inl ?_ : VC _ _ _ _ _ ∨ _)
                     | ((with_reducible refine (⟨fun hc => ?_, fun hc => ?_⟩ : (_ = true → _) ∧ (_ = false → _))) <;> first | exact absurd hc (by decide) | (exfalso; simp only [*, reduceCtorEq] at hc; done) | skip)
                     | ((refine ⟨_, rowK _ _ _ hjl, ?_⟩))
                     | ((with_reducible refine And.intro ?_ ?_); focus (first | rfl | exact Nat.le_of_ble_eq_true rfl | omega | (simp only [List.length_cons, List.length_nil, List.length_map, List.length_append]; omega))))
            · repeat' first
                | fail
                | exact True.intro
                | exact rfl
                | exact id
                | exact leRs_refl _
                | ((conv => whnf); with_reducible refine And.intro ?_ ?_)
                | ((conv => whnf); exact True.intro)
              all_goals try (conv => whnf)
              refine (hbad fun g => ?_).symm
              have := g.2.2.2.2.2
              rw [hbk] at this
              have := List.pairwise_iff_getElem.1 this i j (by simp; omega) (by simp; omega) hij
              simp at this hc
              exact this hc
            · repeat' ((conv => whnf)
                       first
                       | with_reducible refine (Or.inl ?_ : VC _ _ _ _ _ ∨ _)
                       | ((with_reducible refine (⟨fun hc => ?_, fun hc => ?_⟩ : (_ = true → _) ∧ (_ = false → _))) <;> first | exact absurd hc (by decide) | (exfalso; simp only [*, reduceCtorEq] at hc; done) | skip)
                       | ((with_reducible refine And.intro ?_ ?_); focus (first | rfl | exact Nat.le_of_ble_eq_true rfl | omega | (simp only [List.length_cons, List.length_nil, List.length_map, List.length_append]; omega))))
              refine ⟨⟨i + 1, hij, step_lt hx fun _ => by simpa using hc⟩, dec_lt hij, ent_of ?_⟩
              repeat' first
                | fail
                | exact True.intro
                | exact rfl
                | exact id
                | exact leRs_refl _
                | ((conv => whnf); with_reducible refine And.intro ?_ ?_)
                | ((conv => whnf); exact True.intro)
              all_goals try (conv => whnf)
              exact wrapI (by omega) (by omega)
          · have hij : i = j := by simp at hc; omega
            subst hij
            repeat' ((conv => whnf)
                     first
                     | with_reducible refine (Or.inl ?_ : VC _ _ _ _ _ ∨ _)
                     | ((with_reducible refine (⟨fun hc => ?_, fun hc => ?_⟩ : (_ = true → _) ∧ (_ = false → _))) <;> first | exact absurd hc (by decide) | (exfalso; simp only [*, reduceCtorEq] at hc; done) | skip)
                     | ((with_reducible refine And.intro ?_ ?_); focus (first | rfl | exact Nat.le_of_ble_eq_true rfl | omega | (simp only [List.length_cons, List.length_nil, List.length_map, List.length_append]; omega))))
            refine ⟨⟨i + 1, hjl, step_lt hm fun _ => hpl, nodup_take hjl hd hx⟩, dec_lt hjl, ent_of ?_⟩
            repeat' first
              | fail
              | exact True.intro
              | exact rfl
              | exact id
              | exact leRs_refl _
              | ((conv => whnf); with_reducible refine And.intro ?_ ?_)
              | ((conv => whnf); exact True.intro)
            all_goals try (conv => whnf)
            exact wrapI (by omega) (by omega)
        · have hj : j = bk.length := by simp at hc; omega
          subst hj
          repeat' ((conv => whnf)
                   first
                   | with_reducible refine (Or.inl ?_ : VC _ _ _ _ _ ∨ _)
                   | ((with_reducible refine (⟨fun hc => ?_, fun hc => ?_⟩ : (_ = true → _) ∧ (_ = false → _))) <;> first | exact absurd hc (by decide) | (exfalso; simp only [*, reduceCtorEq] at hc; done) | skip)
                   | ((with_reducible refine And.intro ?_ ?_); focus (first | rfl | exact Nat.le_of_ble_eq_true rfl | omega | (simp only [List.length_cons, List.length_nil, List.length_map, List.length_append]; omega))))
          refine ⟨⟨k + 1, hlt, step_lt hn fun _ => hgood (all_of hm) (by simpa using hd)⟩, dec_lt hlt, ent_of ?_⟩
          repeat' first
            | fail
            | exact True.intro
            | exact rfl
            | exact id
            | exact leRs_refl _
            | ((conv => whnf); with_reducible refine And.intro ?_ ?_)
            | ((conv => whnf); exact True.intro)
          all_goals try (conv => whnf)
          exact wrapI (by omega) (by omega)
    · repeat' first
        | fail
        | exact True.intro
        | exact rfl
        | exact id
        | exact leRs_refl _
        | ((conv => whnf); with_reducible refine And.intro ?_ ?_)
        | ((conv => whnf); exact True.intro)
      all_goals try (conv => whnf)
      have : k = l.length := by simp at hc; omega
      subst this
      exact ((mayFrs_iff w l).2 ⟨h6.1, h6.2, hf1, fun j hj => hn j hj hj⟩).symm
end Go.Proofs.Ytibbgchpgfpccaa.Tb
