/-
  Contracts of functions of the program and of the document, each for every input that its premises name.
-/
import Derived.Test.YtibbgchpgfpccaaFE
import Derived.Test.YtibbgchpgfpccaaAd
set_option maxRecDepth 100000
set_option maxHeartbeats 4000000
set_option linter.unusedVariables false
set_option linter.unusedSimpArgs false
open Go Go.AX
namespace Go.Proofs.Ytibbgchpgfpccaa.Tb
theorem rTick_g (f : Ft) (now : Int) (h : Ft.sm f) (ha : -9223372036854775808 ≤ f.at_ ∧ f.at_ < 9223372036854775807) (hn : 0 ≤ now ∧ now ≤ 18446744073709551615) (hs : 0 ≤ f.since ∧ f.since ≤ 18446744073709551615) :
    GCx Try.prog 13 [.pv (.agg f.c), .pv (uu now)] [] (.tup [.pv (.agg (tickP f now).1.c), .slw 1001 0]) [(1001, .arr 49 0 10 ((tickP f now).2.map Rq.c))] := by
  have hw : IntKind.i64.wrap (f.at_ + 1) = f.at_ + 1 := wrapI (by omega) (by omega)
  have hu : IntKind.u64.wrap ((if f.since > now then f.since else now) - f.since) = (if f.since > now then f.since else now) - f.since := wrapU (by split <;> omega) (by split <;> omega)
  obtain ⟨X, hX⟩ : ∃ X, X = tickP f now := ⟨_, rfl⟩
  rw [← hX]
  refine GC_of_VC tabOk (draw_ok mixed tabOk) fn_rTick rfl ?_
  rcases askP_cases f (f.at_ + 1) now with ⟨hs, he⟩ | ⟨hs, he⟩
  · repeat' ((conv => whnf)
             first
             | with_reducible refine (Or.inl ?_ : VC _ _ _ _ _ ∨ _)
             | ((with_reducible refine (⟨fun hc => ?_, fun hc => ?_⟩ : (_ = true → _) ∧ (_ = false → _))) <;> first | exact absurd hc (by decide) | (exfalso; simp only [*, reduceCtorEq] at hc; done) | skip)
             | (refine Or.inr ?_; (conv => whnf); refine ⟨_, _, rown_g f h, ?_⟩)
             | (refine Or.inr ?_; (conv => whnf); refine ⟨_, _, GCx_pre (ask0_g f (f.at_ + 1) now hs.out) ?_, ?_⟩; focus ((repeat' first | exact True.intro | exact rfl | exact id | assumption | exact leRs_refl _ | ((conv => whnf); with_reducible refine And.intro ?_ ?_) | ((conv => whnf); exact True.intro)); done))
             | ((with_reducible refine And.intro ?_ ?_); focus (first | rfl | exact Nat.le_of_ble_eq_true rfl | omega | (simp only [List.length_cons, List.length_nil, List.length_map, List.length_append]; omega))))
    all_goals try rw [hu] at hc
    all_goals
      simp only [tickP, *, Bool.true_or, Bool.or_true, Bool.false_or, Bool.or_false, Bool.true_and, Bool.and_true, Bool.false_and, Bool.and_false, Bool.not_true, Bool.not_false, Bool.false_eq_true, ↓reduceIte] at hX
      subst hX
      refine ⟨_, _, ⟨rfl, rfl⟩, ?_⟩
      repeat' first
        | exact True.intro
        | exact rfl
        | exact id
        | exact leRs_refl _
        | ((conv => whnf); with_reducible refine And.intro ?_ ?_)
        | ((conv => whnf); exact True.intro)
  · repeat' ((conv => whnf)
             first
             | with_reducible refine (Or.inl ?_ : VC _ _ _ _ _ ∨ _)
             | ((with_reducible refine (⟨fun hc => ?_, fun hc => ?_⟩ : (_ = true → _) ∧ (_ = false → _))) <;> first | exact absurd hc (by decide) | (exfalso; simp only [*, reduceCtorEq] at hc; done) | skip)
             | (refine Or.inr ?_; (conv => whnf); refine ⟨_, _, rown_g f h, ?_⟩)
             | (refine Or.inr ?_; (conv => whnf); refine ⟨_, _, GCx_pre (ask1_g f (f.at_ + 1) now hs.out) ?_, ?_⟩; focus ((repeat' first | exact True.intro | exact rfl | exact id | assumption | exact leRs_refl _ | ((conv => whnf); with_reducible refine And.intro ?_ ?_) | ((conv => whnf); exact True.intro)); done))
             | ((with_reducible refine And.intro ?_ ?_); focus (first | rfl | exact Nat.le_of_ble_eq_true rfl | omega | (simp only [List.length_cons, List.length_nil, List.length_map, List.length_append]; omega))))
    all_goals try rw [hu] at hc
    all_goals
      simp only [tickP, *, Bool.true_or, Bool.or_true, Bool.false_or, Bool.or_false, Bool.true_and, Bool.and_true, Bool.false_and, Bool.and_false, Bool.not_true, Bool.not_false, Bool.false_eq_true, ↓reduceIte] at hX
      subst hX
      refine ⟨_, _, ⟨rfl, rfl⟩, ?_⟩
      repeat' first
        | exact True.intro
        | exact rfl
        | exact id
        | exact leRs_refl _
        | ((conv => whnf); with_reducible refine And.intro ?_ ?_)
        | ((conv => whnf); exact True.intro)
theorem rTake_g (f : Ft) (now : Int) (r : Rs) (h : Ft.sm f) (hr : r.body.length ≤ 140737488355328) (ha : -9223372036854775808 ≤ f.at_ ∧ f.at_ < 9223372036854775807) :
    GCx Try.prog 16 [.pv (.agg f.c), .pv (uu now), .pv (.agg r.c)] [] (.tup [.pv (.agg (takeP f now r).1.c), .slw 1001 0]) [(1001, .arr 49 0 10 ((takeP f now r).2.map Rq.c))] := by
  have hw : IntKind.i64.wrap (f.at_ + 1) = f.at_ + 1 := wrapI (by omega) (by omega)
  obtain ⟨X, hX⟩ : ∃ X, X = takeP f now r := ⟨_, rfl⟩
  rw [← hX]
  refine GC_of_VC tabOk (draw_ok mixed tabOk) fn_rTake rfl ?_
  rcases askP_cases f (f.at_ + 1) now with ⟨hs, he⟩ | ⟨hs, he⟩
  · repeat' ((conv => whnf)
             first
             | with_reducible refine (Or.inl ?_ : VC _ _ _ _ _ ∨ _)
             | ((with_reducible refine (⟨fun hc => ?_, fun hc => ?_⟩ : (_ = true → _) ∧ (_ = false → _))) <;> first | exact absurd hc (by decide) | (exfalso; simp only [*, reduceCtorEq] at hc; done) | skip)
             | (refine Or.inr ?_; (conv => whnf); refine ⟨_, _, rown_g f h, ?_⟩)
             | (refine Or.inl ?_; (conv => whnf); refine ⟨_, asked_c' f _, ?_⟩)
             | (refine Or.inl ?_; (conv => whnf); refine ⟨_, containsPlace_c _ _ _, ?_⟩)
             | (refine Or.inl ?_; (conv => whnf); refine ⟨_, cloneByte_c _ (by omega), ?_⟩)
             | (refine Or.inr ?_; (conv => whnf); refine ⟨_, _, GCx_pre (ask0_g f (f.at_ + 1) now hs.out) ?_, ?_⟩; focus ((repeat' first | exact True.intro | exact rfl | exact id | assumption | exact leRs_refl _ | ((conv => whnf); with_reducible refine And.intro ?_ ?_) | ((conv => whnf); exact True.intro)); done))
             | ((with_reducible refine And.intro ?_ ?_); focus (first | rfl | exact Nat.le_of_ble_eq_true rfl | omega | (simp only [List.length_cons, List.length_nil, List.length_map, List.length_append]; omega))))
    all_goals
      simp only [takeP, *, Bool.true_or, Bool.or_true, Bool.false_or, Bool.or_false, Bool.true_and, Bool.and_true, Bool.false_and, Bool.and_false, Bool.not_true, Bool.not_false, Bool.false_eq_true, ↓reduceIte] at hX
      subst hX
      refine ⟨_, _, ⟨rfl, rfl⟩, ?_⟩
      repeat' first
        | exact True.intro
        | exact rfl
        | exact id
        | exact leRs_refl _
        | ((conv => whnf); with_reducible refine And.intro ?_ ?_)
        | ((conv => whnf); exact True.intro)
  · repeat' ((conv => whnf)
             first
             | with_reducible refine (Or.inl ?_ : VC _ _ _ _ _ ∨ _)
             | ((with_reducible refine (⟨fun hc => ?_, fun hc => ?_⟩ : (_ = true → _) ∧ (_ = false → _))) <;> first | exact absurd hc (by decide) | (exfalso; simp only [*, reduceCtorEq] at hc; done) | skip)
             | (refine Or.inr ?_; (conv => whnf); refine ⟨_, _, rown_g f h, ?_⟩)
             | (refine Or.inl ?_; (conv => whnf); refine ⟨_, asked_c' f _, ?_⟩)
             | (refine Or.inl ?_; (conv => whnf); refine ⟨_, containsPlace_c _ _ _, ?_⟩)
             | (refine Or.inl ?_; (conv => whnf); refine ⟨_, cloneByte_c _ (by omega), ?_⟩)
             | (refine Or.inr ?_; (conv => whnf); refine ⟨_, _, GCx_pre (ask1_g f (f.at_ + 1) now hs.out) ?_, ?_⟩; focus ((repeat' first | exact True.intro | exact rfl | exact id | assumption | exact leRs_refl _ | ((conv => whnf); with_reducible refine And.intro ?_ ?_) | ((conv => whnf); exact True.intro)); done))
             | ((with_reducible refine And.intro ?_ ?_); focus (first | rfl | exact Nat.le_of_ble_eq_true rfl | omega | (simp only [List.length_cons, List.length_nil, List.length_map, List.length_append]; omega))))
    all_goals
      simp only [takeP, *, Bool.true_or, Bool.or_true, Bool.false_or, Bool.or_false, Bool.true_and, Bool.and_true, Bool.false_and, Bool.and_false, Bool.not_true, Bool.not_false, Bool.false_eq_true, ↓reduceIte] at hX
      subst hX
      refine ⟨_, _, ⟨rfl, rfl⟩, ?_⟩
      repeat' first
        | exact True.intro
        | exact rfl
        | exact id
        | exact leRs_refl _
        | ((conv => whnf); with_reducible refine And.intro ?_ ?_)
        | ((conv => whnf); exact True.intro)
theorem rNew_g (l : Lg) (n tag now : Int) (h : l.ok) (hf : frsOk l.frags) (hn : 0 ≤ n ∧ n ≤ 18446744073709551615) (hne : (newP l n tag now).2.2 = 0) :
    GCx Try.prog 12 [.pv (.agg l.c), .pv (uu n), .pv (uu tag), .pv (uu now)] [] (.tup [.pv (.agg (newP l n tag now).1.c), .slw 1001 0, .pv (ii 0)]) [(1001, .arr 49 0 10 ((newP l n tag now).2.1.map Rq.c))] := by
  refine GC_of_VC tabOk (draw_ok mixed tabOk) fn_rNew rfl ?_
  unfold newP at hne ⊢
  split
  · rename_i hm
    have hm : mayLg l = true ∧ 1 ≤ n ∧ n ≤ 8 ∧ ¬ (l.closed = 1 ∧ n > l.last) := by
      simp only [Bool.and_eq_true, Bool.not_eq_true', Bool.and_eq_false_iff, decide_eq_true_eq, beq_eq_false_iff_ne, decide_eq_false_iff_not] at hm
      refine ⟨hm.1.1.1, hm.1.1.2, hm.1.2, fun h => hm.2.elim (fun x => x h.1) fun x => x h.2⟩
    obtain ⟨m1, m2, m3, m4⟩ := hm
    unfold askP
    by_cases hs : setOf l.frags l.w n = []
    · rw [if_pos hs]
      repeat' ((conv => whnf)
               first
               | with_reducible refine (Or.inl ?_ : VC _ _ _ _ _ ∨ _)
               | ((with_reducible refine (⟨fun hc => ?_, fun hc => ?_⟩ : (_ = true → _) ∧ (_ = false → _))) <;> first | exact absurd hc (by decide) | (exfalso; simp only [*, reduceCtorEq] at hc; done) | skip)
               | (refine Or.inl ?_; (conv => whnf); refine ⟨_, mayLedger_c _ h, ?_⟩)
               | (refine Or.inl ?_; (conv => whnf); refine ⟨_, sSet_c _ _ _ hf hn, ?_⟩)
               | (refine Or.inr ?_; (conv => whnf); refine ⟨_, _, GCx_pre (ask0_g { ft0 with ledger := l.id, n := n, tag := tag, set := setOf l.frags l.w n } 0 now hs) ?_, ?_⟩; focus ((repeat' first | exact True.intro | exact rfl | exact id | assumption | exact leRs_refl _ | ((conv => whnf); with_reducible refine And.intro ?_ ?_) | ((conv => whnf); exact True.intro)); done))
               | ((with_reducible refine And.intro ?_ ?_); focus (first | rfl | exact Nat.le_of_ble_eq_true rfl | omega | (simp only [List.length_cons, List.length_nil, List.length_map, List.length_append]; omega))))
      all_goals try (exfalso; grind)
      all_goals
        refine ⟨_, _, ⟨rfl, rfl⟩, ?_⟩
        repeat' first
          | fail
          | exact True.intro
          | exact rfl
          | exact id
          | exact leRs_refl _
          | ((conv => whnf); with_reducible refine And.intro ?_ ?_)
          | ((conv => whnf); exact True.intro)
        all_goals try (conv => whnf)
    · rw [if_neg hs]
      repeat' ((conv => whnf)
               first
               | with_reducible refine (Or.inl ?_ : VC _ _ _ _ _ ∨ _)
               | ((with_reducible refine (⟨fun hc => ?_, fun hc => ?_⟩ : (_ = true → _) ∧ (_ = false → _))) <;> first | exact absurd hc (by decide) | (exfalso; simp only [*, reduceCtorEq] at hc; done) | skip)
               | (refine Or.inl ?_; (conv => whnf); refine ⟨_, mayLedger_c _ h, ?_⟩)
               | (refine Or.inl ?_; (conv => whnf); refine ⟨_, sSet_c _ _ _ hf hn, ?_⟩)
               | (refine Or.inr ?_; (conv => whnf); refine ⟨_, _, GCx_pre (ask1_g { ft0 with ledger := l.id, n := n, tag := tag, set := setOf l.frags l.w n } 0 now hs) ?_, ?_⟩; focus ((repeat' first | exact True.intro | exact rfl | exact id | assumption | exact leRs_refl _ | ((conv => whnf); with_reducible refine And.intro ?_ ?_) | ((conv => whnf); exact True.intro)); done))
               | ((with_reducible refine And.intro ?_ ?_); focus (first | rfl | exact Nat.le_of_ble_eq_true rfl | omega | (simp only [List.length_cons, List.length_nil, List.length_map, List.length_append]; omega))))
      all_goals try (exfalso; grind)
      all_goals
        refine ⟨_, _, ⟨rfl, rfl⟩, ?_⟩
        repeat' first
          | fail
          | exact True.intro
          | exact rfl
          | exact id
          | exact leRs_refl _
          | ((conv => whnf); with_reducible refine And.intro ?_ ?_)
          | ((conv => whnf); exact True.intro)
        all_goals try (conv => whnf)
  · rename_i hm
    rw [if_neg hm] at hne
    simp at hne
end Go.Proofs.Ytibbgchpgfpccaa.Tb
