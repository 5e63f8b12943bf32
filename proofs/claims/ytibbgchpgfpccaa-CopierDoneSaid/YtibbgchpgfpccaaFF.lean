/-
  Contracts of functions of the program and of the document, each for every input that its premises name.
-/
import Derived.Test.YtibbgchpgfpccaaFE
import Derived.Test.YtibbgchpgfpccaaAd
set_option maxRecDepth 100000
set_option maxHeartbeats 4000000
set_option linter.unusedVariables false
set_option linter.unusedSimpArgs false
open Go Go.AX
namespace Go.Proofs.Ytibbgchpgfpccaa.Tb
theorem fn_r07Ledger : FnOk Try.prog 28 Try.f28 := ⟨Try.func28, by kernel_rfl, by kernel_rfl, by kernel_rfl⟩
theorem r07Ledger_c (l : Lg) (hr : -9223372036854775808 ≤ l.closed ∧ l.closed ≤ 9223372036854775807 ∧ 0 ≤ l.last) : PCx Try.prog 28 [.agg l.c] (bl (mayLg l)) := by
  refine PC.le ?_
  obtain ⟨X, hX⟩ : ∃ X, X = mayLg l := ⟨_, rfl⟩
  rw [← hX]
  refine PC_of_VC tabOk (draw_ok mixed tabOk) fn_r07Ledger rfl ?_
  repeat' ((conv => whnf)
           first
           | with_reducible refine (Or.inl ?_ : VC _ _ _ _ _ ∨ _)
           | ((with_reducible refine (⟨fun hc => ?_, fun hc => ?_⟩ : (_ = true → _) ∧ (_ = false → _))) <;> first | exact absurd hc (by decide) | (exfalso; simp only [*, reduceCtorEq] at hc; done) | skip)
           | (refine Or.inl ?_; (conv => whnf); refine ⟨_, r07Frags_c _ _, ?_⟩)
           | ((with_reducible refine And.intro ?_ ?_); focus (first | rfl | exact Nat.le_of_ble_eq_true rfl | omega | (simp only [List.length_cons, List.length_nil, List.length_map, List.length_append]; omega))))
  all_goals
    repeat' first
      | fail
      | exact True.intro
      | exact rfl
      | exact id
      | exact leRs_refl _
      | ((conv => whnf); with_reducible refine And.intro ?_ ?_)
      | ((conv => whnf); exact True.intro)
    all_goals try (conv => whnf)
    subst hX
    simp only [mayLg, fromZ]
    grind
theorem fn_r17Copy : FnOk Try.prog 22 Try.f22 := ⟨Try.func22, by kernel_rfl, by kernel_rfl, by kernel_rfl⟩
theorem r17Copy_c (f : Ft) (h : Ft.sm f) : PCx Try.prog 22 [.agg f.c] (.agg f.c) := by
  refine PC.le ?_
  have h1 := h.1
  have h2 := h.2
  refine PC_of_VC tabOk (draw_ok mixed tabOk) fn_r17Copy rfl ?_
  repeat' ((conv => whnf)
           first
           | with_reducible refine (Or.inl ?_ : VC _ _ _ _ _ ∨ _)
           | ((with_reducible refine (⟨fun hc => ?_, fun hc => ?_⟩ : (_ = true → _) ∧ (_ = false → _))) <;> first | exact absurd hc (by decide) | (exfalso; simp only [*, reduceCtorEq] at hc; done) | skip)
           | ((with_reducible refine And.intro ?_ ?_); focus (first | rfl | exact Nat.le_of_ble_eq_true rfl | omega | (simp only [List.length_cons, List.length_nil, List.length_map, List.length_append]; omega))))
  repeat' first
    | fail
    | exact True.intro
    | exact rfl
    | exact id
    | exact leRs_refl _
    | ((conv => whnf); with_reducible refine And.intro ?_ ?_)
    | ((conv => whnf); exact True.intro)
  all_goals try (conv => whnf)
theorem fn_r17ask : FnOk Try.prog 56 Try.f56 := ⟨Try.func56, by kernel_rfl, by kernel_rfl, by kernel_rfl⟩
theorem r17ask_c (f : Ft) (a now : Int) (h0 : f.set ≠ []) (ha : 0 ≤ a ∧ a ≤ f.set.length) : PCx Try.prog 56 [.agg f.c, ii a, uu now] (.tup [.agg (askP f a now).1.c, slR (askP f a now).2]) := by
  refine PC.le ?_
  have hpos : 0 < f.set.length := List.length_pos_iff.2 h0
  obtain ⟨k, hk, e1, e2⟩ : ∃ k : Nat, k < f.set.length ∧ (if a ≥ f.set.length then 0 else a) = (k : Int) ∧ (max a 0).tmod f.set.length = (k : Int) := by
    by_cases h : a ≥ f.set.length
    · refine ⟨0, hpos, by rw [if_pos h]; rfl, ?_⟩
      have : max a 0 = f.set.length := by omega
      rw [this, Int.tmod_self]; rfl
    · refine ⟨a.toNat, by omega, by rw [if_neg h]; omega, ?_⟩
      have : max a 0 = a := by omega
      rw [this, Int.tmod_eq_of_lt (by omega) (by omega)]
      omega
  have e : askP f a now = ({ f with at_ := k, since := now }, [reqOf { f with at_ := k, since := now }]) := by
    simp only [askP, h0, if_false, askF, e2]
  have e3 : reqOf { f with at_ := k, since := now } = { to := f.set[k], kind := 3, ledger := f.ledger, n := f.n, epoch := f.tag, sure := 0, copy := 0, body := [], keep := [] } := by
    simp only [reqOf, Int.toNat_natCast, getElem!_pos f.set k hk]
  rw [e, e3]
  refine PC_of_VC tabOk (draw_ok mixed tabOk) fn_r17ask rfl ?_
  repeat' ((conv => whnf)
           first
           | with_reducible refine (Or.inl ?_ : VC _ _ _ _ _ ∨ _)
           | ((with_reducible refine (⟨fun hc => ?_, fun hc => ?_⟩ : (_ = true → _) ∧ (_ = false → _))) <;> first | exact absurd hc (by decide) | (exfalso; simp only [*, reduceCtorEq] at hc; done) | skip)
           | ((with_reducible refine And.intro ?_ ?_); focus (first | rfl | exact Nat.le_of_ble_eq_true rfl | omega | (simp only [List.length_cons, List.length_nil, List.length_map, List.length_append]; omega))))
  · rw [List.length_map, decide_eq_true_eq] at hc
    rw [if_pos hc] at e1
    refine ⟨_, rowE _ _ (k := k) e1 hk, ?_⟩
    repeat' ((conv => whnf)
             first
             | with_reducible refine (Or.inl ?_ : VC _ _ _ _ _ ∨ _)
             | ((with_reducible refine (⟨fun hc => ?_, fun hc => ?_⟩ : (_ = true → _) ∧ (_ = false → _))) <;> first | exact absurd hc (by decide) | (exfalso; simp only [*, reduceCtorEq] at hc; done) | skip)
             | ((with_reducible refine And.intro ?_ ?_); focus (first | rfl | exact Nat.le_of_ble_eq_true rfl | omega | (simp only [List.length_cons, List.length_nil, List.length_map, List.length_append]; omega))))
    repeat' first
      | fail
      | exact True.intro
      | exact rfl
      | exact id
      | exact leRs_refl _
      | ((conv => whnf); with_reducible refine And.intro ?_ ?_)
      | ((conv => whnf); exact True.intro)
    all_goals try (conv => whnf)
    exact e1
  · rw [List.length_map, decide_eq_false_iff_not] at hc
    rw [if_neg hc] at e1
    refine ⟨_, rowE _ _ (k := k) e1 hk, ?_⟩
    repeat' ((conv => whnf)
             first
             | with_reducible refine (Or.inl ?_ : VC _ _ _ _ _ ∨ _)
             | ((with_reducible refine (⟨fun hc => ?_, fun hc => ?_⟩ : (_ = true → _) ∧ (_ = false → _))) <;> first | exact absurd hc (by decide) | (exfalso; simp only [*, reduceCtorEq] at hc; done) | skip)
             | ((with_reducible refine And.intro ?_ ?_); focus (first | rfl | exact Nat.le_of_ble_eq_true rfl | omega | (simp only [List.length_cons, List.length_nil, List.length_map, List.length_append]; omega))))
    repeat' first
      | fail
      | exact True.intro
      | exact rfl
      | exact id
      | exact leRs_refl _
      | ((conv => whnf); with_reducible refine And.intro ?_ ?_)
      | ((conv => whnf); exact True.intro)
    all_goals try (conv => whnf)
    exact e1
theorem fn_longFrags : FnOk Try.prog 38 Try.f38 := ⟨Try.func38, by kernel_rfl, by kernel_rfl, by kernel_rfl⟩

theorem longFrags_c (l : List Fr) : PCx Try.prog 38 [slF l] (bl (longF l)) := by
  refine PC.le (PC_bd fn_longFrags fun hb => ?_)
  have hb : l.length ≤ 9223372036854775807 := by simpa [bdL, bdP, slF] using hb
  refine PC_of_VC tabOk (draw_ok mixed tabOk) fn_longFrags rfl ?_
  repeat' ((conv => whnf)
           first
           | with_reducible refine (Or.inl ?_ : VC _ _ _ _ _ ∨ _)
           | ((with_reducible refine (⟨fun hc => ?_, fun hc => ?_⟩ : (_ = true → _) ∧ (_ = false → _))) <;> first | exact absurd hc (by decide) | (exfalso; simp only [*, reduceCtorEq] at hc; done) | skip)
           | ((with_reducible refine And.intro ?_ ?_); focus (first | rfl | exact Nat.le_of_ble_eq_true rfl | omega | (simp only [List.length_cons, List.length_nil, List.length_map, List.length_append]; omega))))
  · repeat' first
      | fail
      | exact True.intro
      | exact rfl
      | exact id
      | exact leRs_refl _
      | ((conv => whnf); with_reducible refine And.intro ?_ ?_)
      | ((conv => whnf); exact True.intro)
    all_goals try (conv => whnf)
    simp [longF] at *; omega
  refine ⟨{k : Nat // k ≤ l.length ∧ ∀ j (hj : j < l.length), j < k → decide ((l[j].bookies.length : Int) > 30) = false}, fun ⟨k, _⟩ => ⟨[(0, .pv (slF l)), (3, .pv (ii k))], 1000000000, []⟩, fun ⟨k, _⟩ => l.length - k, ⟨⟨0, by simp⟩, ent_of ?_⟩, ?_⟩
  · repeat' first
      | fail
      | exact True.intro
      | exact rfl
      | exact id
      | exact leRs_refl _
      | ((conv => whnf); with_reducible refine And.intro ?_ ?_)
      | ((conv => whnf); exact True.intro)
    all_goals try (conv => whnf)
  rintro ⟨k, hk, hn⟩
  repeat' ((conv => whnf)
           first
           | with_reducible refine (Or.inl ?_ : VC _ _ _ _ _ ∨ _)
           | ((with_reducible refine (⟨fun hc => ?_, fun hc => ?_⟩ : (_ = true → _) ∧ (_ = false → _))) <;> first | exact absurd hc (by decide) | (exfalso; simp only [*, reduceCtorEq] at hc; done) | skip)
           | ((with_reducible refine And.intro ?_ ?_); focus (first | rfl | exact Nat.le_of_ble_eq_true rfl | omega | (simp only [List.length_cons, List.length_nil, List.length_map, List.length_append]; omega))))
  · have hlt : k < l.length := by simpa using hc
    refine ⟨_, rowK _ _ _ hlt, ?_⟩
    repeat' ((conv => whnf)
             first
             | with_reducible refine (Or.inl ?_ : VC _ _ _ _ _ ∨ _)
             | ((with_reducible refine (⟨fun hc => ?_, fun hc => ?_⟩ : (_ = true → _) ∧ (_ = false → _))) <;> first | exact absurd hc (by decide) | (exfalso; simp only [*, reduceCtorEq] at hc; done) | skip)
             | ((with_reducible refine And.intro ?_ ?_); focus (first | rfl | exact Nat.le_of_ble_eq_true rfl | omega | (simp only [List.length_cons, List.length_nil, List.length_map, List.length_append]; omega))))
    · repeat' first
        | fail
        | exact True.intro
        | exact rfl
        | exact id
        | exact leRs_refl _
        | ((conv => whnf); with_reducible refine And.intro ?_ ?_)
        | ((conv => whnf); exact True.intro)
      all_goals try (conv => whnf)
      rw [List.length_map] at hc
      have := List.any_eq_true.2 (⟨l[k], List.getElem_mem hlt, hc⟩ : ∃ x ∈ l, (fun f : Fr => decide ((f.bookies.length : Int) > 30)) x = true)
      simp only [longF, this, Bool.or_true]
    · repeat' ((conv => whnf)
               first
               | with_reducible refine (Or.inl ?_ : VC _ _ _ _ _ ∨ _)
               | ((with_reducible refine (⟨fun hc => ?_, fun hc => ?_⟩ : (_ = true → _) ∧ (_ = false → _))) <;> first | exact absurd hc (by decide) | (exfalso; simp only [*, reduceCtorEq] at hc; done) | skip)
               | ((with_reducible refine And.intro ?_ ?_); focus (first | rfl | exact Nat.le_of_ble_eq_true rfl | omega | (simp only [List.length_cons, List.length_nil, List.length_map, List.length_append]; omega))))
      refine ⟨⟨k + 1, hlt, step_lt hn fun _ => by rw [List.length_map] at hc; exact hc⟩, dec_lt hlt, ent_of ?_⟩
      repeat' first
        | fail
        | exact True.intro
        | exact rfl
        | exact id
        | exact leRs_refl _
        | ((conv => whnf); with_reducible refine And.intro ?_ ?_)
        | ((conv => whnf); exact True.intro)
      all_goals try (conv => whnf)
      exact wrapI (by omega) (by omega)
  · have hk : k = l.length := by simp at hc; omega
    subst hk
    repeat' first
      | fail
      | exact True.intro
      | exact rfl
      | exact id
      | exact leRs_refl _
      | ((conv => whnf); with_reducible refine And.intro ?_ ?_)
      | ((conv => whnf); exact True.intro)
    all_goals try (conv => whnf)
    have h1 : (l.any fun f => decide ((f.bookies.length : Int) > 30)) = false := by
      rw [List.any_eq_false]
      intro x hx
      have := all_of (q := fun f : Fr => decide ((f.bookies.length : Int) > 30) = false) hn x hx
      simpa using this
    simp only [longF, h1, Bool.or_false]
    simp at *
    omega
theorem fn_r17New : FnOk Try.prog 20 Try.f20 := ⟨Try.func20, by kernel_rfl, by kernel_rfl, by kernel_rfl⟩
theorem r17New_c (l : Lg) (n tag now : Int) (hr : -9223372036854775808 ≤ l.closed ∧ l.closed ≤ 9223372036854775807 ∧ 0 ≤ l.last) (hf : frsOk l.frags) (hn : 0 ≤ n ∧ n ≤ 18446744073709551615) :
    PCx Try.prog 20 [.agg l.c, uu n, uu tag, uu now] (.tup [.agg (newP l n tag now).1.c, slR (newP l n tag now).2.1, ii (newP l n tag now).2.2]) := by
  refine PC.le ?_
  refine PC_of_VC tabOk (draw_ok mixed tabOk) fn_r17New rfl ?_
  unfold newP
  split
  · rename_i hm
    have hs : setOf l.frags l.w n ≠ [] := by
      simp only [Bool.and_eq_true, decide_eq_true_eq] at hm
      have := setOf_len hm.1.1.1 hm.1.1.2
      intro h
      rw [h] at this
      simp at this
      omega
    repeat' ((conv => whnf)
             first
             | with_reducible refine (Or.inl ?_ : VC _ _ _ _ _ ∨ _)
             | ((with_reducible refine (⟨fun hc => ?_, fun hc => ?_⟩ : (_ = true → _) ∧ (_ = false → _))) <;> first | exact absurd hc (by decide) | (exfalso; simp only [*, reduceCtorEq] at hc; done) | skip)
             | (refine Or.inl ?_; (conv => whnf); refine ⟨_, r07Ledger_c _ hr, ?_⟩)
             | (refine Or.inl ?_; (conv => whnf); refine ⟨_, r14Set_c _ _ _ hf hn, ?_⟩)
             | (refine Or.inl ?_; (conv => whnf); refine ⟨_, PCx_pre (r17ask_c { ft0 with ledger := l.id, n := n, tag := tag, set := setOf l.frags l.w n } 0 now hs ⟨by omega, by omega⟩) ?_, ?_⟩; focus ((repeat' first | exact True.intro | exact rfl | exact id | assumption | exact leRs_refl _ | ((conv => whnf); with_reducible refine And.intro ?_ ?_) | ((conv => whnf); exact True.intro)); done))
             | ((with_reducible refine And.intro ?_ ?_); focus (first | rfl | exact Nat.le_of_ble_eq_true rfl | omega | (simp only [List.length_cons, List.length_nil, List.length_map, List.length_append]; omega))))
    all_goals try (exfalso; grind)

    all_goals
      repeat' first
        | fail
        | exact True.intro
        | exact rfl
        | exact id
        | exact leRs_refl _
        | ((conv => whnf); with_reducible refine And.intro ?_ ?_)
        | ((conv => whnf); exact True.intro)
      all_goals try (conv => whnf)
  · rename_i hm
    repeat' ((conv => whnf)
             first
             | with_reducible refine (Or.inl ?_ : VC _ _ _ _ _ ∨ _)
             | ((with_reducible refine (⟨fun hc => ?_, fun hc => ?_⟩ : (_ = true → _) ∧ (_ = false → _))) <;> first | exact absurd hc (by decide) | (exfalso; simp only [*, reduceCtorEq] at hc; done) | skip)
             | (refine Or.inl ?_; (conv => whnf); refine ⟨_, r07Ledger_c _ hr, ?_⟩)
             | (refine Or.inl ?_; (conv => whnf); refine ⟨_, r14Set_c _ _ _ hf hn, ?_⟩)
             | ((with_reducible refine And.intro ?_ ?_); focus (first | rfl | exact Nat.le_of_ble_eq_true rfl | omega | (simp only [List.length_cons, List.length_nil, List.length_map, List.length_append]; omega))))
    all_goals try (exfalso; grind)

    all_goals
      repeat' first
        | fail
        | exact True.intro
        | exact rfl
        | exact id
        | exact leRs_refl _
        | ((conv => whnf); with_reducible refine And.intro ?_ ?_)
        | ((conv => whnf); exact True.intro)
      all_goals try (conv => whnf)
end Go.Proofs.Ytibbgchpgfpccaa.Tb
