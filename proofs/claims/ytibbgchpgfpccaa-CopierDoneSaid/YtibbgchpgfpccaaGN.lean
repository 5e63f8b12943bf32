/-
  Contracts of functions of the program and of the document, each for every input that its premises name.
-/
import Derived.Test.YtibbgchpgfpccaaGM
import Derived.Test.YtibbgchpgfpccaaFF
import Derived.Test.YtibbgchpgfpccaaGH
set_option maxRecDepth 100000
set_option maxHeartbeats 4000000
set_option linter.unusedVariables false
set_option linter.unusedSimpArgs false
open Go Go.AX
namespace Go.Proofs.Ytibbgchpgfpccaa.Tb
theorem heavyL_false {l : Lg} (h : heavyL l = false) (hr : lgR l) : frsOk l.frags ∧ l.ok ∧ l.frags.length ≤ 50 := by
  simp only [heavyL, Bool.or_eq_false_iff, List.any_eq_false, decide_eq_true_eq, decide_eq_false_iff_not] at h
  refine ⟨fun f hf => ?_, fun f hf => ?_, by omega⟩
  · have := hr.2.2.2.2.2 f hf
    have := h.2 f hf
    exact ⟨by simp only [u64R] at *; omega, by simp only [u64R] at *; omega, by omega⟩
  · have := h.2 f hf
    omega
theorem fn_l18Steady : FnOk Try.prog 8 Try.f8 := ⟨Try.func8, by kernel_rfl, by kernel_rfl, by kernel_rfl⟩
theorem l18Steady_c (l : Lg) (from_ to : Pl) (now : Int) (r : Rs) (hl : lgR l) (hnow : u64R now) :
    PCx Try.prog 8 [.agg l.c, .agg from_.c, .agg to.c, uu now, .agg r.c] (bl true) := by
  refine PC.le ?_
  refine PC_of_VC tabOk (draw_ok mixed tabOk) fn_l18Steady rfl ?_
  have hhv := l18heavy_c l
  cases hh : heavyL l with
  | true =>
    rw [hh] at hhv
    repeat' ((conv => whnf)
             first
             | with_reducible refine (Or.inl ?_ : VC _ _ _ _ _ ∨ _)
             | ((with_reducible refine (⟨fun hc => ?_, fun hc => ?_⟩ : (_ = true → _) ∧ (_ = false → _))) <;> first | exact absurd hc (by decide) | (exfalso; simp only [*, reduceCtorEq] at hc; done) | skip)
             | (refine Or.inl ?_; (conv => whnf); refine ⟨_, hhv, ?_⟩)
             | (refine Or.inl ?_; (conv => whnf); refine ⟨_, l18awake_c, ?_⟩)
             | ((with_reducible refine And.intro ?_ ?_); focus (first | rfl | exact Nat.le_of_ble_eq_true rfl | omega | (simp only [List.length_cons, List.length_nil, List.length_map, List.length_append]; omega))))
    repeat' first
      | fail
      | exact True.intro
      | exact rfl
      | exact id
      | exact leRs_refl _
      | ((conv => whnf); with_reducible refine And.intro ?_ ?_)
      | ((conv => whnf); exact True.intro)
    all_goals try (conv => whnf)
  | false =>
    rw [hh] at hhv
    obtain ⟨hfr, hok, hl50⟩ := heavyL_false hh hl
    have hmayc := r07Ledger_c l ⟨hl.2.2.2.1.1, hl.2.2.2.1.2, hl.2.2.2.2.1.1⟩
    by_cases hbody : decide (((List.map byteRow r.body).length : Int) > 5000) = true
    · repeat' ((conv => whnf)
               first
               | with_reducible refine (Or.inl ?_ : VC _ _ _ _ _ ∨ _)
               | ((with_reducible refine (⟨fun hc => ?_, fun hc => ?_⟩ : (_ = true → _) ∧ (_ = false → _))) <;> first | exact absurd hc (by decide) | (exfalso; simp only [*, reduceCtorEq] at hc; done) | skip)
               | (refine Or.inl ?_; (conv => whnf); refine ⟨_, hhv, ?_⟩)
               | (refine Or.inl ?_; (conv => whnf); refine ⟨_, l18awake_c, ?_⟩)
               | ((with_reducible refine And.intro ?_ ?_); focus (first | rfl | exact Nat.le_of_ble_eq_true rfl | omega | (simp only [List.length_cons, List.length_nil, List.length_map, List.length_append]; omega))))
      all_goals
        repeat' first
          | fail
          | exact True.intro
          | exact rfl
          | exact id
          | exact leRs_refl _
          | ((conv => whnf); with_reducible refine And.intro ?_ ?_)
          | ((conv => whnf); exact True.intro)
        all_goals try (conv => whnf)
    have hbody : decide (((List.map byteRow r.body).length : Int) > 5000) = false := by simpa using hbody
    cases hm : mayLg l with
    | false =>
      rw [hm] at hmayc
      repeat' ((conv => whnf)
               first
               | with_reducible refine (Or.inl ?_ : VC _ _ _ _ _ ∨ _)
               | ((with_reducible refine (⟨fun hc => ?_, fun hc => ?_⟩ : (_ = true → _) ∧ (_ = false → _))) <;> first | exact absurd hc (by decide) | (exfalso; simp only [*, reduceCtorEq] at hc; done) | skip)
               | (refine Or.inl ?_; (conv => whnf); refine ⟨_, hhv, ?_⟩)
               | (refine Or.inl ?_; (conv => whnf); refine ⟨_, hmayc, ?_⟩)
               | (refine Or.inl ?_; (conv => whnf); refine ⟨_, l18awake_c, ?_⟩)
               | ((with_reducible refine And.intro ?_ ?_); focus (first | rfl | exact Nat.le_of_ble_eq_true rfl | omega | (simp only [List.length_cons, List.length_nil, List.length_map, List.length_append]; omega))))
      all_goals
        repeat' first
          | fail
          | exact True.intro
          | exact rfl
          | exact id
          | exact leRs_refl _
          | ((conv => whnf); with_reducible refine And.intro ?_ ?_)
          | ((conv => whnf); exact True.intro)
        all_goals try (conv => whnf)
    | true =>
      rw [hm] at hmayc
      have hset : ∀ n, (setOf l.frags l.w n).length ≤ 1000000 := fun n => Nat.le_trans (setOf_le5 hm n) (by decide)
      have hnew := cNew_c l from_ to now hok hfr (by omega) hset
      by_cases he : (newC l from_ to now).2.2 = 0
      · have hcase := newC_cases he
        have hph : (newC l from_ to now).1.phase = 1 ∨ (newC l from_ to now).1.phase = 3 := by
          rcases hcase with ⟨n, q, _, e⟩ | ⟨_, e⟩ <;> rw [e] <;> simp
        have hsm : Cp.sm (newC l from_ to now).1 ∧ Cp.big (newC l from_ to now).1 ∧ (newC l from_ to now).1.none = [] ∧ (newC l from_ to now).1.l = l ∧ (newC l from_ to now).1.from_ = from_ := by
          rcases hcase with ⟨n, q, hL, e⟩ | ⟨_, e⟩ <;> rw [e]
          · have := hadL_mem (l := l) (from_ := from_) (behind := 0) (n := n) (by rw [hL]; simp)
            exact ⟨⟨by simp, by simp, by simp only; omega, hok⟩, ⟨hfr, hok, by simp only; omega, hset⟩, rfl, rfl, rfl⟩
          · exact ⟨⟨by simp, by simp, by simp only; omega, hok⟩, ⟨hfr, hok, by simp, hset⟩, rfl, rfl, rfl⟩
        rw [he] at hnew
        clear hcase
        generalize (newC l from_ to now).1 = c at *
        generalize (newC l from_ to now).2.1 = q0 at *
        obtain ⟨hs1, hs2, hs3, hs4, hs5⟩ := hsm
        have hb5 : r.body.length ≤ 5000 := by simp at hbody; omega
        have htake := cTake_c c now r hs1 hs2 (by omega) (by rw [hs3]; simp)
        by_cases hu : unlike c r
        · rw [takeC_unlike hph hu] at htake
          have hsame : PCx Try.prog 37 [.agg c.c, .agg c.c] (bl true) := by
            have := cSame_c c c
            simpa using this
          unfold unlike at hu
          rw [hs4, hs5] at hu
          repeat' ((conv => whnf)
                   first
                   | with_reducible refine (Or.inl ?_ : VC _ _ _ _ _ ∨ _)
                   | ((with_reducible refine (⟨fun hc => ?_, fun hc => ?_⟩ : (_ = true → _) ∧ (_ = false → _))) <;> first | exact absurd hc (by decide) | (exfalso; simp only [*, reduceCtorEq] at hc; done) | skip)
                   | (refine Or.inl ?_; (conv => whnf); refine ⟨_, hhv, ?_⟩)
                   | (refine Or.inl ?_; (conv => whnf); refine ⟨_, hmayc, ?_⟩)
                   | (refine Or.inl ?_; (conv => whnf); refine ⟨_, hnew, ?_⟩)
                   | (refine Or.inl ?_; (conv => whnf); refine ⟨_, htake, ?_⟩)
                   | (refine Or.inl ?_; (conv => whnf); refine ⟨_, hsame, ?_⟩)
                   | (refine Or.inl ?_; (conv => whnf); refine ⟨_, l18awake_c, ?_⟩)
                   | ((with_reducible refine And.intro ?_ ?_); focus (first | rfl | exact Nat.le_of_ble_eq_true rfl | omega | (simp only [List.length_cons, List.length_nil, List.length_map, List.length_append]; omega))))
          all_goals first
            | (exfalso; simp only [Pl.beq] at *; simp only [bne_eq_false_iff_eq, beq_eq_false_iff_ne, ne_eq] at *; grind)
            | skip
          all_goals
            repeat' first
              | fail
              | exact True.intro
              | exact rfl
              | exact id
              | exact leRs_refl _
              | ((conv => whnf); with_reducible refine And.intro ?_ ?_)
              | ((conv => whnf); exact True.intro)
            all_goals try (conv => whnf)
        · simp only [unlike, hs4, hs5, not_or, Decidable.not_not, ne_eq] at hu
          obtain ⟨u1, u2, u3, u4, u5, u6⟩ := hu
          obtain ⟨hlike, hn⟩ := takeC_like (r := r) u6 now
          generalize (takeC c now r).1 = d at *
          generalize (takeC c now r).2 = q at *
          have b1 : (r.ledger != l.id) = false := by simp [u1]
          have b2 : (r.n != c.n) = false := by simp [u2]
          have b3 : (r.epoch != 0) = false := by simp [u3]
          have b4 : (r.kind != 3) = false := by simp [u4]
          have b5 : ((r.from_.node == from_.node) && (r.from_.serial == from_.serial)) = false := by rw [Pl.beq]; simpa using u5
          have b6 : (c.phase != 1) = false := by simp [u6]
          have b7 : (d.n == c.n) = true := by simp [hn]
          clear u1 u2 u3 u4 u5 u6 hn hph hs1 hs2 hs3 hs4 hs5
          rcases hlike with ⟨h1, h2⟩ | ⟨h1, h2, h3⟩
          · subst h2
            have c1 : (d.phase == 1) = true := by simp [h1]
            clear h1
            repeat' ((conv => whnf)
                     first
                     | with_reducible refine (Or.inl ?_ : VC _ _ _ _ _ ∨ _)
                     | ((with_reducible refine (⟨fun hc => ?_, fun hc => ?_⟩ : (_ = true → _) ∧ (_ = false → _))) <;> first | exact absurd hc (by decide) | (exfalso; simp only [*, reduceCtorEq] at hc; done) | skip)
                     | (refine Or.inl ?_; (conv => whnf); refine ⟨_, hhv, ?_⟩)
                     | (refine Or.inl ?_; (conv => whnf); refine ⟨_, hmayc, ?_⟩)
                     | (refine Or.inl ?_; (conv => whnf); refine ⟨_, hnew, ?_⟩)
                     | (refine Or.inl ?_; (conv => whnf); refine ⟨_, htake, ?_⟩)
                     | (refine Or.inl ?_; (conv => whnf); refine ⟨_, l18awake_c, ?_⟩)
                     | ((with_reducible refine And.intro ?_ ?_); focus (first | rfl | exact Nat.le_of_ble_eq_true rfl | omega | (simp only [List.length_cons, List.length_nil, List.length_map, List.length_append]; omega))))
            all_goals
              repeat' first
                | fail
                | exact True.intro
                | exact rfl
                | exact id
                | exact leRs_refl _
                | ((conv => whnf); with_reducible refine And.intro ?_ ?_)
                | ((conv => whnf); exact True.intro)
              all_goals try (conv => whnf)
          · obtain ⟨q1, rfl⟩ : ∃ q1, q = [q1] := List.length_eq_one_iff.1 h2
            have c1 : (d.phase == 1) = false := by simp [h1]
            have c2 : (d.phase == 2) = true := by simp [h1]
            have c3 : (r.code == 0) = true := by simp [h3]
            have c4 : (((List.map Rq.c [q1]).length : Int) == 1) = true := rfl
            clear h1 h2 h3
            repeat' ((conv => whnf)
                     first
                     | with_reducible refine (Or.inl ?_ : VC _ _ _ _ _ ∨ _)
                     | ((with_reducible refine (⟨fun hc => ?_, fun hc => ?_⟩ : (_ = true → _) ∧ (_ = false → _))) <;> first | exact absurd hc (by decide) | (exfalso; simp only [*, reduceCtorEq] at hc; done) | skip)
                     | (refine Or.inl ?_; (conv => whnf); refine ⟨_, hhv, ?_⟩)
                     | (refine Or.inl ?_; (conv => whnf); refine ⟨_, hmayc, ?_⟩)
                     | (refine Or.inl ?_; (conv => whnf); refine ⟨_, hnew, ?_⟩)
                     | (refine Or.inl ?_; (conv => whnf); refine ⟨_, htake, ?_⟩)
                     | (refine Or.inl ?_; (conv => whnf); refine ⟨_, l18awake_c, ?_⟩)
                     | ((with_reducible refine And.intro ?_ ?_); focus (first | rfl | exact Nat.le_of_ble_eq_true rfl | omega | (simp only [List.length_cons, List.length_nil, List.length_map, List.length_append]; omega))))
            all_goals
              repeat' first
                | fail
                | exact True.intro
                | exact rfl
                | exact id
                | exact leRs_refl _
                | ((conv => whnf); with_reducible refine And.intro ?_ ?_)
                | ((conv => whnf); exact True.intro)
              all_goals try (conv => whnf)
      · have he1 := newC_err he
        rw [he1] at hnew
        repeat' ((conv => whnf)
                 first
                 | with_reducible refine (Or.inl ?_ : VC _ _ _ _ _ ∨ _)
                 | ((with_reducible refine (⟨fun hc => ?_, fun hc => ?_⟩ : (_ = true → _) ∧ (_ = false → _))) <;> first | exact absurd hc (by decide) | (exfalso; simp only [*, reduceCtorEq] at hc; done) | skip)
                 | (refine Or.inl ?_; (conv => whnf); refine ⟨_, hhv, ?_⟩)
                 | (refine Or.inl ?_; (conv => whnf); refine ⟨_, hmayc, ?_⟩)
                 | (refine Or.inl ?_; (conv => whnf); refine ⟨_, hnew, ?_⟩)
                 | (refine Or.inl ?_; (conv => whnf); refine ⟨_, l18awake_c, ?_⟩)
                 | ((with_reducible refine And.intro ?_ ?_); focus (first | rfl | exact Nat.le_of_ble_eq_true rfl | omega | (simp only [List.length_cons, List.length_nil, List.length_map, List.length_append]; omega))))
        all_goals
          repeat' first
            | fail
            | exact True.intro
            | exact rfl
            | exact id
            | exact leRs_refl _
            | ((conv => whnf); with_reducible refine And.intro ?_ ?_)
            | ((conv => whnf); exact True.intro)
          all_goals try (conv => whnf)
end Go.Proofs.Ytibbgchpgfpccaa.Tb
