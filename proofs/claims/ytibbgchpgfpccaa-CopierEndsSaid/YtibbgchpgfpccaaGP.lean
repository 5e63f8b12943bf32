/-
  Contracts of functions of the program and of the document, each for every input that its premises name.
-/
import Derived.Test.YtibbgchpgfpccaaGN
import Derived.Test.YtibbgchpgfpccaaGO
import Derived.Test.YtibbgchpgfpccaaAd
set_option maxRecDepth 100000
set_option maxHeartbeats 4000000
set_option linter.unusedVariables false
set_option linter.unusedSimpArgs false
open Go Go.AX
namespace Go.Proofs.Ytibbgchpgfpccaa.Tb
theorem fn_l18Ends : FnOk Try.prog 6 Try.f6 := ⟨Try.func6, by kernel_rfl, by kernel_rfl, by kernel_rfl⟩
theorem l18Ends_c (l : Lg) (from_ to : Pl) (now : Int) (hl : lgR l) (hnow : u64R now) :
    PCx Try.prog 6 [.agg l.c, .agg from_.c, .agg to.c, uu now] (bl true) := by
  refine PC.le ?_
  refine PC_of_VC tabOk (draw_ok mixed tabOk) fn_l18Ends rfl ?_
  have hhv := l18heavy_c l
  cases hh : heavyL l with
  | true =>
    rw [hh] at hhv
    repeat' ((conv => whnf)
             first
             | with_reducible refine (Or.inl ?_ : VC _ _ _ _ _ ∨ _)
             | ((with_reducible refine (⟨fun hc => ?_, fun hc => ?_⟩ : (_ = true → _) ∧ (_ = false → _))) <;> first | exact absurd hc (by decide) | (exfalso; simp only [*, reduceCtorEq] at hc; done) | skip)
             | (refine Or.inl ?_; (conv => whnf); refine ⟨_, hhv, ?_⟩)
             | (refine Or.inl ?_; (conv => whnf); refine ⟨_, l18awake_c, ?_⟩)
             | ((with_reducible refine And.intro ?_ ?_); focus (first | rfl | exact Nat.le_of_ble_eq_true rfl | omega | (simp only [List.length_cons, List.length_nil, List.length_map, List.length_append]; omega))))
    repeat' first
      | fail
      | exact True.intro
      | exact rfl
      | exact id
      | exact leRs_refl _
      | ((conv => whnf); with_reducible refine And.intro ?_ ?_)
      | ((conv => whnf); exact True.intro)
    all_goals try (conv => whnf)
  | false =>
    rw [hh] at hhv
    obtain ⟨hfr, hok, hl50⟩ := heavyL_false hh hl
    have hlr : -9223372036854775808 ≤ l.closed ∧ l.closed ≤ 9223372036854775807 ∧ 0 ≤ l.last := ⟨hl.2.2.2.1.1, hl.2.2.2.1.2, hl.2.2.2.2.1.1⟩
    have hmayc := r07Ledger_c l hlr
    cases hm : mayLg l with
    | false =>
      rw [hm] at hmayc
      repeat' ((conv => whnf)
               first
               | with_reducible refine (Or.inl ?_ : VC _ _ _ _ _ ∨ _)
               | ((with_reducible refine (⟨fun hc => ?_, fun hc => ?_⟩ : (_ = true → _) ∧ (_ = false → _))) <;> first | exact absurd hc (by decide) | (exfalso; simp only [*, reduceCtorEq] at hc; done) | skip)
               | (refine Or.inl ?_; (conv => whnf); refine ⟨_, hhv, ?_⟩)
               | (refine Or.inl ?_; (conv => whnf); refine ⟨_, hmayc, ?_⟩)
               | (refine Or.inl ?_; (conv => whnf); refine ⟨_, l18awake_c, ?_⟩)
               | ((with_reducible refine And.intro ?_ ?_); focus (first | rfl | exact Nat.le_of_ble_eq_true rfl | omega | (simp only [List.length_cons, List.length_nil, List.length_map, List.length_append]; omega))))
      all_goals
        repeat' first
          | fail
          | exact True.intro
          | exact rfl
          | exact id
          | exact leRs_refl _
          | ((conv => whnf); with_reducible refine And.intro ?_ ?_)
          | ((conv => whnf); exact True.intro)
        all_goals try (conv => whnf)
    | true =>
      rw [hm] at hmayc
      have hset : ∀ n, (setOf l.frags l.w n).length ≤ 1000000 := fun n => Nat.le_trans (setOf_le5 hm n) (by decide)
      have hnew := cNew_c l from_ to now hok hfr (by omega) hset
      by_cases he : (newC l from_ to now).2.2 = 0
      · rw [he] at hnew
        obtain ⟨hcl, hF, -⟩ := newC_ok he
        have hinv0 := EndInv.start he
        have hhad := r18Had_c l from_ hlr hfr
        have hlen := hadL_len l from_ 0 (by omega)
        clear he
        generalize (newC l from_ to now).1 = c0 at *
        generalize (newC l from_ to now).2.1 = q0 at *
        generalize hadL l from_ 0 = L at *
        have eN : IntKind.i64.wrap (2 * (L.length : Int)) = ((2 * L.length : Nat) : Int) := by rw [wrapI (by omega) (by omega)]; omega
        by_cases hw : l.w = 1
        · have b1 : (l.w == 1) = true := by simp [hw]
          clear hw
          repeat' ((conv => whnf)
                   first
                   | with_reducible refine (Or.inl ?_ : VC _ _ _ _ _ ∨ _)
                   | ((with_reducible refine (⟨fun hc => ?_, fun hc => ?_⟩ : (_ = true → _) ∧ (_ = false → _))) <;> first | exact absurd hc (by decide) | (exfalso; simp only [*, reduceCtorEq] at hc; done) | skip)
                   | (refine Or.inl ?_; (conv => whnf); refine ⟨_, hhv, ?_⟩)
                   | (refine Or.inl ?_; (conv => whnf); refine ⟨_, hmayc, ?_⟩)
                   | (refine Or.inl ?_; (conv => whnf); refine ⟨_, hnew, ?_⟩)
                   | (refine Or.inl ?_; (conv => whnf); refine ⟨_, l18awake_c, ?_⟩)
                   | ((with_reducible refine And.intro ?_ ?_); focus (first | rfl | exact Nat.le_of_ble_eq_true rfl | omega | (simp only [List.length_cons, List.length_nil, List.length_map, List.length_append]; omega))))
          all_goals
            repeat' first
              | fail
              | exact True.intro
              | exact rfl
              | exact id
              | exact leRs_refl _
              | ((conv => whnf); with_reducible refine And.intro ?_ ?_)
              | ((conv => whnf); exact True.intro)
            all_goals try (conv => whnf)
        have b1 : (l.w == 1) = false := by simp [hw]
        repeat' ((conv => whnf)
                 first
                 | with_reducible refine (Or.inl ?_ : VC _ _ _ _ _ ∨ _)
                 | ((with_reducible refine (⟨fun hc => ?_, fun hc => ?_⟩ : (_ = true → _) ∧ (_ = false → _))) <;> first | exact absurd hc (by decide) | (exfalso; simp only [*, reduceCtorEq] at hc; done) | skip)
                 | (refine Or.inl ?_; (conv => whnf); refine ⟨_, hhv, ?_⟩)
                 | (refine Or.inl ?_; (conv => whnf); refine ⟨_, hmayc, ?_⟩)
                 | (refine Or.inl ?_; (conv => whnf); refine ⟨_, hnew, ?_⟩)
                 | (refine Or.inl ?_; (conv => whnf); refine ⟨_, hhad, ?_⟩)
                 | ((with_reducible refine And.intro ?_ ?_); focus (first | rfl | exact Nat.le_of_ble_eq_true rfl | omega | (simp only [List.length_cons, List.length_nil, List.length_map, List.length_append]; omega))))
        refine ⟨{x : Nat × Cp × List Rq × List ByteArray // x.1 ≤ 2 * L.length ∧ EndInv l from_ to now (2 * L.length - x.1) x.2.1 x.2.2.1 ∧ x.2.2.2.length = 20}, fun ⟨(i, c, q, has), _⟩ => ⟨[(3, .pv (uu now)), (4, .ptr 1004 0), (5, .ptr 1005 0), (6, .ptr 1006 0), (9, .ptr 1009 0), (10, .pv (slR q)), (12, .pv (slS has)), (13, .pv (ii ((2 * L.length : Nat) : Int))), (14, .pv (ii i))], 1000000000, [(1004, .var (l.c.map .pv)), (1005, .var (from_.c.map .pv)), (1006, .var (to.c.map .pv)), (1009, .var (c.c.map .pv))]⟩, fun ⟨(i, _), _⟩ => 2 * L.length - i, ⟨⟨(0, c0, q0, List.replicate 20 .empty), by simp, hinv0, by simp⟩, ent_told [10000] ?_⟩, ?_⟩
        · repeat' first
            | fail
            | exact True.intro
            | exact rfl
            | exact id
            | exact leRs_refl _
            | ((conv => whnf); with_reducible refine And.intro ?_ ?_)
            | ((conv => whnf); exact True.intro)
          all_goals try (conv => whnf)
          rw [List.length_map]; exact eN
        rintro ⟨⟨i, c, q, has⟩, hi, hinv, hhas⟩
        simp only at hi hinv hhas
        by_cases hlt : i < 2 * L.length
        · obtain ⟨k, hk⟩ : ∃ k, 2 * L.length - i = k + 1 := ⟨2 * L.length - i - 1, by omega⟩
          rw [hk] at hinv
          obtain ⟨hsm, hbig, hnone⟩ := hinv.facts hok hfr hl50 hm
          obtain ⟨x, r, rfl, hph, hab, hxb, hxn, hnext⟩ := hinv.step hm hF hw has
          have hans := l18answers_c l from_ to has x hfr (by unfold u64R; omega) (by omega) (by omega)
          have hal := ansC_len l from_ to has x
          generalize (ansC l from_ to has x).1 = a at *
          generalize (ansC l from_ to has x).2 = has' at *
          have htake := cTake_c c now a hsm hbig (by omega) (by rw [hnone]; simp)
          generalize (takeC c now a).1 = c' at *
          generalize (takeC c now a).2 = q' at *
          have d0 : decide ((i : Int) < ((2 * L.length : Nat) : Int)) = true := by simp only [decide_eq_true_eq]; omega
          have d1 : (((List.map Rq.c (x :: r)).length : Int) == 0) = false := by
            rw [List.length_map, List.length_cons, beq_eq_false_iff_ne]; omega
          have hk2 : k = 2 * L.length - (i + 1) := by omega
          subst hk2
          have hd : (Hd ((c.phase != 1) = false)) ∨ Hd ((c.phase != 1) = true ∧ (c.phase != 2) = false) := by
            rcases hph with h | h
            · exact .inl ⟨by simp [h]⟩
            · exact .inr ⟨by simp [h]⟩
          have hlen' : has'.length = 20 := by omega
          have H1 : Hd (i < 2 * L.length) := ⟨hlt⟩
          have H2 : Hd (EndInv l from_ to now (2 * L.length - (i + 1)) c' q') := ⟨hnext⟩
          have H3 : Hd (has'.length = 20) := ⟨hlen'⟩
          have eW : IntKind.i64.wrap ((i : Int) + 1) = ((i + 1 : Nat) : Int) := by rw [wrapI (by omega) (by omega)]; omega
          clear hsm hbig hnone hph hab hxb hxn hal hk hlt hnext hlen'
          rcases hd with hd | hd
          · have d2 := hd.out
            clear hd
            repeat' ((conv => whnf)
                     first
                     | with_reducible refine (Or.inl ?_ : VC _ _ _ _ _ ∨ _)
                     | ((with_reducible refine (⟨fun hc => ?_, fun hc => ?_⟩ : (_ = true → _) ∧ (_ = false → _))) <;> first | exact absurd hc (by decide) | (exfalso; simp only [*, reduceCtorEq] at hc; done) | skip)
                     | (refine Or.inl ?_; (conv => whnf); refine ⟨_, hans, ?_⟩)
                     | (refine Or.inl ?_; (conv => whnf); refine ⟨_, htake, ?_⟩)
                     | ((refine ⟨_, rfl, ?_⟩))
                     | ((with_reducible refine And.intro ?_ ?_); focus (first | rfl | exact Nat.le_of_ble_eq_true rfl | omega | (simp only [List.length_cons, List.length_nil, List.length_map, List.length_append]; omega))))
            all_goals
              refine ⟨⟨(i + 1, c', q', has'), H1.out, H2.out, H3.out⟩, dec_lt H1.out, ent_of ?_⟩
              repeat' first
                | fail
                | exact True.intro
                | exact rfl
                | exact id
                | exact leRs_refl _
                | ((conv => whnf); with_reducible refine And.intro ?_ ?_)
                | ((conv => whnf); exact True.intro)
              all_goals try (conv => whnf)
              exact eW
          · have d2 := hd.out.1
            have d3 := hd.out.2
            clear hd
            repeat' ((conv => whnf)
                     first
                     | with_reducible refine (Or.inl ?_ : VC _ _ _ _ _ ∨ _)
                     | ((with_reducible refine (⟨fun hc => ?_, fun hc => ?_⟩ : (_ = true → _) ∧ (_ = false → _))) <;> first | exact absurd hc (by decide) | (exfalso; simp only [*, reduceCtorEq] at hc; done) | skip)
                     | (refine Or.inl ?_; (conv => whnf); refine ⟨_, hans, ?_⟩)
                     | (refine Or.inl ?_; (conv => whnf); refine ⟨_, htake, ?_⟩)
                     | ((refine ⟨_, rfl, ?_⟩))
                     | ((with_reducible refine And.intro ?_ ?_); focus (first | rfl | exact Nat.le_of_ble_eq_true rfl | omega | (simp only [List.length_cons, List.length_nil, List.length_map, List.length_append]; omega))))
            all_goals
              refine ⟨⟨(i + 1, c', q', has'), H1.out, H2.out, H3.out⟩, dec_lt H1.out, ent_of ?_⟩
              repeat' first
                | fail
                | exact True.intro
                | exact rfl
                | exact id
                | exact leRs_refl _
                | ((conv => whnf); with_reducible refine And.intro ?_ ?_)
                | ((conv => whnf); exact True.intro)
              all_goals try (conv => whnf)
              exact eW
        · have hie : i = 2 * L.length := by omega
          subst hie
          rw [Nat.sub_self] at hinv
          obtain ⟨z1, rfl⟩ := hinv.zero
          have d0 : decide (((2 * L.length : Nat) : Int) < ((2 * L.length : Nat) : Int)) = false := by simp
          have b2 : (c.phase == 3) = true := by simp [z1]
          have b3 : (((List.map Rq.c []).length : Int) == 0) = true := rfl
          clear z1 hinv
          repeat' ((conv => whnf)
                   first
                   | with_reducible refine (Or.inl ?_ : VC _ _ _ _ _ ∨ _)
                   | ((with_reducible refine (⟨fun hc => ?_, fun hc => ?_⟩ : (_ = true → _) ∧ (_ = false → _))) <;> first | exact absurd hc (by decide) | (exfalso; simp only [*, reduceCtorEq] at hc; done) | skip)
                   | (refine Or.inl ?_; (conv => whnf); refine ⟨_, l18awake_c, ?_⟩)
                   | ((with_reducible refine And.intro ?_ ?_); focus (first | rfl | exact Nat.le_of_ble_eq_true rfl | omega | (simp only [List.length_cons, List.length_nil, List.length_map, List.length_append]; omega))))
          all_goals
            repeat' first
              | fail
              | exact True.intro
              | exact rfl
              | exact id
              | exact leRs_refl _
              | ((conv => whnf); with_reducible refine And.intro ?_ ?_)
              | ((conv => whnf); exact True.intro)
            all_goals try (conv => whnf)
      · have he1 := newC_err he
        rw [he1] at hnew
        repeat' ((conv => whnf)
                 first
                 | with_reducible refine (Or.inl ?_ : VC _ _ _ _ _ ∨ _)
                 | ((with_reducible refine (⟨fun hc => ?_, fun hc => ?_⟩ : (_ = true → _) ∧ (_ = false → _))) <;> first | exact absurd hc (by decide) | (exfalso; simp only [*, reduceCtorEq] at hc; done) | skip)
                 | (refine Or.inl ?_; (conv => whnf); refine ⟨_, hhv, ?_⟩)
                 | (refine Or.inl ?_; (conv => whnf); refine ⟨_, hmayc, ?_⟩)
                 | (refine Or.inl ?_; (conv => whnf); refine ⟨_, hnew, ?_⟩)
                 | (refine Or.inl ?_; (conv => whnf); refine ⟨_, l18awake_c, ?_⟩)
                 | ((with_reducible refine And.intro ?_ ?_); focus (first | rfl | exact Nat.le_of_ble_eq_true rfl | omega | (simp only [List.length_cons, List.length_nil, List.length_map, List.length_append]; omega))))
        all_goals
          repeat' first
            | fail
            | exact True.intro
            | exact rfl
            | exact id
            | exact leRs_refl _
            | ((conv => whnf); with_reducible refine And.intro ?_ ?_)
            | ((conv => whnf); exact True.intro)
          all_goals try (conv => whnf)
end Go.Proofs.Ytibbgchpgfpccaa.Tb
