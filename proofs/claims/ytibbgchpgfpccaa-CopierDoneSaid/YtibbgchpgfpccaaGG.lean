/-
  Contracts of functions of the program and of the document, each for every input that its premises name.
-/
import Derived.Test.YtibbgchpgfpccaaGE
import Derived.Test.YtibbgchpgfpccaaAd
import Derived.Test.YtibbgchpgfpccaaAe
set_option maxRecDepth 100000
set_option maxHeartbeats 4000000
set_option linter.unusedVariables false
set_option linter.unusedSimpArgs false
open Go Go.AX
namespace Go.Proofs.Ytibbgchpgfpccaa.Tb
theorem cown0_g (c : Cp) (h : c.sm) : GCx Try.prog 65 [.pv (.agg c.c)] [] (.agg (c.vf (.slw 1002 0) (.slw 1001 0))) [(1001, .arr 38 0 2 (c.none.map Pl.c)), (1002, .arr 106 0 2 (c.l.frags.map Fr.c))] := by
  obtain ⟨h1, h2, h3, h4⟩ := h
  refine GC_bd fn_cown fun hb => ?_
  refine GC_of_VC tabOk (draw_ok mixed tabOk) fn_cown rfl ?_
  repeat' ((conv => whnf)
           first
           | with_reducible refine (Or.inl ?_ : VC _ _ _ _ _ ∨ _)
           | ((with_reducible refine (⟨fun hc => ?_, fun hc => ?_⟩ : (_ = true → _) ∧ (_ = false → _))) <;> first | exact absurd hc (by decide) | (exfalso; simp only [*, reduceCtorEq] at hc; done) | skip)
           | (refine Or.inr ?_; (conv => whnf); refine ⟨_, _, clonePlace_g _ (by omega), ?_⟩)
           | (refine Or.inl ?_; (conv => whnf); refine ⟨_, cloneByte_c _ (by omega), ?_⟩)
           | (refine Or.inr ?_; (conv => whnf); refine ⟨_, _, cloneFrag_g _ (by omega), ?_⟩)
           | ((with_reducible refine And.intro ?_ ?_); focus (first | rfl | exact Nat.le_of_ble_eq_true rfl | omega | (simp only [List.length_cons, List.length_nil, List.length_map, List.length_append]; omega))))
  refine ⟨{k : Nat // k ≤ c.l.frags.length}, fun ⟨k, _⟩ => ⟨[(1, .ptr 1001 0), (2, .ptr 1002 0), (21, .slw 1021 0), (22, .pv (ii c.l.frags.length)), (23, .pv (ii k))], 1000000000, [(1001, .var (c.vf (.slw 1021 0) (.slw 1031 0))), (1002, .var Cp.z), (1021, .arr 106 0 2 (c.l.frags.map Fr.c)), (1031, .arr 38 0 2 (c.none.map Pl.c))]⟩, fun ⟨k, _⟩ => c.l.frags.length - k, ⟨⟨0, by simp⟩, ent_of ?_⟩, ?_⟩
  · repeat' first
      | fail
      | exact True.intro
      | exact rfl
      | exact id
      | exact leRs_refl _
      | ((conv => whnf); with_reducible refine And.intro ?_ ?_)
      | ((conv => whnf); exact True.intro)
    all_goals try (conv => whnf)
    all_goals simp
  rintro ⟨k, hk⟩
  repeat' ((conv => whnf)
           first
           | with_reducible refine (Or.inl ?_ : VC _ _ _ _ _ ∨ _)
           | ((with_reducible refine (⟨fun hc => ?_, fun hc => ?_⟩ : (_ = true → _) ∧ (_ = false → _))) <;> first | exact absurd hc (by decide) | (exfalso; simp only [*, reduceCtorEq] at hc; done) | skip)
           | ((with_reducible refine And.intro ?_ ?_); focus (first | rfl | exact Nat.le_of_ble_eq_true rfl | omega | (simp only [List.length_cons, List.length_nil, List.length_map, List.length_append]; omega))))
  · have hlt : k < c.l.frags.length := by simpa using hc
    have hle := h4 _ (List.getElem_mem hlt)
    repeat' ((conv => whnf)
             first
             | with_reducible refine (Or.inl ?_ : VC _ _ _ _ _ ∨ _)
             | ((with_reducible refine (⟨fun hc => ?_, fun hc => ?_⟩ : (_ = true → _) ∧ (_ = false → _))) <;> first | exact absurd hc (by decide) | (exfalso; simp only [*, reduceCtorEq] at hc; done) | skip)
             | ((refine ⟨_, rowK _ _ _ hlt, ?_⟩))
             | (refine Or.inl ?_; (conv => whnf); refine ⟨_, clonePlace_c _ (by omega), ?_⟩)
             | ((with_reducible refine And.intro ?_ ?_); focus (first | rfl | exact Nat.le_of_ble_eq_true rfl | omega | (simp only [List.length_cons, List.length_nil, List.length_map, List.length_append]; omega))))
    refine ⟨⟨k + 1, hlt⟩, dec_lt hlt, ent_of ?_⟩
    repeat' first
      | fail
      | exact True.intro
      | exact rfl
      | exact id
      | exact leRs_refl _
      | ((conv => whnf); with_reducible refine And.intro ?_ ?_)
      | ((conv => whnf); exact True.intro)
    all_goals try (conv => whnf)
    all_goals first
      | exact wrapI (by omega) (by omega)
      | (refine leRs_of_eq ?_; exact set_same Fr.c _ _ hlt)
  · repeat' ((conv => whnf)
             first
             | with_reducible refine (Or.inl ?_ : VC _ _ _ _ _ ∨ _)
             | ((with_reducible refine (⟨fun hc => ?_, fun hc => ?_⟩ : (_ = true → _) ∧ (_ = false → _))) <;> first | exact absurd hc (by decide) | (exfalso; simp only [*, reduceCtorEq] at hc; done) | skip)
             | ((with_reducible refine And.intro ?_ ?_); focus (first | rfl | exact Nat.le_of_ble_eq_true rfl | omega | (simp only [List.length_cons, List.length_nil, List.length_map, List.length_append]; omega))))
    refine ⟨_, _, ⟨rfl, rfl⟩, ?_⟩
    repeat' first
      | fail
      | exact True.intro
      | exact rfl
      | exact id
      | exact leRs_refl _
      | ((conv => whnf); with_reducible refine And.intro ?_ ?_)
      | ((conv => whnf); exact True.intro)
    all_goals try (conv => whnf)
theorem cown_g (c : Cp) (h : c.sm) : GCx Try.prog 65 [.pv (.agg c.c)] [] (.agg (c.v (.slw 1001 0))) [(1001, .arr 38 0 2 (c.none.map Pl.c))] := by
  refine GCx_post (cown0_g c h) [1002] ?_
  (conv => whnf)
  refine ⟨_, _, ⟨rfl, rfl⟩, ?_⟩
  repeat' first
    | fail
    | exact True.intro
    | exact rfl
    | exact id
    | exact leRs_refl _
    | ((conv => whnf); with_reducible refine And.intro ?_ ?_)
    | ((conv => whnf); exact True.intro)
  all_goals try (conv => whnf)
theorem cask_g (c : Cp) (now : Int) (hb : c.body.length ≤ 140737488355328) (hf : frsOk c.l.frags) (hn : 0 ≤ c.n ∧ c.n ≤ 18446744073709551615) (hs : (setOf c.l.frags c.l.w c.n).length ≤ 1000000) :
    GCx Try.prog 70 [.ptr 1 0, .pv (uu now)] [(1, .var (c.v (.pv (slP c.none))))] (.slw 1001 0)
      [(1, .var ((askC c now).1.v (.pv (slP (askC c now).1.none)))), (1001, .arr 49 0 10 ((askC c now).2.map Rq.c))] := by
  by_cases h2 : c.phase = 2
  · have e : (askC c now).1.none = c.none := by unfold askC; rw [if_pos h2]
    rw [e]
    exact cask2P_g c now h2 hb
  · exact cask1_g c now h2 hf hn hs
theorem fn_after : FnOk Try.prog 71 Try.f71 := ⟨Try.func71, by kernel_rfl, by kernel_rfl, by kernel_rfl⟩
theorem after_c (a b : Int) (ha : 0 ≤ a ∧ a ≤ 18446744073709551615) (hb : 0 ≤ b ∧ b ≤ 18446744073709551615) : PCx Try.prog 71 [uu a, uu b] (uu (afterC a b)) := by
  refine PC.le ?_
  refine PC_of_VC tabOk (draw_ok mixed tabOk) fn_after rfl ?_
  repeat' ((conv => whnf)
           first
           | with_reducible refine (Or.inl ?_ : VC _ _ _ _ _ ∨ _)
           | ((with_reducible refine (⟨fun hc => ?_, fun hc => ?_⟩ : (_ = true → _) ∧ (_ = false → _))) <;> first | exact absurd hc (by decide) | (exfalso; simp only [*, reduceCtorEq] at hc; done) | skip)
           | ((with_reducible refine And.intro ?_ ?_); focus (first | rfl | exact Nat.le_of_ble_eq_true rfl | omega | (simp only [List.length_cons, List.length_nil, List.length_map, List.length_append]; omega))))
  · repeat' first
      | fail
      | exact True.intro
      | exact rfl
      | exact id
      | exact leRs_refl _
      | ((conv => whnf); with_reducible refine And.intro ?_ ?_)
      | ((conv => whnf); exact True.intro)
    all_goals try (conv => whnf)
    simp at hc
    simp [afterC, hc]
  · repeat' first
      | fail
      | exact True.intro
      | exact rfl
      | exact id
      | exact leRs_refl _
      | ((conv => whnf); with_reducible refine And.intro ?_ ?_)
      | ((conv => whnf); exact True.intro)
    all_goals try (conv => whnf)
    simp at hc
    rw [wrapU (by omega) (by omega), afterC, if_neg (by omega)]
theorem fn_cTick : FnOk Try.prog 36 Try.f36 := ⟨Try.func36, by kernel_rfl, by kernel_rfl, by kernel_rfl⟩
theorem cTick_c (c : Cp) (now : Int) (h : c.sm) (hf : frsOk c.l.frags) (hn : 0 ≤ c.n ∧ c.n ≤ 18446744073709551615) (hs : (setOf c.l.frags c.l.w c.n).length ≤ 1000000)
    (hnow : 0 ≤ now ∧ now ≤ 18446744073709551615) (h1 : 0 ≤ c.born ∧ c.born ≤ 18446744073709551615) (h2 : 0 ≤ c.since ∧ c.since ≤ 18446744073709551615) :
    PCx Try.prog 36 [.agg c.c, uu now] (.tup [.agg (tickC c now).1.c, slR (tickC c now).2]) := by
  refine PC.le ?_
  have hask := cask_g c now h.h2 hf hn hs
  obtain ⟨⟨d, q⟩, hd⟩ : ∃ x, askC c now = x := ⟨_, rfl⟩
  rw [hd] at hask
  obtain ⟨X, hX⟩ : ∃ X, X = tickC c now := ⟨_, rfl⟩
  rw [← hX]
  refine PC_of_VC tabOk (draw_ok mixed tabOk) fn_cTick rfl ?_
  repeat' ((conv => whnf)
           first
           | with_reducible refine (Or.inl ?_ : VC _ _ _ _ _ ∨ _)
           | ((with_reducible refine (⟨fun hc => ?_, fun hc => ?_⟩ : (_ = true → _) ∧ (_ = false → _))) <;> first | exact absurd hc (by decide) | (exfalso; simp only [*, reduceCtorEq] at hc; done) | skip)
           | (refine Or.inl ?_; (conv => whnf); refine ⟨_, cown_c c h, ?_⟩)
           | (refine Or.inl ?_; (conv => whnf); refine ⟨_, after_c _ _ hnow h1, ?_⟩)
           | (refine Or.inl ?_; (conv => whnf); refine ⟨_, after_c _ _ hnow h2, ?_⟩)
           | (refine Or.inr ?_; (conv => whnf); refine ⟨_, _, hask, ?_⟩)
           | ((with_reducible refine And.intro ?_ ?_); focus (first | rfl | exact Nat.le_of_ble_eq_true rfl | omega | (simp only [List.length_cons, List.length_nil, List.length_map, List.length_append]; omega))))
  all_goals
    simp only [tickC, *, Bool.true_or, Bool.or_true, Bool.false_or, Bool.or_false, Bool.true_and, Bool.and_true, Bool.false_and, Bool.and_false, Bool.not_true, Bool.not_false, Bool.false_eq_true, ↓reduceIte] at hX
    subst hX
    repeat' first
      | exact True.intro
      | exact rfl
      | exact id
      | exact leRs_refl _
      | ((conv => whnf); with_reducible refine And.intro ?_ ?_)
      | ((conv => whnf); exact True.intro)
end Go.Proofs.Ytibbgchpgfpccaa.Tb
