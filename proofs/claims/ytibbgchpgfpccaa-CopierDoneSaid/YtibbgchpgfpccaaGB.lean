/-
  Contracts of functions of the program and of the document, each for every input that its premises name.
-/
import Derived.Test.YtibbgchpgfpccaaGA
set_option maxRecDepth 100000
set_option maxHeartbeats 4000000
set_option linter.unusedVariables false
set_option linter.unusedSimpArgs false
open Go Go.AX
namespace Go.Proofs.Ytibbgchpgfpccaa.Tb
theorem fn_cown : FnOk Try.prog 65 Try.f65 := ⟨Try.func65, by kernel_rfl, by kernel_rfl, by kernel_rfl⟩
theorem cown_c (c : Cp) (h : c.sm) : PCx Try.prog 65 [.agg c.c] (.agg c.c) := by
  obtain ⟨h1, h2, h3, h4⟩ := h
  refine PC.le (PC_bd fn_cown fun hb => ?_)
  refine PC_of_VC tabOk (draw_ok mixed tabOk) fn_cown rfl ?_
  repeat' ((conv => whnf)
           first
           | with_reducible refine (Or.inl ?_ : VC _ _ _ _ _ ∨ _)
           | ((with_reducible refine (⟨fun hc => ?_, fun hc => ?_⟩ : (_ = true → _) ∧ (_ = false → _))) <;> first | exact absurd hc (by decide) | (exfalso; simp only [*, reduceCtorEq] at hc; done) | skip)
           | (refine Or.inl ?_; (conv => whnf); refine ⟨_, clonePlace_c _ (by omega), ?_⟩)
           | (refine Or.inl ?_; (conv => whnf); refine ⟨_, cloneByte_c _ (by omega), ?_⟩)
           | (refine Or.inr ?_; (conv => whnf); refine ⟨_, _, cloneFrag_g _ (by omega), ?_⟩)
           | ((with_reducible refine And.intro ?_ ?_); focus (first | rfl | exact Nat.le_of_ble_eq_true rfl | omega | (simp only [List.length_cons, List.length_nil, List.length_map, List.length_append]; omega))))
  refine ⟨{k : Nat // k ≤ c.l.frags.length}, fun ⟨k, _⟩ => ⟨[(1, .ptr 1001 0), (2, .ptr 1002 0), (21, .slw 1021 0), (22, .pv (ii c.l.frags.length)), (23, .pv (ii k))], 1000000000, [(1001, .var (c.vf (.slw 1021 0) (.pv (slP c.none)))), (1002, .var Cp.z), (1021, .arr 106 0 2 (c.l.frags.map Fr.c))]⟩, fun ⟨k, _⟩ => c.l.frags.length - k, ⟨⟨0, by simp⟩, ent_of ?_⟩, ?_⟩
  · repeat' first
      | fail
      | exact True.intro
      | exact rfl
      | exact id
      | exact leRs_refl _
      | ((conv => whnf); with_reducible refine And.intro ?_ ?_)
      | ((conv => whnf); exact True.intro)
    all_goals try (conv => whnf)
    all_goals simp
  rintro ⟨k, hk⟩
  repeat' ((conv => whnf)
           first
           | with_reducible refine (Or.inl ?_ : VC _ _ _ _ _ ∨ _)
           | ((with_reducible refine (⟨fun hc => ?_, fun hc => ?_⟩ : (_ = true → _) ∧ (_ = false → _))) <;> first | exact absurd hc (by decide) | (exfalso; simp only [*, reduceCtorEq] at hc; done) | skip)
           | ((with_reducible refine And.intro ?_ ?_); focus (first | rfl | exact Nat.le_of_ble_eq_true rfl | omega | (simp only [List.length_cons, List.length_nil, List.length_map, List.length_append]; omega))))
  · have hlt : k < c.l.frags.length := by simpa using hc
    have hle := h4 _ (List.getElem_mem hlt)
    repeat' ((conv => whnf)
             first
             | with_reducible refine (Or.inl ?_ : VC _ _ _ _ _ ∨ _)
             | ((with_reducible refine (⟨fun hc => ?_, fun hc => ?_⟩ : (_ = true → _) ∧ (_ = false → _))) <;> first | exact absurd hc (by decide) | (exfalso; simp only [*, reduceCtorEq] at hc; done) | skip)
             | ((refine ⟨_, rowK _ _ _ hlt, ?_⟩))
             | (refine Or.inl ?_; (conv => whnf); refine ⟨_, clonePlace_c _ (by omega), ?_⟩)
             | ((with_reducible refine And.intro ?_ ?_); focus (first | rfl | exact Nat.le_of_ble_eq_true rfl | omega | (simp only [List.length_cons, List.length_nil, List.length_map, List.length_append]; omega))))
    refine ⟨⟨k + 1, hlt⟩, dec_lt hlt, ent_of ?_⟩
    repeat' first
      | fail
      | exact True.intro
      | exact rfl
      | exact id
      | exact leRs_refl _
      | ((conv => whnf); with_reducible refine And.intro ?_ ?_)
      | ((conv => whnf); exact True.intro)
    all_goals try (conv => whnf)
    all_goals first
      | exact wrapI (by omega) (by omega)
      | (refine leRs_of_eq ?_; exact set_same Fr.c _ _ hlt)
  · repeat' ((conv => whnf)
             first
             | with_reducible refine (Or.inl ?_ : VC _ _ _ _ _ ∨ _)
             | ((with_reducible refine (⟨fun hc => ?_, fun hc => ?_⟩ : (_ = true → _) ∧ (_ = false → _))) <;> first | exact absurd hc (by decide) | (exfalso; simp only [*, reduceCtorEq] at hc; done) | skip)
             | ((with_reducible refine And.intro ?_ ?_); focus (first | rfl | exact Nat.le_of_ble_eq_true rfl | omega | (simp only [List.length_cons, List.length_nil, List.length_map, List.length_append]; omega))))
    repeat' first
      | fail
      | exact True.intro
      | exact rfl
      | exact id
      | exact leRs_refl _
      | ((conv => whnf); with_reducible refine And.intro ?_ ?_)
      | ((conv => whnf); exact True.intro)
    all_goals try (conv => whnf)
theorem fn_had1 : FnOk Try.prog 132 Try.f132 := ⟨Try.func132, by kernel_rfl, by kernel_rfl, by kernel_rfl⟩
theorem had1_s (l : Lg) (from_ : Pl) (behind : Int) (h : l.ok) (hf : frsOk l.frags) (hb0 : 0 ≤ behind) : SeqC Try.prog 132 [.eptr l.c 0, .eptr [uu behind] 0, .eptr from_.c 0] ((hadL l from_ behind).map fun n => [uu n]) := by
  refine SeqC_of_VC tabOk (draw_ok mixed tabOk) fn_had1 rfl rfl (fun P0 => ?_)
  repeat' ((conv => whnf)
           first
           | with_reducible refine (Or.inl ?_ : VC _ _ _ _ _ ∨ _)
           | ((with_reducible refine (⟨fun hc => ?_, fun hc => ?_⟩ : (_ = true → _) ∧ (_ = false → _))) <;> first | exact absurd hc (by decide) | (exfalso; simp only [*, reduceCtorEq] at hc; done) | skip)
           | (refine Or.inl ?_; (conv => whnf); refine ⟨_, closed_c l h, ?_⟩)
           | ((with_reducible refine And.intro ?_ ?_); focus (first | rfl | exact Nat.le_of_ble_eq_true rfl | omega | (simp only [List.length_cons, List.length_nil, List.length_map, List.length_append]; omega))))
  · have : hadL l from_ behind = [] := by unfold hadL; rw [if_neg (by simp_all)]
    rw [this]
    repeat' first
      | fail
      | exact True.intro
      | exact rfl
      | exact id
      | exact leRs_refl _
      | ((conv => whnf); with_reducible refine And.intro ?_ ?_)
      | ((conv => whnf); exact True.intro)
    all_goals try (conv => whnf)
  · have : hadL l from_ behind = [] := by unfold hadL; rw [if_neg (by simp_all)]
    rw [this]
    repeat' first
      | fail
      | exact True.intro
      | exact rfl
      | exact id
      | exact leRs_refl _
      | ((conv => whnf); with_reducible refine And.intro ?_ ?_)
      | ((conv => whnf); exact True.intro)
    all_goals try (conv => whnf)
  rename_i hcl
  have hcl : cClosed l = true := by simpa using hcl
  have hbl : behind < l.last := by simpa using hc
  have hlast : l.last ≤ 8 := by
    unfold cClosed at hcl
    simp only [Bool.and_eq_true, beq_iff_eq] at hcl
    have h8 := hcl.1
    unfold mayLg at h8
    simp only [Bool.and_eq_true, decide_eq_true_eq] at h8
    have := h8.2.2.2.2.2
    omega
  have hL : hadL l from_ behind = hadFrom l from_ behind 0 := by unfold hadL; rw [if_pos (by simp [hcl, hbl])]
  rw [hL]
  refine ⟨{k : Nat // behind + (k : Int) ≤ l.last}, fun ⟨k, _⟩ => ⟨[(0, .pv (.fn (.yield P0) [] [])), (1, .pv (.eptr l.c 0)), (2, .pv (.eptr [uu behind] 0)), (3, .pv (.eptr from_.c 0)), (5, .pv (uu (behind + 1 + (k : Int))))], 1000000000, [(999, .tr (Try.prog, P0) 0 ((hadFrom l from_ behind k).map fun n => [uu n]) (some false))]⟩, fun ⟨k, _⟩ => (l.last - behind).toNat - k, ⟨⟨0, by simp; omega⟩, ent_of ?_⟩, ?_⟩
  · repeat' first
      | fail
      | exact True.intro
      | exact rfl
      | exact id
      | exact leRs_refl _
      | ((conv => whnf); with_reducible refine And.intro ?_ ?_)
      | ((conv => whnf); exact True.intro)
    all_goals try (conv => whnf)
    rw [wrapU (by omega) (by omega)]; omega
  rintro ⟨k, hk⟩
  repeat' ((conv => whnf)
           first
           | with_reducible refine (Or.inl ?_ : VC _ _ _ _ _ ∨ _)
           | ((with_reducible refine (⟨fun hc => ?_, fun hc => ?_⟩ : (_ = true → _) ∧ (_ = false → _))) <;> first | exact absurd hc (by decide) | (exfalso; simp only [*, reduceCtorEq] at hc; done) | skip)
           | ((with_reducible refine And.intro ?_ ?_); focus (first | rfl | exact Nat.le_of_ble_eq_true rfl | omega | (simp only [List.length_cons, List.length_nil, List.length_map, List.length_append]; omega))))
  · have hle : behind + 1 + (k : Int) ≤ l.last := by simpa using hc
    by_cases hp : ((setOf l.frags l.w (behind + 1 + (k : Int))).any fun y => y == (⟨from_.node, from_.serial⟩ : Pl)) = true
    · have hs := hadFrom_step l from_ behind k hle
      rw [if_pos hp] at hs
      rw [hs]
      repeat' ((conv => whnf)
               first
               | with_reducible refine (Or.inl ?_ : VC _ _ _ _ _ ∨ _)
               | ((with_reducible refine (⟨fun hc => ?_, fun hc => ?_⟩ : (_ = true → _) ∧ (_ = false → _))) <;> first | exact absurd hc (by decide) | (exfalso; simp only [*, reduceCtorEq] at hc; done) | skip)
               | (refine Or.inl ?_; (conv => whnf); refine ⟨_, sSet_c _ _ _ hf (by omega), ?_⟩)
               | (refine Or.inl ?_; (conv => whnf); refine ⟨_, containsPlace_c _ _ _, ?_⟩)
               | ((refine ⟨_, _, rfl, leQs_refl _, ?_⟩))
               | ((with_reducible refine And.intro ?_ ?_); focus (first | rfl | exact Nat.le_of_ble_eq_true rfl | omega | (simp only [List.length_cons, List.length_nil, List.length_map, List.length_append]; omega))))
      · refine ⟨trivial, ⟨k + 1, by omega⟩, dec_lt (by omega), ent_of ?_⟩
        repeat' first
          | fail
          | exact True.intro
          | exact rfl
          | exact id
          | exact leRs_refl _
          | ((conv => whnf); with_reducible refine And.intro ?_ ?_)
          | ((conv => whnf); exact True.intro)
        all_goals try (conv => whnf)
        all_goals (rw [wrapU (by omega) (by omega)]; omega)
    · have hp : ((setOf l.frags l.w (behind + 1 + (k : Int))).any fun y => y == (⟨from_.node, from_.serial⟩ : Pl)) = false := Bool.eq_false_iff.2 hp
      have hs := hadFrom_step l from_ behind k hle
      rw [if_neg (by rw [hp]; simp)] at hs
      rw [hs]
      repeat' ((conv => whnf)
               first
               | with_reducible refine (Or.inl ?_ : VC _ _ _ _ _ ∨ _)
               | ((with_reducible refine (⟨fun hc => ?_, fun hc => ?_⟩ : (_ = true → _) ∧ (_ = false → _))) <;> first | exact absurd hc (by decide) | (exfalso; simp only [*, reduceCtorEq] at hc; done) | skip)
               | (refine Or.inl ?_; (conv => whnf); refine ⟨_, sSet_c _ _ _ hf (by omega), ?_⟩)
               | (refine Or.inl ?_; (conv => whnf); refine ⟨_, containsPlace_c _ _ _, ?_⟩)
               | ((with_reducible refine And.intro ?_ ?_); focus (first | rfl | exact Nat.le_of_ble_eq_true rfl | omega | (simp only [List.length_cons, List.length_nil, List.length_map, List.length_append]; omega))))
      refine ⟨⟨k + 1, by omega⟩, dec_lt (by omega), ent_of ?_⟩
      repeat' first
        | fail
        | exact True.intro
        | exact rfl
        | exact id
        | exact leRs_refl _
        | ((conv => whnf); with_reducible refine And.intro ?_ ?_)
        | ((conv => whnf); exact True.intro)
      all_goals try (conv => whnf)
      all_goals (rw [wrapU (by omega) (by omega)]; omega)
  · rw [hadFrom_end l from_ behind k (by simpa using hc)]
    repeat' first
      | fail
      | exact True.intro
      | exact rfl
      | exact id
      | exact leRs_refl _
      | ((conv => whnf); with_reducible refine And.intro ?_ ?_)
      | ((conv => whnf); exact True.intro)
    all_goals try (conv => whnf)
theorem fn_had : FnOk Try.prog 100 Try.f100 := ⟨Try.func100, by kernel_rfl, by kernel_rfl, by kernel_rfl⟩
theorem had_c (l : Lg) (from_ : Pl) (behind : Int) : PCx Try.prog 100 [.agg l.c, .agg from_.c, uu behind] (.fn (.func 132) [] [.eptr l.c 0, .eptr [uu behind] 0, .eptr from_.c 0]) := by
  refine PC.le ?_
  refine PC_of_VC tabOk (draw_ok mixed tabOk) fn_had rfl ?_
  repeat' ((conv => whnf)
           first
           | with_reducible refine (Or.inl ?_ : VC _ _ _ _ _ ∨ _)
           | ((with_reducible refine (⟨fun hc => ?_, fun hc => ?_⟩ : (_ = true → _) ∧ (_ = false → _))) <;> first | exact absurd hc (by decide) | (exfalso; simp only [*, reduceCtorEq] at hc; done) | skip)
           | ((with_reducible refine And.intro ?_ ?_); focus (first | rfl | exact Nat.le_of_ble_eq_true rfl | omega | (simp only [List.length_cons, List.length_nil, List.length_map, List.length_append]; omega))))
  repeat' first
    | fail
    | exact True.intro
    | exact rfl
    | exact id
    | exact leRs_refl _
    | ((conv => whnf); with_reducible refine And.intro ?_ ?_)
    | ((conv => whnf); exact True.intro)
  all_goals try (conv => whnf)
theorem fn_appendSeqU : FnOk Try.prog 131 Try.f131 := ⟨Try.func131, by kernel_rfl, by kernel_rfl, by kernel_rfl⟩
theorem appendSeqU_c (f : FuncId) (caps : List PV) (xs : List Int) (h : SeqC Try.prog f caps (xs.map fun n => [uu n])) (hl : xs.length ≤ 1000000) : PCx Try.prog 131 [nilS, .fn (.func f) [] caps] (slU xs) := by
  refine PC.le ?_
  refine PC_of_VC tabOk (draw_ok mixed tabOk) fn_appendSeqU rfl ?_
  repeat' ((conv => whnf)
           first
           | with_reducible refine (Or.inl ?_ : VC _ _ _ _ _ ∨ _)
           | ((with_reducible refine (⟨fun hc => ?_, fun hc => ?_⟩ : (_ = true → _) ∧ (_ = false → _))) <;> first | exact absurd hc (by decide) | (exfalso; simp only [*, reduceCtorEq] at hc; done) | skip)
           | ((with_reducible refine And.intro ?_ ?_); focus (first | rfl | exact Nat.le_of_ble_eq_true rfl | omega | (simp only [List.length_cons, List.length_nil, List.length_map, List.length_append]; omega))))
  refine ⟨f, caps, _, h, Unit, fun _ _ => True, fun k _ => match k with
    | 0 => ⟨[(0, .pv nilS), (1, .pv (.fn (.func f) [] caps)), (2, .ptr 501 0), (4, .pv nilS), (6, .pv (.fn (.func f) [] caps))], 1000000000, [(501, .var [.pv nilS])]⟩
    | k + 1 => ⟨[(0, .pv nilS), (1, .pv (.fn (.func f) [] caps)), (2, .ptr 501 0), (4, .pv nilS), (6, .pv (.fn (.func f) [] caps))], 1000000000, [(501, .var [.slw 1502 0]), (1502, .arr 22 0 1 ((xs.take (k + 1)).map uRow))]⟩, ⟨(), ent_of ?_⟩, fun _ => rfl, fun k _ => by cases k <;> rfl, ?_, ?_⟩
  · repeat' first
      | fail
      | exact True.intro
      | exact rfl
      | exact id
      | exact leRs_refl _
      | ((conv => whnf); with_reducible refine And.intro ?_ ?_)
      | ((conv => whnf); exact True.intro)
    all_goals try (conv => whnf)
  · intro k x _ hx
    have hk : k < xs.length := by simpa using (List.getElem?_eq_some_iff.1 hx).1
    have hx : x = [uu xs[k]] := by
      have := (List.getElem?_eq_some_iff.1 hx).2
      simpa using this.symm
    subst hx
    cases k with
    | zero =>
      (conv => whnf)
      intro _
      repeat' ((conv => whnf)
               first
               | with_reducible refine (Or.inl ?_ : VC _ _ _ _ _ ∨ _)
               | ((with_reducible refine (⟨fun hc => ?_, fun hc => ?_⟩ : (_ = true → _) ∧ (_ = false → _))) <;> first | exact absurd hc (by decide) | (exfalso; simp only [*, reduceCtorEq] at hc; done) | skip)
               | ((with_reducible refine And.intro ?_ ?_); focus (first | rfl | exact Nat.le_of_ble_eq_true rfl | omega | (simp only [List.length_cons, List.length_nil, List.length_map, List.length_append]; omega))))
      refine ⟨(), trivial, ent_of ?_⟩
      repeat' first
        | fail
        | exact True.intro
        | exact rfl
        | exact id
        | exact leRs_refl _
        | ((conv => whnf); with_reducible refine And.intro ?_ ?_)
        | ((conv => whnf); exact True.intro)
      all_goals try (conv => whnf)
      refine leRs_of_eq ?_
      cases xs with
      | nil => simp at hk
      | cons x r => rfl
    | succ k =>
      (conv => whnf)
      intro _
      repeat' ((conv => whnf)
               first
               | with_reducible refine (Or.inl ?_ : VC _ _ _ _ _ ∨ _)
               | ((with_reducible refine (⟨fun hc => ?_, fun hc => ?_⟩ : (_ = true → _) ∧ (_ = false → _))) <;> first | exact absurd hc (by decide) | (exfalso; simp only [*, reduceCtorEq] at hc; done) | skip)
               | (((with_reducible refine And.intro ?_ ?_); focus (simp only [List.length_map, List.length_take, List.length_cons, List.length_nil]; omega)))
               | ((with_reducible refine And.intro ?_ ?_); focus (first | rfl | exact Nat.le_of_ble_eq_true rfl | omega | (simp only [List.length_cons, List.length_nil, List.length_map, List.length_append]; omega))))
      refine ⟨(), trivial, ent_of ?_⟩
      repeat' first
        | fail
        | exact True.intro
        | exact rfl
        | exact id
        | exact leRs_refl _
        | ((conv => whnf); with_reducible refine And.intro ?_ ?_)
        | ((conv => whnf); exact True.intro)
      all_goals try (conv => whnf)
      refine leRs_of_eq ?_
      rw [List.take_succ_eq_append_getElem hk, List.map_append]
      rfl
  · intro _ _
    rw [List.length_map]
    cases xs with
    | nil =>
      repeat' ((conv => whnf)
               first
               | with_reducible refine (Or.inl ?_ : VC _ _ _ _ _ ∨ _)
               | ((with_reducible refine (⟨fun hc => ?_, fun hc => ?_⟩ : (_ = true → _) ∧ (_ = false → _))) <;> first | exact absurd hc (by decide) | (exfalso; simp only [*, reduceCtorEq] at hc; done) | skip)
               | ((with_reducible refine And.intro ?_ ?_); focus (first | rfl | exact Nat.le_of_ble_eq_true rfl | omega | (simp only [List.length_cons, List.length_nil, List.length_map, List.length_append]; omega))))
      repeat' first
        | fail
        | exact True.intro
        | exact rfl
        | exact id
        | exact leRs_refl _
        | ((conv => whnf); with_reducible refine And.intro ?_ ?_)
        | ((conv => whnf); exact True.intro)
      all_goals try (conv => whnf)
    | cons x r =>
      repeat' ((conv => whnf)
               first
               | with_reducible refine (Or.inl ?_ : VC _ _ _ _ _ ∨ _)
               | ((with_reducible refine (⟨fun hc => ?_, fun hc => ?_⟩ : (_ = true → _) ∧ (_ = false → _))) <;> first | exact absurd hc (by decide) | (exfalso; simp only [*, reduceCtorEq] at hc; done) | skip)
               | ((with_reducible refine And.intro ?_ ?_); focus (first | rfl | exact Nat.le_of_ble_eq_true rfl | omega | (simp only [List.length_cons, List.length_nil, List.length_map, List.length_append]; omega))))
      repeat' first
        | fail
        | exact True.intro
        | exact rfl
        | exact id
        | exact leRs_refl _
        | ((conv => whnf); with_reducible refine And.intro ?_ ?_)
        | ((conv => whnf); exact True.intro)
      all_goals try (conv => whnf)
      rw [List.take_length]
      exact leRs_refl _
end Go.Proofs.Ytibbgchpgfpccaa.Tb
