/-
  Contracts of functions of the program and of the document, each for every input that its premises name.
-/
import Derived.Test.YtibbgchpgfpccaaGB
set_option maxRecDepth 100000
set_option maxHeartbeats 4000000
set_option linter.unusedVariables false
set_option linter.unusedSimpArgs false
open Go Go.AX
namespace Go.Proofs.Ytibbgchpgfpccaa.Tb
theorem fn_collectU : FnOk Try.prog 99 Try.f99 := ⟨Try.func99, by kernel_rfl, by kernel_rfl, by kernel_rfl⟩
theorem collectU_c (f : FuncId) (caps : List PV) (xs : List Int) (h : SeqC Try.prog f caps (xs.map fun n => [uu n])) (hl : xs.length ≤ 1000000) : PCx Try.prog 99 [.fn (.func f) [] caps] (slU xs) := by
  refine PC.le ?_
  refine PC_of_VC tabOk (draw_ok mixed tabOk) fn_collectU rfl ?_
  repeat' ((conv => whnf)
           first
           | with_reducible refine (Or.inl ?_ : VC _ _ _ _ _ ∨ _)
           | ((with_reducible refine (⟨fun hc => ?_, fun hc => ?_⟩ : (_ = true → _) ∧ (_ = false → _))) <;> first | exact absurd hc (by decide) | (exfalso; simp only [*, reduceCtorEq] at hc; done) | skip)
           | (refine Or.inl ?_; (conv => whnf); refine ⟨_, appendSeqU_c _ _ _ h hl, ?_⟩)
           | ((with_reducible refine And.intro ?_ ?_); focus (first | rfl | exact Nat.le_of_ble_eq_true rfl | omega | (simp only [List.length_cons, List.length_nil, List.length_map, List.length_append]; omega))))
  repeat' first
    | fail
    | exact True.intro
    | exact rfl
    | exact id
    | exact leRs_refl _
    | ((conv => whnf); with_reducible refine And.intro ?_ ?_)
    | ((conv => whnf); exact True.intro)
  all_goals try (conv => whnf)
theorem hadL_len (l : Lg) (from_ : Pl) (behind : Int) (hb : 0 ≤ behind) : (hadL l from_ behind).length ≤ 8 := by
  unfold hadL
  split
  · rename_i h
    have hcl : cClosed l = true := by simp only [Bool.and_eq_true] at h; exact h.1
    have hlast : l.last ≤ 8 := by
      unfold cClosed at hcl
      simp only [Bool.and_eq_true, beq_iff_eq] at hcl
      have h8 := hcl.1
      unfold mayLg at h8
      simp only [Bool.and_eq_true, decide_eq_true_eq] at h8
      have := h8.2.2.2.2.2
      omega
    unfold hadFrom
    refine Nat.le_trans (List.length_filter_le _ _) ?_
    simp; omega
  · simp
theorem fn_cHad : FnOk Try.prog 59 Try.f59 := ⟨Try.func59, by kernel_rfl, by kernel_rfl, by kernel_rfl⟩
theorem cHad_c (l : Lg) (from_ : Pl) (h : l.ok) (hf : frsOk l.frags) : PCx Try.prog 59 [.agg l.c, .agg from_.c] (slU (hadL l from_ 0)) := by
  refine PC.le ?_
  refine PC_of_VC tabOk (draw_ok mixed tabOk) fn_cHad rfl ?_
  repeat' ((conv => whnf)
           first
           | with_reducible refine (Or.inl ?_ : VC _ _ _ _ _ ∨ _)
           | ((with_reducible refine (⟨fun hc => ?_, fun hc => ?_⟩ : (_ = true → _) ∧ (_ = false → _))) <;> first | exact absurd hc (by decide) | (exfalso; simp only [*, reduceCtorEq] at hc; done) | skip)
           | (refine Or.inl ?_; (conv => whnf); refine ⟨_, had_c _ _ _, ?_⟩)
           | (refine Or.inl ?_; (conv => whnf); refine ⟨_, collectU_c _ _ _ (had1_s l from_ 0 h hf (by omega)) (by have := hadL_len l from_ 0 (by omega); omega), ?_⟩)
           | ((with_reducible refine And.intro ?_ ?_); focus (first | rfl | exact Nat.le_of_ble_eq_true rfl | omega | (simp only [List.length_cons, List.length_nil, List.length_map, List.length_append]; omega))))
  repeat' first
    | fail
    | exact True.intro
    | exact rfl
    | exact id
    | exact leRs_refl _
    | ((conv => whnf); with_reducible refine And.intro ?_ ?_)
    | ((conv => whnf); exact True.intro)
  all_goals try (conv => whnf)
theorem fn_others1 : FnOk Try.prog 108 Try.f108 := ⟨Try.func108, by kernel_rfl, by kernel_rfl, by kernel_rfl⟩
theorem others1_c (c : Cp) (x : Pl) : PCx Try.prog 108 ([] ++ ([.agg x.c] ++ [.eptr c.c 0])) (bl (x == c.from_)) := by
  refine PC.le ?_
  refine PC_of_VC tabOk (draw_ok mixed tabOk) fn_others1 rfl ?_
  repeat' ((conv => whnf)
           first
           | with_reducible refine (Or.inl ?_ : VC _ _ _ _ _ ∨ _)
           | ((with_reducible refine (⟨fun hc => ?_, fun hc => ?_⟩ : (_ = true → _) ∧ (_ = false → _))) <;> first | exact absurd hc (by decide) | (exfalso; simp only [*, reduceCtorEq] at hc; done) | skip)
           | ((with_reducible refine And.intro ?_ ?_); focus (first | rfl | exact Nat.le_of_ble_eq_true rfl | omega | (simp only [List.length_cons, List.length_nil, List.length_map, List.length_append]; omega))))
  repeat' first
    | fail
    | exact True.intro
    | exact rfl
    | exact id
    | exact leRs_refl _
    | ((conv => whnf); with_reducible refine And.intro ?_ ?_)
    | ((conv => whnf); exact True.intro)
  all_goals try (conv => whnf)
  rw [← Pl.beq]
theorem fn_fits : FnOk Try.prog 63 Try.f63 := ⟨Try.func63, by kernel_rfl, by kernel_rfl, by kernel_rfl⟩
theorem fits_c (l : Lg) (from_ to : Pl) : PCx Try.prog 63 [.agg l.c, .agg from_.c, .agg to.c] (bl (cFits l from_ to)) := by
  refine PC.le (PC_bd fn_fits fun hb => ?_)
  have hb : l.frags.length ≤ 9223372036854775807 := by simp [bdL, bdP, Lg.c, slF] at hb; omega
  refine PC_of_VC tabOk (draw_ok mixed tabOk) fn_fits rfl ?_
  repeat' ((conv => whnf)
           first
           | with_reducible refine (Or.inl ?_ : VC _ _ _ _ _ ∨ _)
           | ((with_reducible refine (⟨fun hc => ?_, fun hc => ?_⟩ : (_ = true → _) ∧ (_ = false → _))) <;> first | exact absurd hc (by decide) | (exfalso; simp only [*, reduceCtorEq] at hc; done) | skip)
           | ((with_reducible refine And.intro ?_ ?_); focus (first | rfl | exact Nat.le_of_ble_eq_true rfl | omega | (simp only [List.length_cons, List.length_nil, List.length_map, List.length_append]; omega))))
  refine ⟨{k : Nat // k ≤ l.frags.length ∧ ∀ j (hj : j < l.frags.length), j < k → (l.frags[j].bookies.any (· == from_) && hasOther l.frags[j].bookies from_ to) = false}, fun ⟨k, _⟩ => ⟨[(3, .ptr 1003 0), (4, .ptr 1004 0), (5, .ptr 1005 0), (6, .pv (bl false)), (7, .pv (bl ((l.frags.take k).any fun f => f.bookies.any (· == from_)))), (11, .pv (slF l.frags)), (12, .pv (ii l.frags.length)), (13, .pv (ii k))], 1000000000, [(1003, .var [.pv (uu l.id), .pv (ii l.w), .pv (ii l.a), .pv (slF l.frags), .pv (ii l.closed), .pv (uu l.last)]), (1004, .rov from_.c), (1005, .rov to.c)]⟩, fun ⟨k, _⟩ => l.frags.length - k, ⟨⟨0, by simp⟩, ent_frz [2001, 2002] ?_⟩, ?_⟩
  · repeat' first
      | fail
      | exact True.intro
      | exact rfl
      | exact id
      | exact leRs_refl _
      | ((conv => whnf); with_reducible refine And.intro ?_ ?_)
      | ((conv => whnf); exact True.intro)
    all_goals try (conv => whnf)
    all_goals simp
  rintro ⟨k, hk, hn⟩
  repeat' ((conv => whnf)
           first
           | with_reducible refine (Or.inl ?_ : VC _ _ _ _ _ ∨ _)
           | ((with_reducible refine (⟨fun hc => ?_, fun hc => ?_⟩ : (_ = true → _) ∧ (_ = false → _))) <;> first | exact absurd hc (by decide) | (exfalso; simp only [*, reduceCtorEq] at hc; done) | skip)
           | ((with_reducible refine And.intro ?_ ?_); focus (first | rfl | exact Nat.le_of_ble_eq_true rfl | omega | (simp only [List.length_cons, List.length_nil, List.length_map, List.length_append]; omega))))
  · have hlt : k < l.frags.length := by simpa using hc
    refine ⟨_, rowK _ _ _ hlt, ?_⟩
    repeat' ((conv => whnf)
             first
             | with_reducible refine (Or.inl ?_ : VC _ _ _ _ _ ∨ _)
             | ((with_reducible refine (⟨fun hc => ?_, fun hc => ?_⟩ : (_ = true → _) ∧ (_ = false → _))) <;> first | exact absurd hc (by decide) | (exfalso; simp only [*, reduceCtorEq] at hc; done) | skip)
             | (refine Or.inl ?_; (conv => whnf); refine ⟨_, containsPlace_c _ _ _, ?_⟩)
             | (refine Or.inl ?_; (conv => whnf); refine ⟨_, containsFuncPlace_c _ _ _ _ _ fun x _ => fits1_c to from_ x, ?_⟩)
             | ((with_reducible refine And.intro ?_ ?_); focus (first | rfl | exact Nat.le_of_ble_eq_true rfl | omega | (simp only [List.length_cons, List.length_nil, List.length_map, List.length_append]; omega))))
    · have hq : (l.frags[k].bookies.any (· == from_)) = false := by simpa using hc
      repeat' ((conv => whnf)
               first
               | with_reducible refine (Or.inl ?_ : VC _ _ _ _ _ ∨ _)
               | ((with_reducible refine (⟨fun hc => ?_, fun hc => ?_⟩ : (_ = true → _) ∧ (_ = false → _))) <;> first | exact absurd hc (by decide) | (exfalso; simp only [*, reduceCtorEq] at hc; done) | skip)
               | ((with_reducible refine And.intro ?_ ?_); focus (first | rfl | exact Nat.le_of_ble_eq_true rfl | omega | (simp only [List.length_cons, List.length_nil, List.length_map, List.length_append]; omega))))
      refine ⟨⟨k + 1, hlt, step_lt hn fun _ => by rw [hq]; rfl⟩, dec_lt hlt, ent_of ?_⟩
      repeat' first
        | fail
        | exact True.intro
        | exact rfl
        | exact id
        | exact leRs_refl _
        | ((conv => whnf); with_reducible refine And.intro ?_ ?_)
        | ((conv => whnf); exact True.intro)
      all_goals try (conv => whnf)
      · rw [any_take_succ _ _ _ hlt, hq, Bool.or_false]
      · exact wrapI (by omega) (by omega)
    · repeat' ((conv => whnf)
               first
               | with_reducible refine (Or.inl ?_ : VC _ _ _ _ _ ∨ _)
               | ((with_reducible refine (⟨fun hc => ?_, fun hc => ?_⟩ : (_ = true → _) ∧ (_ = false → _))) <;> first | exact absurd hc (by decide) | (exfalso; simp only [*, reduceCtorEq] at hc; done) | skip)
               | ((with_reducible refine And.intro ?_ ?_); focus (first | rfl | exact Nat.le_of_ble_eq_true rfl | omega | (simp only [List.length_cons, List.length_nil, List.length_map, List.length_append]; omega))))
      repeat' first
        | fail
        | exact True.intro
        | exact rfl
        | exact id
        | exact leRs_refl _
        | ((conv => whnf); with_reducible refine And.intro ?_ ?_)
        | ((conv => whnf); exact True.intro)
      all_goals try (conv => whnf)
      rename_i hq
      exact (cFits_no k hlt (by simpa using hq) hc).symm
    · have hq : hasOther l.frags[k].bookies from_ to = false := hc
      repeat' ((conv => whnf)
               first
               | with_reducible refine (Or.inl ?_ : VC _ _ _ _ _ ∨ _)
               | ((with_reducible refine (⟨fun hc => ?_, fun hc => ?_⟩ : (_ = true → _) ∧ (_ = false → _))) <;> first | exact absurd hc (by decide) | (exfalso; simp only [*, reduceCtorEq] at hc; done) | skip)
               | ((with_reducible refine And.intro ?_ ?_); focus (first | rfl | exact Nat.le_of_ble_eq_true rfl | omega | (simp only [List.length_cons, List.length_nil, List.length_map, List.length_append]; omega))))
      refine ⟨⟨k + 1, hlt, step_lt hn fun _ => by rw [hq]; simp⟩, dec_lt hlt, ent_of ?_⟩
      rename_i hp
      have hp : (l.frags[k].bookies.any (· == from_)) = true := by simpa using hp
      repeat' first
        | fail
        | exact True.intro
        | exact rfl
        | exact id
        | exact leRs_refl _
        | ((conv => whnf); with_reducible refine And.intro ?_ ?_)
        | ((conv => whnf); exact True.intro)
      all_goals try (conv => whnf)
      · rw [any_take_succ _ _ _ hlt, hp, Bool.or_true]
      · exact wrapI (by omega) (by omega)
  all_goals
    rename_i hke
    have : k = l.frags.length := by simp at hke; omega
    subst this
    rw [cFits_yes fun j hj => hn j hj hj]
    rw [List.take_length] at *
    repeat' first
      | fail
      | exact True.intro
      | exact rfl
      | exact id
      | exact leRs_refl _
      | ((conv => whnf); with_reducible refine And.intro ?_ ?_)
      | ((conv => whnf); exact True.intro)
    all_goals try (conv => whnf)
    rw [hc]
    first | rfl | (rw [Bool.true_and, bne, Pl.beq]) | simp
theorem askReq_eq : True := trivial
end Go.Proofs.Ytibbgchpgfpccaa.Tb
