/-
  Contracts of functions of the program and of the document, each for every input that its premises name.
-/
import Derived.Test.YtibbgchpgfpccaaGC
import Derived.Test.YtibbgchpgfpccaaAd
set_option maxRecDepth 100000
set_option maxHeartbeats 4000000
set_option linter.unusedVariables false
set_option linter.unusedSimpArgs false
open Go Go.AX
namespace Go.Proofs.Ytibbgchpgfpccaa.Tb
theorem fn_l18place : FnOk Try.prog 60 Try.f60 := ⟨Try.func60, by kernel_rfl, by kernel_rfl, by kernel_rfl⟩
theorem l18place_c (a b : Int) : PCx Try.prog 60 [ii a, uu b] (.agg [ii a, uu b]) := by
  refine PC.le ?_
  refine PC_of_VC tabOk (draw_ok mixed tabOk) fn_l18place rfl ?_
  repeat' ((conv => whnf)
           first
           | with_reducible refine (Or.inl ?_ : VC _ _ _ _ _ ∨ _)
           | ((with_reducible refine (⟨fun hc => ?_, fun hc => ?_⟩ : (_ = true → _) ∧ (_ = false → _))) <;> first | exact absurd hc (by decide) | (exfalso; simp only [*, reduceCtorEq] at hc; done) | skip)
           | ((with_reducible refine And.intro ?_ ?_); focus (first | rfl | exact Nat.le_of_ble_eq_true rfl | omega | (simp only [List.length_cons, List.length_nil, List.length_map, List.length_append]; omega))))
  repeat' first
    | fail
    | exact True.intro
    | exact rfl
    | exact id
    | exact leRs_refl _
    | ((conv => whnf); with_reducible refine And.intro ?_ ?_)
    | ((conv => whnf); exact True.intro)
  all_goals try (conv => whnf)
theorem fn_l18example : FnOk Try.prog 58 Try.f58 := ⟨Try.func58, by kernel_rfl, by kernel_rfl, by kernel_rfl⟩
def ex18 : Lg := ⟨1, 2, 2, [⟨1, [⟨7, 1⟩, ⟨8, 1⟩, ⟨9, 1⟩]⟩], 1, 3⟩
theorem l18example_c : PCx Try.prog 58 [] (.agg ex18.c) := by
  refine PC.le ?_
  refine PC_of_VC tabOk (draw_ok mixed tabOk) fn_l18example rfl ?_
  repeat' ((conv => whnf)
           first
           | with_reducible refine (Or.inl ?_ : VC _ _ _ _ _ ∨ _)
           | ((with_reducible refine (⟨fun hc => ?_, fun hc => ?_⟩ : (_ = true → _) ∧ (_ = false → _))) <;> first | exact absurd hc (by decide) | (exfalso; simp only [*, reduceCtorEq] at hc; done) | skip)
           | (refine Or.inl ?_; (conv => whnf); refine ⟨_, l18place_c _ _, ?_⟩)
           | ((with_reducible refine And.intro ?_ ?_); focus (first | rfl | exact Nat.le_of_ble_eq_true rfl | omega | (simp only [List.length_cons, List.length_nil, List.length_map, List.length_append]; omega))))
  repeat' first
    | fail
    | exact True.intro
    | exact rfl
    | exact id
    | exact leRs_refl _
    | ((conv => whnf); with_reducible refine And.intro ?_ ?_)
    | ((conv => whnf); exact True.intro)
  all_goals try (conv => whnf)
theorem fn_l18says : FnOk Try.prog 62 Try.f62 := ⟨Try.func62, by kernel_rfl, by kernel_rfl, by kernel_rfl⟩
theorem l18says_c (p : Pl) (k code n : Int) (s : ByteArray) (h : s.size ≤ 140737488355328) : PCx Try.prog 62 [.agg p.c, ii k, ii code, uu n, .sc (.string s)] (.agg (Rs.c ⟨p, k, code, 1, n, 0, 0, s.data.toList⟩)) := by
  refine PC.le ?_
  refine PC_of_VC tabOk (draw_ok mixed tabOk) fn_l18says rfl ?_
  repeat' ((conv => whnf)
           first
           | with_reducible refine (Or.inl ?_ : VC _ _ _ _ _ ∨ _)
           | ((with_reducible refine (⟨fun hc => ?_, fun hc => ?_⟩ : (_ = true → _) ∧ (_ = false → _))) <;> first | exact absurd hc (by decide) | (exfalso; simp only [*, reduceCtorEq] at hc; done) | skip)
           | (((with_reducible refine And.intro ?_ ?_); focus exact h))
           | ((with_reducible refine And.intro ?_ ?_); focus (first | rfl | exact Nat.le_of_ble_eq_true rfl | omega | (simp only [List.length_cons, List.length_nil, List.length_map, List.length_append]; omega))))
  repeat' first
    | fail
    | exact True.intro
    | exact rfl
    | exact id
    | exact leRs_refl _
    | ((conv => whnf); with_reducible refine And.intro ?_ ?_)
    | ((conv => whnf); exact True.intro)
  all_goals try (conv => whnf)
theorem fn_find1 : FnOk Try.prog 102 Try.f102 := ⟨Try.func102, by kernel_rfl, by kernel_rfl, by kernel_rfl⟩
theorem find1_c (known : List Pl) (l : Lg) (old q : Pl) : PCx Try.prog 102 ([] ++ ([.agg q.c] ++ [.eptr [slP known] 0, .eptr l.c 0, .eptr old.c 0])) (bl (!cGone q known && cFits l old q)) := by
  refine PC.le ?_
  refine PC_of_VC tabOk (draw_ok mixed tabOk) fn_find1 rfl ?_
  repeat' ((conv => whnf)
           first
           | with_reducible refine (Or.inl ?_ : VC _ _ _ _ _ ∨ _)
           | ((with_reducible refine (⟨fun hc => ?_, fun hc => ?_⟩ : (_ = true → _) ∧ (_ = false → _))) <;> first | exact absurd hc (by decide) | (exfalso; simp only [*, reduceCtorEq] at hc; done) | skip)
           | (refine Or.inl ?_; (conv => whnf); refine ⟨_, gone_c _ _, ?_⟩)
           | (refine Or.inl ?_; (conv => whnf); refine ⟨_, fits_c _ _ _, ?_⟩)
           | ((with_reducible refine And.intro ?_ ?_); focus (first | rfl | exact Nat.le_of_ble_eq_true rfl | omega | (simp only [List.length_cons, List.length_nil, List.length_map, List.length_append]; omega))))
  all_goals
    repeat' first
      | fail
      | exact True.intro
      | exact rfl
      | exact id
      | exact leRs_refl _
      | ((conv => whnf); with_reducible refine And.intro ?_ ?_)
      | ((conv => whnf); exact True.intro)
    all_goals try (conv => whnf)
    simp_all
theorem fn_l18heavy : FnOk Try.prog 27 Try.f27 := ⟨Try.func27, by kernel_rfl, by kernel_rfl, by kernel_rfl⟩
def heavyL (l : Lg) : Bool := decide (l.frags.length > 50) || l.frags.any fun f => decide ((f.bookies.length : Int) > 50)
theorem l18heavy_c (l : Lg) : PCx Try.prog 27 [.agg l.c] (bl (heavyL l)) := by
  refine PC.le (PC_bd fn_l18heavy fun hb => ?_)
  have hb : l.frags.length ≤ 9223372036854775807 := by simp [bdL, bdP, Lg.c, slF] at hb; omega
  refine PC_of_VC tabOk (draw_ok mixed tabOk) fn_l18heavy rfl ?_
  repeat' ((conv => whnf)
           first
           | with_reducible refine (Or.inl ?_ : VC _ _ _ _ _ ∨ _)
           | ((with_reducible refine (⟨fun hc => ?_, fun hc => ?_⟩ : (_ = true → _) ∧ (_ = false → _))) <;> first | exact absurd hc (by decide) | (exfalso; simp only [*, reduceCtorEq] at hc; done) | skip)
           | ((with_reducible refine And.intro ?_ ?_); focus (first | rfl | exact Nat.le_of_ble_eq_true rfl | omega | (simp only [List.length_cons, List.length_nil, List.length_map, List.length_append]; omega))))
  · repeat' first
      | fail
      | exact True.intro
      | exact rfl
      | exact id
      | exact leRs_refl _
      | ((conv => whnf); with_reducible refine And.intro ?_ ?_)
      | ((conv => whnf); exact True.intro)
    all_goals try (conv => whnf)
    simp only [List.length_map, decide_eq_true_eq] at hc
    simp only [heavyL]
    grind
  have h0 : decide (l.frags.length > 50) = false := by simp at hc ⊢; omega
  refine ⟨{k : Nat // k ≤ l.frags.length ∧ ∀ j (hj : j < l.frags.length), j < k → decide ((l.frags[j].bookies.length : Int) > 50) = false}, fun ⟨k, _⟩ => ⟨[(1, .ptr 1001 0), (3, .pv (ii k))], 1000000000, [(1001, .var [.pv (uu l.id), .pv (ii l.w), .pv (ii l.a), .pv (slF l.frags), .pv (ii l.closed), .pv (uu l.last)])]⟩, fun ⟨k, _⟩ => l.frags.length - k, ⟨⟨0, by simp⟩, ent_of ?_⟩, ?_⟩
  · repeat' first
      | fail
      | exact True.intro
      | exact rfl
      | exact id
      | exact leRs_refl _
      | ((conv => whnf); with_reducible refine And.intro ?_ ?_)
      | ((conv => whnf); exact True.intro)
    all_goals try (conv => whnf)
  rintro ⟨k, hk, hn⟩
  repeat' ((conv => whnf)
           first
           | with_reducible refine (Or.inl ?_ : VC _ _ _ _ _ ∨ _)
           | ((with_reducible refine (⟨fun hc => ?_, fun hc => ?_⟩ : (_ = true → _) ∧ (_ = false → _))) <;> first | exact absurd hc (by decide) | (exfalso; simp only [*, reduceCtorEq] at hc; done) | skip)
           | ((with_reducible refine And.intro ?_ ?_); focus (first | rfl | exact Nat.le_of_ble_eq_true rfl | omega | (simp only [List.length_cons, List.length_nil, List.length_map, List.length_append]; omega))))
  · have hlt : k < l.frags.length := by simpa using hc
    refine ⟨_, rowK _ _ _ hlt, ?_⟩
    repeat' ((conv => whnf)
             first
             | with_reducible refine (Or.inl ?_ : VC _ _ _ _ _ ∨ _)
             | ((with_reducible refine (⟨fun hc => ?_, fun hc => ?_⟩ : (_ = true → _) ∧ (_ = false → _))) <;> first | exact absurd hc (by decide) | (exfalso; simp only [*, reduceCtorEq] at hc; done) | skip)
             | ((with_reducible refine And.intro ?_ ?_); focus (first | rfl | exact Nat.le_of_ble_eq_true rfl | omega | (simp only [List.length_cons, List.length_nil, List.length_map, List.length_append]; omega))))
    · repeat' first
        | fail
        | exact True.intro
        | exact rfl
        | exact id
        | exact leRs_refl _
        | ((conv => whnf); with_reducible refine And.intro ?_ ?_)
        | ((conv => whnf); exact True.intro)
      all_goals try (conv => whnf)
      have hh : decide ((l.frags[k].bookies.length : Int) > 50) = true := by simpa using hc
      have := List.any_eq_true.2 (⟨l.frags[k], List.getElem_mem hlt, hh⟩ : ∃ x ∈ l.frags, decide ((x.bookies.length : Int) > 50) = true)
      simp only [heavyL, this, Bool.or_true]
    · have hh : decide ((l.frags[k].bookies.length : Int) > 50) = false := by simpa using hc
      refine ⟨⟨k + 1, hlt, step_lt hn fun _ => hh⟩, dec_lt hlt, ent_of ?_⟩
      repeat' first
        | fail
        | exact True.intro
        | exact rfl
        | exact id
        | exact leRs_refl _
        | ((conv => whnf); with_reducible refine And.intro ?_ ?_)
        | ((conv => whnf); exact True.intro)
      all_goals try (conv => whnf)
      exact wrapI (by omega) (by omega)
  · repeat' first
      | fail
      | exact True.intro
      | exact rfl
      | exact id
      | exact leRs_refl _
      | ((conv => whnf); with_reducible refine And.intro ?_ ?_)
      | ((conv => whnf); exact True.intro)
    all_goals try (conv => whnf)
    have : k = l.frags.length := by simp at hc; omega
    subst this
    have := all_of (q := fun f : Fr => decide ((f.bookies.length : Int) > 50) = false) hn
    have : (l.frags.any fun f => decide ((f.bookies.length : Int) > 50)) = false := List.any_eq_false.2 fun x hx => by rw [this x hx]; simp
    simp only [heavyL, h0, this, Bool.or_self]
end Go.Proofs.Ytibbgchpgfpccaa.Tb
