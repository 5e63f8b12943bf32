/-
  Contracts of functions of the program and of the document, each for every input that its premises name.
-/
import Derived.Test.YtibbgchpgfpccaaGN
import Derived.Test.YtibbgchpgfpccaaGO
import Derived.Test.YtibbgchpgfpccaaAd
set_option maxRecDepth 100000
set_option maxHeartbeats 4000000
set_option linter.unusedVariables false
set_option linter.unusedSimpArgs false
open Go Go.AX
namespace Go.Proofs.Ytibbgchpgfpccaa.Tb
def rightB (is : Bool) (c : Cp) (l : Lg) (r : Rq) : Bool :=
  if !is || (r.ledger != l.id || r.to == c.from_) then false
  else if r.kind == 3 then (setOf l.frags l.w r.n).any (· == r.to)
  else r.kind == 1 && (r.to == c.to && (r.copy == 1 && decide (r.body = bodyL r.n)))
theorem fn_l18right : FnOk Try.prog 34 Try.f34 := ⟨Try.func34, by kernel_rfl, by kernel_rfl, by kernel_rfl⟩
theorem l18right_c (c : Cp) (l : Lg) (r : Rq) (hlr : -9223372036854775808 ≤ l.closed ∧ l.closed ≤ 9223372036854775807 ∧ 0 ≤ l.last) (hf : frsOk l.frags) (hn : u64R r.n) :
    PCx Try.prog 34 [.agg c.c, .agg l.c, .agg r.c] (bl (rightC c l r)) := by
  refine PC.le ?_
  have hlen := hadL_len l c.from_ 0 (by omega)
  have hhad := r18Had_c l c.from_ hlr hf
  have e : rightC c l r = rightB ((hadL l c.from_ 0).any (· == r.n)) c l r := rfl
  rw [e]
  clear e
  generalize hadL l c.from_ 0 = L at *
  obtain ⟨X, hX⟩ : ∃ X, X = rightB (L.any (· == r.n)) c l r := ⟨_, rfl⟩
  rw [← hX]
  refine PC_of_VC tabOk (draw_ok mixed tabOk) fn_l18right rfl ?_
  repeat' ((conv => whnf)
           first
           | with_reducible refine (Or.inl ?_ : VC _ _ _ _ _ ∨ _)
           | ((with_reducible refine (⟨fun hc => ?_, fun hc => ?_⟩ : (_ = true → _) ∧ (_ = false → _))) <;> first | exact absurd hc (by decide) | (exfalso; simp only [*, reduceCtorEq] at hc; done) | skip)
           | (refine Or.inl ?_; (conv => whnf); refine ⟨_, hhad, ?_⟩)
           | ((with_reducible refine And.intro ?_ ?_); focus (first | rfl | exact Nat.le_of_ble_eq_true rfl | omega | (simp only [List.length_cons, List.length_nil, List.length_map, List.length_append]; omega))))
  refine ⟨{k : Nat // k ≤ L.length}, fun ⟨k, _⟩ => ⟨[(3, .ptr 1003 0), (4, .ptr 1004 0), (5, .ptr 1005 0), (7, .pv (slU L)), (8, .pv (bl ((L.take k).any (· == r.n)))), (9, .pv (ii k))], 1000000000, [(1003, .var (c.c.map .pv)), (1004, .var (l.c.map .pv)), (1005, .var (r.c.map .pv))]⟩, fun ⟨k, _⟩ => L.length - k, ⟨⟨0, by simp⟩, ent_of ?_⟩, ?_⟩
  · repeat' first
      | fail
      | exact True.intro
      | exact rfl
      | exact id
      | exact leRs_refl _
      | ((conv => whnf); with_reducible refine And.intro ?_ ?_)
      | ((conv => whnf); exact True.intro)
    all_goals try (conv => whnf)
    all_goals simp
  rintro ⟨k, hk⟩
  by_cases hlt : k < L.length
  · have d0 : decide ((k : Int) < ((List.map uRow L).length : Int)) = true := by rw [List.length_map]; simp only [decide_eq_true_eq]; omega
    have ea := any_take_succ (· == r.n) L k hlt
    have eW : IntKind.i64.wrap ((k : Int) + 1) = ((k + 1 : Nat) : Int) := by rw [wrapI (by omega) (by omega)]; omega
    repeat' ((conv => whnf)
             first
             | with_reducible refine (Or.inl ?_ : VC _ _ _ _ _ ∨ _)
             | ((with_reducible refine (⟨fun hc => ?_, fun hc => ?_⟩ : (_ = true → _) ∧ (_ = false → _))) <;> first | exact absurd hc (by decide) | (exfalso; simp only [*, reduceCtorEq] at hc; done) | skip)
             | ((refine ⟨_, rowK _ _ _ hlt, ?_⟩))
             | ((with_reducible refine And.intro ?_ ?_); focus (first | rfl | exact Nat.le_of_ble_eq_true rfl | omega | (simp only [List.length_cons, List.length_nil, List.length_map, List.length_append]; omega))))
    all_goals
      refine ⟨⟨k + 1, hlt⟩, dec_lt hlt, ent_of ?_⟩
      repeat' first
        | fail
        | exact True.intro
        | exact rfl
        | exact id
        | exact leRs_refl _
        | ((conv => whnf); with_reducible refine And.intro ?_ ?_)
        | ((conv => whnf); exact True.intro)
      all_goals try (conv => whnf)
      all_goals first
        | exact eW
        | (rw [ea, hc]; simp)
  · have hke : k = L.length := by omega
    subst hke
    have d0 : decide ((L.length : Int) < ((List.map uRow L).length : Int)) = false := by rw [List.length_map]; simp
    repeat' ((conv => whnf)
             first
             | with_reducible refine (Or.inl ?_ : VC _ _ _ _ _ ∨ _)
             | ((with_reducible refine (⟨fun hc => ?_, fun hc => ?_⟩ : (_ = true → _) ∧ (_ = false → _))) <;> first | exact absurd hc (by decide) | (exfalso; simp only [*, reduceCtorEq] at hc; done) | skip)
             | (refine Or.inl ?_; (conv => whnf); refine ⟨_, r14Set_c _ _ _ hf hn, ?_⟩)
             | (refine Or.inl ?_; (conv => whnf); refine ⟨_, r18In_c _ _ _, ?_⟩)
             | (refine Or.inl ?_; (conv => whnf); refine ⟨_, l18body_c _ hn, ?_⟩)
             | ((refine ⟨_, rfl, ?_⟩))
             | ((with_reducible refine And.intro ?_ ?_); focus (first | rfl | exact Nat.le_of_ble_eq_true rfl | omega | (simp only [List.length_cons, List.length_nil, List.length_map, List.length_append]; omega))))
    all_goals try simp only [Pl.beq, List.take_length] at *
    all_goals
      simp only [rightB, *, Bool.true_or, Bool.or_true, Bool.false_or, Bool.or_false, Bool.true_and, Bool.and_true, Bool.false_and, Bool.and_false, Bool.not_true, Bool.not_false, Bool.false_eq_true, ↓reduceIte] at hX
      subst hX
      repeat' first
        | exact True.intro
        | exact rfl
        | exact id
        | exact leRs_refl _
        | ((conv => whnf); with_reducible refine And.intro ?_ ?_)
        | ((conv => whnf); exact True.intro)
    all_goals
      repeat' first
        | fail
        | exact True.intro
        | exact rfl
        | exact id
        | exact leRs_refl _
        | ((conv => whnf); with_reducible refine And.intro ?_ ?_)
        | ((conv => whnf); exact True.intro)
      all_goals try (conv => whnf)
      first
        | (rw [ByteArray.toList_mk, ByteArray.toList_mk, ← beq_eq_decide]; done)
        | (simp only [ByteArray.toList_mk]; rw [Bool.eq_iff_iff]; simp)
end Go.Proofs.Ytibbgchpgfpccaa.Tb
