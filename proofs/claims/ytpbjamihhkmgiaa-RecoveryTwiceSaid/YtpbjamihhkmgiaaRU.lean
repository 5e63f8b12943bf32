/-
  Contracts of functions of the program and of the document, each for every input that its premises name.
-/
import Derived.Test.YtpbjamihhkmgiaaRE
import Derived.Test.YtpbjamihhkmgiaaAe
set_option linter.unusedSectionVars false
set_option maxRecDepth 100000
set_option maxHeartbeats 4000000
set_option linter.unusedVariables false
set_option linter.unusedSimpArgs false
open Go Go.AX
namespace Go.Proofs.Ytpbjamihhkmgiaa.Tb
theorem fn_wAdded1 : FnOk Try.prog 47 Try.f47 := ⟨Try.func47, by kernel_rfl, by kernel_rfl, by kernel_rfl⟩
theorem fn_wAdded2 : FnOk Try.prog 48 Try.f48 := ⟨Try.func48, by kernel_rfl, by kernel_rfl, by kernel_rfl⟩
theorem fn_wAdded3 : FnOk Try.prog 49 Try.f49 := ⟨Try.func49, by kernel_rfl, by kernel_rfl, by kernel_rfl⟩
theorem added2_c (y : Pl) (r : Rs) : PCx Try.prog 48 ([] ++ ([.agg y.c] ++ [.eptr r.c 0])) (bl (y == r.from_)) := by
  refine PC.le ?_
  refine PC_of_VC tabOk (draw_ok mixed tabOk) fn_wAdded2 rfl ?_
  repeat' ((conv => whnf); first | with_reducible refine (Or.inl ?_ : VC _ _ _ _ _ ∨ _) | ((with_reducible refine fk (fun hc => ?_) fun hc => ?_) <;> first | exact absurd hc (by decide) | (exfalso; simp only [*, reduceCtorEq] at hc; done) | skip) | ((with_reducible apply And.intro); focus (first | rfl | exact Nat.le_of_ble_eq_true rfl | omega | (simp only [List.length_cons, List.length_nil, List.length_map, List.length_append]; omega))))
  repeat' first | (with_reducible first | exact ⟨⟩ | exact rfl | exact lr _) | ((conv => whnf); with_reducible first | apply And.intro | exact ⟨⟩) | exact rfl | exact id | exact lr _
  all_goals try (conv => whnf)
  rw [Pl.beq]
theorem added3_c (y : Pl) (r : Rs) : PCx Try.prog 49 ([] ++ ([.agg y.c] ++ [.eptr r.c 0])) (bl (y.node == r.from_.node && y.serial != r.from_.serial)) := by
  refine PC.le ?_
  refine PC_of_VC tabOk (draw_ok mixed tabOk) fn_wAdded3 rfl ?_
  repeat' ((conv => whnf); first | with_reducible refine (Or.inl ?_ : VC _ _ _ _ _ ∨ _) | ((with_reducible refine fk (fun hc => ?_) fun hc => ?_) <;> first | exact absurd hc (by decide) | (exfalso; simp only [*, reduceCtorEq] at hc; done) | skip) | ((with_reducible apply And.intro); focus (first | rfl | exact Nat.le_of_ble_eq_true rfl | omega | (simp only [List.length_cons, List.length_nil, List.length_map, List.length_append]; omega))))
  all_goals
    repeat' first | (with_reducible first | exact ⟨⟩ | exact rfl | exact lr _) | ((conv => whnf); with_reducible first | apply And.intro | exact ⟨⟩) | exact rfl | exact id | exact lr _
    all_goals try (conv => whnf)
    simp only [hc, Bool.true_and, Bool.false_and]
theorem added1_g (x : Rv) (r : Rs) (f : FuncId) (is : Pl → Bool) (hp : ∀ y, PCx Try.prog f ([] ++ ([.agg (Pl.c y)] ++ [.eptr r.c 0])) (bl (is y))) (hff : frsOk x.frags) (hn : 0 ≤ x.n ∧ x.n ≤ 1000) (hl : x.bad.length ≤ 1000000) (hw : (writesR x).length ≤ 1000) :
    GCx Try.prog 47 [.pv (.fn (.func f) [] [.eptr r.c 0]), .ptr 1 0] [(1, .var [.ptr 2 0]), (2, .var (x.v (.pv (slP x.heard)) (.pv (slP x.none)) (.pv (slP x.has)) (.pv (slF x.frags)) (.slw 3 0) (.pv (.sc (.slice none 0 0))))), (3, .arr 38 0 2 (x.bad.map Pl.c))] (.pv (.tup []))
      [(1, .var [.ptr 2 0]), (2, .var (({ x with bad := addBad is x.bad (writesR x) } : Rv).v (.pv (slP x.heard)) (.pv (slP x.none)) (.pv (slP x.has)) (.pv (slF x.frags)) (.slw 1001 0) (.pv (.sc (.slice none 0 0))))), (3, .roa 1 2 []), (1001, .arr 38 0 2 ((addBad is x.bad (writesR x)).map Pl.c))] := by
  refine GC_mv 3 1777 rfl ?_
  show GC _ _ [.pv (.fn (.func f) [] [.eptr r.c 0]), .ptr 1 0] [(1777, .arr 38 0 2 (x.bad.map Pl.c)), (1, .var [.ptr 2 0]), (2, .var (x.v (.pv (slP x.heard)) (.pv (slP x.none)) (.pv (slP x.has)) (.pv (slF x.frags)) (.slw 1777 0) (.pv (.sc (.slice none 0 0))))), (3, .roa 1 2 [])] _
  obtain ⟨wr, hwr⟩ : ∃ wr, writesR x = wr := ⟨_, rfl⟩
  have hse := sSet_c x.frags x.l.w x.n hff (by omega)
  rw [show setOf x.frags x.l.w x.n = wr from hwr] at hse
  rw [hwr] at hw ⊢
  clear hwr hff hn
  refine GC_of_VC tabOk (draw_ok mixed tabOk) fn_wAdded1 rfl ?_
  repeat' ((conv => whnf); first | with_reducible refine (Or.inl ?_ : VC _ _ _ _ _ ∨ _) | ((with_reducible refine fk (fun hc => ?_) fun hc => ?_) <;> first | exact absurd hc (by decide) | (exfalso; simp only [*, reduceCtorEq] at hc; done) | skip) | (refine Or.inr ?_; (conv => whnf); refine ⟨_, GI_of_VC tabOk (draw_ok mixed tabOk) fn_wWrites rfl ?_, fun _ _ h => h⟩) | (refine Or.inl (Or.inl ?_); (conv => whnf); refine ⟨_, hse, ?_⟩) | ((with_reducible apply And.intro); focus (first | rfl | exact Nat.le_of_ble_eq_true rfl | omega | (simp only [List.length_cons, List.length_nil, List.length_map, List.length_append]; omega))))
  refine ⟨{k : Nat // k ≤ wr.length}, fun ⟨k, _⟩ => ⟨[(0, .pv (.fn (.func f) [] [.eptr r.c 0])), (1, .ptr 1 0), (6, .pv (slP wr)), (7, .pv (ii wr.length)), (8, .pv (ii k))], 1000000000, [(1, .var [.ptr 2 0]), (2, .var (x.v (.pv (slP x.heard)) (.pv (slP x.none)) (.pv (slP x.has)) (.pv (slF x.frags)) (.slw 1001 0) (.pv (.sc (.slice none 0 0))))), (3, .roa 1 2 []), (1001, .arr 38 0 2 ((addBad is x.bad (wr.take k)).map Pl.c))]⟩, fun ⟨k, _⟩ => wr.length - k, ⟨⟨0, Nat.zero_le _⟩, ent_of ?_⟩, ?_⟩
  · repeat' first
      | fail
      | with_reducible exact True.intro
      | with_reducible exact rfl
      | with_reducible exact leRs_refl _
      | ((conv => whnf); with_reducible apply And.intro)
      | ((conv => whnf); with_reducible exact True.intro)
      | exact rfl
      | exact id
      | exact leRs_refl _
    all_goals try (conv => whnf)
    all_goals simp
  rintro ⟨k, hk⟩
  by_cases hlt : k < wr.length
  · have d0 : decide ((k : Int) < (wr.length : Int)) = true := by simp only [decide_eq_true_eq]; omega
    have eW : IntKind.i64.wrap ((k : Int) + 1) = ((k + 1 : Nat) : Int) := by rw [wrapI (by omega) (by omega)]; omega
    have hq := addBad_take is x.bad wr k hlt
    have hal := addBad_len is (wr.take k) x.bad
    have htl : (wr.take k).length ≤ 1000 := by rw [List.length_take]; omega
    repeat' ((conv => whnf); first | with_reducible refine (Or.inl ?_ : VC _ _ _ _ _ ∨ _) | ((with_reducible refine fk (fun hc => ?_) fun hc => ?_) <;> first | exact absurd hc (by decide) | (exfalso; simp only [*, reduceCtorEq] at hc; done) | skip) | ((refine ⟨_, rowK _ _ _ hlt, ?_⟩)) | (refine Or.inl (Or.inl ?_); (conv => whnf); refine ⟨_, hp _, ?_⟩) | (refine Or.inl (Or.inl ?_); (conv => whnf); refine ⟨_, containsPlace_c _ _ _, ?_⟩) | (((with_reducible apply And.intro); focus (simp only [List.length_map, List.length_cons, List.length_nil] at *; omega))) | ((with_reducible apply And.intro); focus (first | rfl | exact Nat.le_of_ble_eq_true rfl | omega | (simp only [List.length_cons, List.length_nil, List.length_map, List.length_append]; omega))))
    all_goals
      refine ⟨⟨k + 1, hlt⟩, dec_lt hlt, ent_of ?_⟩
      repeat' first | (with_reducible first | exact ⟨⟩ | exact rfl | exact lr _) | ((conv => whnf); with_reducible first | apply And.intro | exact ⟨⟩) | exact rfl | exact id | exact lr _
      all_goals try (conv => whnf)
    all_goals
      first
        | exact eW
        | (rw [hq, if_pos (by simp only [Bool.and_eq_true]; exact ⟨by assumption, by assumption⟩), List.map_append]
           refine leRs_app (leRs_refl _) ?_
           (repeat' first | (with_reducible first | exact ⟨⟩ | exact rfl | exact lr _) | ((conv => whnf); with_reducible first | apply And.intro | exact ⟨⟩) | exact rfl | exact id | exact lr _); (all_goals try (conv => whnf)))
        | (rw [hq, if_neg (by
             intro hh
             simp only [Bool.and_eq_true] at hh
             first
               | exact absurd hh.1 (by rw [show is wr[k] = false from by assumption]; simp)
               | exact absurd hh.2 (by rw [show (!(addBad is x.bad (List.take k wr)).any fun y => y == wr[k]) = false from by assumption]; simp))]
           exact leRs_refl _)
  · have hke : k = wr.length := by omega
    subst hke
    have d0 : decide ((wr.length : Int) < (wr.length : Int)) = false := by simp
    repeat' ((conv => whnf); first | with_reducible refine (Or.inl ?_ : VC _ _ _ _ _ ∨ _) | ((with_reducible refine fk (fun hc => ?_) fun hc => ?_) <;> first | exact absurd hc (by decide) | (exfalso; simp only [*, reduceCtorEq] at hc; done) | skip) | ((with_reducible apply And.intro); focus (first | rfl | exact Nat.le_of_ble_eq_true rfl | omega | (simp only [List.length_cons, List.length_nil, List.length_map, List.length_append]; omega))))
    refine ⟨_, _, ⟨rfl, rfl⟩, ?_⟩
    repeat' first | (with_reducible first | exact ⟨⟩ | exact rfl | exact lr _) | ((conv => whnf); with_reducible first | apply And.intro | exact ⟨⟩) | exact rfl | exact id | exact lr _
    all_goals try (conv => whnf)
    rw [List.take_length]
    exact leRs_refl _
end Go.Proofs.Ytpbjamihhkmgiaa.Tb
