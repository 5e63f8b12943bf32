/-
  Contracts of functions of the program and of the document, each for every input that its premises name.
-/
import Derived.Test.YtpbjamihhkmgiaaRA
import Derived.Test.YtpbjamihhkmgiaaAe
set_option linter.unusedSectionVars false
set_option maxRecDepth 100000
set_option maxHeartbeats 4000000
set_option linter.unusedVariables false
set_option linter.unusedSimpArgs false
open Go Go.AX
namespace Go.Proofs.Ytpbjamihhkmgiaa.Tb
theorem fn_wReads : FnOk Try.prog 42 Try.f42 := ⟨Try.func42, by kernel_rfl, by kernel_rfl, by kernel_rfl⟩
theorem fn_wWrites : FnOk Try.prog 18 Try.f18 := ⟨Try.func18, by kernel_rfl, by kernel_rfl, by kernel_rfl⟩
theorem fn_wLast : FnOk Try.prog 41 Try.f41 := ⟨Try.func41, by kernel_rfl, by kernel_rfl, by kernel_rfl⟩
theorem fn_wGet : FnOk Try.prog 43 Try.f43 := ⟨Try.func43, by kernel_rfl, by kernel_rfl, by kernel_rfl⟩
theorem fn_wAsk : FnOk Try.prog 22 Try.f22 := ⟨Try.func22, by kernel_rfl, by kernel_rfl, by kernel_rfl⟩
theorem asksP_g (x : Rv) (now : Int) (hp : x.phase = 2) (hf : frsOk x.l.frags) (hn : 0 ≤ x.n ∧ x.n ≤ 18446744073709551615) (hs : (readsR x).length ≤ 1000000) :
    GCx Try.prog 22 [.ptr 1 0, .pv (uu now)] [(1, .var (x.v (.pv (slP x.heard)) (.pv (slP x.none)) (.pv (slP x.has)) (.pv (slF x.frags)) (.pv (slP x.bad)) (.pv (.sc (.slice none 0 0)))))] (.pv (.tup []))
      [(1, .var (({ x with since := now } : Rv).v (.pv (slP x.heard)) (.pv (slP x.none)) (.pv (slP x.has)) (.pv (slF x.frags)) (.pv (slP x.bad)) (.slw 1001 0))), (1001, .arr 54 0 10 ((asksQ x (readsR x)).map Rq.c))] := by
  have b1 : (x.phase == 1) = false := by simp [hp]
  have b2 : (x.phase == 2) = true := by simp [hp]
  clear hp
  refine GC_of_VC tabOk (draw_ok mixed tabOk) fn_wAsk rfl ?_
  repeat' ((conv => whnf); first | with_reducible refine (Or.inl ?_ : VC _ _ _ _ _ ∨ _) | ((with_reducible refine fk (fun hc => ?_) fun hc => ?_) <;> first | exact absurd hc (by decide) | (exfalso; simp only [*, reduceCtorEq] at hc; done) | skip) | (refine Or.inr ?_; (conv => whnf); refine ⟨_, GI_of_VC tabOk (draw_ok mixed tabOk) fn_wReads rfl ?_, fun _ _ h => h⟩) | (refine Or.inl (Or.inl ?_); (conv => whnf); refine ⟨_, sSet_c _ _ _ hf hn, ?_⟩) | ((with_reducible apply And.intro); focus (first | rfl | exact Nat.le_of_ble_eq_true rfl | omega | (simp only [List.length_cons, List.length_nil, List.length_map, List.length_append]; omega))))
  refine ⟨{k : Nat // k ≤ (readsR x).length}, fun ⟨k, _⟩ => ⟨[(0, .ptr 1 0), (64, .pv (slP (readsR x))), (65, .pv (ii (readsR x).length)), (66, .pv (ii k))], 1000000000, [(1, .var (({ x with since := now } : Rv).v (.pv (slP x.heard)) (.pv (slP x.none)) (.pv (slP x.has)) (.pv (slF x.frags)) (.pv (slP x.bad)) (.slw 1001 0))), (1001, .arr 54 0 10 ((asksQ x ((readsR x).take k)).map Rq.c))]⟩, fun ⟨k, _⟩ => (readsR x).length - k, ⟨⟨0, Nat.zero_le _⟩, ent_of ?_⟩, ?_⟩
  · repeat' first
      | fail
      | with_reducible exact True.intro
      | with_reducible exact rfl
      | with_reducible exact leRs_refl _
      | ((conv => whnf); with_reducible apply And.intro)
      | ((conv => whnf); with_reducible exact True.intro)
      | exact rfl
      | exact id
      | exact leRs_refl _
    all_goals try (conv => whnf)
    rw [List.length_map]; rfl
  rintro ⟨k, hk⟩
  by_cases hlt : k < (readsR x).length
  · have d0 : decide ((k : Int) < ((readsR x).length : Int)) = true := by simp only [decide_eq_true_eq]; omega
    have eW : IntKind.i64.wrap ((k : Int) + 1) = ((k + 1 : Nat) : Int) := by rw [wrapI (by omega) (by omega)]; omega
    have hq := filter_map_take (fun p => x.heard.any (· == p) && !x.none.any (· == p)) (entryR x) (readsR x) k hlt
    have hl := filter_map_len (fun p => x.heard.any (· == p) && !x.none.any (· == p)) (entryR x) (readsR x) k
    repeat' ((conv => whnf); first | with_reducible refine (Or.inl ?_ : VC _ _ _ _ _ ∨ _) | ((with_reducible refine fk (fun hc => ?_) fun hc => ?_) <;> first | exact absurd hc (by decide) | (exfalso; simp only [*, reduceCtorEq] at hc; done) | skip) | ((refine ⟨_, rowK _ _ _ hlt, ?_⟩)) | (refine Or.inl (Or.inl ?_); (conv => whnf); refine ⟨_, containsPlace_c _ _ _, ?_⟩) | (refine Or.inr ?_; (conv => whnf); refine ⟨_, GI_of_VC tabOk (draw_ok mixed tabOk) fn_wGet rfl ?_, fun _ _ h => h⟩) | (((with_reducible apply And.intro); focus (simp only [asksQ, List.length_map, List.length_cons, List.length_nil] at *; omega))) | ((with_reducible apply And.intro); focus (first | rfl | exact Nat.le_of_ble_eq_true rfl | omega | (simp only [List.length_cons, List.length_nil, List.length_map, List.length_append]; omega))))
    all_goals
      refine ⟨⟨k + 1, hlt⟩, dec_lt hlt, ent_of ?_⟩
      repeat' first | (with_reducible first | exact ⟨⟩ | exact rfl | exact lr _) | ((conv => whnf); with_reducible first | apply And.intro | exact ⟨⟩) | exact rfl | exact id | exact lr _
      all_goals try (conv => whnf)
      all_goals first
        | exact eW
        | (simp only [asksQ]
           rw [hq, if_pos (by simp only [Bool.and_eq_true]; exact ⟨by assumption, by assumption⟩), List.map_append]
           refine leRs_app (leRs_refl _) ?_
           (repeat' first | (with_reducible first | exact ⟨⟩ | exact rfl | exact lr _) | ((conv => whnf); with_reducible first | apply And.intro | exact ⟨⟩) | exact rfl | exact id | exact lr _); (all_goals try (conv => whnf)))
        | (simp only [asksQ]
           rw [hq, if_neg (by
             intro hh
             simp only [Bool.and_eq_true] at hh
             first
               | exact absurd hh.1 (by rw [show (x.heard.any fun y => y == (readsR x)[k]) = false from by assumption]; simp)
               | exact absurd hh.2 (by rw [show (!x.none.any fun y => y == (readsR x)[k]) = false from by assumption]; simp))]
           exact leRs_refl _)
  · have hke : k = (readsR x).length := by omega
    subst hke
    have d0 : decide (((readsR x).length : Int) < ((readsR x).length : Int)) = false := by simp
    repeat' ((conv => whnf); first | with_reducible refine (Or.inl ?_ : VC _ _ _ _ _ ∨ _) | ((with_reducible refine fk (fun hc => ?_) fun hc => ?_) <;> first | exact absurd hc (by decide) | (exfalso; simp only [*, reduceCtorEq] at hc; done) | skip) | ((with_reducible apply And.intro); focus (first | rfl | exact Nat.le_of_ble_eq_true rfl | omega | (simp only [List.length_cons, List.length_nil, List.length_map, List.length_append]; omega))))
    refine ⟨_, _, ⟨rfl, rfl⟩, ?_⟩
    repeat' first | (with_reducible first | exact ⟨⟩ | exact rfl | exact lr _) | ((conv => whnf); with_reducible first | apply And.intro | exact ⟨⟩) | exact rfl | exact id | exact lr _
    all_goals try (conv => whnf)
    rw [List.take_length]
    exact leRs_refl _
theorem asksH_g (x : Rv) (now : Int) (hp : x.phase = 2) (hf : frsOk x.l.frags) (hn : 0 ≤ x.n ∧ x.n ≤ 18446744073709551615) (hs : (readsR x).length ≤ 1000000) :
    GCx Try.prog 22 [.ptr 1 0, .pv (uu now)] [(1, .var (x.v (.slw 2 0) (.pv (slP x.none)) (.pv (slP x.has)) (.pv (slF x.frags)) (.pv (slP x.bad)) (.pv (.sc (.slice none 0 0))))), (2, .arr 38 0 2 (x.heard.map Pl.c))] (.pv (.tup []))
      [(1, .var (({ x with since := now } : Rv).v (.slw 2 0) (.pv (slP x.none)) (.pv (slP x.has)) (.pv (slF x.frags)) (.pv (slP x.bad)) (.slw 1001 0))), (2, .arr 38 0 2 (x.heard.map Pl.c)), (1001, .arr 54 0 10 ((asksQ x (readsR x)).map Rq.c))] := by
  have b1 : (x.phase == 1) = false := by simp [hp]
  have b2 : (x.phase == 2) = true := by simp [hp]
  clear hp
  refine GC_of_VC tabOk (draw_ok mixed tabOk) fn_wAsk rfl ?_
  repeat' ((conv => whnf); first | with_reducible refine (Or.inl ?_ : VC _ _ _ _ _ ∨ _) | ((with_reducible refine fk (fun hc => ?_) fun hc => ?_) <;> first | exact absurd hc (by decide) | (exfalso; simp only [*, reduceCtorEq] at hc; done) | skip) | (refine Or.inr ?_; (conv => whnf); refine ⟨_, GI_of_VC tabOk (draw_ok mixed tabOk) fn_wReads rfl ?_, fun _ _ h => h⟩) | (refine Or.inl (Or.inl ?_); (conv => whnf); refine ⟨_, sSet_c _ _ _ hf hn, ?_⟩) | ((with_reducible apply And.intro); focus (first | rfl | exact Nat.le_of_ble_eq_true rfl | omega | (simp only [List.length_cons, List.length_nil, List.length_map, List.length_append]; omega))))
  refine ⟨{k : Nat // k ≤ (readsR x).length}, fun ⟨k, _⟩ => ⟨[(0, .ptr 1 0), (64, .pv (slP (readsR x))), (65, .pv (ii (readsR x).length)), (66, .pv (ii k))], 1000000000, [(1, .var (({ x with since := now } : Rv).v (.slw 2 0) (.pv (slP x.none)) (.pv (slP x.has)) (.pv (slF x.frags)) (.pv (slP x.bad)) (.slw 1001 0))), (2, .arr 38 0 2 (x.heard.map Pl.c)), (1001, .arr 54 0 10 ((asksQ x ((readsR x).take k)).map Rq.c))]⟩, fun ⟨k, _⟩ => (readsR x).length - k, ⟨⟨0, Nat.zero_le _⟩, ent_of ?_⟩, ?_⟩
  · repeat' first
      | fail
      | with_reducible exact True.intro
      | with_reducible exact rfl
      | with_reducible exact leRs_refl _
      | ((conv => whnf); with_reducible apply And.intro)
      | ((conv => whnf); with_reducible exact True.intro)
      | exact rfl
      | exact id
      | exact leRs_refl _
    all_goals try (conv => whnf)
    rw [List.length_map]; rfl
  rintro ⟨k, hk⟩
  by_cases hlt : k < (readsR x).length
  · have d0 : decide ((k : Int) < ((readsR x).length : Int)) = true := by simp only [decide_eq_true_eq]; omega
    have eW : IntKind.i64.wrap ((k : Int) + 1) = ((k + 1 : Nat) : Int) := by rw [wrapI (by omega) (by omega)]; omega
    have hq := filter_map_take (fun p => x.heard.any (· == p) && !x.none.any (· == p)) (entryR x) (readsR x) k hlt
    have hl := filter_map_len (fun p => x.heard.any (· == p) && !x.none.any (· == p)) (entryR x) (readsR x) k
    repeat' ((conv => whnf); first | with_reducible refine (Or.inl ?_ : VC _ _ _ _ _ ∨ _) | ((with_reducible refine fk (fun hc => ?_) fun hc => ?_) <;> first | exact absurd hc (by decide) | (exfalso; simp only [*, reduceCtorEq] at hc; done) | skip) | ((refine ⟨_, rowK _ _ _ hlt, ?_⟩)) | (refine Or.inl (Or.inl ?_); (conv => whnf); refine ⟨_, containsPlace_c _ _ _, ?_⟩) | (refine Or.inr ?_; (conv => whnf); refine ⟨_, GI_of_VC tabOk (draw_ok mixed tabOk) fn_wGet rfl ?_, fun _ _ h => h⟩) | (((with_reducible apply And.intro); focus (simp only [asksQ, List.length_map, List.length_cons, List.length_nil] at *; omega))) | ((with_reducible apply And.intro); focus (first | rfl | exact Nat.le_of_ble_eq_true rfl | omega | (simp only [List.length_cons, List.length_nil, List.length_map, List.length_append]; omega))))
    all_goals
      refine ⟨⟨k + 1, hlt⟩, dec_lt hlt, ent_of ?_⟩
      repeat' first | (with_reducible first | exact ⟨⟩ | exact rfl | exact lr _) | ((conv => whnf); with_reducible first | apply And.intro | exact ⟨⟩) | exact rfl | exact id | exact lr _
      all_goals try (conv => whnf)
      all_goals first
        | exact eW
        | (simp only [asksQ]
           rw [hq, if_pos (by simp only [Bool.and_eq_true]; exact ⟨by assumption, by assumption⟩), List.map_append]
           refine leRs_app (leRs_refl _) ?_
           (repeat' first | (with_reducible first | exact ⟨⟩ | exact rfl | exact lr _) | ((conv => whnf); with_reducible first | apply And.intro | exact ⟨⟩) | exact rfl | exact id | exact lr _); (all_goals try (conv => whnf)))
        | (simp only [asksQ]
           rw [hq, if_neg (by
             intro hh
             simp only [Bool.and_eq_true] at hh
             first
               | exact absurd hh.1 (by rw [show (x.heard.any fun y => y == (readsR x)[k]) = false from by assumption]; simp)
               | exact absurd hh.2 (by rw [show (!x.none.any fun y => y == (readsR x)[k]) = false from by assumption]; simp))]
           exact leRs_refl _)
  · have hke : k = (readsR x).length := by omega
    subst hke
    have d0 : decide (((readsR x).length : Int) < ((readsR x).length : Int)) = false := by simp
    repeat' ((conv => whnf); first | with_reducible refine (Or.inl ?_ : VC _ _ _ _ _ ∨ _) | ((with_reducible refine fk (fun hc => ?_) fun hc => ?_) <;> first | exact absurd hc (by decide) | (exfalso; simp only [*, reduceCtorEq] at hc; done) | skip) | ((with_reducible apply And.intro); focus (first | rfl | exact Nat.le_of_ble_eq_true rfl | omega | (simp only [List.length_cons, List.length_nil, List.length_map, List.length_append]; omega))))
    refine ⟨_, _, ⟨rfl, rfl⟩, ?_⟩
    repeat' first | (with_reducible first | exact ⟨⟩ | exact rfl | exact lr _) | ((conv => whnf); with_reducible first | apply And.intro | exact ⟨⟩) | exact rfl | exact id | exact lr _
    all_goals try (conv => whnf)
    rw [List.take_length]
    exact leRs_refl _
theorem asksPS_g (x : Rv) (now : Int) (out : List Rq) (hol : out.length ≤ 1000) (hp : x.phase = 2) (hf : frsOk x.l.frags) (hn : 0 ≤ x.n ∧ x.n ≤ 18446744073709551615) (hs : (readsR x).length ≤ 1000000) :
    GCx Try.prog 22 [.ptr 1 0, .pv (uu now)] [(1, .var (x.v (.pv (slP x.heard)) (.pv (slP x.none)) (.pv (slP x.has)) (.pv (slF x.frags)) (.pv (slP x.bad)) (.slw 2 0))), (2, .arr 54 0 10 (out.map Rq.c))] (.pv (.tup []))
      [(1, .var (({ x with since := now } : Rv).v (.pv (slP x.heard)) (.pv (slP x.none)) (.pv (slP x.has)) (.pv (slF x.frags)) (.pv (slP x.bad)) (.slw 1001 0))), (2, .roa 1 10 []), (1001, .arr 54 0 10 ((out ++ asksQ x (readsR x)).map Rq.c))] := by
  have b1 : (x.phase == 1) = false := by simp [hp]
  have b2 : (x.phase == 2) = true := by simp [hp]
  clear hp
  refine GC_mv 2 1777 rfl ?_
  show GC _ _ [.ptr 1 0, .pv (uu now)] [(1777, .arr 54 0 10 (out.map Rq.c)), (1, .var (x.v (.pv (slP x.heard)) (.pv (slP x.none)) (.pv (slP x.has)) (.pv (slF x.frags)) (.pv (slP x.bad)) (.slw 1777 0))), (2, .roa 1 10 [])] _
  refine GC_of_VC tabOk (draw_ok mixed tabOk) fn_wAsk rfl ?_
  repeat' ((conv => whnf); first | with_reducible refine (Or.inl ?_ : VC _ _ _ _ _ ∨ _) | ((with_reducible refine fk (fun hc => ?_) fun hc => ?_) <;> first | exact absurd hc (by decide) | (exfalso; simp only [*, reduceCtorEq] at hc; done) | skip) | (refine Or.inr ?_; (conv => whnf); refine ⟨_, GI_of_VC tabOk (draw_ok mixed tabOk) fn_wReads rfl ?_, fun _ _ h => h⟩) | (refine Or.inl (Or.inl ?_); (conv => whnf); refine ⟨_, sSet_c _ _ _ hf hn, ?_⟩) | ((with_reducible apply And.intro); focus (first | rfl | exact Nat.le_of_ble_eq_true rfl | omega | (simp only [List.length_cons, List.length_nil, List.length_map, List.length_append]; omega))))
  refine ⟨{k : Nat // k ≤ (readsR x).length}, fun ⟨k, _⟩ => ⟨[(0, .ptr 1 0), (64, .pv (slP (readsR x))), (65, .pv (ii (readsR x).length)), (66, .pv (ii k))], 1000000000, [(1, .var (({ x with since := now } : Rv).v (.pv (slP x.heard)) (.pv (slP x.none)) (.pv (slP x.has)) (.pv (slF x.frags)) (.pv (slP x.bad)) (.slw 1001 0))), (2, .roa 1 10 []), (1001, .arr 54 0 10 ((out ++ asksQ x ((readsR x).take k)).map Rq.c))]⟩, fun ⟨k, _⟩ => (readsR x).length - k, ⟨⟨0, Nat.zero_le _⟩, ent_of ?_⟩, ?_⟩
  · repeat' first
      | fail
      | with_reducible exact True.intro
      | with_reducible exact rfl
      | with_reducible exact leRs_refl _
      | ((conv => whnf); with_reducible apply And.intro)
      | ((conv => whnf); with_reducible exact True.intro)
      | exact rfl
      | exact id
      | exact leRs_refl _
    all_goals try (conv => whnf)
    · refine leRs_of_eq ?_
      simp [asksQ]
    · rw [List.length_map]; rfl
  rintro ⟨k, hk⟩
  by_cases hlt : k < (readsR x).length
  · have d0 : decide ((k : Int) < ((readsR x).length : Int)) = true := by simp only [decide_eq_true_eq]; omega
    have eW : IntKind.i64.wrap ((k : Int) + 1) = ((k + 1 : Nat) : Int) := by rw [wrapI (by omega) (by omega)]; omega
    have hq := filter_map_take (fun p => x.heard.any (· == p) && !x.none.any (· == p)) (entryR x) (readsR x) k hlt
    have hl := filter_map_len (fun p => x.heard.any (· == p) && !x.none.any (· == p)) (entryR x) (readsR x) k
    repeat' ((conv => whnf); first | with_reducible refine (Or.inl ?_ : VC _ _ _ _ _ ∨ _) | ((with_reducible refine fk (fun hc => ?_) fun hc => ?_) <;> first | exact absurd hc (by decide) | (exfalso; simp only [*, reduceCtorEq] at hc; done) | skip) | ((refine ⟨_, rowK _ _ _ hlt, ?_⟩)) | (refine Or.inl (Or.inl ?_); (conv => whnf); refine ⟨_, containsPlace_c _ _ _, ?_⟩) | (refine Or.inr ?_; (conv => whnf); refine ⟨_, GI_of_VC tabOk (draw_ok mixed tabOk) fn_wGet rfl ?_, fun _ _ h => h⟩) | (((with_reducible apply And.intro); focus (simp only [asksQ, List.length_map, List.length_append, List.length_cons, List.length_nil] at *; omega))) | ((with_reducible apply And.intro); focus (first | rfl | exact Nat.le_of_ble_eq_true rfl | omega | (simp only [List.length_cons, List.length_nil, List.length_map, List.length_append]; omega))))
    all_goals
      refine ⟨⟨k + 1, hlt⟩, dec_lt hlt, ent_of ?_⟩
      repeat' first | (with_reducible first | exact ⟨⟩ | exact rfl | exact lr _) | ((conv => whnf); with_reducible first | apply And.intro | exact ⟨⟩) | exact rfl | exact id | exact lr _
      all_goals try (conv => whnf)
      all_goals first
        | exact eW
        | (simp only [asksQ]
           rw [hq, if_pos (by simp only [Bool.and_eq_true]; exact ⟨by assumption, by assumption⟩), ← List.append_assoc, List.map_append]
           refine leRs_app (leRs_refl _) ?_
           (repeat' first | (with_reducible first | exact ⟨⟩ | exact rfl | exact lr _) | ((conv => whnf); with_reducible first | apply And.intro | exact ⟨⟩) | exact rfl | exact id | exact lr _); (all_goals try (conv => whnf)))
        | (simp only [asksQ]
           rw [hq, if_neg (by
             intro hh
             simp only [Bool.and_eq_true] at hh
             first
               | exact absurd hh.1 (by rw [show (x.heard.any fun y => y == (readsR x)[k]) = false from by assumption]; simp)
               | exact absurd hh.2 (by rw [show (!x.none.any fun y => y == (readsR x)[k]) = false from by assumption]; simp))]
           exact leRs_refl _)
  · have hke : k = (readsR x).length := by omega
    subst hke
    have d0 : decide (((readsR x).length : Int) < ((readsR x).length : Int)) = false := by simp
    repeat' ((conv => whnf); first | with_reducible refine (Or.inl ?_ : VC _ _ _ _ _ ∨ _) | ((with_reducible refine fk (fun hc => ?_) fun hc => ?_) <;> first | exact absurd hc (by decide) | (exfalso; simp only [*, reduceCtorEq] at hc; done) | skip) | ((with_reducible apply And.intro); focus (first | rfl | exact Nat.le_of_ble_eq_true rfl | omega | (simp only [List.length_cons, List.length_nil, List.length_map, List.length_append]; omega))))
    refine ⟨_, _, ⟨rfl, rfl⟩, ?_⟩
    repeat' first | (with_reducible first | exact ⟨⟩ | exact rfl | exact lr _) | ((conv => whnf); with_reducible first | apply And.intro | exact ⟨⟩) | exact rfl | exact id | exact lr _
    all_goals try (conv => whnf)
    rw [List.take_length]
    exact leRs_refl _
theorem asksFS_g (x : Rv) (now : Int) (out : List Rq) (hol : out.length ≤ 1000) (hp : x.phase = 2) (hf : frsOk x.l.frags) (hn : 0 ≤ x.n ∧ x.n ≤ 18446744073709551615) (hs : (readsR x).length ≤ 1000000) :
    GCx Try.prog 22 [.ptr 1 0, .pv (uu now)] [(1, .var (x.v (.pv (slP x.heard)) (.pv (slP x.none)) (.pv (slP x.has)) (.slw 2 0) (.pv (slP x.bad)) (.slw 3 0))), (2, .roa 0 2 (x.frags.map Fr.c)), (3, .arr 54 0 10 (out.map Rq.c))] (.pv (.tup []))
      [(1, .var (({ x with since := now } : Rv).v (.pv (slP x.heard)) (.pv (slP x.none)) (.pv (slP x.has)) (.slw 2 0) (.pv (slP x.bad)) (.slw 1001 0))), (2, .roa 0 2 (x.frags.map Fr.c)), (3, .roa 1 10 []), (1001, .arr 54 0 10 ((out ++ asksQ x (readsR x)).map Rq.c))] := by
  have b1 : (x.phase == 1) = false := by simp [hp]
  have b2 : (x.phase == 2) = true := by simp [hp]
  clear hp
  refine GC_mv 3 1777 rfl ?_
  show GC _ _ [.ptr 1 0, .pv (uu now)] [(1777, .arr 54 0 10 (out.map Rq.c)), (1, .var (x.v (.pv (slP x.heard)) (.pv (slP x.none)) (.pv (slP x.has)) (.slw 2 0) (.pv (slP x.bad)) (.slw 1777 0))), (2, .roa 0 2 (x.frags.map Fr.c)), (3, .roa 1 10 [])] _
  refine GC_of_VC tabOk (draw_ok mixed tabOk) fn_wAsk rfl ?_
  repeat' ((conv => whnf); first | with_reducible refine (Or.inl ?_ : VC _ _ _ _ _ ∨ _) | ((with_reducible refine fk (fun hc => ?_) fun hc => ?_) <;> first | exact absurd hc (by decide) | (exfalso; simp only [*, reduceCtorEq] at hc; done) | skip) | (refine Or.inr ?_; (conv => whnf); refine ⟨_, GI_of_VC tabOk (draw_ok mixed tabOk) fn_wReads rfl ?_, fun _ _ h => h⟩) | (refine Or.inl (Or.inl ?_); (conv => whnf); refine ⟨_, sSet_c _ _ _ hf hn, ?_⟩) | ((with_reducible apply And.intro); focus (first | rfl | exact Nat.le_of_ble_eq_true rfl | omega | (simp only [List.length_cons, List.length_nil, List.length_map, List.length_append]; omega))))
  refine ⟨{k : Nat // k ≤ (readsR x).length}, fun ⟨k, _⟩ => ⟨[(0, .ptr 1 0), (64, .pv (slP (readsR x))), (65, .pv (ii (readsR x).length)), (66, .pv (ii k))], 1000000000, [(1, .var (({ x with since := now } : Rv).v (.pv (slP x.heard)) (.pv (slP x.none)) (.pv (slP x.has)) (.slw 2 0) (.pv (slP x.bad)) (.slw 1001 0))), (2, .roa 0 2 (x.frags.map Fr.c)), (3, .roa 1 10 []), (1001, .arr 54 0 10 ((out ++ asksQ x ((readsR x).take k)).map Rq.c))]⟩, fun ⟨k, _⟩ => (readsR x).length - k, ⟨⟨0, Nat.zero_le _⟩, ent_of ?_⟩, ?_⟩
  · repeat' first
      | fail
      | with_reducible exact True.intro
      | with_reducible exact rfl
      | with_reducible exact leRs_refl _
      | ((conv => whnf); with_reducible apply And.intro)
      | ((conv => whnf); with_reducible exact True.intro)
      | exact rfl
      | exact id
      | exact leRs_refl _
    all_goals try (conv => whnf)
    · refine leRs_of_eq ?_
      simp [asksQ]
    · rw [List.length_map]; rfl
  rintro ⟨k, hk⟩
  by_cases hlt : k < (readsR x).length
  · have d0 : decide ((k : Int) < ((readsR x).length : Int)) = true := by simp only [decide_eq_true_eq]; omega
    have eW : IntKind.i64.wrap ((k : Int) + 1) = ((k + 1 : Nat) : Int) := by rw [wrapI (by omega) (by omega)]; omega
    have hq := filter_map_take (fun p => x.heard.any (· == p) && !x.none.any (· == p)) (entryR x) (readsR x) k hlt
    have hl := filter_map_len (fun p => x.heard.any (· == p) && !x.none.any (· == p)) (entryR x) (readsR x) k
    repeat' ((conv => whnf); first | with_reducible refine (Or.inl ?_ : VC _ _ _ _ _ ∨ _) | ((with_reducible refine fk (fun hc => ?_) fun hc => ?_) <;> first | exact absurd hc (by decide) | (exfalso; simp only [*, reduceCtorEq] at hc; done) | skip) | ((refine ⟨_, rowK _ _ _ hlt, ?_⟩)) | (refine Or.inl (Or.inl ?_); (conv => whnf); refine ⟨_, containsPlace_c _ _ _, ?_⟩) | (refine Or.inr ?_; (conv => whnf); refine ⟨_, GI_of_VC tabOk (draw_ok mixed tabOk) fn_wGet rfl ?_, fun _ _ h => h⟩) | (((with_reducible apply And.intro); focus (simp only [asksQ, List.length_map, List.length_append, List.length_cons, List.length_nil] at *; omega))) | ((with_reducible apply And.intro); focus (first | rfl | exact Nat.le_of_ble_eq_true rfl | omega | (simp only [List.length_cons, List.length_nil, List.length_map, List.length_append]; omega))))
    all_goals
      refine ⟨⟨k + 1, hlt⟩, dec_lt hlt, ent_of ?_⟩
      repeat' first | (with_reducible first | exact ⟨⟩ | exact rfl | exact lr _) | ((conv => whnf); with_reducible first | apply And.intro | exact ⟨⟩) | exact rfl | exact id | exact lr _
      all_goals try (conv => whnf)
      all_goals first
        | exact eW
        | (simp only [asksQ]
           rw [hq, if_pos (by simp only [Bool.and_eq_true]; exact ⟨by assumption, by assumption⟩), ← List.append_assoc, List.map_append]
           refine leRs_app (leRs_refl _) ?_
           (repeat' first | (with_reducible first | exact ⟨⟩ | exact rfl | exact lr _) | ((conv => whnf); with_reducible first | apply And.intro | exact ⟨⟩) | exact rfl | exact id | exact lr _); (all_goals try (conv => whnf)))
        | (simp only [asksQ]
           rw [hq, if_neg (by
             intro hh
             simp only [Bool.and_eq_true] at hh
             first
               | exact absurd hh.1 (by rw [show (x.heard.any fun y => y == (readsR x)[k]) = false from by assumption]; simp)
               | exact absurd hh.2 (by rw [show (!x.none.any fun y => y == (readsR x)[k]) = false from by assumption]; simp))]
           exact leRs_refl _)
  · have hke : k = (readsR x).length := by omega
    subst hke
    have d0 : decide (((readsR x).length : Int) < ((readsR x).length : Int)) = false := by simp
    repeat' ((conv => whnf); first | with_reducible refine (Or.inl ?_ : VC _ _ _ _ _ ∨ _) | ((with_reducible refine fk (fun hc => ?_) fun hc => ?_) <;> first | exact absurd hc (by decide) | (exfalso; simp only [*, reduceCtorEq] at hc; done) | skip) | ((with_reducible apply And.intro); focus (first | rfl | exact Nat.le_of_ble_eq_true rfl | omega | (simp only [List.length_cons, List.length_nil, List.length_map, List.length_append]; omega))))
    refine ⟨_, _, ⟨rfl, rfl⟩, ?_⟩
    repeat' first | (with_reducible first | exact ⟨⟩ | exact rfl | exact lr _) | ((conv => whnf); with_reducible first | apply And.intro | exact ⟨⟩) | exact rfl | exact id | exact lr _
    all_goals try (conv => whnf)
    rw [List.take_length]
    exact leRs_refl _
end Go.Proofs.Ytpbjamihhkmgiaa.Tb
