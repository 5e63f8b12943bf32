/-
  Contracts of functions of the program and of the document, each for every input that its premises name.
-/
import Derived.Test.YtpbjamihhkmgiaaRB
set_option linter.unusedSectionVars false
set_option maxRecDepth 100000
set_option maxHeartbeats 4000000
set_option linter.unusedVariables false
set_option linter.unusedSimpArgs false
open Go Go.AX
namespace Go.Proofs.Ytpbjamihhkmgiaa.Tb
theorem copiesS_g (x : Rv) (now : Int) (hp : x.phase = 3) (hf : frsOk x.frags) (hn : 0 ≤ x.n ∧ x.n ≤ 18446744073709551615) (hs : (writesR x).length ≤ 1000000) (hb : x.body.length ≤ 1000000) :
    GCx Try.prog 22 [.ptr 1 0, .pv (uu now)] [(1, .var (x.v (.pv (slP x.heard)) (.pv (slP x.none)) (.slw 2 0) (.pv (slF x.frags)) (.pv (slP x.bad)) (.pv (.sc (.slice none 0 0))))), (2, .arr 38 0 2 (x.has.map Pl.c))] (.pv (.tup []))
      [(1, .var (({ x with since := now } : Rv).v (.pv (slP x.heard)) (.pv (slP x.none)) (.slw 2 0) (.pv (slF x.frags)) (.pv (slP x.bad)) (.slw 1001 0))), (2, .arr 38 0 2 (x.has.map Pl.c)), (1001, .arr 54 0 10 ((copiesQ x (writesR x)).map Rq.c))] := by
  have b1 : (x.phase == 1) = false := by simp [hp]
  have b2 : (x.phase == 2) = false := by simp [hp]
  have b3 : (x.phase == 3) = true := by simp [hp]
  clear hp
  refine GC_of_VC tabOk (draw_ok mixed tabOk) fn_wAsk rfl ?_
  repeat' ((conv => whnf); first | with_reducible refine (Or.inl ?_ : VC _ _ _ _ _ ∨ _) | ((with_reducible refine fk (fun hc => ?_) fun hc => ?_) <;> first | exact absurd hc (by decide) | (exfalso; simp only [*, reduceCtorEq] at hc; done) | skip) | (refine Or.inr ?_; (conv => whnf); refine ⟨_, GI_of_VC tabOk (draw_ok mixed tabOk) fn_wWrites rfl ?_, fun _ _ h => h⟩) | (refine Or.inl (Or.inl ?_); (conv => whnf); refine ⟨_, sSet_c _ _ _ hf hn, ?_⟩) | ((with_reducible apply And.intro); focus (first | rfl | exact Nat.le_of_ble_eq_true rfl | omega | (simp only [List.length_cons, List.length_nil, List.length_map, List.length_append]; omega))))
  refine ⟨{k : Nat // k ≤ (writesR x).length}, fun ⟨k, _⟩ => ⟨[(0, .ptr 1 0), (94, .pv (slP (writesR x))), (95, .pv (ii (writesR x).length)), (96, .pv (ii k))], 1000000000, [(1, .var (({ x with since := now } : Rv).v (.pv (slP x.heard)) (.pv (slP x.none)) (.slw 2 0) (.pv (slF x.frags)) (.pv (slP x.bad)) (.slw 1001 0))), (2, .arr 38 0 2 (x.has.map Pl.c)), (1001, .arr 54 0 10 ((copiesQ x ((writesR x).take k)).map Rq.c))]⟩, fun ⟨k, _⟩ => (writesR x).length - k, ⟨⟨0, Nat.zero_le _⟩, ent_of ?_⟩, ?_⟩
  · repeat' first
      | fail
      | with_reducible exact True.intro
      | with_reducible exact rfl
      | with_reducible exact leRs_refl _
      | ((conv => whnf); with_reducible apply And.intro)
      | ((conv => whnf); with_reducible exact True.intro)
      | exact rfl
      | exact id
      | exact leRs_refl _
    all_goals try (conv => whnf)
    rw [List.length_map]; rfl
  rintro ⟨k, hk⟩
  by_cases hlt : k < (writesR x).length
  · have d0 : decide ((k : Int) < ((writesR x).length : Int)) = true := by simp only [decide_eq_true_eq]; omega
    have eW : IntKind.i64.wrap ((k : Int) + 1) = ((k + 1 : Nat) : Int) := by rw [wrapI (by omega) (by omega)]; omega
    have hq := filter_map_take (fun p => !x.has.any (· == p)) (copyR x) (writesR x) k hlt
    have hl := filter_map_len (fun p => !x.has.any (· == p)) (copyR x) (writesR x) k
    repeat' ((conv => whnf); first | with_reducible refine (Or.inl ?_ : VC _ _ _ _ _ ∨ _) | ((with_reducible refine fk (fun hc => ?_) fun hc => ?_) <;> first | exact absurd hc (by decide) | (exfalso; simp only [*, reduceCtorEq] at hc; done) | skip) | ((refine ⟨_, rowK _ _ _ hlt, ?_⟩)) | (refine Or.inl (Or.inl ?_); (conv => whnf); refine ⟨_, containsPlace_c _ _ _, ?_⟩) | (refine Or.inl (Or.inl ?_); (conv => whnf); refine ⟨_, cloneByte_c x.body (by omega), ?_⟩) | (((with_reducible apply And.intro); focus (simp only [copiesQ, List.length_map, List.length_cons, List.length_nil] at *; omega))) | ((with_reducible apply And.intro); focus (first | rfl | exact Nat.le_of_ble_eq_true rfl | omega | (simp only [List.length_cons, List.length_nil, List.length_map, List.length_append]; omega))))
    all_goals
      refine ⟨⟨k + 1, hlt⟩, dec_lt hlt, ent_of ?_⟩
      repeat' first | (with_reducible first | exact ⟨⟩ | exact rfl | exact lr _) | ((conv => whnf); with_reducible first | apply And.intro | exact ⟨⟩) | exact rfl | exact id | exact lr _
      all_goals try (conv => whnf)
      all_goals first
        | exact eW
        | (simp only [copiesQ]
           rw [hq, if_pos (by assumption), List.map_append]
           refine leRs_app (leRs_refl _) ?_
           (repeat' first | (with_reducible first | exact ⟨⟩ | exact rfl | exact lr _) | ((conv => whnf); with_reducible first | apply And.intro | exact ⟨⟩) | exact rfl | exact id | exact lr _); (all_goals try (conv => whnf)))
        | (simp only [copiesQ]
           rw [hq, if_neg (by rw [show (!x.has.any fun y => y == (writesR x)[k]) = false from by assumption]; simp)]
           exact leRs_refl _)
  · have hke : k = (writesR x).length := by omega
    subst hke
    have d0 : decide (((writesR x).length : Int) < ((writesR x).length : Int)) = false := by simp
    repeat' ((conv => whnf); first | with_reducible refine (Or.inl ?_ : VC _ _ _ _ _ ∨ _) | ((with_reducible refine fk (fun hc => ?_) fun hc => ?_) <;> first | exact absurd hc (by decide) | (exfalso; simp only [*, reduceCtorEq] at hc; done) | skip) | ((with_reducible apply And.intro); focus (first | rfl | exact Nat.le_of_ble_eq_true rfl | omega | (simp only [List.length_cons, List.length_nil, List.length_map, List.length_append]; omega))))
    refine ⟨_, _, ⟨rfl, rfl⟩, ?_⟩
    repeat' first | (with_reducible first | exact ⟨⟩ | exact rfl | exact lr _) | ((conv => whnf); with_reducible first | apply And.intro | exact ⟨⟩) | exact rfl | exact id | exact lr _
    all_goals try (conv => whnf)
    rw [List.take_length]
    exact leRs_refl _
theorem copiesF_g (x : Rv) (now : Int) (hp : x.phase = 3) (hf : frsOk x.frags) (hn : 0 ≤ x.n ∧ x.n ≤ 18446744073709551615) (hs : (writesR x).length ≤ 1000000) (hb : x.body.length ≤ 1000000) :
    GCx Try.prog 22 [.ptr 1 0, .pv (uu now)] [(1, .var (x.v (.pv (slP x.heard)) (.pv (slP x.none)) (.pv (slP x.has)) (.slw 2 0) (.pv (slP x.bad)) (.pv (.sc (.slice none 0 0))))), (2, .arr 49 0 2 (x.frags.map Fr.c))] (.pv (.tup []))
      [(1, .var (({ x with since := now } : Rv).v (.pv (slP x.heard)) (.pv (slP x.none)) (.pv (slP x.has)) (.slw 2 0) (.pv (slP x.bad)) (.slw 1001 0))), (2, .roa 0 2 (x.frags.map Fr.c)), (1001, .arr 54 0 10 ((copiesQ x (writesR x)).map Rq.c))] := by
  have b1 : (x.phase == 1) = false := by simp [hp]
  have b2 : (x.phase == 2) = false := by simp [hp]
  have b3 : (x.phase == 3) = true := by simp [hp]
  clear hp
  refine GC_of_VC tabOk (draw_ok mixed tabOk) fn_wAsk rfl ?_
  repeat' ((conv => whnf); first | with_reducible refine (Or.inl ?_ : VC _ _ _ _ _ ∨ _) | ((with_reducible refine fk (fun hc => ?_) fun hc => ?_) <;> first | exact absurd hc (by decide) | (exfalso; simp only [*, reduceCtorEq] at hc; done) | skip) | (refine Or.inr ?_; (conv => whnf); refine ⟨_, GI_of_VC tabOk (draw_ok mixed tabOk) fn_wWrites rfl ?_, fun _ _ h => h⟩) | (refine Or.inl (Or.inl ?_); (conv => whnf); refine ⟨_, sSet_c _ _ _ hf hn, ?_⟩) | ((with_reducible apply And.intro); focus (first | rfl | exact Nat.le_of_ble_eq_true rfl | omega | (simp only [List.length_cons, List.length_nil, List.length_map, List.length_append]; omega))))
  refine ⟨{k : Nat // k ≤ (writesR x).length}, fun ⟨k, _⟩ => ⟨[(0, .ptr 1 0), (94, .pv (slP (writesR x))), (95, .pv (ii (writesR x).length)), (96, .pv (ii k))], 1000000000, [(1, .var (({ x with since := now } : Rv).v (.pv (slP x.heard)) (.pv (slP x.none)) (.pv (slP x.has)) (.slw 2 0) (.pv (slP x.bad)) (.slw 1001 0))), (2, .roa 0 2 (x.frags.map Fr.c)), (1001, .arr 54 0 10 ((copiesQ x ((writesR x).take k)).map Rq.c))]⟩, fun ⟨k, _⟩ => (writesR x).length - k, ⟨⟨0, Nat.zero_le _⟩, ent_of ?_⟩, ?_⟩
  · repeat' first
      | fail
      | with_reducible exact True.intro
      | with_reducible exact rfl
      | with_reducible exact leRs_refl _
      | ((conv => whnf); with_reducible apply And.intro)
      | ((conv => whnf); with_reducible exact True.intro)
      | exact rfl
      | exact id
      | exact leRs_refl _
    all_goals try (conv => whnf)
    rw [List.length_map]; rfl
  rintro ⟨k, hk⟩
  by_cases hlt : k < (writesR x).length
  · have d0 : decide ((k : Int) < ((writesR x).length : Int)) = true := by simp only [decide_eq_true_eq]; omega
    have eW : IntKind.i64.wrap ((k : Int) + 1) = ((k + 1 : Nat) : Int) := by rw [wrapI (by omega) (by omega)]; omega
    have hq := filter_map_take (fun p => !x.has.any (· == p)) (copyR x) (writesR x) k hlt
    have hl := filter_map_len (fun p => !x.has.any (· == p)) (copyR x) (writesR x) k
    repeat' ((conv => whnf); first | with_reducible refine (Or.inl ?_ : VC _ _ _ _ _ ∨ _) | ((with_reducible refine fk (fun hc => ?_) fun hc => ?_) <;> first | exact absurd hc (by decide) | (exfalso; simp only [*, reduceCtorEq] at hc; done) | skip) | ((refine ⟨_, rowK _ _ _ hlt, ?_⟩)) | (refine Or.inl (Or.inl ?_); (conv => whnf); refine ⟨_, containsPlace_c _ _ _, ?_⟩) | (refine Or.inl (Or.inl ?_); (conv => whnf); refine ⟨_, cloneByte_c x.body (by omega), ?_⟩) | (((with_reducible apply And.intro); focus (simp only [copiesQ, List.length_map, List.length_cons, List.length_nil] at *; omega))) | ((with_reducible apply And.intro); focus (first | rfl | exact Nat.le_of_ble_eq_true rfl | omega | (simp only [List.length_cons, List.length_nil, List.length_map, List.length_append]; omega))))
    all_goals
      refine ⟨⟨k + 1, hlt⟩, dec_lt hlt, ent_of ?_⟩
      repeat' first | (with_reducible first | exact ⟨⟩ | exact rfl | exact lr _) | ((conv => whnf); with_reducible first | apply And.intro | exact ⟨⟩) | exact rfl | exact id | exact lr _
      all_goals try (conv => whnf)
      all_goals first
        | exact eW
        | (simp only [copiesQ]
           rw [hq, if_pos (by assumption), List.map_append]
           refine leRs_app (leRs_refl _) ?_
           (repeat' first | (with_reducible first | exact ⟨⟩ | exact rfl | exact lr _) | ((conv => whnf); with_reducible first | apply And.intro | exact ⟨⟩) | exact rfl | exact id | exact lr _); (all_goals try (conv => whnf)))
        | (simp only [copiesQ]
           rw [hq, if_neg (by rw [show (!x.has.any fun y => y == (writesR x)[k]) = false from by assumption]; simp)]
           exact leRs_refl _)
  · have hke : k = (writesR x).length := by omega
    subst hke
    have d0 : decide (((writesR x).length : Int) < ((writesR x).length : Int)) = false := by simp
    repeat' ((conv => whnf); first | with_reducible refine (Or.inl ?_ : VC _ _ _ _ _ ∨ _) | ((with_reducible refine fk (fun hc => ?_) fun hc => ?_) <;> first | exact absurd hc (by decide) | (exfalso; simp only [*, reduceCtorEq] at hc; done) | skip) | ((with_reducible apply And.intro); focus (first | rfl | exact Nat.le_of_ble_eq_true rfl | omega | (simp only [List.length_cons, List.length_nil, List.length_map, List.length_append]; omega))))
    refine ⟨_, _, ⟨rfl, rfl⟩, ?_⟩
    repeat' first | (with_reducible first | exact ⟨⟩ | exact rfl | exact lr _) | ((conv => whnf); with_reducible first | apply And.intro | exact ⟨⟩) | exact rfl | exact id | exact lr _
    all_goals try (conv => whnf)
    rw [List.take_length]
    exact leRs_refl _
theorem fencesP_g (x : Rv) (now : Int) (hp : x.phase = 1) (h0 : 0 < x.l.frags.length) (hfl : x.l.frags.length ≤ 1000) (hl : (lastF x).bookies.length ≤ 1000000) :
    GCx Try.prog 22 [.ptr 1 0, .pv (uu now)] [(1, .var (x.v (.pv (slP x.heard)) (.pv (slP x.none)) (.pv (slP x.has)) (.pv (slF x.frags)) (.pv (slP x.bad)) (.pv (.sc (.slice none 0 0)))))] (.pv (.tup []))
      [(1, .var (({ x with since := now } : Rv).v (.pv (slP x.heard)) (.pv (slP x.none)) (.pv (slP x.has)) (.pv (slF x.frags)) (.pv (slP x.bad)) (.slw 1001 0))), (1001, .arr 54 0 10 ((fencesQ x (lastF x).bookies).map Rq.c))] := by
  have b1 : (x.phase == 1) = true := by simp [hp]
  clear hp
  have c1 : decide (((List.map Fr.c x.l.frags).length : Int) > 0) = true := by rw [List.length_map]; simp only [decide_eq_true_eq]; omega
  have eL : IntKind.i64.wrap (((List.map Fr.c x.l.frags).length : Int) - 1) = ((x.l.frags.length - 1 : Nat) : Int) := by rw [List.length_map, wrapI (by omega) (by omega)]; omega
  have hlt1 : x.l.frags.length - 1 < x.l.frags.length := by omega
  have elf : lastF x = x.l.frags[x.l.frags.length - 1] := getElem!_pos x.l.frags _ hlt1
  rw [elf] at hl ⊢
  clear elf
  obtain ⟨lf, hlf⟩ : ∃ lf, x.l.frags[x.l.frags.length - 1] = lf := ⟨_, rfl⟩
  rw [hlf] at hl ⊢
  have hrow : (List.map Fr.c x.l.frags)[(IntKind.i64.wrap (((List.map Fr.c x.l.frags).length : Int) - 1)).toNat]? = some (Fr.c lf) := (rowE Fr.c _ eL hlt1).trans (by rw [hlf])
  refine GC_of_VC tabOk (draw_ok mixed tabOk) fn_wAsk rfl ?_
  repeat' ((conv => whnf); first | with_reducible refine (Or.inl ?_ : VC _ _ _ _ _ ∨ _) | ((with_reducible refine fk (fun hc => ?_) fun hc => ?_) <;> first | exact absurd hc (by decide) | (exfalso; simp only [*, reduceCtorEq] at hc; done) | skip) | (refine Or.inr ?_; (conv => whnf); refine ⟨_, GI_of_VC tabOk (draw_ok mixed tabOk) fn_wLast rfl ?_, fun _ _ h => h⟩) | ((refine ⟨_, hrow, ?_⟩)) | (((with_reducible apply And.intro); focus (rw [eL, List.length_map]; omega))) | (((with_reducible apply And.intro); focus (rw [eL]; omega))) | ((with_reducible apply And.intro); focus (first | rfl | exact Nat.le_of_ble_eq_true rfl | omega | (simp only [List.length_cons, List.length_nil, List.length_map, List.length_append]; omega))))
  refine ⟨{k : Nat // k ≤ lf.bookies.length}, fun ⟨k, _⟩ => ⟨[(0, .ptr 1 0), (24, .pv (slP lf.bookies)), (25, .pv (ii lf.bookies.length)), (26, .pv (ii k))], 1000000000, [(1, .var (({ x with since := now } : Rv).v (.pv (slP x.heard)) (.pv (slP x.none)) (.pv (slP x.has)) (.pv (slF x.frags)) (.pv (slP x.bad)) (.slw 1001 0))), (1001, .arr 54 0 10 ((fencesQ x (lf.bookies.take k)).map Rq.c))]⟩, fun ⟨k, _⟩ => lf.bookies.length - k, ⟨⟨0, Nat.zero_le _⟩, ent_of ?_⟩, ?_⟩
  · repeat' first
      | fail
      | with_reducible exact True.intro
      | with_reducible exact rfl
      | with_reducible exact leRs_refl _
      | ((conv => whnf); with_reducible apply And.intro)
      | ((conv => whnf); with_reducible exact True.intro)
      | exact rfl
      | exact id
      | exact leRs_refl _
    all_goals try (conv => whnf)
    rw [List.length_map]
  rintro ⟨k, hk⟩
  by_cases hlt : k < lf.bookies.length
  · have d0 : decide ((k : Int) < (lf.bookies.length : Int)) = true := by simp only [decide_eq_true_eq]; omega
    have eW : IntKind.i64.wrap ((k : Int) + 1) = ((k + 1 : Nat) : Int) := by rw [wrapI (by omega) (by omega)]; omega
    have hq := filter_map_take (fun p => !x.heard.any (· == p)) (fenceR x) lf.bookies k hlt
    have hl2 := filter_map_len (fun p => !x.heard.any (· == p)) (fenceR x) lf.bookies k
    clear hrow eL c1
    repeat' ((conv => whnf); first | with_reducible refine (Or.inl ?_ : VC _ _ _ _ _ ∨ _) | ((with_reducible refine fk (fun hc => ?_) fun hc => ?_) <;> first | exact absurd hc (by decide) | (exfalso; simp only [*, reduceCtorEq] at hc; done) | skip) | ((refine ⟨_, rowK _ _ _ hlt, ?_⟩)) | (refine Or.inl (Or.inl ?_); (conv => whnf); refine ⟨_, containsPlace_c _ _ _, ?_⟩) | (((with_reducible apply And.intro); focus (simp only [fencesQ, List.length_map, List.length_cons, List.length_nil] at *; omega))) | ((with_reducible apply And.intro); focus (first | rfl | exact Nat.le_of_ble_eq_true rfl | omega | (simp only [List.length_cons, List.length_nil, List.length_map, List.length_append]; omega))))
    all_goals
      refine ⟨⟨k + 1, hlt⟩, dec_lt hlt, ent_of ?_⟩
      repeat' first | (with_reducible first | exact ⟨⟩ | exact rfl | exact lr _) | ((conv => whnf); with_reducible first | apply And.intro | exact ⟨⟩) | exact rfl | exact id | exact lr _
      all_goals try (conv => whnf)
      all_goals first
        | exact eW
        | (simp only [fencesQ]
           rw [hq, if_pos (by assumption), List.map_append]
           refine leRs_app (leRs_refl _) ?_
           (repeat' first | (with_reducible first | exact ⟨⟩ | exact rfl | exact lr _) | ((conv => whnf); with_reducible first | apply And.intro | exact ⟨⟩) | exact rfl | exact id | exact lr _); (all_goals try (conv => whnf)))
        | (simp only [fencesQ]
           rw [hq, if_neg (by rw [show (!x.heard.any fun y => y == lf.bookies[k]) = false from by assumption]; simp)]
           exact leRs_refl _)
  · have hke : k = lf.bookies.length := by omega
    subst hke
    have d0 : decide ((lf.bookies.length : Int) < (lf.bookies.length : Int)) = false := by simp
    repeat' ((conv => whnf); first | with_reducible refine (Or.inl ?_ : VC _ _ _ _ _ ∨ _) | ((with_reducible refine fk (fun hc => ?_) fun hc => ?_) <;> first | exact absurd hc (by decide) | (exfalso; simp only [*, reduceCtorEq] at hc; done) | skip) | ((with_reducible apply And.intro); focus (first | rfl | exact Nat.le_of_ble_eq_true rfl | omega | (simp only [List.length_cons, List.length_nil, List.length_map, List.length_append]; omega))))
    refine ⟨_, _, ⟨rfl, rfl⟩, ?_⟩
    repeat' first | (with_reducible first | exact ⟨⟩ | exact rfl | exact lr _) | ((conv => whnf); with_reducible first | apply And.intro | exact ⟨⟩) | exact rfl | exact id | exact lr _
    all_goals try (conv => whnf)
    rw [List.take_length]
    exact leRs_refl _
end Go.Proofs.Ytpbjamihhkmgiaa.Tb
