/-
  Contracts of functions of the program and of the document, each for every input that its premises name.
-/
import Derived.Test.YtpbjamihhkmgiaaR3
import Derived.Test.YtpbjamihhkmgiaaRC
set_option linter.unusedSectionVars false
set_option maxRecDepth 100000
set_option maxHeartbeats 4000000
set_option linter.unusedVariables false
set_option linter.unusedSimpArgs false
open Go Go.AX
namespace Go.Proofs.Ytpbjamihhkmgiaa.Tb
theorem copiesFB_g (x : Rv) (now : Int) (hp : x.phase = 3) (hf : frsOk x.frags) (hn : 0 ≤ x.n ∧ x.n ≤ 18446744073709551615) (hs : (writesR x).length ≤ 1000000) (hb : x.body.length ≤ 1000000) :
    GCx Try.prog 22 [.ptr 1 0, .pv (uu now)] [(1, .var (x.v (.pv (slP x.heard)) (.pv (slP x.none)) (.pv (slP x.has)) (.slw 2 0) (.slw 3 0) (.pv (.sc (.slice none 0 0))))), (2, .arr 49 0 2 (x.frags.map Fr.c)), (3, .arr 38 0 2 (x.bad.map Pl.c))] (.pv (.tup []))
      [(1, .var (({ x with since := now } : Rv).v (.pv (slP x.heard)) (.pv (slP x.none)) (.pv (slP x.has)) (.slw 2 0) (.slw 3 0) (.slw 1001 0))), (2, .roa 0 2 (x.frags.map Fr.c)), (3, .arr 38 0 2 (x.bad.map Pl.c)), (1001, .arr 54 0 10 ((copiesQ x (writesR x)).map Rq.c))] := by
  have b1 : (x.phase == 1) = false := by simp [hp]
  have b2 : (x.phase == 2) = false := by simp [hp]
  have b3 : (x.phase == 3) = true := by simp [hp]
  clear hp
  refine GC_of_VC tabOk (draw_ok mixed tabOk) fn_wAsk rfl ?_
  repeat' ((conv => whnf); first | with_reducible refine (Or.inl ?_ : VC _ _ _ _ _ ∨ _) | ((with_reducible refine fk (fun hc => ?_) fun hc => ?_) <;> first | exact absurd hc (by decide) | (exfalso; simp only [*, reduceCtorEq] at hc; done) | skip) | (refine Or.inr ?_; (conv => whnf); refine ⟨_, GI_of_VC tabOk (draw_ok mixed tabOk) fn_wWrites rfl ?_, fun _ _ h => h⟩) | (refine Or.inl (Or.inl ?_); (conv => whnf); refine ⟨_, sSet_c _ _ _ hf hn, ?_⟩) | ((with_reducible apply And.intro); focus (first | rfl | exact Nat.le_of_ble_eq_true rfl | omega | (simp only [List.length_cons, List.length_nil, List.length_map, List.length_append]; omega))))
  refine ⟨{k : Nat // k ≤ (writesR x).length}, fun ⟨k, _⟩ => ⟨[(0, .ptr 1 0), (94, .pv (slP (writesR x))), (95, .pv (ii (writesR x).length)), (96, .pv (ii k))], 1000000000, [(1, .var (({ x with since := now } : Rv).v (.pv (slP x.heard)) (.pv (slP x.none)) (.pv (slP x.has)) (.slw 2 0) (.slw 3 0) (.slw 1001 0))), (2, .roa 0 2 (x.frags.map Fr.c)), (3, .arr 38 0 2 (x.bad.map Pl.c)), (1001, .arr 54 0 10 ((copiesQ x ((writesR x).take k)).map Rq.c))]⟩, fun ⟨k, _⟩ => (writesR x).length - k, ⟨⟨0, Nat.zero_le _⟩, ent_of ?_⟩, ?_⟩
  · repeat' first
      | fail
      | with_reducible exact True.intro
      | with_reducible exact rfl
      | with_reducible exact leRs_refl _
      | ((conv => whnf); with_reducible apply And.intro)
      | ((conv => whnf); with_reducible exact True.intro)
      | exact rfl
      | exact id
      | exact leRs_refl _
    all_goals try (conv => whnf)
    rw [List.length_map]; rfl
  rintro ⟨k, hk⟩
  by_cases hlt : k < (writesR x).length
  · have d0 : decide ((k : Int) < ((writesR x).length : Int)) = true := by simp only [decide_eq_true_eq]; omega
    have eW : IntKind.i64.wrap ((k : Int) + 1) = ((k + 1 : Nat) : Int) := by rw [wrapI (by omega) (by omega)]; omega
    have hq := filter_map_take (fun p => !x.has.any (· == p)) (copyR x) (writesR x) k hlt
    have hl := filter_map_len (fun p => !x.has.any (· == p)) (copyR x) (writesR x) k
    repeat' ((conv => whnf); first | with_reducible refine (Or.inl ?_ : VC _ _ _ _ _ ∨ _) | ((with_reducible refine fk (fun hc => ?_) fun hc => ?_) <;> first | exact absurd hc (by decide) | (exfalso; simp only [*, reduceCtorEq] at hc; done) | skip) | ((refine ⟨_, rowK _ _ _ hlt, ?_⟩)) | (refine Or.inl (Or.inl ?_); (conv => whnf); refine ⟨_, containsPlace_c _ _ _, ?_⟩) | (refine Or.inl (Or.inl ?_); (conv => whnf); refine ⟨_, cloneByte_c x.body (by omega), ?_⟩) | (((with_reducible apply And.intro); focus (simp only [copiesQ, List.length_map, List.length_cons, List.length_nil] at *; omega))) | ((with_reducible apply And.intro); focus (first | rfl | exact Nat.le_of_ble_eq_true rfl | omega | (simp only [List.length_cons, List.length_nil, List.length_map, List.length_append]; omega))))
    all_goals
      refine ⟨⟨k + 1, hlt⟩, dec_lt hlt, ent_of ?_⟩
      repeat' first | (with_reducible first | exact ⟨⟩ | exact rfl | exact lr _) | ((conv => whnf); with_reducible first | apply And.intro | exact ⟨⟩) | exact rfl | exact id | exact lr _
      all_goals try (conv => whnf)
      all_goals first
        | exact eW
        | (simp only [copiesQ]
           rw [hq, if_pos (by assumption), List.map_append]
           refine leRs_app (leRs_refl _) ?_
           (repeat' first | (with_reducible first | exact ⟨⟩ | exact rfl | exact lr _) | ((conv => whnf); with_reducible first | apply And.intro | exact ⟨⟩) | exact rfl | exact id | exact lr _); (all_goals try (conv => whnf)))
        | (simp only [copiesQ]
           rw [hq, if_neg (by rw [show (!x.has.any fun y => y == (writesR x)[k]) = false from by assumption]; simp)]
           exact leRs_refl _)
  · have hke : k = (writesR x).length := by omega
    subst hke
    have d0 : decide (((writesR x).length : Int) < ((writesR x).length : Int)) = false := by simp
    repeat' ((conv => whnf); first | with_reducible refine (Or.inl ?_ : VC _ _ _ _ _ ∨ _) | ((with_reducible refine fk (fun hc => ?_) fun hc => ?_) <;> first | exact absurd hc (by decide) | (exfalso; simp only [*, reduceCtorEq] at hc; done) | skip) | ((with_reducible apply And.intro); focus (first | rfl | exact Nat.le_of_ble_eq_true rfl | omega | (simp only [List.length_cons, List.length_nil, List.length_map, List.length_append]; omega))))
    refine ⟨_, _, ⟨rfl, rfl⟩, ?_⟩
    repeat' first | (with_reducible first | exact ⟨⟩ | exact rfl | exact lr _) | ((conv => whnf); with_reducible first | apply And.intro | exact ⟨⟩) | exact rfl | exact id | exact lr _
    all_goals try (conv => whnf)
    rw [List.take_length]
    exact leRs_refl _
theorem ownFB_g (x : Rv) (h : x.sm) : GCx Try.prog 15 [.pv (.agg x.c)] [] (.ptr 1001 0) [(1001, .var (x.v (.pv (slP x.heard)) (.pv (slP x.none)) (.pv (slP x.has)) (.slw 1002 0) (.slw 1003 0) (.pv (.sc (.slice none 0 0))))), (1002, .arr 49 0 2 (x.frags.map Fr.c)), (1003, .arr 38 0 2 (x.bad.map Pl.c))] := by
  refine GCx_post2 (own0_g x h) [1002, 1003, 1004, 1005] ?_
  (conv => whnf)
  refine ⟨_, _, ⟨rfl, rfl⟩, ?_⟩
  repeat' first | (with_reducible first | exact ⟨⟩ | exact rfl | exact lr _) | ((conv => whnf); with_reducible first | apply And.intro | exact ⟨⟩) | exact rfl | exact id | exact lr _
  all_goals try (conv => whnf)
theorem writesRO_g (x : Rv) (out : List Rq) (hf : frsOk x.frags) (hn : 0 ≤ x.n ∧ x.n ≤ 18446744073709551615) :
    GCx Try.prog 18 [.ptr 1 0] [(1, .var (x.v (.pv (slP x.heard)) (.pv (slP x.none)) (.pv (slP x.has)) (.slw 2 0) (.pv (slP x.bad)) (.slw 3 0))), (2, .roa 0 2 (x.frags.map Fr.c)), (3, .arr 54 0 10 (out.map Rq.c))] (.pv (slP (writesR x))) [(1, .var (x.v (.pv (slP x.heard)) (.pv (slP x.none)) (.pv (slP x.has)) (.slw 2 0) (.pv (slP x.bad)) (.slw 3 0))), (2, .roa 0 2 (x.frags.map Fr.c)), (3, .arr 54 0 10 (out.map Rq.c))] := by
  refine GC_of_VC tabOk (draw_ok mixed tabOk) fn_wWrites rfl ?_
  repeat' ((conv => whnf); first | with_reducible refine (Or.inl ?_ : VC _ _ _ _ _ ∨ _) | ((with_reducible refine fk (fun hc => ?_) fun hc => ?_) <;> first | exact absurd hc (by decide) | (exfalso; simp only [*, reduceCtorEq] at hc; done) | skip) | (refine Or.inl (Or.inl ?_); (conv => whnf); refine ⟨_, sSet_c _ _ _ hf hn, ?_⟩) | ((with_reducible apply And.intro); focus (first | rfl | exact Nat.le_of_ble_eq_true rfl | omega | (simp only [List.length_cons, List.length_nil, List.length_map, List.length_append]; omega))))
  refine ⟨_, _, ⟨rfl, rfl⟩, ?_⟩
  repeat' first | (with_reducible first | exact ⟨⟩ | exact rfl | exact lr _) | ((conv => whnf); with_reducible first | apply And.intro | exact ⟨⟩) | exact rfl | exact id | exact lr _
  all_goals try (conv => whnf)
theorem enoughO_g (x : Rv) (out : List Rq) (now : Int) (hol : out.length ≤ 1000) (hff : frsOk x.frags) (hn : 0 ≤ x.n ∧ x.n ≤ 1000) (hf : frsOk x.l.frags) (hs : ∀ n, (setOf x.l.frags x.l.w n).length ≤ 1000000) :
    GCx Try.prog 21 [.ptr 1 0, .pv (uu now)] [(1, .var (x.v (.pv (slP x.heard)) (.pv (slP x.none)) (.pv (slP x.has)) (.slw 2 0) (.pv (slP x.bad)) (.slw 3 0))), (2, .roa 0 2 (x.frags.map Fr.c)), (3, .arr 54 0 10 (out.map Rq.c))] (.pv (.tup []))
      [(1, .var ((enoughR x now).1.v (.pv (slP (enoughR x now).1.heard)) (.pv (slP (enoughR x now).1.none)) (.pv (slP (enoughR x now).1.has)) (.slw 2 0) (.pv (slP (enoughR x now).1.bad)) (.slw 1001 0))), (2, .roa 0 2 (x.frags.map Fr.c)), (3, .roa 1 10 []), (1001, .arr 54 0 10 ((out ++ (enoughR x now).2).map Rq.c))] := by
  have hw := writesRO_g x out hff (by omega)
  have hac := sAcked_c (writesR x) x.l.a x.has
  cases ha : ackedP (writesR x) x.l.a x.has with
  | false =>
    have e : enoughR x now = (x, []) := by unfold enoughR; rw [if_neg (by rw [ha]; decide)]
    rw [e, List.append_nil]
    rw [ha] at hac
    clear ha e hf hs hn hff hol
    refine GC_mv 3 1777 rfl ?_
    show GC _ _ [.ptr 1 0, .pv (uu now)] [(1777, .arr 54 0 10 (out.map Rq.c)), (1, .var (x.v (.pv (slP x.heard)) (.pv (slP x.none)) (.pv (slP x.has)) (.slw 2 0) (.pv (slP x.bad)) (.slw 1777 0))), (2, .roa 0 2 (x.frags.map Fr.c)), (3, .roa 1 10 [])] _
    refine GC_of_VC tabOk (draw_ok mixed tabOk) fn_wEnough rfl ?_
    repeat' ((conv => whnf); first | with_reducible refine (Or.inl ?_ : VC _ _ _ _ _ ∨ _) | ((with_reducible refine fk (fun hc => ?_) fun hc => ?_) <;> first | exact absurd hc (by decide) | (exfalso; simp only [*, reduceCtorEq] at hc; done) | skip) | (refine Or.inr ?_; (conv => whnf); refine ⟨_, _, GCx_pre (hw) ?_, ?_⟩; focus ((repeat' first | (with_reducible first | exact ⟨⟩ | exact rfl | exact lr _) | ((conv => whnf); with_reducible first | apply And.intro | exact ⟨⟩) | exact rfl | exact id | assumption | exact lr _); done)) | (refine Or.inl (Or.inl ?_); (conv => whnf); refine ⟨_, PCx_pre (hac) ?_, ?_⟩; focus ((repeat' first | (with_reducible first | exact ⟨⟩ | exact rfl | exact lr _) | ((conv => whnf); with_reducible first | apply And.intro | exact ⟨⟩) | exact rfl | exact id | assumption | exact lr _); done)) | ((with_reducible apply And.intro); focus (first | rfl | exact Nat.le_of_ble_eq_true rfl | omega | (simp only [List.length_cons, List.length_nil, List.length_map, List.length_append]; omega))))
    all_goals
      refine ⟨_, _, ⟨rfl, rfl⟩, ?_⟩
      repeat' first | (with_reducible first | exact ⟨⟩ | exact rfl | exact lr _) | ((conv => whnf); with_reducible first | apply And.intro | exact ⟨⟩) | exact rfl | exact id | exact lr _
      all_goals try (conv => whnf)
  | true =>
  rw [ha] at hac
  have e : enoughR x now = goOnR x (x.n + 1) now := by unfold enoughR; rw [if_pos ha]
  rw [e]
  have ew : IntKind.u64.wrap (x.n + 1) = x.n + 1 := wrapU (by omega) (by omega)
  by_cases h8 : 8 < x.n + 1
  · have d : decide (x.n + 1 > 8) = true := by simp only [decide_eq_true_eq]; omega
    have d' : decide (IntKind.u64.wrap (x.n + 1) > 8) = true := by rw [ew]; exact d
    have e2 : goOnR x (x.n + 1) now = ({ x with n := x.n + 1, none := [], has := [], body := [], bad := [], phase := 4 }, []) := by unfold goOnR; rw [if_pos d]
    rw [e2, List.append_nil]
    clear ha e e2 hf hs hn hff hol h8
    refine GC_mv 3 1777 rfl ?_
    show GC _ _ [.ptr 1 0, .pv (uu now)] [(1777, .arr 54 0 10 (out.map Rq.c)), (1, .var (x.v (.pv (slP x.heard)) (.pv (slP x.none)) (.pv (slP x.has)) (.slw 2 0) (.pv (slP x.bad)) (.slw 1777 0))), (2, .roa 0 2 (x.frags.map Fr.c)), (3, .roa 1 10 [])] _
    refine GC_of_VC tabOk (draw_ok mixed tabOk) fn_wEnough rfl ?_
    repeat' ((conv => whnf); first | with_reducible refine (Or.inl ?_ : VC _ _ _ _ _ ∨ _) | ((with_reducible refine fk (fun hc => ?_) fun hc => ?_) <;> first | exact absurd hc (by decide) | (exfalso; simp only [*, reduceCtorEq] at hc; done) | skip) | (refine Or.inr ?_; (conv => whnf); refine ⟨_, _, GCx_pre (hw) ?_, ?_⟩; focus ((repeat' first | (with_reducible first | exact ⟨⟩ | exact rfl | exact lr _) | ((conv => whnf); with_reducible first | apply And.intro | exact ⟨⟩) | exact rfl | exact id | assumption | exact lr _); done)) | (refine Or.inl (Or.inl ?_); (conv => whnf); refine ⟨_, PCx_pre (hac) ?_, ?_⟩; focus ((repeat' first | (with_reducible first | exact ⟨⟩ | exact rfl | exact lr _) | ((conv => whnf); with_reducible first | apply And.intro | exact ⟨⟩) | exact rfl | exact id | assumption | exact lr _); done)) | (refine Or.inr ?_; (conv => whnf); refine ⟨_, GI_of_VC tabOk (draw_ok mixed tabOk) fn_wGoOn rfl ?_, fun _ _ h => h⟩) | ((with_reducible apply And.intro); focus (first | rfl | exact Nat.le_of_ble_eq_true rfl | omega | (simp only [List.length_cons, List.length_nil, List.length_map, List.length_append]; omega))))
    all_goals
      refine ⟨_, _, ⟨rfl, rfl⟩, ?_⟩
      repeat' first | (with_reducible first | exact ⟨⟩ | exact rfl | exact lr _) | ((conv => whnf); with_reducible first | apply And.intro | exact ⟨⟩) | exact rfl | exact id | exact lr _
      all_goals try (conv => whnf)
    all_goals exact ew
  · have d : decide (x.n + 1 > 8) = false := by simp only [decide_eq_false_iff_not]; omega
    have d' : decide (IntKind.u64.wrap (x.n + 1) > 8) = false := by rw [ew]; exact d
    obtain ⟨y, hy⟩ : ∃ y : Rv, y = { x with n := x.n + 1, none := [], has := [], body := [], bad := [], phase := 2, born := now } := ⟨_, rfl⟩
    have e2 : goOnR x (x.n + 1) now = ({ y with since := now }, asksQ y (readsR y)) := by unfold goOnR; rw [if_neg (by rw [d]; simp), hy]; rfl
    rw [e2]
    have hask := asksFS_g y now out hol (by rw [hy]) (by rw [hy]; exact hf) (by rw [hy]; simp only; omega) (by rw [hy]; exact hs _)
    subst hy
    clear ha e e2 hf hs hn hff hol h8
    refine GC_mv 3 1777 rfl ?_
    show GC _ _ [.ptr 1 0, .pv (uu now)] [(1777, .arr 54 0 10 (out.map Rq.c)), (1, .var (x.v (.pv (slP x.heard)) (.pv (slP x.none)) (.pv (slP x.has)) (.slw 2 0) (.pv (slP x.bad)) (.slw 1777 0))), (2, .roa 0 2 (x.frags.map Fr.c)), (3, .roa 1 10 [])] _
    refine GC_of_VC tabOk (draw_ok mixed tabOk) fn_wEnough rfl ?_
    repeat' ((conv => whnf); first | with_reducible refine (Or.inl ?_ : VC _ _ _ _ _ ∨ _) | ((with_reducible refine fk (fun hc => ?_) fun hc => ?_) <;> first | exact absurd hc (by decide) | (exfalso; simp only [*, reduceCtorEq] at hc; done) | skip) | (refine Or.inr ?_; (conv => whnf); refine ⟨_, _, GCx_pre (hw) ?_, ?_⟩; focus ((repeat' first | (with_reducible first | exact ⟨⟩ | exact rfl | exact lr _) | ((conv => whnf); with_reducible first | apply And.intro | exact ⟨⟩) | exact rfl | exact id | assumption | exact lr _); done)) | (refine Or.inl (Or.inl ?_); (conv => whnf); refine ⟨_, PCx_pre (hac) ?_, ?_⟩; focus ((repeat' first | (with_reducible first | exact ⟨⟩ | exact rfl | exact lr _) | ((conv => whnf); with_reducible first | apply And.intro | exact ⟨⟩) | exact rfl | exact id | assumption | exact lr _); done)) | (refine Or.inr ?_; (conv => whnf); refine ⟨_, GI_of_VC tabOk (draw_ok mixed tabOk) fn_wGoOn rfl ?_, fun _ _ h => h⟩) | (refine Or.inr ?_; (conv => whnf); refine ⟨_, GI_of_VC tabOk (draw_ok mixed tabOk) fn_wBegin rfl ?_, fun _ _ h => h⟩) | (refine Or.inl (Or.inr ?_); (conv => whnf); refine ⟨_, _, GCx_pre (hask) ?_, ?_⟩; focus ((repeat' first | (with_reducible first | exact ⟨⟩ | exact rfl | exact lr _) | ((conv => whnf); with_reducible first | apply And.intro | exact ⟨⟩) | exact rfl | exact id | assumption | exact lr _); done)) | ((with_reducible apply And.intro); focus (first | rfl | exact Nat.le_of_ble_eq_true rfl | omega | (simp only [List.length_cons, List.length_nil, List.length_map, List.length_append]; omega))))
    all_goals
      refine ⟨_, _, ⟨rfl, rfl⟩, ?_⟩
      repeat' first | (with_reducible first | exact ⟨⟩ | exact rfl | exact lr _) | ((conv => whnf); with_reducible first | apply And.intro | exact ⟨⟩) | exact rfl | exact id | exact lr _
      all_goals try (conv => whnf)
    all_goals exact ew
end Go.Proofs.Ytpbjamihhkmgiaa.Tb
