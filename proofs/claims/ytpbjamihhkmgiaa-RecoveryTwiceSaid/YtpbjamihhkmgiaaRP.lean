/-
  Contracts of functions of the program and of the document, each for every input that its premises name.
-/
import Derived.Test.YtpbjamihhkmgiaaRH
set_option linter.unusedSectionVars false
set_option maxRecDepth 100000
set_option maxHeartbeats 4000000
set_option linter.unusedVariables false
set_option linter.unusedSimpArgs false
open Go Go.AX
namespace Go.Proofs.Ytpbjamihhkmgiaa.Tb
theorem goOnEO_g (x : Rv) (out : List Rq) (n now : Int) (hn : 8 < n) :
    GCx Try.prog 40 [.ptr 1 0, .pv (uu n), .pv (uu now)] [(1, .var (x.v (.pv (slP x.heard)) (.pv (slP x.none)) (.slw 2 0) (.pv (slF x.frags)) (.pv (slP x.bad)) (.slw 3 0))), (2, .arr 38 0 2 (x.has.map Pl.c)), (3, .arr 54 0 10 (out.map Rq.c))] (.pv (.tup []))
      [(1, .var ((goOnR x n now).1.v (.pv (slP x.heard)) (.pv (slP [])) (.pv (slP [])) (.pv (slF x.frags)) (.pv (slP [])) (.slw 3 0))), (2, .arr 38 0 2 (x.has.map Pl.c)), (3, .arr 54 0 10 (out.map Rq.c))] := by
  have d : decide (n > 8) = true := by simp only [decide_eq_true_eq]; omega
  have e : goOnR x n now = ({ x with n := n, none := [], has := [], body := [], bad := [], phase := 4 }, []) := by unfold goOnR; rw [if_pos d]
  rw [e]
  clear e hn
  refine GC_of_VC tabOk (draw_ok mixed tabOk) fn_wGoOn rfl ?_
  repeat' ((conv => whnf); first | with_reducible refine (Or.inl ?_ : VC _ _ _ _ _ ∨ _) | ((with_reducible refine fk (fun hc => ?_) fun hc => ?_) <;> first | exact absurd hc (by decide) | (exfalso; simp only [*, reduceCtorEq] at hc; done) | skip) | ((with_reducible apply And.intro); focus (first | rfl | exact Nat.le_of_ble_eq_true rfl | omega | (simp only [List.length_cons, List.length_nil, List.length_map, List.length_append]; omega))))
  all_goals
    refine ⟨_, _, ⟨rfl, rfl⟩, ?_⟩
    repeat' first | (with_reducible first | exact ⟨⟩ | exact rfl | exact lr _) | ((conv => whnf); with_reducible first | apply And.intro | exact ⟨⟩) | exact rfl | exact id | exact lr _
    all_goals try (conv => whnf)
theorem goOnAO_g (x : Rv) (out : List Rq) (hol : out.length ≤ 1000) (n now : Int) (hn : 0 ≤ n ∧ n ≤ 8) (hf : frsOk x.l.frags) (hs : ∀ n, (setOf x.l.frags x.l.w n).length ≤ 1000000) :
    GCx Try.prog 40 [.ptr 1 0, .pv (uu n), .pv (uu now)] [(1, .var (x.v (.pv (slP x.heard)) (.pv (slP x.none)) (.slw 2 0) (.pv (slF x.frags)) (.pv (slP x.bad)) (.slw 3 0))), (2, .arr 38 0 2 (x.has.map Pl.c)), (3, .arr 54 0 10 (out.map Rq.c))] (.pv (.tup []))
      [(1, .var ((goOnR x n now).1.v (.pv (slP x.heard)) (.pv (slP [])) (.pv (slP [])) (.pv (slF x.frags)) (.pv (slP [])) (.slw 1001 0))), (2, .arr 38 0 2 (x.has.map Pl.c)), (3, .roa 1 10 []), (1001, .arr 54 0 10 ((out ++ (goOnR x n now).2).map Rq.c))] := by
  have d : decide (n > 8) = false := by simp only [decide_eq_false_iff_not]; omega
  obtain ⟨y, hy⟩ : ∃ y : Rv, y = { x with n := n, none := [], has := [], body := [], bad := [], phase := 2, born := now } := ⟨_, rfl⟩
  have e : goOnR x n now = ({ y with since := now }, asksQ y (readsR y)) := by unfold goOnR; rw [if_neg (by rw [d]; simp), hy]; rfl
  rw [e]
  have hask := asksPS_g y now out hol (by rw [hy]) (by rw [hy]; exact hf) (by rw [hy]; simp only; omega) (by rw [hy]; exact hs _)
  subst hy
  clear e hn
  refine GC_of_VC tabOk (draw_ok mixed tabOk) fn_wGoOn rfl ?_
  repeat' ((conv => whnf); first | with_reducible refine (Or.inl ?_ : VC _ _ _ _ _ ∨ _) | ((with_reducible refine fk (fun hc => ?_) fun hc => ?_) <;> first | exact absurd hc (by decide) | (exfalso; simp only [*, reduceCtorEq] at hc; done) | skip) | (refine Or.inr ?_; (conv => whnf); refine ⟨_, GI_of_VC tabOk (draw_ok mixed tabOk) fn_wBegin rfl ?_, fun _ _ h => h⟩) | (refine Or.inl (Or.inr ?_); (conv => whnf); refine ⟨_, _, GCx_pre (hask) ?_, ?_⟩; focus ((repeat' first | (with_reducible first | exact ⟨⟩ | exact rfl | exact lr _) | ((conv => whnf); with_reducible first | apply And.intro | exact ⟨⟩) | exact rfl | exact id | assumption | exact lr _); done)) | ((with_reducible apply And.intro); focus (first | rfl | exact Nat.le_of_ble_eq_true rfl | omega | (simp only [List.length_cons, List.length_nil, List.length_map, List.length_append]; omega))))
  all_goals
    refine ⟨_, _, ⟨rfl, rfl⟩, ?_⟩
    repeat' first | (with_reducible first | exact ⟨⟩ | exact rfl | exact lr _) | ((conv => whnf); with_reducible first | apply And.intro | exact ⟨⟩) | exact rfl | exact id | exact lr _
    all_goals try (conv => whnf)
section
variable (x : Rv) (out : List Rq) (now : Int)
theorem enoughNO_g (hf : frsOk x.frags) (hn : 0 ≤ x.n ∧ x.n ≤ 1000) (ha : ackedP (writesR x) x.l.a x.has = false) :
    GCx Try.prog 21 [.ptr 1 0, .pv (uu now)] [(1, .var (x.v (.pv (slP x.heard)) (.pv (slP x.none)) (.slw 2 0) (.pv (slF x.frags)) (.pv (slP x.bad)) (.slw 3 0))), (2, .arr 38 0 2 (x.has.map Pl.c)), (3, .arr 54 0 10 (out.map Rq.c))] (.pv (.tup []))
      [(1, .var (x.v (.pv (slP x.heard)) (.pv (slP x.none)) (.slw 2 0) (.pv (slF x.frags)) (.pv (slP x.bad)) (.slw 3 0))), (2, .arr 38 0 2 (x.has.map Pl.c)), (3, .arr 54 0 10 (out.map Rq.c))] := by
  have hw := writesSO_g x out hf (by omega)
  have hac := sAcked_c (writesR x) x.l.a x.has
  rw [ha] at hac
  clear ha
  refine GC_of_VC tabOk (draw_ok mixed tabOk) fn_wEnough rfl ?_
  repeat' ((conv => whnf); first | with_reducible refine (Or.inl ?_ : VC _ _ _ _ _ ∨ _) | ((with_reducible refine fk (fun hc => ?_) fun hc => ?_) <;> first | exact absurd hc (by decide) | (exfalso; simp only [*, reduceCtorEq] at hc; done) | skip) | (refine Or.inr ?_; (conv => whnf); refine ⟨_, _, GCx_pre (hw) ?_, ?_⟩; focus ((repeat' first | (with_reducible first | exact ⟨⟩ | exact rfl | exact lr _) | ((conv => whnf); with_reducible first | apply And.intro | exact ⟨⟩) | exact rfl | exact id | assumption | exact lr _); done)) | (refine Or.inl (Or.inl ?_); (conv => whnf); refine ⟨_, PCx_pre (hac) ?_, ?_⟩; focus ((repeat' first | (with_reducible first | exact ⟨⟩ | exact rfl | exact lr _) | ((conv => whnf); with_reducible first | apply And.intro | exact ⟨⟩) | exact rfl | exact id | assumption | exact lr _); done)) | ((with_reducible apply And.intro); focus (first | rfl | exact Nat.le_of_ble_eq_true rfl | omega | (simp only [List.length_cons, List.length_nil, List.length_map, List.length_append]; omega))))
  refine ⟨_, _, ⟨rfl, rfl⟩, ?_⟩
  repeat' first | (with_reducible first | exact ⟨⟩ | exact rfl | exact lr _) | ((conv => whnf); with_reducible first | apply And.intro | exact ⟨⟩) | exact rfl | exact id | exact lr _
  all_goals try (conv => whnf)
theorem enoughEO_g (hf : frsOk x.frags) (hn : 0 ≤ x.n ∧ x.n ≤ 1000) (ha : ackedP (writesR x) x.l.a x.has = true) (h8 : 8 < x.n + 1) :
    GCx Try.prog 21 [.ptr 1 0, .pv (uu now)] [(1, .var (x.v (.pv (slP x.heard)) (.pv (slP x.none)) (.slw 2 0) (.pv (slF x.frags)) (.pv (slP x.bad)) (.slw 3 0))), (2, .arr 38 0 2 (x.has.map Pl.c)), (3, .arr 54 0 10 (out.map Rq.c))] (.pv (.tup []))
      [(1, .var ((goOnR x (x.n + 1) now).1.v (.pv (slP x.heard)) (.pv (slP [])) (.pv (slP [])) (.pv (slF x.frags)) (.pv (slP [])) (.slw 3 0))), (2, .arr 38 0 2 (x.has.map Pl.c)), (3, .arr 54 0 10 (out.map Rq.c))] := by
  have hw := writesSO_g x out hf (by omega)
  have hac := sAcked_c (writesR x) x.l.a x.has
  rw [ha] at hac
  clear ha
  have ew : IntKind.u64.wrap (x.n + 1) = x.n + 1 := wrapU (by omega) (by omega)
  have hg := goOnEO_g x out (x.n + 1) now h8
  rw [← ew] at hg ⊢
  clear ew h8
  refine GC_of_VC tabOk (draw_ok mixed tabOk) fn_wEnough rfl ?_
  repeat' ((conv => whnf); first | with_reducible refine (Or.inl ?_ : VC _ _ _ _ _ ∨ _) | ((with_reducible refine fk (fun hc => ?_) fun hc => ?_) <;> first | exact absurd hc (by decide) | (exfalso; simp only [*, reduceCtorEq] at hc; done) | skip) | (refine Or.inr ?_; (conv => whnf); refine ⟨_, _, GCx_pre (hw) ?_, ?_⟩; focus ((repeat' first | (with_reducible first | exact ⟨⟩ | exact rfl | exact lr _) | ((conv => whnf); with_reducible first | apply And.intro | exact ⟨⟩) | exact rfl | exact id | assumption | exact lr _); done)) | (refine Or.inl (Or.inl ?_); (conv => whnf); refine ⟨_, PCx_pre (hac) ?_, ?_⟩; focus ((repeat' first | (with_reducible first | exact ⟨⟩ | exact rfl | exact lr _) | ((conv => whnf); with_reducible first | apply And.intro | exact ⟨⟩) | exact rfl | exact id | assumption | exact lr _); done)) | (refine Or.inl (Or.inr ?_); (conv => whnf); refine ⟨_, _, GCx_pre (hg) ?_, ?_⟩; focus ((repeat' first | (with_reducible first | exact ⟨⟩ | exact rfl | exact lr _) | ((conv => whnf); with_reducible first | apply And.intro | exact ⟨⟩) | exact rfl | exact id | assumption | exact lr _); done)) | ((with_reducible apply And.intro); focus (first | rfl | exact Nat.le_of_ble_eq_true rfl | omega | (simp only [List.length_cons, List.length_nil, List.length_map, List.length_append]; omega))))
  refine ⟨_, _, ⟨rfl, rfl⟩, ?_⟩
  repeat' first | (with_reducible first | exact ⟨⟩ | exact rfl | exact lr _) | ((conv => whnf); with_reducible first | apply And.intro | exact ⟨⟩) | exact rfl | exact id | exact lr _
  all_goals try (conv => whnf)
theorem enoughAO_g (hol : out.length ≤ 1000) (hf : frsOk x.frags) (hn : 0 ≤ x.n ∧ x.n ≤ 1000) (ha : ackedP (writesR x) x.l.a x.has = true) (h8 : x.n + 1 ≤ 8) (hfl : frsOk x.l.frags) (hs : ∀ n, (setOf x.l.frags x.l.w n).length ≤ 1000000) :
    GCx Try.prog 21 [.ptr 1 0, .pv (uu now)] [(1, .var (x.v (.pv (slP x.heard)) (.pv (slP x.none)) (.slw 2 0) (.pv (slF x.frags)) (.pv (slP x.bad)) (.slw 3 0))), (2, .arr 38 0 2 (x.has.map Pl.c)), (3, .arr 54 0 10 (out.map Rq.c))] (.pv (.tup []))
      [(1, .var ((goOnR x (x.n + 1) now).1.v (.pv (slP x.heard)) (.pv (slP [])) (.pv (slP [])) (.pv (slF x.frags)) (.pv (slP [])) (.slw 1001 0))), (2, .arr 38 0 2 (x.has.map Pl.c)), (3, .roa 1 10 []), (1001, .arr 54 0 10 ((out ++ (goOnR x (x.n + 1) now).2).map Rq.c))] := by
  have hw := writesSO_g x out hf (by omega)
  have hac := sAcked_c (writesR x) x.l.a x.has
  rw [ha] at hac
  clear ha
  have ew : IntKind.u64.wrap (x.n + 1) = x.n + 1 := wrapU (by omega) (by omega)
  have hg := goOnAO_g x out hol (x.n + 1) now (by omega) hfl hs
  rw [← ew] at hg ⊢
  clear ew h8 hs
  refine GC_of_VC tabOk (draw_ok mixed tabOk) fn_wEnough rfl ?_
  repeat' ((conv => whnf); first | with_reducible refine (Or.inl ?_ : VC _ _ _ _ _ ∨ _) | ((with_reducible refine fk (fun hc => ?_) fun hc => ?_) <;> first | exact absurd hc (by decide) | (exfalso; simp only [*, reduceCtorEq] at hc; done) | skip) | (refine Or.inr ?_; (conv => whnf); refine ⟨_, _, GCx_pre (hw) ?_, ?_⟩; focus ((repeat' first | (with_reducible first | exact ⟨⟩ | exact rfl | exact lr _) | ((conv => whnf); with_reducible first | apply And.intro | exact ⟨⟩) | exact rfl | exact id | assumption | exact lr _); done)) | (refine Or.inl (Or.inl ?_); (conv => whnf); refine ⟨_, PCx_pre (hac) ?_, ?_⟩; focus ((repeat' first | (with_reducible first | exact ⟨⟩ | exact rfl | exact lr _) | ((conv => whnf); with_reducible first | apply And.intro | exact ⟨⟩) | exact rfl | exact id | assumption | exact lr _); done)) | (refine Or.inl (Or.inr ?_); (conv => whnf); refine ⟨_, _, GCx_pre (hg) ?_, ?_⟩; focus ((repeat' first | (with_reducible first | exact ⟨⟩ | exact rfl | exact lr _) | ((conv => whnf); with_reducible first | apply And.intro | exact ⟨⟩) | exact rfl | exact id | assumption | exact lr _); done)) | ((with_reducible apply And.intro); focus (first | rfl | exact Nat.le_of_ble_eq_true rfl | omega | (simp only [List.length_cons, List.length_nil, List.length_map, List.length_append]; omega))))
  refine ⟨_, _, ⟨rfl, rfl⟩, ?_⟩
  repeat' first | (with_reducible first | exact ⟨⟩ | exact rfl | exact lr _) | ((conv => whnf); with_reducible first | apply And.intro | exact ⟨⟩) | exact rfl | exact id | exact lr _
  all_goals try (conv => whnf)
end
end Go.Proofs.Ytpbjamihhkmgiaa.Tb
