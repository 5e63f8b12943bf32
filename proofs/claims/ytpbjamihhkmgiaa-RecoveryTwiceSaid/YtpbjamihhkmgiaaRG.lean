/-
  Contracts of functions of the program and of the document, each for every input that its premises name.
-/
import Derived.Test.YtpbjamihhkmgiaaRF
set_option linter.unusedSectionVars false
set_option maxRecDepth 100000
set_option maxHeartbeats 4000000
set_option linter.unusedVariables false
set_option linter.unusedSimpArgs false
open Go Go.AX
namespace Go.Proofs.Ytpbjamihhkmgiaa.Tb
theorem goOnAH_g (x : Rv) (n now : Int) (hn : 0 ≤ n ∧ n ≤ 8) (hf : frsOk x.l.frags) (hs : ∀ n, (setOf x.l.frags x.l.w n).length ≤ 1000000) :
    GCx Try.prog 40 [.ptr 1 0, .pv (uu n), .pv (uu now)] [(1, .var (x.v (.slw 2 0) (.pv (slP x.none)) (.pv (slP x.has)) (.pv (slF x.frags)) (.pv (slP x.bad)) (.pv (.sc (.slice none 0 0))))), (2, .arr 38 0 2 (x.heard.map Pl.c))] (.pv (.tup []))
      [(1, .var ((goOnR x n now).1.v (.slw 2 0) (.pv (slP [])) (.pv (slP [])) (.pv (slF x.frags)) (.pv (slP [])) (.slw 1001 0))), (2, .arr 38 0 2 (x.heard.map Pl.c)), (1001, .arr 54 0 10 ((goOnR x n now).2.map Rq.c))] := by
  have d : decide (n > 8) = false := by simp only [decide_eq_false_iff_not]; omega
  obtain ⟨y, hy⟩ : ∃ y : Rv, y = { x with n := n, none := [], has := [], body := [], bad := [], phase := 2, born := now } := ⟨_, rfl⟩
  have e : goOnR x n now = ({ y with since := now }, asksQ y (readsR y)) := by unfold goOnR; rw [if_neg (by rw [d]; simp), hy]; rfl
  rw [e]
  have hask := asksH_g y now (by rw [hy]) (by rw [hy]; exact hf) (by rw [hy]; simp only; omega) (by rw [hy]; exact hs _)
  subst hy
  clear e hn
  refine GC_of_VC tabOk (draw_ok mixed tabOk) fn_wGoOn rfl ?_
  repeat' ((conv => whnf); first | with_reducible refine (Or.inl ?_ : VC _ _ _ _ _ ∨ _) | ((with_reducible refine fk (fun hc => ?_) fun hc => ?_) <;> first | exact absurd hc (by decide) | (exfalso; simp only [*, reduceCtorEq] at hc; done) | skip) | (refine Or.inr ?_; (conv => whnf); refine ⟨_, GI_of_VC tabOk (draw_ok mixed tabOk) fn_wBegin rfl ?_, fun _ _ h => h⟩) | (refine Or.inl (Or.inr ?_); (conv => whnf); refine ⟨_, _, GCx_pre (hask) ?_, ?_⟩; focus ((repeat' first | (with_reducible first | exact ⟨⟩ | exact rfl | exact lr _) | ((conv => whnf); with_reducible first | apply And.intro | exact ⟨⟩) | exact rfl | exact id | assumption | exact lr _); done)) | ((with_reducible apply And.intro); focus (first | rfl | exact Nat.le_of_ble_eq_true rfl | omega | (simp only [List.length_cons, List.length_nil, List.length_map, List.length_append]; omega))))
  all_goals
    refine ⟨_, _, ⟨rfl, rfl⟩, ?_⟩
    repeat' first | (with_reducible first | exact ⟨⟩ | exact rfl | exact lr _) | ((conv => whnf); with_reducible first | apply And.intro | exact ⟨⟩) | exact rfl | exact id | exact lr _
    all_goals try (conv => whnf)
theorem goOnAS_g (x : Rv) (n now : Int) (hn : 0 ≤ n ∧ n ≤ 8) (hf : frsOk x.l.frags) (hs : ∀ n, (setOf x.l.frags x.l.w n).length ≤ 1000000) :
    GCx Try.prog 40 [.ptr 1 0, .pv (uu n), .pv (uu now)] [(1, .var (x.v (.pv (slP x.heard)) (.pv (slP x.none)) (.slw 2 0) (.pv (slF x.frags)) (.pv (slP x.bad)) (.pv (.sc (.slice none 0 0))))), (2, .arr 38 0 2 (x.has.map Pl.c))] (.pv (.tup []))
      [(1, .var ((goOnR x n now).1.v (.pv (slP x.heard)) (.pv (slP [])) (.pv (slP [])) (.pv (slF x.frags)) (.pv (slP [])) (.slw 1001 0))), (2, .arr 38 0 2 (x.has.map Pl.c)), (1001, .arr 54 0 10 ((goOnR x n now).2.map Rq.c))] := by
  have d : decide (n > 8) = false := by simp only [decide_eq_false_iff_not]; omega
  obtain ⟨y, hy⟩ : ∃ y : Rv, y = { x with n := n, none := [], has := [], body := [], bad := [], phase := 2, born := now } := ⟨_, rfl⟩
  have e : goOnR x n now = ({ y with since := now }, asksQ y (readsR y)) := by unfold goOnR; rw [if_neg (by rw [d]; simp), hy]; rfl
  rw [e]
  have hask := asksP_g y now (by rw [hy]) (by rw [hy]; exact hf) (by rw [hy]; simp only; omega) (by rw [hy]; exact hs _)
  subst hy
  clear e hn
  refine GC_of_VC tabOk (draw_ok mixed tabOk) fn_wGoOn rfl ?_
  repeat' ((conv => whnf); first | with_reducible refine (Or.inl ?_ : VC _ _ _ _ _ ∨ _) | ((with_reducible refine fk (fun hc => ?_) fun hc => ?_) <;> first | exact absurd hc (by decide) | (exfalso; simp only [*, reduceCtorEq] at hc; done) | skip) | (refine Or.inr ?_; (conv => whnf); refine ⟨_, GI_of_VC tabOk (draw_ok mixed tabOk) fn_wBegin rfl ?_, fun _ _ h => h⟩) | (refine Or.inl (Or.inr ?_); (conv => whnf); refine ⟨_, _, GCx_pre (hask) ?_, ?_⟩; focus ((repeat' first | (with_reducible first | exact ⟨⟩ | exact rfl | exact lr _) | ((conv => whnf); with_reducible first | apply And.intro | exact ⟨⟩) | exact rfl | exact id | assumption | exact lr _); done)) | ((with_reducible apply And.intro); focus (first | rfl | exact Nat.le_of_ble_eq_true rfl | omega | (simp only [List.length_cons, List.length_nil, List.length_map, List.length_append]; omega))))
  all_goals
    refine ⟨_, _, ⟨rfl, rfl⟩, ?_⟩
    repeat' first | (with_reducible first | exact ⟨⟩ | exact rfl | exact lr _) | ((conv => whnf); with_reducible first | apply And.intro | exact ⟨⟩) | exact rfl | exact id | exact lr _
    all_goals try (conv => whnf)
end Go.Proofs.Ytpbjamihhkmgiaa.Tb
