/-
  Contracts of functions of the program and of the document, each for every input that its premises name.
-/
import Derived.Test.YtpbjamihhkmgiaaRE
set_option linter.unusedSectionVars false
set_option maxRecDepth 100000
set_option maxHeartbeats 4000000
set_option linter.unusedVariables false
set_option linter.unusedSimpArgs false
open Go Go.AX
namespace Go.Proofs.Ytpbjamihhkmgiaa.Tb
theorem goOnEH_g (x : Rv) (n now : Int) (hn : 8 < n) :
    GCx Try.prog 40 [.ptr 1 0, .pv (uu n), .pv (uu now)] [(1, .var (x.v (.slw 2 0) (.pv (slP x.none)) (.pv (slP x.has)) (.pv (slF x.frags)) (.pv (slP x.bad)) (.pv (.sc (.slice none 0 0))))), (2, .arr 38 0 2 (x.heard.map Pl.c))] (.pv (.tup []))
      [(1, .var ((goOnR x n now).1.v (.slw 2 0) (.pv (slP [])) (.pv (slP [])) (.pv (slF x.frags)) (.pv (slP [])) (.pv (.sc (.slice none 0 0))))), (2, .arr 38 0 2 (x.heard.map Pl.c))] := by
  have d : decide (n > 8) = true := by simp only [decide_eq_true_eq]; omega
  have e : goOnR x n now = ({ x with n := n, none := [], has := [], body := [], bad := [], phase := 4 }, []) := by unfold goOnR; rw [if_pos d]
  rw [e]
  clear e hn
  refine GC_of_VC tabOk (draw_ok mixed tabOk) fn_wGoOn rfl ?_
  repeat' ((conv => whnf); first | with_reducible refine (Or.inl ?_ : VC _ _ _ _ _ ∨ _) | ((with_reducible refine fk (fun hc => ?_) fun hc => ?_) <;> first | exact absurd hc (by decide) | (exfalso; simp only [*, reduceCtorEq] at hc; done) | skip) | ((with_reducible apply And.intro); focus (first | rfl | exact Nat.le_of_ble_eq_true rfl | omega | (simp only [List.length_cons, List.length_nil, List.length_map, List.length_append]; omega))))
  all_goals
    refine ⟨_, _, ⟨rfl, rfl⟩, ?_⟩
    repeat' first | (with_reducible first | exact ⟨⟩ | exact rfl | exact lr _) | ((conv => whnf); with_reducible first | apply And.intro | exact ⟨⟩) | exact rfl | exact id | exact lr _
    all_goals try (conv => whnf)
theorem goOnES_g (x : Rv) (n now : Int) (hn : 8 < n) :
    GCx Try.prog 40 [.ptr 1 0, .pv (uu n), .pv (uu now)] [(1, .var (x.v (.pv (slP x.heard)) (.pv (slP x.none)) (.slw 2 0) (.pv (slF x.frags)) (.pv (slP x.bad)) (.pv (.sc (.slice none 0 0))))), (2, .arr 38 0 2 (x.has.map Pl.c))] (.pv (.tup []))
      [(1, .var ((goOnR x n now).1.v (.pv (slP x.heard)) (.pv (slP [])) (.pv (slP [])) (.pv (slF x.frags)) (.pv (slP [])) (.pv (.sc (.slice none 0 0))))), (2, .arr 38 0 2 (x.has.map Pl.c))] := by
  have d : decide (n > 8) = true := by simp only [decide_eq_true_eq]; omega
  have e : goOnR x n now = ({ x with n := n, none := [], has := [], body := [], bad := [], phase := 4 }, []) := by unfold goOnR; rw [if_pos d]
  rw [e]
  clear e hn
  refine GC_of_VC tabOk (draw_ok mixed tabOk) fn_wGoOn rfl ?_
  repeat' ((conv => whnf); first | with_reducible refine (Or.inl ?_ : VC _ _ _ _ _ ∨ _) | ((with_reducible refine fk (fun hc => ?_) fun hc => ?_) <;> first | exact absurd hc (by decide) | (exfalso; simp only [*, reduceCtorEq] at hc; done) | skip) | ((with_reducible apply And.intro); focus (first | rfl | exact Nat.le_of_ble_eq_true rfl | omega | (simp only [List.length_cons, List.length_nil, List.length_map, List.length_append]; omega))))
  all_goals
    refine ⟨_, _, ⟨rfl, rfl⟩, ?_⟩
    repeat' first | (with_reducible first | exact ⟨⟩ | exact rfl | exact lr _) | ((conv => whnf); with_reducible first | apply And.intro | exact ⟨⟩) | exact rfl | exact id | exact lr _
    all_goals try (conv => whnf)
end Go.Proofs.Ytpbjamihhkmgiaa.Tb
