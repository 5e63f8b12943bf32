/-
  Contracts of functions of the program and of the document, each for every input that its premises name.
-/
import Derived.Test.YtpbjamihhkmgiaaR4
import Derived.Test.YtpbjamihhkmgiaaAe
set_option linter.unusedSectionVars false
set_option maxRecDepth 100000
set_option maxHeartbeats 4000000
set_option linter.unusedVariables false
set_option linter.unusedSimpArgs false
open Go Go.AX
namespace Go.Proofs.Ytpbjamihhkmgiaa.Tb
theorem fn_rcTick : FnOk Try.prog 7 Try.f7 := ⟨Try.func7, by kernel_rfl, by kernel_rfl, by kernel_rfl⟩
section
variable (x : Rv) (now : Int) (known : List Pl) (hsm : x.sm) (hk : known.length ≤ 1000) (hnow : 0 ≤ now ∧ now ≤ 18446744073709551615) (hsi : 0 ≤ x.since ∧ x.since ≤ 18446744073709551615)
include hsm hk hnow hsi
theorem tickK0_c (p3 : (x.phase == 3) = false) (p4 : (x.phase != 4) = false) :
    PCx Try.prog 7 [.agg x.c, uu now, slP known] (.tup [.agg x.c, slR []]) := by
  refine PC.le ?_
  have hg2 := gone_c now x.since 3 hnow hsi
  have hown := ownP_g x hsm
  clear hsm hk hnow hsi
  refine PC_of_VC tabOk (draw_ok mixed tabOk) fn_rcTick rfl ?_
  repeat' ((conv => whnf); first | with_reducible refine (Or.inl ?_ : VC _ _ _ _ _ ∨ _) | ((with_reducible refine fk (fun hc => ?_) fun hc => ?_) <;> first | exact absurd hc (by decide) | (exfalso; simp only [*, reduceCtorEq] at hc; done) | skip) | (refine Or.inl (Or.inr ?_); (conv => whnf); refine ⟨_, _, GCx_pre (hown) ?_, ?_⟩; focus ((repeat' first | (with_reducible first | exact ⟨⟩ | exact rfl | exact lr _) | ((conv => whnf); with_reducible first | apply And.intro | exact ⟨⟩) | exact rfl | exact id | assumption | exact lr _); done)) | (refine Or.inl (Or.inl ?_); (conv => whnf); refine ⟨_, PCx_pre (hg2) ?_, ?_⟩; focus ((repeat' first | (with_reducible first | exact ⟨⟩ | exact rfl | exact lr _) | ((conv => whnf); with_reducible first | apply And.intro | exact ⟨⟩) | exact rfl | exact id | assumption | exact lr _); done)) | ((with_reducible apply And.intro); focus (first | rfl | exact Nat.le_of_ble_eq_true rfl | omega | (simp only [List.length_cons, List.length_nil, List.length_map, List.length_append]; omega))))
  all_goals
    repeat' first | (with_reducible first | exact ⟨⟩ | exact rfl | exact lr _) | ((conv => whnf); with_reducible first | apply And.intro | exact ⟨⟩) | exact rfl | exact id | exact lr _
    all_goals try (conv => whnf)
theorem tickK1_c (p3 : (x.phase == 3) = false) (p4 : (x.phase != 4) = true) (g2 : goneR now x.since 3 = false) :
    PCx Try.prog 7 [.agg x.c, uu now, slP known] (.tup [.agg x.c, slR []]) := by
  refine PC.le ?_
  have hg2 := gone_c now x.since 3 hnow hsi
  rw [g2] at hg2
  clear g2
  have hown := ownP_g x hsm
  clear hsm hk hnow hsi
  refine PC_of_VC tabOk (draw_ok mixed tabOk) fn_rcTick rfl ?_
  repeat' ((conv => whnf); first | with_reducible refine (Or.inl ?_ : VC _ _ _ _ _ ∨ _) | ((with_reducible refine fk (fun hc => ?_) fun hc => ?_) <;> first | exact absurd hc (by decide) | (exfalso; simp only [*, reduceCtorEq] at hc; done) | skip) | (refine Or.inl (Or.inr ?_); (conv => whnf); refine ⟨_, _, GCx_pre (hown) ?_, ?_⟩; focus ((repeat' first | (with_reducible first | exact ⟨⟩ | exact rfl | exact lr _) | ((conv => whnf); with_reducible first | apply And.intro | exact ⟨⟩) | exact rfl | exact id | assumption | exact lr _); done)) | (refine Or.inl (Or.inl ?_); (conv => whnf); refine ⟨_, PCx_pre (hg2) ?_, ?_⟩; focus ((repeat' first | (with_reducible first | exact ⟨⟩ | exact rfl | exact lr _) | ((conv => whnf); with_reducible first | apply And.intro | exact ⟨⟩) | exact rfl | exact id | assumption | exact lr _); done)) | ((with_reducible apply And.intro); focus (first | rfl | exact Nat.le_of_ble_eq_true rfl | omega | (simp only [List.length_cons, List.length_nil, List.length_map, List.length_append]; omega))))
  all_goals
    repeat' first | (with_reducible first | exact ⟨⟩ | exact rfl | exact lr _) | ((conv => whnf); with_reducible first | apply And.intro | exact ⟨⟩) | exact rfl | exact id | exact lr _
    all_goals try (conv => whnf)
theorem tickK2_c (p3 : (x.phase == 3) = false) (p4 : (x.phase != 4) = true) (g2 : goneR now x.since 3 = true) (hp : x.phase = 1) (h0 : 0 < x.l.frags.length) (hfl : x.l.frags.length ≤ 1000) (hl : (lastF x).bookies.length ≤ 1000000) :
    PCx Try.prog 7 [.agg x.c, uu now, slP known] (.tup [.agg ({ x with since := now } : Rv).c, slR (fencesQ x (lastF x).bookies)]) := by
  refine PC.le ?_
  have hg2 := gone_c now x.since 3 hnow hsi
  rw [g2] at hg2
  have hask := fencesP_g x now hp h0 hfl hl
  clear g2 hp h0 hfl hl
  have hown := ownP_g x hsm
  clear hsm hk hnow hsi
  refine PC_of_VC tabOk (draw_ok mixed tabOk) fn_rcTick rfl ?_
  repeat' ((conv => whnf); first | with_reducible refine (Or.inl ?_ : VC _ _ _ _ _ ∨ _) | ((with_reducible refine fk (fun hc => ?_) fun hc => ?_) <;> first | exact absurd hc (by decide) | (exfalso; simp only [*, reduceCtorEq] at hc; done) | skip) | (refine Or.inl (Or.inr ?_); (conv => whnf); refine ⟨_, _, GCx_pre (hown) ?_, ?_⟩; focus ((repeat' first | (with_reducible first | exact ⟨⟩ | exact rfl | exact lr _) | ((conv => whnf); with_reducible first | apply And.intro | exact ⟨⟩) | exact rfl | exact id | assumption | exact lr _); done)) | (refine Or.inl (Or.inl ?_); (conv => whnf); refine ⟨_, PCx_pre (hg2) ?_, ?_⟩; focus ((repeat' first | (with_reducible first | exact ⟨⟩ | exact rfl | exact lr _) | ((conv => whnf); with_reducible first | apply And.intro | exact ⟨⟩) | exact rfl | exact id | assumption | exact lr _); done)) | (refine Or.inl (Or.inr ?_); (conv => whnf); refine ⟨_, _, GCx_pre (hask) ?_, ?_⟩; focus ((repeat' first | (with_reducible first | exact ⟨⟩ | exact rfl | exact lr _) | ((conv => whnf); with_reducible first | apply And.intro | exact ⟨⟩) | exact rfl | exact id | assumption | exact lr _); done)) | ((with_reducible apply And.intro); focus (first | rfl | exact Nat.le_of_ble_eq_true rfl | omega | (simp only [List.length_cons, List.length_nil, List.length_map, List.length_append]; omega))))
  all_goals
    repeat' first | (with_reducible first | exact ⟨⟩ | exact rfl | exact lr _) | ((conv => whnf); with_reducible first | apply And.intro | exact ⟨⟩) | exact rfl | exact id | exact lr _
    all_goals try (conv => whnf)
theorem tickK3_c (p3 : (x.phase == 3) = false) (p4 : (x.phase != 4) = true) (g2 : goneR now x.since 3 = true) (hp : x.phase = 2) (hf : frsOk x.l.frags) (hn : 0 ≤ x.n ∧ x.n ≤ 18446744073709551615) (hs : (readsR x).length ≤ 1000000) :
    PCx Try.prog 7 [.agg x.c, uu now, slP known] (.tup [.agg ({ x with since := now } : Rv).c, slR (asksQ x (readsR x))]) := by
  refine PC.le ?_
  have hg2 := gone_c now x.since 3 hnow hsi
  rw [g2] at hg2
  have hask := asksP_g x now hp hf hn hs
  clear g2 hp hf hn hs
  have hown := ownP_g x hsm
  clear hsm hk hnow hsi
  refine PC_of_VC tabOk (draw_ok mixed tabOk) fn_rcTick rfl ?_
  repeat' ((conv => whnf); first | with_reducible refine (Or.inl ?_ : VC _ _ _ _ _ ∨ _) | ((with_reducible refine fk (fun hc => ?_) fun hc => ?_) <;> first | exact absurd hc (by decide) | (exfalso; simp only [*, reduceCtorEq] at hc; done) | skip) | (refine Or.inl (Or.inr ?_); (conv => whnf); refine ⟨_, _, GCx_pre (hown) ?_, ?_⟩; focus ((repeat' first | (with_reducible first | exact ⟨⟩ | exact rfl | exact lr _) | ((conv => whnf); with_reducible first | apply And.intro | exact ⟨⟩) | exact rfl | exact id | assumption | exact lr _); done)) | (refine Or.inl (Or.inl ?_); (conv => whnf); refine ⟨_, PCx_pre (hg2) ?_, ?_⟩; focus ((repeat' first | (with_reducible first | exact ⟨⟩ | exact rfl | exact lr _) | ((conv => whnf); with_reducible first | apply And.intro | exact ⟨⟩) | exact rfl | exact id | assumption | exact lr _); done)) | (refine Or.inl (Or.inr ?_); (conv => whnf); refine ⟨_, _, GCx_pre (hask) ?_, ?_⟩; focus ((repeat' first | (with_reducible first | exact ⟨⟩ | exact rfl | exact lr _) | ((conv => whnf); with_reducible first | apply And.intro | exact ⟨⟩) | exact rfl | exact id | assumption | exact lr _); done)) | ((with_reducible apply And.intro); focus (first | rfl | exact Nat.le_of_ble_eq_true rfl | omega | (simp only [List.length_cons, List.length_nil, List.length_map, List.length_append]; omega))))
  all_goals
    repeat' first | (with_reducible first | exact ⟨⟩ | exact rfl | exact lr _) | ((conv => whnf); with_reducible first | apply And.intro | exact ⟨⟩) | exact rfl | exact id | exact lr _
    all_goals try (conv => whnf)
end
end Go.Proofs.Ytpbjamihhkmgiaa.Tb
