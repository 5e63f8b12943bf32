/-
  Contracts of functions of the program and of the document, each for every input that its premises name.
-/
import Derived.Test.YtpbjamihhkmgiaaRWa
import Derived.Test.YtpbjamihhkmgiaaRQ
import Derived.Test.YtpbjamihhkmgiaaRS
import Derived.Test.YtpbjamihhkmgiaaRT
import Derived.Test.YtpbjamihhkmgiaaRV
import Derived.Test.YtpbjamihhkmgiaaAe
set_option linter.unusedSectionVars false
set_option maxRecDepth 100000
set_option maxHeartbeats 4000000
set_option linter.unusedVariables false
set_option linter.unusedSimpArgs false
open Go Go.AX
namespace Go.Proofs.Ytpbjamihhkmgiaa.Tb
section
variable (x : Rv) (now : Int) (r : Rs)
theorem takeAN_c (hsm : x.sm) (g1 : (r.ledger != x.l.id) = false) (g2 : (r.epoch != x.epoch) = false) (k2x : (r.kind == 2) = false) (k3x : (r.kind == 3) = false) (k1 : (r.kind == 1) = true) (kn : (r.n == x.n) = true) (p3 : (x.phase == 3) = true) (k0 : (r.code == 0) = false) (k2 : (r.code == 2) = false) (k4 : (r.code == 4) = false) :
    PCx Try.prog 9 [.agg x.c, uu now, .agg r.c] (.tup [.agg x.c, slR []]) := by
  refine PC.le ?_
  have hown := ownP_g x hsm
  have hm := addedN_g x now r k0 k2 k4
  clear hsm
  refine PC_of_VC tabOk (draw_ok mixed tabOk) fn_rcTake rfl ?_
  repeat' ((conv => whnf); first | with_reducible refine (Or.inl ?_ : VC _ _ _ _ _ ∨ _) | ((with_reducible refine fk (fun hc => ?_) fun hc => ?_) <;> first | exact absurd hc (by decide) | (exfalso; simp only [*, reduceCtorEq] at hc; done) | skip) | (refine Or.inl (Or.inr ?_); (conv => whnf); refine ⟨_, _, hown, ?_⟩) | (refine Or.inl (Or.inr ?_); (conv => whnf); refine ⟨_, _, GCx_pre (hm) ?_, ?_⟩; focus ((repeat' first | (with_reducible first | exact ⟨⟩ | exact rfl | exact lr _) | ((conv => whnf); with_reducible first | apply And.intro | exact ⟨⟩) | exact rfl | exact id | assumption | exact lr _); done)) | ((with_reducible apply And.intro); focus (first | rfl | exact Nat.le_of_ble_eq_true rfl | omega | (simp only [List.length_cons, List.length_nil, List.length_map, List.length_append]; omega))))
  all_goals
    repeat' first | (with_reducible first | exact ⟨⟩ | exact rfl | exact lr _) | ((conv => whnf); with_reducible first | apply And.intro | exact ⟨⟩) | exact rfl | exact id | exact lr _
    all_goals try (conv => whnf)
theorem takeAA0_c (hsm : x.sm) (g1 : (r.ledger != x.l.id) = false) (g2 : (r.epoch != x.epoch) = false) (k2x : (r.kind == 2) = false) (k3x : (r.kind == 3) = false) (k1 : (r.kind == 1) = true) (kn : (r.n == x.n) = true) (p3 : (x.phase == 3) = true) (k0 : (r.code == 0) = true) (h : x.has.any (· == r.from_) = true) :
    PCx Try.prog 9 [.agg x.c, uu now, .agg r.c] (.tup [.agg x.c, slR []]) := by
  refine PC.le ?_
  have hown := ownS_g x hsm
  have hm := addedA0_g x now r k0 h
  clear hsm h
  refine PC_of_VC tabOk (draw_ok mixed tabOk) fn_rcTake rfl ?_
  repeat' ((conv => whnf); first | with_reducible refine (Or.inl ?_ : VC _ _ _ _ _ ∨ _) | ((with_reducible refine fk (fun hc => ?_) fun hc => ?_) <;> first | exact absurd hc (by decide) | (exfalso; simp only [*, reduceCtorEq] at hc; done) | skip) | (refine Or.inl (Or.inr ?_); (conv => whnf); refine ⟨_, _, hown, ?_⟩) | (refine Or.inl (Or.inr ?_); (conv => whnf); refine ⟨_, _, GCx_pre (hm) ?_, ?_⟩; focus ((repeat' first | (with_reducible first | exact ⟨⟩ | exact rfl | exact lr _) | ((conv => whnf); with_reducible first | apply And.intro | exact ⟨⟩) | exact rfl | exact id | assumption | exact lr _); done)) | ((with_reducible apply And.intro); focus (first | rfl | exact Nat.le_of_ble_eq_true rfl | omega | (simp only [List.length_cons, List.length_nil, List.length_map, List.length_append]; omega))))
  all_goals
    repeat' first | (with_reducible first | exact ⟨⟩ | exact rfl | exact lr _) | ((conv => whnf); with_reducible first | apply And.intro | exact ⟨⟩) | exact rfl | exact id | exact lr _
    all_goals try (conv => whnf)
theorem takeAAN_c (hsm : x.sm) (g1 : (r.ledger != x.l.id) = false) (g2 : (r.epoch != x.epoch) = false) (k2x : (r.kind == 2) = false) (k3x : (r.kind == 3) = false) (k1 : (r.kind == 1) = true) (kn : (r.n == x.n) = true) (p3 : (x.phase == 3) = true) (k0 : (r.code == 0) = true) (h : x.has.any (· == r.from_) = false) (hl : x.has.length ≤ 1000000) (hff : frsOk x.frags) (hn : 0 ≤ x.n ∧ x.n ≤ 1000) (ha : ackedP (writesR x) x.l.a (x.has ++ [r.from_]) = false) :
    PCx Try.prog 9 [.agg x.c, uu now, .agg r.c] (.tup [.agg ({ x with has := x.has ++ [r.from_] } : Rv).c, slR []]) := by
  refine PC.le ?_
  have hown := ownS_g x hsm
  have hm := addedAN_g x now r k0 h hl hff hn ha
  clear hsm h hl hff hn ha
  refine PC_of_VC tabOk (draw_ok mixed tabOk) fn_rcTake rfl ?_
  repeat' ((conv => whnf); first | with_reducible refine (Or.inl ?_ : VC _ _ _ _ _ ∨ _) | ((with_reducible refine fk (fun hc => ?_) fun hc => ?_) <;> first | exact absurd hc (by decide) | (exfalso; simp only [*, reduceCtorEq] at hc; done) | skip) | (refine Or.inl (Or.inr ?_); (conv => whnf); refine ⟨_, _, hown, ?_⟩) | (refine Or.inl (Or.inr ?_); (conv => whnf); refine ⟨_, _, GCx_pre (hm) ?_, ?_⟩; focus ((repeat' first | (with_reducible first | exact ⟨⟩ | exact rfl | exact lr _) | ((conv => whnf); with_reducible first | apply And.intro | exact ⟨⟩) | exact rfl | exact id | assumption | exact lr _); done)) | ((with_reducible apply And.intro); focus (first | rfl | exact Nat.le_of_ble_eq_true rfl | omega | (simp only [List.length_cons, List.length_nil, List.length_map, List.length_append]; omega))))
  all_goals
    repeat' first | (with_reducible first | exact ⟨⟩ | exact rfl | exact lr _) | ((conv => whnf); with_reducible first | apply And.intro | exact ⟨⟩) | exact rfl | exact id | exact lr _
    all_goals try (conv => whnf)
theorem takeAAE_c (hsm : x.sm) (g1 : (r.ledger != x.l.id) = false) (g2 : (r.epoch != x.epoch) = false) (k2x : (r.kind == 2) = false) (k3x : (r.kind == 3) = false) (k1 : (r.kind == 1) = true) (kn : (r.n == x.n) = true) (p3 : (x.phase == 3) = true) (k0 : (r.code == 0) = true) (h : x.has.any (· == r.from_) = false) (hl : x.has.length ≤ 1000000) (hff : frsOk x.frags) (hn : 0 ≤ x.n ∧ x.n ≤ 1000) (ha : ackedP (writesR x) x.l.a (x.has ++ [r.from_]) = true) (h8 : 8 < x.n + 1) :
    PCx Try.prog 9 [.agg x.c, uu now, .agg r.c] (.tup [.agg (goOnR { x with has := x.has ++ [r.from_] } (x.n + 1) now).1.c, slR []]) := by
  refine PC.le ?_
  have hown := ownS_g x hsm
  have hm := addedAE_g x now r k0 h hl hff hn ha h8
  clear hsm h hl hff hn ha h8
  refine PC_of_VC tabOk (draw_ok mixed tabOk) fn_rcTake rfl ?_
  repeat' ((conv => whnf); first | with_reducible refine (Or.inl ?_ : VC _ _ _ _ _ ∨ _) | ((with_reducible refine fk (fun hc => ?_) fun hc => ?_) <;> first | exact absurd hc (by decide) | (exfalso; simp only [*, reduceCtorEq] at hc; done) | skip) | (refine Or.inl (Or.inr ?_); (conv => whnf); refine ⟨_, _, hown, ?_⟩) | (refine Or.inl (Or.inr ?_); (conv => whnf); refine ⟨_, _, GCx_pre (hm) ?_, ?_⟩; focus ((repeat' first | (with_reducible first | exact ⟨⟩ | exact rfl | exact lr _) | ((conv => whnf); with_reducible first | apply And.intro | exact ⟨⟩) | exact rfl | exact id | assumption | exact lr _); done)) | ((with_reducible apply And.intro); focus (first | rfl | exact Nat.le_of_ble_eq_true rfl | omega | (simp only [List.length_cons, List.length_nil, List.length_map, List.length_append]; omega))))
  all_goals
    repeat' first | (with_reducible first | exact ⟨⟩ | exact rfl | exact lr _) | ((conv => whnf); with_reducible first | apply And.intro | exact ⟨⟩) | exact rfl | exact id | exact lr _
    all_goals try (conv => whnf)
  all_goals (simp only [goOnR_heard, goOnR_none, goOnR_has, goOnR_frags, goOnR_bad]; exact leRs_refl _)
theorem takeAAA_c (hsm : x.sm) (g1 : (r.ledger != x.l.id) = false) (g2 : (r.epoch != x.epoch) = false) (k2x : (r.kind == 2) = false) (k3x : (r.kind == 3) = false) (k1 : (r.kind == 1) = true) (kn : (r.n == x.n) = true) (p3 : (x.phase == 3) = true) (k0 : (r.code == 0) = true) (h : x.has.any (· == r.from_) = false) (hl : x.has.length ≤ 1000000) (hff : frsOk x.frags) (hn : 0 ≤ x.n ∧ x.n ≤ 1000) (ha : ackedP (writesR x) x.l.a (x.has ++ [r.from_]) = true) (h8 : x.n + 1 ≤ 8) (hf : frsOk x.l.frags) (hs : ∀ n, (setOf x.l.frags x.l.w n).length ≤ 1000000) :
    PCx Try.prog 9 [.agg x.c, uu now, .agg r.c] (.tup [.agg (goOnR { x with has := x.has ++ [r.from_] } (x.n + 1) now).1.c, slR (goOnR { x with has := x.has ++ [r.from_] } (x.n + 1) now).2]) := by
  refine PC.le ?_
  have hown := ownS_g x hsm
  have hm := addedAA_g x now r k0 h hl hff hn ha h8 hf hs
  clear hsm h hl hff hn ha h8 hf hs
  refine PC_of_VC tabOk (draw_ok mixed tabOk) fn_rcTake rfl ?_
  repeat' ((conv => whnf); first | with_reducible refine (Or.inl ?_ : VC _ _ _ _ _ ∨ _) | ((with_reducible refine fk (fun hc => ?_) fun hc => ?_) <;> first | exact absurd hc (by decide) | (exfalso; simp only [*, reduceCtorEq] at hc; done) | skip) | (refine Or.inl (Or.inr ?_); (conv => whnf); refine ⟨_, _, hown, ?_⟩) | (refine Or.inl (Or.inr ?_); (conv => whnf); refine ⟨_, _, GCx_pre (hm) ?_, ?_⟩; focus ((repeat' first | (with_reducible first | exact ⟨⟩ | exact rfl | exact lr _) | ((conv => whnf); with_reducible first | apply And.intro | exact ⟨⟩) | exact rfl | exact id | assumption | exact lr _); done)) | ((with_reducible apply And.intro); focus (first | rfl | exact Nat.le_of_ble_eq_true rfl | omega | (simp only [List.length_cons, List.length_nil, List.length_map, List.length_append]; omega))))
  all_goals
    repeat' first | (with_reducible first | exact ⟨⟩ | exact rfl | exact lr _) | ((conv => whnf); with_reducible first | apply And.intro | exact ⟨⟩) | exact rfl | exact id | exact lr _
    all_goals try (conv => whnf)
  all_goals (simp only [goOnR_heard, goOnR_none, goOnR_has, goOnR_frags, goOnR_bad]; exact leRs_refl _)
theorem takeAF_c (hsm : x.sm) (g1 : (r.ledger != x.l.id) = false) (g2 : (r.epoch != x.epoch) = false) (k2x : (r.kind == 2) = false) (k3x : (r.kind == 3) = false) (k1 : (r.kind == 1) = true) (kn : (r.n == x.n) = true) (p3 : (x.phase == 3) = true) (k0 : (r.code == 0) = false) (k2 : (r.code == 2) = true) (hff : frsOk x.frags) (hn : 0 ≤ x.n ∧ x.n ≤ 1000) (hl : x.bad.length ≤ 1000000) (hw : (writesR x).length ≤ 1000) :
    PCx Try.prog 9 [.agg x.c, uu now, .agg r.c] (.tup [.agg ({ x with bad := addBad (fun y => y == r.from_) x.bad (writesR x) } : Rv).c, slR []]) := by
  refine PC.le ?_
  have hown := ownB_g x hsm
  have hm := addedF_g x now r k0 k2 hff hn hl hw
  clear hsm hff hn hl hw
  refine PC_of_VC tabOk (draw_ok mixed tabOk) fn_rcTake rfl ?_
  repeat' ((conv => whnf); first | with_reducible refine (Or.inl ?_ : VC _ _ _ _ _ ∨ _) | ((with_reducible refine fk (fun hc => ?_) fun hc => ?_) <;> first | exact absurd hc (by decide) | (exfalso; simp only [*, reduceCtorEq] at hc; done) | skip) | (refine Or.inl (Or.inr ?_); (conv => whnf); refine ⟨_, _, hown, ?_⟩) | (refine Or.inl (Or.inr ?_); (conv => whnf); refine ⟨_, _, GCx_pre (hm) ?_, ?_⟩; focus ((repeat' first | (with_reducible first | exact ⟨⟩ | exact rfl | exact lr _) | ((conv => whnf); with_reducible first | apply And.intro | exact ⟨⟩) | exact rfl | exact id | assumption | exact lr _); done)) | ((with_reducible apply And.intro); focus (first | rfl | exact Nat.le_of_ble_eq_true rfl | omega | (simp only [List.length_cons, List.length_nil, List.length_map, List.length_append]; omega))))
  all_goals
    repeat' first | (with_reducible first | exact ⟨⟩ | exact rfl | exact lr _) | ((conv => whnf); with_reducible first | apply And.intro | exact ⟨⟩) | exact rfl | exact id | exact lr _
    all_goals try (conv => whnf)
theorem takeAS_c (hsm : x.sm) (g1 : (r.ledger != x.l.id) = false) (g2 : (r.epoch != x.epoch) = false) (k2x : (r.kind == 2) = false) (k3x : (r.kind == 3) = false) (k1 : (r.kind == 1) = true) (kn : (r.n == x.n) = true) (p3 : (x.phase == 3) = true) (k0 : (r.code == 0) = false) (k2 : (r.code == 2) = false) (k4 : (r.code == 4) = true) (hff : frsOk x.frags) (hn : 0 ≤ x.n ∧ x.n ≤ 1000) (hl : x.bad.length ≤ 1000000) (hw : (writesR x).length ≤ 1000) :
    PCx Try.prog 9 [.agg x.c, uu now, .agg r.c] (.tup [.agg ({ x with bad := addBad (fun y => y.node == r.from_.node && y.serial != r.from_.serial) x.bad (writesR x) } : Rv).c, slR []]) := by
  refine PC.le ?_
  have hown := ownB_g x hsm
  have hm := addedS_g x now r k0 k2 k4 hff hn hl hw
  clear hsm hff hn hl hw
  refine PC_of_VC tabOk (draw_ok mixed tabOk) fn_rcTake rfl ?_
  repeat' ((conv => whnf); first | with_reducible refine (Or.inl ?_ : VC _ _ _ _ _ ∨ _) | ((with_reducible refine fk (fun hc => ?_) fun hc => ?_) <;> first | exact absurd hc (by decide) | (exfalso; simp only [*, reduceCtorEq] at hc; done) | skip) | (refine Or.inl (Or.inr ?_); (conv => whnf); refine ⟨_, _, hown, ?_⟩) | (refine Or.inl (Or.inr ?_); (conv => whnf); refine ⟨_, _, GCx_pre (hm) ?_, ?_⟩; focus ((repeat' first | (with_reducible first | exact ⟨⟩ | exact rfl | exact lr _) | ((conv => whnf); with_reducible first | apply And.intro | exact ⟨⟩) | exact rfl | exact id | assumption | exact lr _); done)) | ((with_reducible apply And.intro); focus (first | rfl | exact Nat.le_of_ble_eq_true rfl | omega | (simp only [List.length_cons, List.length_nil, List.length_map, List.length_append]; omega))))
  all_goals
    repeat' first | (with_reducible first | exact ⟨⟩ | exact rfl | exact lr _) | ((conv => whnf); with_reducible first | apply And.intro | exact ⟨⟩) | exact rfl | exact id | exact lr _
    all_goals try (conv => whnf)
theorem takeM1_c (hsm : x.sm) (g1 : (r.ledger != x.l.id) = true)  :
    PCx Try.prog 9 [.agg x.c, uu now, .agg r.c] (.tup [.agg x.c, slR []]) := by
  refine PC.le ?_
  have hown := ownP_g x hsm
  clear hsm
  refine PC_of_VC tabOk (draw_ok mixed tabOk) fn_rcTake rfl ?_
  repeat' ((conv => whnf); first | with_reducible refine (Or.inl ?_ : VC _ _ _ _ _ ∨ _) | ((with_reducible refine fk (fun hc => ?_) fun hc => ?_) <;> first | exact absurd hc (by decide) | (exfalso; simp only [*, reduceCtorEq] at hc; done) | skip) | (refine Or.inl (Or.inr ?_); (conv => whnf); refine ⟨_, _, hown, ?_⟩) | ((with_reducible apply And.intro); focus (first | rfl | exact Nat.le_of_ble_eq_true rfl | omega | (simp only [List.length_cons, List.length_nil, List.length_map, List.length_append]; omega))))
  all_goals
    repeat' first | (with_reducible first | exact ⟨⟩ | exact rfl | exact lr _) | ((conv => whnf); with_reducible first | apply And.intro | exact ⟨⟩) | exact rfl | exact id | exact lr _
    all_goals try (conv => whnf)
theorem takeM2_c (hsm : x.sm) (g1 : (r.ledger != x.l.id) = false) (g2 : (r.epoch != x.epoch) = true)  :
    PCx Try.prog 9 [.agg x.c, uu now, .agg r.c] (.tup [.agg x.c, slR []]) := by
  refine PC.le ?_
  have hown := ownP_g x hsm
  clear hsm
  refine PC_of_VC tabOk (draw_ok mixed tabOk) fn_rcTake rfl ?_
  repeat' ((conv => whnf); first | with_reducible refine (Or.inl ?_ : VC _ _ _ _ _ ∨ _) | ((with_reducible refine fk (fun hc => ?_) fun hc => ?_) <;> first | exact absurd hc (by decide) | (exfalso; simp only [*, reduceCtorEq] at hc; done) | skip) | (refine Or.inl (Or.inr ?_); (conv => whnf); refine ⟨_, _, hown, ?_⟩) | ((with_reducible apply And.intro); focus (first | rfl | exact Nat.le_of_ble_eq_true rfl | omega | (simp only [List.length_cons, List.length_nil, List.length_map, List.length_append]; omega))))
  all_goals
    repeat' first | (with_reducible first | exact ⟨⟩ | exact rfl | exact lr _) | ((conv => whnf); with_reducible first | apply And.intro | exact ⟨⟩) | exact rfl | exact id | exact lr _
    all_goals try (conv => whnf)
theorem takeN1_c (hsm : x.sm) (g1 : (r.ledger != x.l.id) = false) (g2 : (r.epoch != x.epoch) = false) (k2 : (r.kind == 2) = true) (k3 : (r.kind == 3) = false) (k1 : (r.kind == 1) = false) (k0 : (r.code == 0) = false) :
    PCx Try.prog 9 [.agg x.c, uu now, .agg r.c] (.tup [.agg x.c, slR []]) := by
  refine PC.le ?_
  have hown := ownP_g x hsm
  clear hsm
  refine PC_of_VC tabOk (draw_ok mixed tabOk) fn_rcTake rfl ?_
  repeat' ((conv => whnf); first | with_reducible refine (Or.inl ?_ : VC _ _ _ _ _ ∨ _) | ((with_reducible refine fk (fun hc => ?_) fun hc => ?_) <;> first | exact absurd hc (by decide) | (exfalso; simp only [*, reduceCtorEq] at hc; done) | skip) | (refine Or.inl (Or.inr ?_); (conv => whnf); refine ⟨_, _, hown, ?_⟩) | ((with_reducible apply And.intro); focus (first | rfl | exact Nat.le_of_ble_eq_true rfl | omega | (simp only [List.length_cons, List.length_nil, List.length_map, List.length_append]; omega))))
  all_goals
    repeat' first | (with_reducible first | exact ⟨⟩ | exact rfl | exact lr _) | ((conv => whnf); with_reducible first | apply And.intro | exact ⟨⟩) | exact rfl | exact id | exact lr _
    all_goals try (conv => whnf)
theorem takeN2_c (hsm : x.sm) (g1 : (r.ledger != x.l.id) = false) (g2 : (r.epoch != x.epoch) = false) (k2 : (r.kind == 2) = true) (k3 : (r.kind == 3) = false) (k1 : (r.kind == 1) = false) (k0 : (r.code == 0) = true) (kp : decide (x.phase < 4) = false) :
    PCx Try.prog 9 [.agg x.c, uu now, .agg r.c] (.tup [.agg x.c, slR []]) := by
  refine PC.le ?_
  have hown := ownP_g x hsm
  clear hsm
  refine PC_of_VC tabOk (draw_ok mixed tabOk) fn_rcTake rfl ?_
  repeat' ((conv => whnf); first | with_reducible refine (Or.inl ?_ : VC _ _ _ _ _ ∨ _) | ((with_reducible refine fk (fun hc => ?_) fun hc => ?_) <;> first | exact absurd hc (by decide) | (exfalso; simp only [*, reduceCtorEq] at hc; done) | skip) | (refine Or.inl (Or.inr ?_); (conv => whnf); refine ⟨_, _, hown, ?_⟩) | ((with_reducible apply And.intro); focus (first | rfl | exact Nat.le_of_ble_eq_true rfl | omega | (simp only [List.length_cons, List.length_nil, List.length_map, List.length_append]; omega))))
  all_goals
    repeat' first | (with_reducible first | exact ⟨⟩ | exact rfl | exact lr _) | ((conv => whnf); with_reducible first | apply And.intro | exact ⟨⟩) | exact rfl | exact id | exact lr _
    all_goals try (conv => whnf)
theorem takeN3_c (hsm : x.sm) (g1 : (r.ledger != x.l.id) = false) (g2 : (r.epoch != x.epoch) = false) (k2 : (r.kind == 2) = false) (k3 : (r.kind == 3) = true) (k1 : (r.kind == 1) = false) (kn : (r.n == x.n) = false) :
    PCx Try.prog 9 [.agg x.c, uu now, .agg r.c] (.tup [.agg x.c, slR []]) := by
  refine PC.le ?_
  have hown := ownP_g x hsm
  clear hsm
  refine PC_of_VC tabOk (draw_ok mixed tabOk) fn_rcTake rfl ?_
  repeat' ((conv => whnf); first | with_reducible refine (Or.inl ?_ : VC _ _ _ _ _ ∨ _) | ((with_reducible refine fk (fun hc => ?_) fun hc => ?_) <;> first | exact absurd hc (by decide) | (exfalso; simp only [*, reduceCtorEq] at hc; done) | skip) | (refine Or.inl (Or.inr ?_); (conv => whnf); refine ⟨_, _, hown, ?_⟩) | ((with_reducible apply And.intro); focus (first | rfl | exact Nat.le_of_ble_eq_true rfl | omega | (simp only [List.length_cons, List.length_nil, List.length_map, List.length_append]; omega))))
  all_goals
    repeat' first | (with_reducible first | exact ⟨⟩ | exact rfl | exact lr _) | ((conv => whnf); with_reducible first | apply And.intro | exact ⟨⟩) | exact rfl | exact id | exact lr _
    all_goals try (conv => whnf)
theorem takeN4_c (hsm : x.sm) (g1 : (r.ledger != x.l.id) = false) (g2 : (r.epoch != x.epoch) = false) (k2 : (r.kind == 2) = false) (k3 : (r.kind == 3) = false) (k1 : (r.kind == 1) = true) (kn : (r.n == x.n) = false) :
    PCx Try.prog 9 [.agg x.c, uu now, .agg r.c] (.tup [.agg x.c, slR []]) := by
  refine PC.le ?_
  have hown := ownP_g x hsm
  clear hsm
  refine PC_of_VC tabOk (draw_ok mixed tabOk) fn_rcTake rfl ?_
  repeat' ((conv => whnf); first | with_reducible refine (Or.inl ?_ : VC _ _ _ _ _ ∨ _) | ((with_reducible refine fk (fun hc => ?_) fun hc => ?_) <;> first | exact absurd hc (by decide) | (exfalso; simp only [*, reduceCtorEq] at hc; done) | skip) | (refine Or.inl (Or.inr ?_); (conv => whnf); refine ⟨_, _, hown, ?_⟩) | ((with_reducible apply And.intro); focus (first | rfl | exact Nat.le_of_ble_eq_true rfl | omega | (simp only [List.length_cons, List.length_nil, List.length_map, List.length_append]; omega))))
  all_goals
    repeat' first | (with_reducible first | exact ⟨⟩ | exact rfl | exact lr _) | ((conv => whnf); with_reducible first | apply And.intro | exact ⟨⟩) | exact rfl | exact id | exact lr _
    all_goals try (conv => whnf)
theorem takeN5_c (hsm : x.sm) (g1 : (r.ledger != x.l.id) = false) (g2 : (r.epoch != x.epoch) = false) (k2 : (r.kind == 2) = false) (k3 : (r.kind == 3) = false) (k1 : (r.kind == 1) = true) (kn : (r.n == x.n) = true) (p3 : (x.phase == 3) = false) :
    PCx Try.prog 9 [.agg x.c, uu now, .agg r.c] (.tup [.agg x.c, slR []]) := by
  refine PC.le ?_
  have hown := ownP_g x hsm
  clear hsm
  refine PC_of_VC tabOk (draw_ok mixed tabOk) fn_rcTake rfl ?_
  repeat' ((conv => whnf); first | with_reducible refine (Or.inl ?_ : VC _ _ _ _ _ ∨ _) | ((with_reducible refine fk (fun hc => ?_) fun hc => ?_) <;> first | exact absurd hc (by decide) | (exfalso; simp only [*, reduceCtorEq] at hc; done) | skip) | (refine Or.inl (Or.inr ?_); (conv => whnf); refine ⟨_, _, hown, ?_⟩) | ((with_reducible apply And.intro); focus (first | rfl | exact Nat.le_of_ble_eq_true rfl | omega | (simp only [List.length_cons, List.length_nil, List.length_map, List.length_append]; omega))))
  all_goals
    repeat' first | (with_reducible first | exact ⟨⟩ | exact rfl | exact lr _) | ((conv => whnf); with_reducible first | apply And.intro | exact ⟨⟩) | exact rfl | exact id | exact lr _
    all_goals try (conv => whnf)
theorem takeN6_c (hsm : x.sm) (g1 : (r.ledger != x.l.id) = false) (g2 : (r.epoch != x.epoch) = false) (k2 : (r.kind == 2) = false) (k3 : (r.kind == 3) = false) (k1 : (r.kind == 1) = false) :
    PCx Try.prog 9 [.agg x.c, uu now, .agg r.c] (.tup [.agg x.c, slR []]) := by
  refine PC.le ?_
  have hown := ownP_g x hsm
  clear hsm
  refine PC_of_VC tabOk (draw_ok mixed tabOk) fn_rcTake rfl ?_
  repeat' ((conv => whnf); first | with_reducible refine (Or.inl ?_ : VC _ _ _ _ _ ∨ _) | ((with_reducible refine fk (fun hc => ?_) fun hc => ?_) <;> first | exact absurd hc (by decide) | (exfalso; simp only [*, reduceCtorEq] at hc; done) | skip) | (refine Or.inl (Or.inr ?_); (conv => whnf); refine ⟨_, _, hown, ?_⟩) | ((with_reducible apply And.intro); focus (first | rfl | exact Nat.le_of_ble_eq_true rfl | omega | (simp only [List.length_cons, List.length_nil, List.length_map, List.length_append]; omega))))
  all_goals
    repeat' first | (with_reducible first | exact ⟨⟩ | exact rfl | exact lr _) | ((conv => whnf); with_reducible first | apply And.intro | exact ⟨⟩) | exact rfl | exact id | exact lr _
    all_goals try (conv => whnf)
end
end Go.Proofs.Ytpbjamihhkmgiaa.Tb
