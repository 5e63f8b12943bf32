/-
  Contracts of functions of the program and of the document, each for every input that its premises name.
-/
import Derived.Test.YtpbjamihhkmgiaaRO
import Derived.Test.YtpbjamihhkmgiaaRQ
import Derived.Test.YtpbjamihhkmgiaaRS
import Derived.Test.YtpbjamihhkmgiaaRT
import Derived.Test.YtpbjamihhkmgiaaRV
import Derived.Test.YtpbjamihhkmgiaaAe
set_option linter.unusedSectionVars false
set_option maxRecDepth 100000
set_option maxHeartbeats 4000000
set_option linter.unusedVariables false
set_option linter.unusedSimpArgs false
open Go Go.AX
namespace Go.Proofs.Ytpbjamihhkmgiaa.Tb
section
variable (x : Rv) (now : Int) (r : Rs)
theorem fn_rcTake : FnOk Try.prog 9 Try.f9 := ⟨Try.func9, by kernel_rfl, by kernel_rfl, by kernel_rfl⟩
theorem takeFN0_c (hsm : x.sm) (g1 : (r.ledger != x.l.id) = false) (g2 : (r.epoch != x.epoch) = false) (k2 : (r.kind == 2) = true) (k0 : (r.code == 0) = true) (kp : decide (x.phase < 4) = true) (h0 : 0 < x.l.frags.length) (hfl : x.l.frags.length ≤ 1000) (h1 : (lastF x).bookies.any (· == r.from_) = false) :
    PCx Try.prog 9 [.agg x.c, uu now, .agg r.c] (.tup [.agg x.c, slR []]) := by
  refine PC.le ?_
  have hown := ownH_g x hsm
  have hm := fencedN0_g x now r h0 hfl h1
  clear hsm h0 hfl h1
  refine PC_of_VC tabOk (draw_ok mixed tabOk) fn_rcTake rfl ?_
  repeat' ((conv => whnf); first | with_reducible refine (Or.inl ?_ : VC _ _ _ _ _ ∨ _) | ((with_reducible refine fk (fun hc => ?_) fun hc => ?_) <;> first | exact absurd hc (by decide) | (exfalso; simp only [*, reduceCtorEq] at hc; done) | skip) | (refine Or.inl (Or.inr ?_); (conv => whnf); refine ⟨_, _, hown, ?_⟩) | (refine Or.inl (Or.inr ?_); (conv => whnf); refine ⟨_, _, GCx_pre (hm) ?_, ?_⟩; focus ((repeat' first | (with_reducible first | exact ⟨⟩ | exact rfl | exact lr _) | ((conv => whnf); with_reducible first | apply And.intro | exact ⟨⟩) | exact rfl | exact id | assumption | exact lr _); done)) | ((with_reducible apply And.intro); focus (first | rfl | exact Nat.le_of_ble_eq_true rfl | omega | (simp only [List.length_cons, List.length_nil, List.length_map, List.length_append]; omega))))
  all_goals
    repeat' first | (with_reducible first | exact ⟨⟩ | exact rfl | exact lr _) | ((conv => whnf); with_reducible first | apply And.intro | exact ⟨⟩) | exact rfl | exact id | exact lr _
    all_goals try (conv => whnf)
theorem takeFN1_c (hsm : x.sm) (g1 : (r.ledger != x.l.id) = false) (g2 : (r.epoch != x.epoch) = false) (k2 : (r.kind == 2) = true) (k0 : (r.code == 0) = true) (kp : decide (x.phase < 4) = true) (h0 : 0 < x.l.frags.length) (hfl : x.l.frags.length ≤ 1000) (h1 : (lastF x).bookies.any (· == r.from_) = true) (h2 : x.heard.any (· == r.from_) = true) :
    PCx Try.prog 9 [.agg x.c, uu now, .agg r.c] (.tup [.agg x.c, slR []]) := by
  refine PC.le ?_
  have hown := ownH_g x hsm
  have hm := fencedN1_g x now r h0 hfl h1 h2
  clear hsm h0 hfl h1 h2
  refine PC_of_VC tabOk (draw_ok mixed tabOk) fn_rcTake rfl ?_
  repeat' ((conv => whnf); first | with_reducible refine (Or.inl ?_ : VC _ _ _ _ _ ∨ _) | ((with_reducible refine fk (fun hc => ?_) fun hc => ?_) <;> first | exact absurd hc (by decide) | (exfalso; simp only [*, reduceCtorEq] at hc; done) | skip) | (refine Or.inl (Or.inr ?_); (conv => whnf); refine ⟨_, _, hown, ?_⟩) | (refine Or.inl (Or.inr ?_); (conv => whnf); refine ⟨_, _, GCx_pre (hm) ?_, ?_⟩; focus ((repeat' first | (with_reducible first | exact ⟨⟩ | exact rfl | exact lr _) | ((conv => whnf); with_reducible first | apply And.intro | exact ⟨⟩) | exact rfl | exact id | assumption | exact lr _); done)) | ((with_reducible apply And.intro); focus (first | rfl | exact Nat.le_of_ble_eq_true rfl | omega | (simp only [List.length_cons, List.length_nil, List.length_map, List.length_append]; omega))))
  all_goals
    repeat' first | (with_reducible first | exact ⟨⟩ | exact rfl | exact lr _) | ((conv => whnf); with_reducible first | apply And.intro | exact ⟨⟩) | exact rfl | exact id | exact lr _
    all_goals try (conv => whnf)
theorem takeFB_c (hsm : x.sm) (g1 : (r.ledger != x.l.id) = false) (g2 : (r.epoch != x.epoch) = false) (k2 : (r.kind == 2) = true) (k0 : (r.code == 0) = true) (kp : decide (x.phase < 4) = true) (h0 : 0 < x.l.frags.length) (hfl : x.l.frags.length ≤ 1000) (hl : x.heard.length ≤ 1000000) (h1 : (lastF x).bookies.any (· == r.from_) = true) (h2 : x.heard.any (· == r.from_) = false) (p1 : (x.phase == 1) = false) (p2 : (x.phase == 2) = false) :
    PCx Try.prog 9 [.agg x.c, uu now, .agg r.c] (.tup [.agg ({ x with heard := x.heard ++ [r.from_], sure := min (max x.sure r.sure) 8 } : Rv).c, slR []]) := by
  refine PC.le ?_
  have hown := ownH_g x hsm
  have hm := fencedB_g x now r h0 hfl hl h1 h2 p1 p2
  clear hsm h0 hfl hl h1 h2
  refine PC_of_VC tabOk (draw_ok mixed tabOk) fn_rcTake rfl ?_
  repeat' ((conv => whnf); first | with_reducible refine (Or.inl ?_ : VC _ _ _ _ _ ∨ _) | ((with_reducible refine fk (fun hc => ?_) fun hc => ?_) <;> first | exact absurd hc (by decide) | (exfalso; simp only [*, reduceCtorEq] at hc; done) | skip) | (refine Or.inl (Or.inr ?_); (conv => whnf); refine ⟨_, _, hown, ?_⟩) | (refine Or.inl (Or.inr ?_); (conv => whnf); refine ⟨_, _, GCx_pre (hm) ?_, ?_⟩; focus ((repeat' first | (with_reducible first | exact ⟨⟩ | exact rfl | exact lr _) | ((conv => whnf); with_reducible first | apply And.intro | exact ⟨⟩) | exact rfl | exact id | assumption | exact lr _); done)) | ((with_reducible apply And.intro); focus (first | rfl | exact Nat.le_of_ble_eq_true rfl | omega | (simp only [List.length_cons, List.length_nil, List.length_map, List.length_append]; omega))))
  all_goals
    repeat' first | (with_reducible first | exact ⟨⟩ | exact rfl | exact lr _) | ((conv => whnf); with_reducible first | apply And.intro | exact ⟨⟩) | exact rfl | exact id | exact lr _
    all_goals try (conv => whnf)
theorem takeFC_c (hsm : x.sm) (g1 : (r.ledger != x.l.id) = false) (g2 : (r.epoch != x.epoch) = false) (k2 : (r.kind == 2) = true) (k0 : (r.code == 0) = true) (kp : decide (x.phase < 4) = true) (h0 : 0 < x.l.frags.length) (hfl : x.l.frags.length ≤ 1000) (hl : x.heard.length ≤ 1000000) (h1 : (lastF x).bookies.any (· == r.from_) = true) (h2 : x.heard.any (· == r.from_) = false) (hf : frsOk x.l.frags) (hn : 0 ≤ x.n ∧ x.n ≤ 1000) (p1 : (x.phase == 1) = false) (p2 : (x.phase == 2) = true) (h3 : (readsR x).any (· == r.from_) = false) :
    PCx Try.prog 9 [.agg x.c, uu now, .agg r.c] (.tup [.agg ({ x with heard := x.heard ++ [r.from_], sure := min (max x.sure r.sure) 8 } : Rv).c, slR []]) := by
  refine PC.le ?_
  have hown := ownH_g x hsm
  have hm := fencedC_g x now r h0 hfl hl h1 h2 hf hn p1 p2 h3
  clear hsm h0 hfl hl h1 h2 hf hn h3
  refine PC_of_VC tabOk (draw_ok mixed tabOk) fn_rcTake rfl ?_
  repeat' ((conv => whnf); first | with_reducible refine (Or.inl ?_ : VC _ _ _ _ _ ∨ _) | ((with_reducible refine fk (fun hc => ?_) fun hc => ?_) <;> first | exact absurd hc (by decide) | (exfalso; simp only [*, reduceCtorEq] at hc; done) | skip) | (refine Or.inl (Or.inr ?_); (conv => whnf); refine ⟨_, _, hown, ?_⟩) | (refine Or.inl (Or.inr ?_); (conv => whnf); refine ⟨_, _, GCx_pre (hm) ?_, ?_⟩; focus ((repeat' first | (with_reducible first | exact ⟨⟩ | exact rfl | exact lr _) | ((conv => whnf); with_reducible first | apply And.intro | exact ⟨⟩) | exact rfl | exact id | assumption | exact lr _); done)) | ((with_reducible apply And.intro); focus (first | rfl | exact Nat.le_of_ble_eq_true rfl | omega | (simp only [List.length_cons, List.length_nil, List.length_map, List.length_append]; omega))))
  all_goals
    repeat' first | (with_reducible first | exact ⟨⟩ | exact rfl | exact lr _) | ((conv => whnf); with_reducible first | apply And.intro | exact ⟨⟩) | exact rfl | exact id | exact lr _
    all_goals try (conv => whnf)
theorem takeFG_c (hsm : x.sm) (g1 : (r.ledger != x.l.id) = false) (g2 : (r.epoch != x.epoch) = false) (k2 : (r.kind == 2) = true) (k0 : (r.code == 0) = true) (kp : decide (x.phase < 4) = true) (h0 : 0 < x.l.frags.length) (hfl : x.l.frags.length ≤ 1000) (hl : x.heard.length ≤ 1000000) (h1 : (lastF x).bookies.any (· == r.from_) = true) (h2 : x.heard.any (· == r.from_) = false) (hf : frsOk x.l.frags) (hn : 0 ≤ x.n ∧ x.n ≤ 1000) (p1 : (x.phase == 1) = false) (p2 : (x.phase == 2) = true) (h3 : (readsR x).any (· == r.from_) = true) :
    PCx Try.prog 9 [.agg x.c, uu now, .agg r.c] (.tup [.agg ({ x with heard := x.heard ++ [r.from_], sure := min (max x.sure r.sure) 8 } : Rv).c, slR [entryR x r.from_]]) := by
  refine PC.le ?_
  have hown := ownH_g x hsm
  have hm := fencedG_g x now r h0 hfl hl h1 h2 hf hn p1 p2 h3
  clear hsm h0 hfl hl h1 h2 hf hn h3
  refine PC_of_VC tabOk (draw_ok mixed tabOk) fn_rcTake rfl ?_
  repeat' ((conv => whnf); first | with_reducible refine (Or.inl ?_ : VC _ _ _ _ _ ∨ _) | ((with_reducible refine fk (fun hc => ?_) fun hc => ?_) <;> first | exact absurd hc (by decide) | (exfalso; simp only [*, reduceCtorEq] at hc; done) | skip) | (refine Or.inl (Or.inr ?_); (conv => whnf); refine ⟨_, _, hown, ?_⟩) | (refine Or.inl (Or.inr ?_); (conv => whnf); refine ⟨_, _, GCx_pre (hm) ?_, ?_⟩; focus ((repeat' first | (with_reducible first | exact ⟨⟩ | exact rfl | exact lr _) | ((conv => whnf); with_reducible first | apply And.intro | exact ⟨⟩) | exact rfl | exact id | assumption | exact lr _); done)) | ((with_reducible apply And.intro); focus (first | rfl | exact Nat.le_of_ble_eq_true rfl | omega | (simp only [List.length_cons, List.length_nil, List.length_map, List.length_append]; omega))))
  all_goals
    repeat' first | (with_reducible first | exact ⟨⟩ | exact rfl | exact lr _) | ((conv => whnf); with_reducible first | apply And.intro | exact ⟨⟩) | exact rfl | exact id | exact lr _
    all_goals try (conv => whnf)
theorem takeFD_c (hsm : x.sm) (g1 : (r.ledger != x.l.id) = false) (g2 : (r.epoch != x.epoch) = false) (k2 : (r.kind == 2) = true) (k0 : (r.code == 0) = true) (kp : decide (x.phase < 4) = true) (h0 : 0 < x.l.frags.length) (hfl : x.l.frags.length ≤ 1000) (hl : x.heard.length ≤ 1000000) (h1 : (lastF x).bookies.any (· == r.from_) = true) (h2 : x.heard.any (· == r.from_) = false) (hb : (lastF x).bookies.length ≤ 1000000) (hw : 0 ≤ x.l.w ∧ x.l.w ≤ 9223372036854775807) (ha : 0 ≤ x.l.a) (p1 : (x.phase == 1) = true) (p2 : (x.phase == 2) = false) (h3 : coveredP (lastF x) x.l.w x.l.a (x.heard ++ [r.from_]) = false) :
    PCx Try.prog 9 [.agg x.c, uu now, .agg r.c] (.tup [.agg ({ x with heard := x.heard ++ [r.from_], sure := min (max x.sure r.sure) 8 } : Rv).c, slR []]) := by
  refine PC.le ?_
  have hown := ownH_g x hsm
  have hm := fencedD_g x now r h0 hfl hl h1 h2 hb hw ha p1 p2 h3
  clear hsm h0 hfl hl h1 h2 hb hw ha h3
  refine PC_of_VC tabOk (draw_ok mixed tabOk) fn_rcTake rfl ?_
  repeat' ((conv => whnf); first | with_reducible refine (Or.inl ?_ : VC _ _ _ _ _ ∨ _) | ((with_reducible refine fk (fun hc => ?_) fun hc => ?_) <;> first | exact absurd hc (by decide) | (exfalso; simp only [*, reduceCtorEq] at hc; done) | skip) | (refine Or.inl (Or.inr ?_); (conv => whnf); refine ⟨_, _, hown, ?_⟩) | (refine Or.inl (Or.inr ?_); (conv => whnf); refine ⟨_, _, GCx_pre (hm) ?_, ?_⟩; focus ((repeat' first | (with_reducible first | exact ⟨⟩ | exact rfl | exact lr _) | ((conv => whnf); with_reducible first | apply And.intro | exact ⟨⟩) | exact rfl | exact id | assumption | exact lr _); done)) | ((with_reducible apply And.intro); focus (first | rfl | exact Nat.le_of_ble_eq_true rfl | omega | (simp only [List.length_cons, List.length_nil, List.length_map, List.length_append]; omega))))
  all_goals
    repeat' first | (with_reducible first | exact ⟨⟩ | exact rfl | exact lr _) | ((conv => whnf); with_reducible first | apply And.intro | exact ⟨⟩) | exact rfl | exact id | exact lr _
    all_goals try (conv => whnf)
theorem takeFE_c (hsm : x.sm) (g1 : (r.ledger != x.l.id) = false) (g2 : (r.epoch != x.epoch) = false) (k2 : (r.kind == 2) = true) (k0 : (r.code == 0) = true) (kp : decide (x.phase < 4) = true) (h0 : 0 < x.l.frags.length) (hfl : x.l.frags.length ≤ 1000) (hl : x.heard.length ≤ 1000000) (h1 : (lastF x).bookies.any (· == r.from_) = true) (h2 : x.heard.any (· == r.from_) = false) (hb : (lastF x).bookies.length ≤ 1000000) (hw : 0 ≤ x.l.w ∧ x.l.w ≤ 9223372036854775807) (ha : 0 ≤ x.l.a) (p1 : (x.phase == 1) = true) (p2 : (x.phase == 2) = false) (h3 : coveredP (lastF x) x.l.w x.l.a (x.heard ++ [r.from_]) = true) (hs : 0 ≤ x.sure) (h8 : 8 < max (min (max x.sure r.sure) 8 + 1) (lastF x).first) :
    PCx Try.prog 9 [.agg x.c, uu now, .agg r.c] (.tup [.agg (goOnR { x with heard := x.heard ++ [r.from_], sure := min (max x.sure r.sure) 8 } (max (min (max x.sure r.sure) 8 + 1) (lastF x).first) now).1.c, slR []]) := by
  refine PC.le ?_
  have hown := ownH_g x hsm
  have hm := fencedE_g x now r h0 hfl hl h1 h2 hb hw ha p1 p2 h3 hs h8
  clear hsm h0 hfl hl h1 h2 hb hw ha h3 hs h8
  refine PC_of_VC tabOk (draw_ok mixed tabOk) fn_rcTake rfl ?_
  repeat' ((conv => whnf); first | with_reducible refine (Or.inl ?_ : VC _ _ _ _ _ ∨ _) | ((with_reducible refine fk (fun hc => ?_) fun hc => ?_) <;> first | exact absurd hc (by decide) | (exfalso; simp only [*, reduceCtorEq] at hc; done) | skip) | (refine Or.inl (Or.inr ?_); (conv => whnf); refine ⟨_, _, hown, ?_⟩) | (refine Or.inl (Or.inr ?_); (conv => whnf); refine ⟨_, _, GCx_pre (hm) ?_, ?_⟩; focus ((repeat' first | (with_reducible first | exact ⟨⟩ | exact rfl | exact lr _) | ((conv => whnf); with_reducible first | apply And.intro | exact ⟨⟩) | exact rfl | exact id | assumption | exact lr _); done)) | ((with_reducible apply And.intro); focus (first | rfl | exact Nat.le_of_ble_eq_true rfl | omega | (simp only [List.length_cons, List.length_nil, List.length_map, List.length_append]; omega))))
  all_goals
    repeat' first | (with_reducible first | exact ⟨⟩ | exact rfl | exact lr _) | ((conv => whnf); with_reducible first | apply And.intro | exact ⟨⟩) | exact rfl | exact id | exact lr _
    all_goals try (conv => whnf)
  all_goals (simp only [goOnR_heard, goOnR_none, goOnR_has, goOnR_frags, goOnR_bad]; exact leRs_refl _)
theorem takeFA_c (hsm : x.sm) (g1 : (r.ledger != x.l.id) = false) (g2 : (r.epoch != x.epoch) = false) (k2 : (r.kind == 2) = true) (k0 : (r.code == 0) = true) (kp : decide (x.phase < 4) = true) (h0 : 0 < x.l.frags.length) (hfl : x.l.frags.length ≤ 1000) (hl : x.heard.length ≤ 1000000) (h1 : (lastF x).bookies.any (· == r.from_) = true) (h2 : x.heard.any (· == r.from_) = false) (hb : (lastF x).bookies.length ≤ 1000000) (hw : 0 ≤ x.l.w ∧ x.l.w ≤ 9223372036854775807) (ha : 0 ≤ x.l.a) (p1 : (x.phase == 1) = true) (p2 : (x.phase == 2) = false) (h3 : coveredP (lastF x) x.l.w x.l.a (x.heard ++ [r.from_]) = true) (hs : 0 ≤ x.sure) (h8 : (max (min (max x.sure r.sure) 8 + 1) (lastF x).first) ≤ 8) (hfs : frsOk x.l.frags) (hss : ∀ n, (setOf x.l.frags x.l.w n).length ≤ 1000000) :
    PCx Try.prog 9 [.agg x.c, uu now, .agg r.c] (.tup [.agg (goOnR { x with heard := x.heard ++ [r.from_], sure := min (max x.sure r.sure) 8 } (max (min (max x.sure r.sure) 8 + 1) (lastF x).first) now).1.c, slR (goOnR { x with heard := x.heard ++ [r.from_], sure := min (max x.sure r.sure) 8 } (max (min (max x.sure r.sure) 8 + 1) (lastF x).first) now).2]) := by
  refine PC.le ?_
  have hown := ownH_g x hsm
  have hm := fencedA_g x now r h0 hfl hl h1 h2 hb hw ha p1 p2 h3 hs h8 hfs hss
  clear hsm h0 hfl hl h1 h2 hb hw ha h3 hs h8 hfs hss
  refine PC_of_VC tabOk (draw_ok mixed tabOk) fn_rcTake rfl ?_
  repeat' ((conv => whnf); first | with_reducible refine (Or.inl ?_ : VC _ _ _ _ _ ∨ _) | ((with_reducible refine fk (fun hc => ?_) fun hc => ?_) <;> first | exact absurd hc (by decide) | (exfalso; simp only [*, reduceCtorEq] at hc; done) | skip) | (refine Or.inl (Or.inr ?_); (conv => whnf); refine ⟨_, _, hown, ?_⟩) | (refine Or.inl (Or.inr ?_); (conv => whnf); refine ⟨_, _, GCx_pre (hm) ?_, ?_⟩; focus ((repeat' first | (with_reducible first | exact ⟨⟩ | exact rfl | exact lr _) | ((conv => whnf); with_reducible first | apply And.intro | exact ⟨⟩) | exact rfl | exact id | assumption | exact lr _); done)) | ((with_reducible apply And.intro); focus (first | rfl | exact Nat.le_of_ble_eq_true rfl | omega | (simp only [List.length_cons, List.length_nil, List.length_map, List.length_append]; omega))))
  all_goals
    repeat' first | (with_reducible first | exact ⟨⟩ | exact rfl | exact lr _) | ((conv => whnf); with_reducible first | apply And.intro | exact ⟨⟩) | exact rfl | exact id | exact lr _
    all_goals try (conv => whnf)
  all_goals (simp only [goOnR_heard, goOnR_none, goOnR_has, goOnR_frags, goOnR_bad]; exact leRs_refl _)
end
end Go.Proofs.Ytpbjamihhkmgiaa.Tb
