/-
  Contracts of functions of the program and of the document, each for every input that its premises name.
-/
import Derived.Test.YtpbjamihhkmgiaaRWa
import Derived.Test.YtpbjamihhkmgiaaRQ
import Derived.Test.YtpbjamihhkmgiaaRS
import Derived.Test.YtpbjamihhkmgiaaRT
import Derived.Test.YtpbjamihhkmgiaaRV
import Derived.Test.YtpbjamihhkmgiaaAe
set_option linter.unusedSectionVars false
set_option maxRecDepth 100000
set_option maxHeartbeats 4000000
set_option linter.unusedVariables false
set_option linter.unusedSimpArgs false
open Go Go.AX
namespace Go.Proofs.Ytpbjamihhkmgiaa.Tb
section
variable (x : Rv) (now : Int) (r : Rs)
theorem takeG0_c (hsm : x.sm) (g1 : (r.ledger != x.l.id) = false) (g2 : (r.epoch != x.epoch) = false) (k2 : (r.kind == 2) = false) (k3 : (r.kind == 3) = true) (kn : (r.n == x.n) = true) (hf : frsOk x.l.frags) (hn : 0 ≤ x.n ∧ x.n ≤ 1000)
    (c1 : (x.phase == 2 && (r.code == 0 && (readsR x).any (· == r.from_))) = false)
    (c2 : (x.phase == 2 && (r.code == 3 && ((readsR x).any (· == r.from_) && (x.heard.any (· == r.from_) && !x.none.any (· == r.from_))))) = false)
    (c3 : (x.phase == 3 && (r.code == 0 && decide (r.body = x.body))) = false) :
    PCx Try.prog 9 [.agg x.c, uu now, .agg r.c] (.tup [.agg x.c, slR []]) := by
  refine PC.le ?_
  have hown := ownP_g x hsm
  have hm := got0_g x now r hf hn c1 c2 c3
  clear hsm hf hn c1 c2 c3
  refine PC_of_VC tabOk (draw_ok mixed tabOk) fn_rcTake rfl ?_
  repeat' ((conv => whnf); first | with_reducible refine (Or.inl ?_ : VC _ _ _ _ _ ∨ _) | ((with_reducible refine fk (fun hc => ?_) fun hc => ?_) <;> first | exact absurd hc (by decide) | (exfalso; simp only [*, reduceCtorEq] at hc; done) | skip) | (refine Or.inl (Or.inr ?_); (conv => whnf); refine ⟨_, _, hown, ?_⟩) | (refine Or.inl (Or.inr ?_); (conv => whnf); refine ⟨_, _, GCx_pre (hm) ?_, ?_⟩; focus ((repeat' first | (with_reducible first | exact ⟨⟩ | exact rfl | exact lr _) | ((conv => whnf); with_reducible first | apply And.intro | exact ⟨⟩) | exact rfl | exact id | assumption | exact lr _); done)) | ((with_reducible apply And.intro); focus (first | rfl | exact Nat.le_of_ble_eq_true rfl | omega | (simp only [List.length_cons, List.length_nil, List.length_map, List.length_append]; omega))))
  all_goals
    repeat' first | (with_reducible first | exact ⟨⟩ | exact rfl | exact lr _) | ((conv => whnf); with_reducible first | apply And.intro | exact ⟨⟩) | exact rfl | exact id | exact lr _
    all_goals try (conv => whnf)
theorem takeGBN_c (hsm : x.sm) (g1 : (r.ledger != x.l.id) = false) (g2 : (r.epoch != x.epoch) = false) (k2x : (r.kind == 2) = false) (k3x : (r.kind == 3) = true) (kn : (r.n == x.n) = true) (hl : x.none.length ≤ 1000000) (hw : 0 ≤ x.l.w ∧ x.l.w ≤ 9223372036854775807) (ha : 0 ≤ x.l.a) (hf : frsOk x.l.frags) (hn : 0 ≤ x.n ∧ x.n ≤ 1000) (p2 : (x.phase == 2) = true) (k0 : (r.code == 0) = false) (k3 : (r.code == 3) = true) (h1 : (readsR x).any (· == r.from_) = true) (h2 : x.heard.any (· == r.from_) = true) (h3 : x.none.any (· == r.from_) = false) (h4 : missingP (readsR x) x.l.w x.l.a (x.none ++ [r.from_]) = false) :
    PCx Try.prog 9 [.agg x.c, uu now, .agg r.c] (.tup [.agg ({ x with none := x.none ++ [r.from_], phase := x.phase } : Rv).c, slR []]) := by
  refine PC.le ?_
  have hown := ownN_g x hsm
  have hm := gotBN_g x now r hl hw ha hf hn p2 k0 k3 h1 h2 h3 h4
  clear hsm hl hw ha hf hn h1 h2 h3 h4
  refine PC_of_VC tabOk (draw_ok mixed tabOk) fn_rcTake rfl ?_
  repeat' ((conv => whnf); first | with_reducible refine (Or.inl ?_ : VC _ _ _ _ _ ∨ _) | ((with_reducible refine fk (fun hc => ?_) fun hc => ?_) <;> first | exact absurd hc (by decide) | (exfalso; simp only [*, reduceCtorEq] at hc; done) | skip) | (refine Or.inl (Or.inr ?_); (conv => whnf); refine ⟨_, _, hown, ?_⟩) | (refine Or.inl (Or.inr ?_); (conv => whnf); refine ⟨_, _, GCx_pre (hm) ?_, ?_⟩; focus ((repeat' first | (with_reducible first | exact ⟨⟩ | exact rfl | exact lr _) | ((conv => whnf); with_reducible first | apply And.intro | exact ⟨⟩) | exact rfl | exact id | assumption | exact lr _); done)) | ((with_reducible apply And.intro); focus (first | rfl | exact Nat.le_of_ble_eq_true rfl | omega | (simp only [List.length_cons, List.length_nil, List.length_map, List.length_append]; omega))))
  all_goals
    repeat' first | (with_reducible first | exact ⟨⟩ | exact rfl | exact lr _) | ((conv => whnf); with_reducible first | apply And.intro | exact ⟨⟩) | exact rfl | exact id | exact lr _
    all_goals try (conv => whnf)
theorem takeGBE_c (hsm : x.sm) (g1 : (r.ledger != x.l.id) = false) (g2 : (r.epoch != x.epoch) = false) (k2x : (r.kind == 2) = false) (k3x : (r.kind == 3) = true) (kn : (r.n == x.n) = true) (hl : x.none.length ≤ 1000000) (hw : 0 ≤ x.l.w ∧ x.l.w ≤ 9223372036854775807) (ha : 0 ≤ x.l.a) (hf : frsOk x.l.frags) (hn : 0 ≤ x.n ∧ x.n ≤ 1000) (p2 : (x.phase == 2) = true) (k0 : (r.code == 0) = false) (k3 : (r.code == 3) = true) (h1 : (readsR x).any (· == r.from_) = true) (h2 : x.heard.any (· == r.from_) = true) (h3 : x.none.any (· == r.from_) = false) (h4 : missingP (readsR x) x.l.w x.l.a (x.none ++ [r.from_]) = true) :
    PCx Try.prog 9 [.agg x.c, uu now, .agg r.c] (.tup [.agg ({ x with none := x.none ++ [r.from_], phase := 4 } : Rv).c, slR []]) := by
  refine PC.le ?_
  have hown := ownN_g x hsm
  have hm := gotBE_g x now r hl hw ha hf hn p2 k0 k3 h1 h2 h3 h4
  clear hsm hl hw ha hf hn h1 h2 h3 h4
  refine PC_of_VC tabOk (draw_ok mixed tabOk) fn_rcTake rfl ?_
  repeat' ((conv => whnf); first | with_reducible refine (Or.inl ?_ : VC _ _ _ _ _ ∨ _) | ((with_reducible refine fk (fun hc => ?_) fun hc => ?_) <;> first | exact absurd hc (by decide) | (exfalso; simp only [*, reduceCtorEq] at hc; done) | skip) | (refine Or.inl (Or.inr ?_); (conv => whnf); refine ⟨_, _, hown, ?_⟩) | (refine Or.inl (Or.inr ?_); (conv => whnf); refine ⟨_, _, GCx_pre (hm) ?_, ?_⟩; focus ((repeat' first | (with_reducible first | exact ⟨⟩ | exact rfl | exact lr _) | ((conv => whnf); with_reducible first | apply And.intro | exact ⟨⟩) | exact rfl | exact id | assumption | exact lr _); done)) | ((with_reducible apply And.intro); focus (first | rfl | exact Nat.le_of_ble_eq_true rfl | omega | (simp only [List.length_cons, List.length_nil, List.length_map, List.length_append]; omega))))
  all_goals
    repeat' first | (with_reducible first | exact ⟨⟩ | exact rfl | exact lr _) | ((conv => whnf); with_reducible first | apply And.intro | exact ⟨⟩) | exact rfl | exact id | exact lr _
    all_goals try (conv => whnf)
theorem takeGC0_c (hsm : x.sm) (g1 : (r.ledger != x.l.id) = false) (g2 : (r.epoch != x.epoch) = false) (k2x : (r.kind == 2) = false) (k3x : (r.kind == 3) = true) (kn : (r.n == x.n) = true) (hf : frsOk x.l.frags) (hn : 0 ≤ x.n ∧ x.n ≤ 1000) (p2 : (x.phase == 2) = false) (p3 : (x.phase == 3) = true) (k0 : (r.code == 0) = true) (hb : r.body = x.body) (h : x.has.any (· == r.from_) = true) :
    PCx Try.prog 9 [.agg x.c, uu now, .agg r.c] (.tup [.agg x.c, slR []]) := by
  refine PC.le ?_
  have hown := ownS_g x hsm
  have hm := gotC0_g x now r hf hn p2 p3 k0 hb h
  clear hsm hf hn hb h
  refine PC_of_VC tabOk (draw_ok mixed tabOk) fn_rcTake rfl ?_
  repeat' ((conv => whnf); first | with_reducible refine (Or.inl ?_ : VC _ _ _ _ _ ∨ _) | ((with_reducible refine fk (fun hc => ?_) fun hc => ?_) <;> first | exact absurd hc (by decide) | (exfalso; simp only [*, reduceCtorEq] at hc; done) | skip) | (refine Or.inl (Or.inr ?_); (conv => whnf); refine ⟨_, _, hown, ?_⟩) | (refine Or.inl (Or.inr ?_); (conv => whnf); refine ⟨_, _, GCx_pre (hm) ?_, ?_⟩; focus ((repeat' first | (with_reducible first | exact ⟨⟩ | exact rfl | exact lr _) | ((conv => whnf); with_reducible first | apply And.intro | exact ⟨⟩) | exact rfl | exact id | assumption | exact lr _); done)) | ((with_reducible apply And.intro); focus (first | rfl | exact Nat.le_of_ble_eq_true rfl | omega | (simp only [List.length_cons, List.length_nil, List.length_map, List.length_append]; omega))))
  all_goals
    repeat' first | (with_reducible first | exact ⟨⟩ | exact rfl | exact lr _) | ((conv => whnf); with_reducible first | apply And.intro | exact ⟨⟩) | exact rfl | exact id | exact lr _
    all_goals try (conv => whnf)
theorem takeGCN_c (hsm : x.sm) (g1 : (r.ledger != x.l.id) = false) (g2 : (r.epoch != x.epoch) = false) (k2x : (r.kind == 2) = false) (k3x : (r.kind == 3) = true) (kn : (r.n == x.n) = true) (hf : frsOk x.l.frags) (hn : 0 ≤ x.n ∧ x.n ≤ 1000) (p2 : (x.phase == 2) = false) (p3 : (x.phase == 3) = true) (k0 : (r.code == 0) = true) (hb : r.body = x.body) (h : x.has.any (· == r.from_) = false) (hl : x.has.length ≤ 1000000) (hff : frsOk x.frags) (ha : ackedP (writesR x) x.l.a (x.has ++ [r.from_]) = false) :
    PCx Try.prog 9 [.agg x.c, uu now, .agg r.c] (.tup [.agg ({ x with has := x.has ++ [r.from_] } : Rv).c, slR []]) := by
  refine PC.le ?_
  have hown := ownS_g x hsm
  have hm := gotCN_g x now r hf hn p2 p3 k0 hb h hl hff ha
  clear hsm hf hn hb h hl hff ha
  refine PC_of_VC tabOk (draw_ok mixed tabOk) fn_rcTake rfl ?_
  repeat' ((conv => whnf); first | with_reducible refine (Or.inl ?_ : VC _ _ _ _ _ ∨ _) | ((with_reducible refine fk (fun hc => ?_) fun hc => ?_) <;> first | exact absurd hc (by decide) | (exfalso; simp only [*, reduceCtorEq] at hc; done) | skip) | (refine Or.inl (Or.inr ?_); (conv => whnf); refine ⟨_, _, hown, ?_⟩) | (refine Or.inl (Or.inr ?_); (conv => whnf); refine ⟨_, _, GCx_pre (hm) ?_, ?_⟩; focus ((repeat' first | (with_reducible first | exact ⟨⟩ | exact rfl | exact lr _) | ((conv => whnf); with_reducible first | apply And.intro | exact ⟨⟩) | exact rfl | exact id | assumption | exact lr _); done)) | ((with_reducible apply And.intro); focus (first | rfl | exact Nat.le_of_ble_eq_true rfl | omega | (simp only [List.length_cons, List.length_nil, List.length_map, List.length_append]; omega))))
  all_goals
    repeat' first | (with_reducible first | exact ⟨⟩ | exact rfl | exact lr _) | ((conv => whnf); with_reducible first | apply And.intro | exact ⟨⟩) | exact rfl | exact id | exact lr _
    all_goals try (conv => whnf)
theorem takeGCE_c (hsm : x.sm) (g1 : (r.ledger != x.l.id) = false) (g2 : (r.epoch != x.epoch) = false) (k2x : (r.kind == 2) = false) (k3x : (r.kind == 3) = true) (kn : (r.n == x.n) = true) (hf : frsOk x.l.frags) (hn : 0 ≤ x.n ∧ x.n ≤ 1000) (p2 : (x.phase == 2) = false) (p3 : (x.phase == 3) = true) (k0 : (r.code == 0) = true) (hb : r.body = x.body) (h : x.has.any (· == r.from_) = false) (hl : x.has.length ≤ 1000000) (hff : frsOk x.frags) (ha : ackedP (writesR x) x.l.a (x.has ++ [r.from_]) = true) (h8 : 8 < x.n + 1) :
    PCx Try.prog 9 [.agg x.c, uu now, .agg r.c] (.tup [.agg (goOnR { x with has := x.has ++ [r.from_] } (x.n + 1) now).1.c, slR []]) := by
  refine PC.le ?_
  have hown := ownS_g x hsm
  have hm := gotCE_g x now r hf hn p2 p3 k0 hb h hl hff ha h8
  clear hsm hf hn hb h hl hff ha h8
  refine PC_of_VC tabOk (draw_ok mixed tabOk) fn_rcTake rfl ?_
  repeat' ((conv => whnf); first | with_reducible refine (Or.inl ?_ : VC _ _ _ _ _ ∨ _) | ((with_reducible refine fk (fun hc => ?_) fun hc => ?_) <;> first | exact absurd hc (by decide) | (exfalso; simp only [*, reduceCtorEq] at hc; done) | skip) | (refine Or.inl (Or.inr ?_); (conv => whnf); refine ⟨_, _, hown, ?_⟩) | (refine Or.inl (Or.inr ?_); (conv => whnf); refine ⟨_, _, GCx_pre (hm) ?_, ?_⟩; focus ((repeat' first | (with_reducible first | exact ⟨⟩ | exact rfl | exact lr _) | ((conv => whnf); with_reducible first | apply And.intro | exact ⟨⟩) | exact rfl | exact id | assumption | exact lr _); done)) | ((with_reducible apply And.intro); focus (first | rfl | exact Nat.le_of_ble_eq_true rfl | omega | (simp only [List.length_cons, List.length_nil, List.length_map, List.length_append]; omega))))
  all_goals
    repeat' first | (with_reducible first | exact ⟨⟩ | exact rfl | exact lr _) | ((conv => whnf); with_reducible first | apply And.intro | exact ⟨⟩) | exact rfl | exact id | exact lr _
    all_goals try (conv => whnf)
  all_goals (simp only [goOnR_heard, goOnR_none, goOnR_has, goOnR_frags, goOnR_bad]; exact leRs_refl _)
theorem takeGCA_c (hsm : x.sm) (g1 : (r.ledger != x.l.id) = false) (g2 : (r.epoch != x.epoch) = false) (k2x : (r.kind == 2) = false) (k3x : (r.kind == 3) = true) (kn : (r.n == x.n) = true) (hf : frsOk x.l.frags) (hn : 0 ≤ x.n ∧ x.n ≤ 1000) (p2 : (x.phase == 2) = false) (p3 : (x.phase == 3) = true) (k0 : (r.code == 0) = true) (hb : r.body = x.body) (h : x.has.any (· == r.from_) = false) (hl : x.has.length ≤ 1000000) (hff : frsOk x.frags) (ha : ackedP (writesR x) x.l.a (x.has ++ [r.from_]) = true) (h8 : x.n + 1 ≤ 8) (hs : ∀ n, (setOf x.l.frags x.l.w n).length ≤ 1000000) :
    PCx Try.prog 9 [.agg x.c, uu now, .agg r.c] (.tup [.agg (goOnR { x with has := x.has ++ [r.from_] } (x.n + 1) now).1.c, slR (goOnR { x with has := x.has ++ [r.from_] } (x.n + 1) now).2]) := by
  refine PC.le ?_
  have hown := ownS_g x hsm
  have hm := gotCA_g x now r hf hn p2 p3 k0 hb h hl hff ha h8 hs
  clear hsm hf hn hb h hl hff ha h8 hs
  refine PC_of_VC tabOk (draw_ok mixed tabOk) fn_rcTake rfl ?_
  repeat' ((conv => whnf); first | with_reducible refine (Or.inl ?_ : VC _ _ _ _ _ ∨ _) | ((with_reducible refine fk (fun hc => ?_) fun hc => ?_) <;> first | exact absurd hc (by decide) | (exfalso; simp only [*, reduceCtorEq] at hc; done) | skip) | (refine Or.inl (Or.inr ?_); (conv => whnf); refine ⟨_, _, hown, ?_⟩) | (refine Or.inl (Or.inr ?_); (conv => whnf); refine ⟨_, _, GCx_pre (hm) ?_, ?_⟩; focus ((repeat' first | (with_reducible first | exact ⟨⟩ | exact rfl | exact lr _) | ((conv => whnf); with_reducible first | apply And.intro | exact ⟨⟩) | exact rfl | exact id | assumption | exact lr _); done)) | ((with_reducible apply And.intro); focus (first | rfl | exact Nat.le_of_ble_eq_true rfl | omega | (simp only [List.length_cons, List.length_nil, List.length_map, List.length_append]; omega))))
  all_goals
    repeat' first | (with_reducible first | exact ⟨⟩ | exact rfl | exact lr _) | ((conv => whnf); with_reducible first | apply And.intro | exact ⟨⟩) | exact rfl | exact id | exact lr _
    all_goals try (conv => whnf)
  all_goals (simp only [goOnR_heard, goOnR_none, goOnR_has, goOnR_frags, goOnR_bad]; exact leRs_refl _)
theorem takeGAN_c (hsm : x.sm) (g1 : (r.ledger != x.l.id) = false) (g2 : (r.epoch != x.epoch) = false) (k2x : (r.kind == 2) = false) (k3x : (r.kind == 3) = true) (kn : (r.n == x.n) = true) (hf : frsOk x.l.frags) (hff : frsOk x.frags) (hn : 0 ≤ x.n ∧ x.n ≤ 1000) (hb : r.body.length ≤ 1000000) (hw : (writesR x).length ≤ 1000) (p2 : (x.phase == 2) = true) (k0 : (r.code == 0) = true) (h1 : (readsR x).any (· == r.from_) = true) (ha : ackedP (writesR (copyingR x now r)) x.l.a [r.from_] = false) :
    PCx Try.prog 9 [.agg x.c, uu now, .agg r.c] (.tup [.agg (copyingR x now r).c, slR (copiesQ (copyingR x now r) (writesR (copyingR x now r)))]) := by
  refine PC.le ?_
  have hown := ownP_g x hsm
  have hm := gotAN_g x now r hf hff hn hb hw p2 k0 h1 ha
  clear hsm hf hff hn hb hw h1 ha
  refine PC_of_VC tabOk (draw_ok mixed tabOk) fn_rcTake rfl ?_
  repeat' ((conv => whnf); first | with_reducible refine (Or.inl ?_ : VC _ _ _ _ _ ∨ _) | ((with_reducible refine fk (fun hc => ?_) fun hc => ?_) <;> first | exact absurd hc (by decide) | (exfalso; simp only [*, reduceCtorEq] at hc; done) | skip) | (refine Or.inl (Or.inr ?_); (conv => whnf); refine ⟨_, _, hown, ?_⟩) | (refine Or.inl (Or.inr ?_); (conv => whnf); refine ⟨_, _, GCx_pre (hm) ?_, ?_⟩; focus ((repeat' first | (with_reducible first | exact ⟨⟩ | exact rfl | exact lr _) | ((conv => whnf); with_reducible first | apply And.intro | exact ⟨⟩) | exact rfl | exact id | assumption | exact lr _); done)) | ((with_reducible apply And.intro); focus (first | rfl | exact Nat.le_of_ble_eq_true rfl | omega | (simp only [List.length_cons, List.length_nil, List.length_map, List.length_append]; omega))))
  all_goals
    repeat' first | (with_reducible first | exact ⟨⟩ | exact rfl | exact lr _) | ((conv => whnf); with_reducible first | apply And.intro | exact ⟨⟩) | exact rfl | exact id | exact lr _
    all_goals try (conv => whnf)
theorem takeGAE_c (hsm : x.sm) (g1 : (r.ledger != x.l.id) = false) (g2 : (r.epoch != x.epoch) = false) (k2x : (r.kind == 2) = false) (k3x : (r.kind == 3) = true) (kn : (r.n == x.n) = true) (hf : frsOk x.l.frags) (hff : frsOk x.frags) (hn : 0 ≤ x.n ∧ x.n ≤ 1000) (hb : r.body.length ≤ 1000000) (hw : (writesR x).length ≤ 1000) (p2 : (x.phase == 2) = true) (k0 : (r.code == 0) = true) (h1 : (readsR x).any (· == r.from_) = true) (ha : ackedP (writesR (copyingR x now r)) x.l.a [r.from_] = true) (h8 : 8 < x.n + 1) :
    PCx Try.prog 9 [.agg x.c, uu now, .agg r.c] (.tup [.agg (goOnR (copyingR x now r) (x.n + 1) now).1.c, slR (copiesQ (copyingR x now r) (writesR (copyingR x now r)))]) := by
  refine PC.le ?_
  have hown := ownP_g x hsm
  have hm := gotAE_g x now r hf hff hn hb hw p2 k0 h1 ha h8
  clear hsm hf hff hn hb hw h1 ha h8
  refine PC_of_VC tabOk (draw_ok mixed tabOk) fn_rcTake rfl ?_
  repeat' ((conv => whnf); first | with_reducible refine (Or.inl ?_ : VC _ _ _ _ _ ∨ _) | ((with_reducible refine fk (fun hc => ?_) fun hc => ?_) <;> first | exact absurd hc (by decide) | (exfalso; simp only [*, reduceCtorEq] at hc; done) | skip) | (refine Or.inl (Or.inr ?_); (conv => whnf); refine ⟨_, _, hown, ?_⟩) | (refine Or.inl (Or.inr ?_); (conv => whnf); refine ⟨_, _, GCx_pre (hm) ?_, ?_⟩; focus ((repeat' first | (with_reducible first | exact ⟨⟩ | exact rfl | exact lr _) | ((conv => whnf); with_reducible first | apply And.intro | exact ⟨⟩) | exact rfl | exact id | assumption | exact lr _); done)) | ((with_reducible apply And.intro); focus (first | rfl | exact Nat.le_of_ble_eq_true rfl | omega | (simp only [List.length_cons, List.length_nil, List.length_map, List.length_append]; omega))))
  all_goals
    repeat' first | (with_reducible first | exact ⟨⟩ | exact rfl | exact lr _) | ((conv => whnf); with_reducible first | apply And.intro | exact ⟨⟩) | exact rfl | exact id | exact lr _
    all_goals try (conv => whnf)
  all_goals (simp only [goOnR_heard, goOnR_none, goOnR_has, goOnR_frags, goOnR_bad]; exact leRs_refl _)
theorem takeGAA_c (hsm : x.sm) (g1 : (r.ledger != x.l.id) = false) (g2 : (r.epoch != x.epoch) = false) (k2x : (r.kind == 2) = false) (k3x : (r.kind == 3) = true) (kn : (r.n == x.n) = true) (hf : frsOk x.l.frags) (hff : frsOk x.frags) (hn : 0 ≤ x.n ∧ x.n ≤ 1000) (hb : r.body.length ≤ 1000000) (hw : (writesR x).length ≤ 1000) (p2 : (x.phase == 2) = true) (k0 : (r.code == 0) = true) (h1 : (readsR x).any (· == r.from_) = true) (ha : ackedP (writesR (copyingR x now r)) x.l.a [r.from_] = true) (h8 : x.n + 1 ≤ 8) (hs : ∀ n, (setOf x.l.frags x.l.w n).length ≤ 1000000) :
    PCx Try.prog 9 [.agg x.c, uu now, .agg r.c] (.tup [.agg (goOnR (copyingR x now r) (x.n + 1) now).1.c, slR (copiesQ (copyingR x now r) (writesR (copyingR x now r)) ++ (goOnR (copyingR x now r) (x.n + 1) now).2)]) := by
  refine PC.le ?_
  have hown := ownP_g x hsm
  have hm := gotAA_g x now r hf hff hn hb hw p2 k0 h1 ha h8 hs
  clear hsm hf hff hn hb hw h1 ha h8 hs
  refine PC_of_VC tabOk (draw_ok mixed tabOk) fn_rcTake rfl ?_
  repeat' ((conv => whnf); first | with_reducible refine (Or.inl ?_ : VC _ _ _ _ _ ∨ _) | ((with_reducible refine fk (fun hc => ?_) fun hc => ?_) <;> first | exact absurd hc (by decide) | (exfalso; simp only [*, reduceCtorEq] at hc; done) | skip) | (refine Or.inl (Or.inr ?_); (conv => whnf); refine ⟨_, _, hown, ?_⟩) | (refine Or.inl (Or.inr ?_); (conv => whnf); refine ⟨_, _, GCx_pre (hm) ?_, ?_⟩; focus ((repeat' first | (with_reducible first | exact ⟨⟩ | exact rfl | exact lr _) | ((conv => whnf); with_reducible first | apply And.intro | exact ⟨⟩) | exact rfl | exact id | assumption | exact lr _); done)) | ((with_reducible apply And.intro); focus (first | rfl | exact Nat.le_of_ble_eq_true rfl | omega | (simp only [List.length_cons, List.length_nil, List.length_map, List.length_append]; omega))))
  all_goals
    repeat' first | (with_reducible first | exact ⟨⟩ | exact rfl | exact lr _) | ((conv => whnf); with_reducible first | apply And.intro | exact ⟨⟩) | exact rfl | exact id | exact lr _
    all_goals try (conv => whnf)
  all_goals (simp only [goOnR_heard, goOnR_none, goOnR_has, goOnR_frags, goOnR_bad]; exact leRs_refl _)
end
end Go.Proofs.Ytpbjamihhkmgiaa.Tb
