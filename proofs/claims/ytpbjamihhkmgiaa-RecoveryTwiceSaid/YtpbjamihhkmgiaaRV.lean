/-
  Contracts of functions of the program and of the document, each for every input that its premises name.
-/
import Derived.Test.YtpbjamihhkmgiaaRH
import Derived.Test.YtpbjamihhkmgiaaRU
set_option linter.unusedSectionVars false
set_option maxRecDepth 100000
set_option maxHeartbeats 4000000
set_option linter.unusedVariables false
set_option linter.unusedSimpArgs false
open Go Go.AX
namespace Go.Proofs.Ytpbjamihhkmgiaa.Tb
section
variable (x : Rv) (now : Int) (r : Rs)
theorem addedA0_g (k0 : (r.code == 0) = true) (h : x.has.any (· == r.from_) = true) :
    GCx Try.prog 28 [.ptr 1 0, .pv (uu now), .pv (.agg r.c)] [(1, .var (x.v (.pv (slP x.heard)) (.pv (slP x.none)) (.slw 2 0) (.pv (slF x.frags)) (.pv (slP x.bad)) (.pv (.sc (.slice none 0 0))))), (2, .arr 38 0 2 (x.has.map Pl.c))] (.pv (.tup []))
      [(1, .var (x.v (.pv (slP x.heard)) (.pv (slP x.none)) (.slw 2 0) (.pv (slF x.frags)) (.pv (slP x.bad)) (.pv (.sc (.slice none 0 0))))), (2, .arr 38 0 2 (x.has.map Pl.c))] := by
  have hh := has0_g x now r.from_ h
  clear h
  refine GC_of_VC tabOk (draw_ok mixed tabOk) fn_wAdded rfl ?_
  repeat' ((conv => whnf); first | with_reducible refine (Or.inl ?_ : VC _ _ _ _ _ ∨ _) | ((with_reducible refine fk (fun hc => ?_) fun hc => ?_) <;> first | exact absurd hc (by decide) | (exfalso; simp only [*, reduceCtorEq] at hc; done) | skip) | (refine Or.inl (Or.inr ?_); (conv => whnf); refine ⟨_, _, GCx_pre (hh) ?_, ?_⟩; focus ((repeat' first | (with_reducible first | exact ⟨⟩ | exact rfl | exact lr _) | ((conv => whnf); with_reducible first | apply And.intro | exact ⟨⟩) | exact rfl | exact id | assumption | exact lr _); done)) | ((with_reducible apply And.intro); focus (first | rfl | exact Nat.le_of_ble_eq_true rfl | omega | (simp only [List.length_cons, List.length_nil, List.length_map, List.length_append]; omega))))
  all_goals
    refine ⟨_, _, ⟨rfl, rfl⟩, ?_⟩
    repeat' first | (with_reducible first | exact ⟨⟩ | exact rfl | exact lr _) | ((conv => whnf); with_reducible first | apply And.intro | exact ⟨⟩) | exact rfl | exact id | exact lr _
    all_goals try (conv => whnf)
theorem addedAN_g (k0 : (r.code == 0) = true) (h : x.has.any (· == r.from_) = false) (hl : x.has.length ≤ 1000000) (hff : frsOk x.frags) (hn : 0 ≤ x.n ∧ x.n ≤ 1000) (ha : ackedP (writesR x) x.l.a (x.has ++ [r.from_]) = false) :
    GCx Try.prog 28 [.ptr 1 0, .pv (uu now), .pv (.agg r.c)] [(1, .var (x.v (.pv (slP x.heard)) (.pv (slP x.none)) (.slw 2 0) (.pv (slF x.frags)) (.pv (slP x.bad)) (.pv (.sc (.slice none 0 0))))), (2, .arr 38 0 2 (x.has.map Pl.c))] (.pv (.tup []))
      [(1, .var (({ x with has := x.has ++ [r.from_] } : Rv).v (.pv (slP x.heard)) (.pv (slP x.none)) (.slw 2 1) (.pv (slF x.frags)) (.pv (slP x.bad)) (.pv (.sc (.slice none 0 0))))), (2, .arr 38 1 2 ((x.has ++ [r.from_]).map Pl.c))] := by
  have hh := hasN_g x now r.from_ h hl hff hn ha
  clear h hn ha hl hff
  refine GC_of_VC tabOk (draw_ok mixed tabOk) fn_wAdded rfl ?_
  repeat' ((conv => whnf); first | with_reducible refine (Or.inl ?_ : VC _ _ _ _ _ ∨ _) | ((with_reducible refine fk (fun hc => ?_) fun hc => ?_) <;> first | exact absurd hc (by decide) | (exfalso; simp only [*, reduceCtorEq] at hc; done) | skip) | (refine Or.inl (Or.inr ?_); (conv => whnf); refine ⟨_, _, GCx_pre (hh) ?_, ?_⟩; focus ((repeat' first | (with_reducible first | exact ⟨⟩ | exact rfl | exact lr _) | ((conv => whnf); with_reducible first | apply And.intro | exact ⟨⟩) | exact rfl | exact id | assumption | exact lr _); done)) | ((with_reducible apply And.intro); focus (first | rfl | exact Nat.le_of_ble_eq_true rfl | omega | (simp only [List.length_cons, List.length_nil, List.length_map, List.length_append]; omega))))
  all_goals
    refine ⟨_, _, ⟨rfl, rfl⟩, ?_⟩
    repeat' first | (with_reducible first | exact ⟨⟩ | exact rfl | exact lr _) | ((conv => whnf); with_reducible first | apply And.intro | exact ⟨⟩) | exact rfl | exact id | exact lr _
    all_goals try (conv => whnf)
theorem addedAE_g (k0 : (r.code == 0) = true) (h : x.has.any (· == r.from_) = false) (hl : x.has.length ≤ 1000000) (hff : frsOk x.frags) (hn : 0 ≤ x.n ∧ x.n ≤ 1000) (ha : ackedP (writesR x) x.l.a (x.has ++ [r.from_]) = true) (h8 : 8 < x.n + 1) :
    GCx Try.prog 28 [.ptr 1 0, .pv (uu now), .pv (.agg r.c)] [(1, .var (x.v (.pv (slP x.heard)) (.pv (slP x.none)) (.slw 2 0) (.pv (slF x.frags)) (.pv (slP x.bad)) (.pv (.sc (.slice none 0 0))))), (2, .arr 38 0 2 (x.has.map Pl.c))] (.pv (.tup []))
      [(1, .var ((goOnR { x with has := x.has ++ [r.from_] } (x.n + 1) now).1.v (.pv (slP x.heard)) (.pv (slP [])) (.pv (slP [])) (.pv (slF x.frags)) (.pv (slP [])) (.pv (.sc (.slice none 0 0))))), (2, .arr 38 1 2 ((x.has ++ [r.from_]).map Pl.c))] := by
  have hh := hasE_g x now r.from_ h hl hff hn ha h8
  clear h hn ha hl hff h8
  refine GC_of_VC tabOk (draw_ok mixed tabOk) fn_wAdded rfl ?_
  repeat' ((conv => whnf); first | with_reducible refine (Or.inl ?_ : VC _ _ _ _ _ ∨ _) | ((with_reducible refine fk (fun hc => ?_) fun hc => ?_) <;> first | exact absurd hc (by decide) | (exfalso; simp only [*, reduceCtorEq] at hc; done) | skip) | (refine Or.inl (Or.inr ?_); (conv => whnf); refine ⟨_, _, GCx_pre (hh) ?_, ?_⟩; focus ((repeat' first | (with_reducible first | exact ⟨⟩ | exact rfl | exact lr _) | ((conv => whnf); with_reducible first | apply And.intro | exact ⟨⟩) | exact rfl | exact id | assumption | exact lr _); done)) | ((with_reducible apply And.intro); focus (first | rfl | exact Nat.le_of_ble_eq_true rfl | omega | (simp only [List.length_cons, List.length_nil, List.length_map, List.length_append]; omega))))
  all_goals
    refine ⟨_, _, ⟨rfl, rfl⟩, ?_⟩
    repeat' first | (with_reducible first | exact ⟨⟩ | exact rfl | exact lr _) | ((conv => whnf); with_reducible first | apply And.intro | exact ⟨⟩) | exact rfl | exact id | exact lr _
    all_goals try (conv => whnf)
theorem addedAA_g (k0 : (r.code == 0) = true) (h : x.has.any (· == r.from_) = false) (hl : x.has.length ≤ 1000000) (hff : frsOk x.frags) (hn : 0 ≤ x.n ∧ x.n ≤ 1000) (ha : ackedP (writesR x) x.l.a (x.has ++ [r.from_]) = true) (h8 : x.n + 1 ≤ 8) (hf : frsOk x.l.frags) (hs : ∀ n, (setOf x.l.frags x.l.w n).length ≤ 1000000) :
    GCx Try.prog 28 [.ptr 1 0, .pv (uu now), .pv (.agg r.c)] [(1, .var (x.v (.pv (slP x.heard)) (.pv (slP x.none)) (.slw 2 0) (.pv (slF x.frags)) (.pv (slP x.bad)) (.pv (.sc (.slice none 0 0))))), (2, .arr 38 0 2 (x.has.map Pl.c))] (.pv (.tup []))
      [(1, .var ((goOnR { x with has := x.has ++ [r.from_] } (x.n + 1) now).1.v (.pv (slP x.heard)) (.pv (slP [])) (.pv (slP [])) (.pv (slF x.frags)) (.pv (slP [])) (.slw 1001 0))), (2, .arr 38 1 2 ((x.has ++ [r.from_]).map Pl.c)), (1001, .arr 54 0 10 ((goOnR { x with has := x.has ++ [r.from_] } (x.n + 1) now).2.map Rq.c))] := by
  have hh := hasA_g x now r.from_ h hl hff hn ha h8 hf hs
  clear h hn ha hl hff h8 hf hs
  refine GC_of_VC tabOk (draw_ok mixed tabOk) fn_wAdded rfl ?_
  repeat' ((conv => whnf); first | with_reducible refine (Or.inl ?_ : VC _ _ _ _ _ ∨ _) | ((with_reducible refine fk (fun hc => ?_) fun hc => ?_) <;> first | exact absurd hc (by decide) | (exfalso; simp only [*, reduceCtorEq] at hc; done) | skip) | (refine Or.inl (Or.inr ?_); (conv => whnf); refine ⟨_, _, GCx_pre (hh) ?_, ?_⟩; focus ((repeat' first | (with_reducible first | exact ⟨⟩ | exact rfl | exact lr _) | ((conv => whnf); with_reducible first | apply And.intro | exact ⟨⟩) | exact rfl | exact id | assumption | exact lr _); done)) | ((with_reducible apply And.intro); focus (first | rfl | exact Nat.le_of_ble_eq_true rfl | omega | (simp only [List.length_cons, List.length_nil, List.length_map, List.length_append]; omega))))
  all_goals
    refine ⟨_, _, ⟨rfl, rfl⟩, ?_⟩
    repeat' first | (with_reducible first | exact ⟨⟩ | exact rfl | exact lr _) | ((conv => whnf); with_reducible first | apply And.intro | exact ⟨⟩) | exact rfl | exact id | exact lr _
    all_goals try (conv => whnf)
theorem addedN_g (k0 : (r.code == 0) = false) (k2 : (r.code == 2) = false) (k4 : (r.code == 4) = false) :
    GCx Try.prog 28 [.ptr 1 0, .pv (uu now), .pv (.agg r.c)] [(1, .var (x.v (.pv (slP x.heard)) (.pv (slP x.none)) (.pv (slP x.has)) (.pv (slF x.frags)) (.pv (slP x.bad)) (.pv (.sc (.slice none 0 0)))))] (.pv (.tup []))
      [(1, .var (x.v (.pv (slP x.heard)) (.pv (slP x.none)) (.pv (slP x.has)) (.pv (slF x.frags)) (.pv (slP x.bad)) (.pv (.sc (.slice none 0 0)))))] := by
  refine GC_of_VC tabOk (draw_ok mixed tabOk) fn_wAdded rfl ?_
  repeat' ((conv => whnf); first | with_reducible refine (Or.inl ?_ : VC _ _ _ _ _ ∨ _) | ((with_reducible refine fk (fun hc => ?_) fun hc => ?_) <;> first | exact absurd hc (by decide) | (exfalso; simp only [*, reduceCtorEq] at hc; done) | skip) | ((with_reducible apply And.intro); focus (first | rfl | exact Nat.le_of_ble_eq_true rfl | omega | (simp only [List.length_cons, List.length_nil, List.length_map, List.length_append]; omega))))
  all_goals
    refine ⟨_, _, ⟨rfl, rfl⟩, ?_⟩
    repeat' first | (with_reducible first | exact ⟨⟩ | exact rfl | exact lr _) | ((conv => whnf); with_reducible first | apply And.intro | exact ⟨⟩) | exact rfl | exact id | exact lr _
    all_goals try (conv => whnf)
theorem addedF_g (k0 : (r.code == 0) = false) (k2 : (r.code == 2) = true) (hff : frsOk x.frags) (hn : 0 ≤ x.n ∧ x.n ≤ 1000) (hl : x.bad.length ≤ 1000000) (hw : (writesR x).length ≤ 1000) :
    GCx Try.prog 28 [.ptr 1 0, .pv (uu now), .pv (.agg r.c)] [(1, .var (x.v (.pv (slP x.heard)) (.pv (slP x.none)) (.pv (slP x.has)) (.pv (slF x.frags)) (.slw 2 0) (.pv (.sc (.slice none 0 0))))), (2, .arr 38 0 2 (x.bad.map Pl.c))] (.pv (.tup []))
      [(1, .var (({ x with bad := addBad (fun y => y == r.from_) x.bad (writesR x) } : Rv).v (.pv (slP x.heard)) (.pv (slP x.none)) (.pv (slP x.has)) (.pv (slF x.frags)) (.slw 1001 0) (.pv (.sc (.slice none 0 0))))), (2, .roa 1 2 []), (1001, .arr 38 0 2 ((addBad (fun y => y == r.from_) x.bad (writesR x)).map Pl.c))] := by
  have hh := added1_g x r 48 (fun y => y == r.from_) (fun y => added2_c y r) hff hn hl hw
  clear hff hn hl hw
  refine GC_of_VC tabOk (draw_ok mixed tabOk) fn_wAdded rfl ?_
  repeat' ((conv => whnf); first | with_reducible refine (Or.inl ?_ : VC _ _ _ _ _ ∨ _) | ((with_reducible refine fk (fun hc => ?_) fun hc => ?_) <;> first | exact absurd hc (by decide) | (exfalso; simp only [*, reduceCtorEq] at hc; done) | skip) | (refine Or.inl (Or.inr ?_); (conv => whnf); refine ⟨_, _, GCx_pre (hh) ?_, ?_⟩; focus ((repeat' first | (with_reducible first | exact ⟨⟩ | exact rfl | exact lr _) | ((conv => whnf); with_reducible first | apply And.intro | exact ⟨⟩) | exact rfl | exact id | assumption | exact lr _); done)) | ((with_reducible apply And.intro); focus (first | rfl | exact Nat.le_of_ble_eq_true rfl | omega | (simp only [List.length_cons, List.length_nil, List.length_map, List.length_append]; omega))))
  all_goals
    refine ⟨_, _, ⟨rfl, rfl⟩, ?_⟩
    repeat' first | (with_reducible first | exact ⟨⟩ | exact rfl | exact lr _) | ((conv => whnf); with_reducible first | apply And.intro | exact ⟨⟩) | exact rfl | exact id | exact lr _
    all_goals try (conv => whnf)
theorem addedS_g (k0 : (r.code == 0) = false) (k2 : (r.code == 2) = false) (k4 : (r.code == 4) = true) (hff : frsOk x.frags) (hn : 0 ≤ x.n ∧ x.n ≤ 1000) (hl : x.bad.length ≤ 1000000) (hw : (writesR x).length ≤ 1000) :
    GCx Try.prog 28 [.ptr 1 0, .pv (uu now), .pv (.agg r.c)] [(1, .var (x.v (.pv (slP x.heard)) (.pv (slP x.none)) (.pv (slP x.has)) (.pv (slF x.frags)) (.slw 2 0) (.pv (.sc (.slice none 0 0))))), (2, .arr 38 0 2 (x.bad.map Pl.c))] (.pv (.tup []))
      [(1, .var (({ x with bad := addBad (fun y => y.node == r.from_.node && y.serial != r.from_.serial) x.bad (writesR x) } : Rv).v (.pv (slP x.heard)) (.pv (slP x.none)) (.pv (slP x.has)) (.pv (slF x.frags)) (.slw 1001 0) (.pv (.sc (.slice none 0 0))))), (2, .roa 1 2 []), (1001, .arr 38 0 2 ((addBad (fun y => y.node == r.from_.node && y.serial != r.from_.serial) x.bad (writesR x)).map Pl.c))] := by
  have hh := added1_g x r 49 (fun y => y.node == r.from_.node && y.serial != r.from_.serial) (fun y => added3_c y r) hff hn hl hw
  clear hff hn hl hw
  refine GC_of_VC tabOk (draw_ok mixed tabOk) fn_wAdded rfl ?_
  repeat' ((conv => whnf); first | with_reducible refine (Or.inl ?_ : VC _ _ _ _ _ ∨ _) | ((with_reducible refine fk (fun hc => ?_) fun hc => ?_) <;> first | exact absurd hc (by decide) | (exfalso; simp only [*, reduceCtorEq] at hc; done) | skip) | (refine Or.inl (Or.inr ?_); (conv => whnf); refine ⟨_, _, GCx_pre (hh) ?_, ?_⟩; focus ((repeat' first | (with_reducible first | exact ⟨⟩ | exact rfl | exact lr _) | ((conv => whnf); with_reducible first | apply And.intro | exact ⟨⟩) | exact rfl | exact id | assumption | exact lr _); done)) | ((with_reducible apply And.intro); focus (first | rfl | exact Nat.le_of_ble_eq_true rfl | omega | (simp only [List.length_cons, List.length_nil, List.length_map, List.length_append]; omega))))
  all_goals
    refine ⟨_, _, ⟨rfl, rfl⟩, ?_⟩
    repeat' first | (with_reducible first | exact ⟨⟩ | exact rfl | exact lr _) | ((conv => whnf); with_reducible first | apply And.intro | exact ⟨⟩) | exact rfl | exact id | exact lr _
    all_goals try (conv => whnf)
end
end Go.Proofs.Ytpbjamihhkmgiaa.Tb
