/-
  Contracts of functions of the program and of the document, each for every input that its premises name.
-/
import Derived.Test.YtpbjamihhkmgiaaRG
set_option linter.unusedSectionVars false
set_option maxRecDepth 100000
set_option maxHeartbeats 4000000
set_option linter.unusedVariables false
set_option linter.unusedSimpArgs false
open Go Go.AX
namespace Go.Proofs.Ytpbjamihhkmgiaa.Tb
section
variable (x : Rv) (now : Int) (p : Pl)
theorem has0_g (h : x.has.any (· == p) = true) :
    GCx Try.prog 46 [.ptr 1 0, .pv (uu now), .pv (.agg p.c)] [(1, .var (x.v (.pv (slP x.heard)) (.pv (slP x.none)) (.slw 2 0) (.pv (slF x.frags)) (.pv (slP x.bad)) (.pv (.sc (.slice none 0 0))))), (2, .arr 38 0 2 (x.has.map Pl.c))] (.pv (.tup []))
      [(1, .var (x.v (.pv (slP x.heard)) (.pv (slP x.none)) (.slw 2 0) (.pv (slF x.frags)) (.pv (slP x.bad)) (.pv (.sc (.slice none 0 0))))), (2, .arr 38 0 2 (x.has.map Pl.c))] := by
  have hco := containsPlace_c x.has p.node p.serial
  rw [show (x.has.any fun y => y == (⟨p.node, p.serial⟩ : Pl)) = true from h] at hco
  clear h
  refine GC_of_VC tabOk (draw_ok mixed tabOk) fn_wHas rfl ?_
  repeat' ((conv => whnf); first | with_reducible refine (Or.inl ?_ : VC _ _ _ _ _ ∨ _) | ((with_reducible refine fk (fun hc => ?_) fun hc => ?_) <;> first | exact absurd hc (by decide) | (exfalso; simp only [*, reduceCtorEq] at hc; done) | skip) | (refine Or.inl (Or.inl ?_); (conv => whnf); refine ⟨_, hco, ?_⟩) | ((with_reducible apply And.intro); focus (first | rfl | exact Nat.le_of_ble_eq_true rfl | omega | (simp only [List.length_cons, List.length_nil, List.length_map, List.length_append]; omega))))
  refine ⟨_, _, ⟨rfl, rfl⟩, ?_⟩
  repeat' first | (with_reducible first | exact ⟨⟩ | exact rfl | exact lr _) | ((conv => whnf); with_reducible first | apply And.intro | exact ⟨⟩) | exact rfl | exact id | exact lr _
  all_goals try (conv => whnf)
theorem hasN_g (h : x.has.any (· == p) = false) (hl : x.has.length ≤ 1000000) (hf : frsOk x.frags) (hn : 0 ≤ x.n ∧ x.n ≤ 1000) (ha : ackedP (writesR x) x.l.a (x.has ++ [p]) = false) :
    GCx Try.prog 46 [.ptr 1 0, .pv (uu now), .pv (.agg p.c)] [(1, .var (x.v (.pv (slP x.heard)) (.pv (slP x.none)) (.slw 2 0) (.pv (slF x.frags)) (.pv (slP x.bad)) (.pv (.sc (.slice none 0 0))))), (2, .arr 38 0 2 (x.has.map Pl.c))] (.pv (.tup []))
      [(1, .var (({ x with has := x.has ++ [p] } : Rv).v (.pv (slP x.heard)) (.pv (slP x.none)) (.slw 2 1) (.pv (slF x.frags)) (.pv (slP x.bad)) (.pv (.sc (.slice none 0 0))))), (2, .arr 38 1 2 ((x.has ++ [p]).map Pl.c))] := by
  have hco := containsPlace_c x.has p.node p.serial
  rw [show (x.has.any fun y => y == (⟨p.node, p.serial⟩ : Pl)) = false from h] at hco
  clear h
  have hw := writesS_g { x with has := x.has ++ [p] } [] hf (by simp only; omega)
  have hac := sAcked_c (writesR { x with has := x.has ++ [p] }) x.l.a (x.has ++ [p])
  rw [show ackedP (writesR { x with has := x.has ++ [p] }) x.l.a (x.has ++ [p]) = false from ha] at hac
  clear ha
  have hmap : (x.has ++ [p]).map Pl.c = x.has.map Pl.c ++ [p.c] := by rw [List.map_append]; rfl
  rw [slP] at hac
  simp only [slP, hmap] at hw hac ⊢
  refine GC_of_VC tabOk (draw_ok mixed tabOk) fn_wHas rfl ?_
  repeat' ((conv => whnf); first | with_reducible refine (Or.inl ?_ : VC _ _ _ _ _ ∨ _) | ((with_reducible refine fk (fun hc => ?_) fun hc => ?_) <;> first | exact absurd hc (by decide) | (exfalso; simp only [*, reduceCtorEq] at hc; done) | skip) | (refine Or.inl (Or.inl ?_); (conv => whnf); refine ⟨_, hco, ?_⟩) | (((with_reducible apply And.intro); focus (simp only [List.length_map, List.length_cons, List.length_nil]; omega))) | (refine Or.inr ?_; (conv => whnf); refine ⟨_, GI_of_VC tabOk (draw_ok mixed tabOk) fn_wEnough rfl ?_, fun _ _ h => h⟩) | (refine Or.inr ?_; (conv => whnf); refine ⟨_, _, GCx_pre (hw) ?_, ?_⟩; focus ((repeat' first | (with_reducible first | exact ⟨⟩ | exact rfl | exact lr _) | ((conv => whnf); with_reducible first | apply And.intro | exact ⟨⟩) | exact rfl | exact id | assumption | exact lr _); done)) | (refine Or.inl (Or.inl ?_); (conv => whnf); refine ⟨_, PCx_pre (hac) ?_, ?_⟩; focus ((repeat' first | (with_reducible first | exact ⟨⟩ | exact rfl | exact lr _) | ((conv => whnf); with_reducible first | apply And.intro | exact ⟨⟩) | exact rfl | exact id | assumption | exact lr _); done)) | ((with_reducible apply And.intro); focus (first | rfl | exact Nat.le_of_ble_eq_true rfl | omega | (simp only [List.length_cons, List.length_nil, List.length_map, List.length_append]; omega))))
  refine ⟨_, _, ⟨rfl, rfl⟩, ?_⟩
  repeat' first | (with_reducible first | exact ⟨⟩ | exact rfl | exact lr _) | ((conv => whnf); with_reducible first | apply And.intro | exact ⟨⟩) | exact rfl | exact id | exact lr _
  all_goals try (conv => whnf)
theorem hasE_g (h : x.has.any (· == p) = false) (hl : x.has.length ≤ 1000000) (hf : frsOk x.frags) (hn : 0 ≤ x.n ∧ x.n ≤ 1000) (ha : ackedP (writesR x) x.l.a (x.has ++ [p]) = true) (h8 : 8 < x.n + 1) :
    GCx Try.prog 46 [.ptr 1 0, .pv (uu now), .pv (.agg p.c)] [(1, .var (x.v (.pv (slP x.heard)) (.pv (slP x.none)) (.slw 2 0) (.pv (slF x.frags)) (.pv (slP x.bad)) (.pv (.sc (.slice none 0 0))))), (2, .arr 38 0 2 (x.has.map Pl.c))] (.pv (.tup []))
      [(1, .var ((goOnR { x with has := x.has ++ [p] } (x.n + 1) now).1.v (.pv (slP x.heard)) (.pv (slP [])) (.pv (slP [])) (.pv (slF x.frags)) (.pv (slP [])) (.pv (.sc (.slice none 0 0))))), (2, .arr 38 1 2 ((x.has ++ [p]).map Pl.c))] := by
  have hco := containsPlace_c x.has p.node p.serial
  rw [show (x.has.any fun y => y == (⟨p.node, p.serial⟩ : Pl)) = false from h] at hco
  clear h
  have hw := writesS_g { x with has := x.has ++ [p] } [] hf (by simp only; omega)
  have hac := sAcked_c (writesR { x with has := x.has ++ [p] }) x.l.a (x.has ++ [p])
  rw [show ackedP (writesR { x with has := x.has ++ [p] }) x.l.a (x.has ++ [p]) = true from ha] at hac
  clear ha
  have hmap : (x.has ++ [p]).map Pl.c = x.has.map Pl.c ++ [p.c] := by rw [List.map_append]; rfl
  rw [slP] at hac
  have ew : IntKind.u64.wrap (x.n + 1) = x.n + 1 := wrapU (by omega) (by omega)
  have hg := goOnES_g { x with has := x.has ++ [p] } (x.n + 1) now h8
  rw [← ew] at hg ⊢
  clear ew h8
  simp only [slP, hmap] at hw hac hg ⊢
  refine GC_of_VC tabOk (draw_ok mixed tabOk) fn_wHas rfl ?_
  repeat' ((conv => whnf); first | with_reducible refine (Or.inl ?_ : VC _ _ _ _ _ ∨ _) | ((with_reducible refine fk (fun hc => ?_) fun hc => ?_) <;> first | exact absurd hc (by decide) | (exfalso; simp only [*, reduceCtorEq] at hc; done) | skip) | (refine Or.inl (Or.inl ?_); (conv => whnf); refine ⟨_, hco, ?_⟩) | (((with_reducible apply And.intro); focus (simp only [List.length_map, List.length_cons, List.length_nil]; omega))) | (refine Or.inr ?_; (conv => whnf); refine ⟨_, GI_of_VC tabOk (draw_ok mixed tabOk) fn_wEnough rfl ?_, fun _ _ h => h⟩) | (refine Or.inr ?_; (conv => whnf); refine ⟨_, _, GCx_pre (hw) ?_, ?_⟩; focus ((repeat' first | (with_reducible first | exact ⟨⟩ | exact rfl | exact lr _) | ((conv => whnf); with_reducible first | apply And.intro | exact ⟨⟩) | exact rfl | exact id | assumption | exact lr _); done)) | (refine Or.inl (Or.inl ?_); (conv => whnf); refine ⟨_, PCx_pre (hac) ?_, ?_⟩; focus ((repeat' first | (with_reducible first | exact ⟨⟩ | exact rfl | exact lr _) | ((conv => whnf); with_reducible first | apply And.intro | exact ⟨⟩) | exact rfl | exact id | assumption | exact lr _); done)) | (refine Or.inl (Or.inr ?_); (conv => whnf); refine ⟨_, _, GCx_pre (hg) ?_, ?_⟩; focus ((repeat' first | (with_reducible first | exact ⟨⟩ | exact rfl | exact lr _) | ((conv => whnf); with_reducible first | apply And.intro | exact ⟨⟩) | exact rfl | exact id | assumption | exact lr _); done)) | ((with_reducible apply And.intro); focus (first | rfl | exact Nat.le_of_ble_eq_true rfl | omega | (simp only [List.length_cons, List.length_nil, List.length_map, List.length_append]; omega))))
  refine ⟨_, _, ⟨rfl, rfl⟩, ?_⟩
  repeat' first | (with_reducible first | exact ⟨⟩ | exact rfl | exact lr _) | ((conv => whnf); with_reducible first | apply And.intro | exact ⟨⟩) | exact rfl | exact id | exact lr _
  all_goals try (conv => whnf)
theorem hasA_g (h : x.has.any (· == p) = false) (hl : x.has.length ≤ 1000000) (hf : frsOk x.frags) (hn : 0 ≤ x.n ∧ x.n ≤ 1000) (ha : ackedP (writesR x) x.l.a (x.has ++ [p]) = true) (h8 : x.n + 1 ≤ 8) (hfl : frsOk x.l.frags) (hs : ∀ n, (setOf x.l.frags x.l.w n).length ≤ 1000000) :
    GCx Try.prog 46 [.ptr 1 0, .pv (uu now), .pv (.agg p.c)] [(1, .var (x.v (.pv (slP x.heard)) (.pv (slP x.none)) (.slw 2 0) (.pv (slF x.frags)) (.pv (slP x.bad)) (.pv (.sc (.slice none 0 0))))), (2, .arr 38 0 2 (x.has.map Pl.c))] (.pv (.tup []))
      [(1, .var ((goOnR { x with has := x.has ++ [p] } (x.n + 1) now).1.v (.pv (slP x.heard)) (.pv (slP [])) (.pv (slP [])) (.pv (slF x.frags)) (.pv (slP [])) (.slw 1001 0))), (2, .arr 38 1 2 ((x.has ++ [p]).map Pl.c)), (1001, .arr 54 0 10 ((goOnR { x with has := x.has ++ [p] } (x.n + 1) now).2.map Rq.c))] := by
  have hco := containsPlace_c x.has p.node p.serial
  rw [show (x.has.any fun y => y == (⟨p.node, p.serial⟩ : Pl)) = false from h] at hco
  clear h
  have hw := writesS_g { x with has := x.has ++ [p] } [] hf (by simp only; omega)
  have hac := sAcked_c (writesR { x with has := x.has ++ [p] }) x.l.a (x.has ++ [p])
  rw [show ackedP (writesR { x with has := x.has ++ [p] }) x.l.a (x.has ++ [p]) = true from ha] at hac
  clear ha
  have hmap : (x.has ++ [p]).map Pl.c = x.has.map Pl.c ++ [p.c] := by rw [List.map_append]; rfl
  rw [slP] at hac
  have ew : IntKind.u64.wrap (x.n + 1) = x.n + 1 := wrapU (by omega) (by omega)
  have hg := goOnAS_g { x with has := x.has ++ [p] } (x.n + 1) now (by omega) hfl hs
  rw [← ew] at hg ⊢
  clear ew h8 hs
  simp only [slP, hmap] at hw hac hg ⊢
  refine GC_of_VC tabOk (draw_ok mixed tabOk) fn_wHas rfl ?_
  repeat' ((conv => whnf); first | with_reducible refine (Or.inl ?_ : VC _ _ _ _ _ ∨ _) | ((with_reducible refine fk (fun hc => ?_) fun hc => ?_) <;> first | exact absurd hc (by decide) | (exfalso; simp only [*, reduceCtorEq] at hc; done) | skip) | (refine Or.inl (Or.inl ?_); (conv => whnf); refine ⟨_, hco, ?_⟩) | (((with_reducible apply And.intro); focus (simp only [List.length_map, List.length_cons, List.length_nil]; omega))) | (refine Or.inr ?_; (conv => whnf); refine ⟨_, GI_of_VC tabOk (draw_ok mixed tabOk) fn_wEnough rfl ?_, fun _ _ h => h⟩) | (refine Or.inr ?_; (conv => whnf); refine ⟨_, _, GCx_pre (hw) ?_, ?_⟩; focus ((repeat' first | (with_reducible first | exact ⟨⟩ | exact rfl | exact lr _) | ((conv => whnf); with_reducible first | apply And.intro | exact ⟨⟩) | exact rfl | exact id | assumption | exact lr _); done)) | (refine Or.inl (Or.inl ?_); (conv => whnf); refine ⟨_, PCx_pre (hac) ?_, ?_⟩; focus ((repeat' first | (with_reducible first | exact ⟨⟩ | exact rfl | exact lr _) | ((conv => whnf); with_reducible first | apply And.intro | exact ⟨⟩) | exact rfl | exact id | assumption | exact lr _); done)) | (refine Or.inl (Or.inr ?_); (conv => whnf); refine ⟨_, _, GCx_pre (hg) ?_, ?_⟩; focus ((repeat' first | (with_reducible first | exact ⟨⟩ | exact rfl | exact lr _) | ((conv => whnf); with_reducible first | apply And.intro | exact ⟨⟩) | exact rfl | exact id | assumption | exact lr _); done)) | ((with_reducible apply And.intro); focus (first | rfl | exact Nat.le_of_ble_eq_true rfl | omega | (simp only [List.length_cons, List.length_nil, List.length_map, List.length_append]; omega))))
  refine ⟨_, _, ⟨rfl, rfl⟩, ?_⟩
  repeat' first | (with_reducible first | exact ⟨⟩ | exact rfl | exact lr _) | ((conv => whnf); with_reducible first | apply And.intro | exact ⟨⟩) | exact rfl | exact id | exact lr _
  all_goals try (conv => whnf)
end
end Go.Proofs.Ytpbjamihhkmgiaa.Tb
