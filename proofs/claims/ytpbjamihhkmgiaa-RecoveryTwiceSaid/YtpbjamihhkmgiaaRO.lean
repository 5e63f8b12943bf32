/-
  Contracts of functions of the program and of the document, each for every input that its premises name.
-/
import Derived.Test.YtpbjamihhkmgiaaRN
set_option linter.unusedSectionVars false
set_option maxRecDepth 100000
set_option maxHeartbeats 4000000
set_option linter.unusedVariables false
set_option linter.unusedSimpArgs false
open Go Go.AX
namespace Go.Proofs.Ytpbjamihhkmgiaa.Tb
theorem fencedG_g (x : Rv) (now : Int) (r : Rs) (h0 : 0 < x.l.frags.length) (hfl : x.l.frags.length ≤ 1000) (hl : x.heard.length ≤ 1000000) (h1 : (lastF x).bookies.any (· == r.from_) = true) (h2 : x.heard.any (· == r.from_) = false) (hf : frsOk x.l.frags) (hn : 0 ≤ x.n ∧ x.n ≤ 1000) (p1 : (x.phase == 1) = false) (p2 : (x.phase == 2) = true) (h3 : (readsR x).any (· == r.from_) = true) :
    GCx Try.prog 26 [.ptr 1 0, .pv (uu now), .pv (.agg r.c)] [(1, .var (x.v (.slw 2 0) (.pv (slP x.none)) (.pv (slP x.has)) (.pv (slF x.frags)) (.pv (slP x.bad)) (.pv (.sc (.slice none 0 0))))), (2, .arr 38 0 2 (x.heard.map Pl.c))] (.pv (.tup []))
      [(1, .var (({ x with heard := x.heard ++ [r.from_], sure := min (max x.sure r.sure) 8 } : Rv).v (.slw 2 1) (.pv (slP x.none)) (.pv (slP x.has)) (.pv (slF x.frags)) (.pv (slP x.bad)) (.slw 1001 0))), (2, .arr 38 1 2 ((x.heard ++ [r.from_]).map Pl.c)), (1001, .arr 54 0 10 ([entryR x r.from_].map Rq.c))] := by
  have hla := lastH_g x h0 hfl
  have hco := containsPlace_c (lastF x).bookies r.from_.node r.from_.serial
  have hch := containsPlace_c x.heard r.from_.node r.from_.serial
  rw [show ((lastF x).bookies.any fun y => y == (⟨r.from_.node, r.from_.serial⟩ : Pl)) = true from h1] at hco
  rw [show (x.heard.any fun y => y == (⟨r.from_.node, r.from_.serial⟩ : Pl)) = false from h2] at hch
  have hmap : (x.heard ++ [r.from_]).map Pl.c = x.heard.map Pl.c ++ [r.from_.c] := by rw [List.map_append]; rfl
  have hrd := readsH_g ({ x with heard := x.heard ++ [r.from_], sure := min (max x.sure r.sure) 8 } : Rv) [] hf (by simp only; omega)
  have hcr := containsPlace_c (readsR x) r.from_.node r.from_.serial
  rw [show ((readsR x).any fun y => y == (⟨r.from_.node, r.from_.serial⟩ : Pl)) = true from h3] at hcr
  have es : min (max x.sure r.sure) 8 = (if 8 < if r.sure > x.sure then r.sure else x.sure then 8 else if r.sure > x.sure then r.sure else x.sure) := by (repeat' split) <;> omega
  rw [es] at hrd ⊢
  simp only [slP, hmap] at hrd
  clear es hf hn h3
  clear h0 hfl
  obtain ⟨lf, hlf⟩ : ∃ lf, lastF x = lf := ⟨_, rfl⟩
  rw [hlf] at hla hco
  clear hlf h1 h2
  rw [slP] at hch
  rw [hmap]
  refine GC_of_VC tabOk (draw_ok mixed tabOk) fn_wFenced rfl ?_
  repeat' ((conv => whnf); first | with_reducible refine (Or.inl ?_ : VC _ _ _ _ _ ∨ _) | ((with_reducible refine fk (fun hc => ?_) fun hc => ?_) <;> first | exact absurd hc (by decide) | (exfalso; simp only [*, reduceCtorEq] at hc; done) | skip) | (refine Or.inr ?_; (conv => whnf); refine ⟨_, _, GCx_pre (hla) ?_, ?_⟩; focus ((repeat' first | (with_reducible first | exact ⟨⟩ | exact rfl | exact lr _) | ((conv => whnf); with_reducible first | apply And.intro | exact ⟨⟩) | exact rfl | exact id | assumption | exact lr _); done)) | (refine Or.inl (Or.inl ?_); (conv => whnf); refine ⟨_, hco, ?_⟩) | (refine Or.inl (Or.inl ?_); (conv => whnf); refine ⟨_, PCx_pre (hch) ?_, ?_⟩; focus ((repeat' first | (with_reducible first | exact ⟨⟩ | exact rfl | exact lr _) | ((conv => whnf); with_reducible first | apply And.intro | exact ⟨⟩) | exact rfl | exact id | assumption | exact lr _); done)) | (((with_reducible apply And.intro); focus (simp only [List.length_map, List.length_cons, List.length_nil]; omega))) | (refine Or.inr ?_; (conv => whnf); refine ⟨_, _, GCx_pre (hrd) ?_, ?_⟩; focus ((repeat' first | (with_reducible first | exact ⟨⟩ | exact rfl | exact lr _) | ((conv => whnf); with_reducible first | apply And.intro | exact ⟨⟩) | exact rfl | exact id | assumption | exact lr _); done)) | (refine Or.inl (Or.inl ?_); (conv => whnf); refine ⟨_, hcr, ?_⟩) | (refine Or.inr ?_; (conv => whnf); refine ⟨_, GI_of_VC tabOk (draw_ok mixed tabOk) fn_wGet rfl ?_, fun _ _ h => h⟩) | ((with_reducible apply And.intro); focus (first | rfl | exact Nat.le_of_ble_eq_true rfl | omega | (simp only [List.length_cons, List.length_nil, List.length_map, List.length_append]; omega))))
  refine ⟨_, _, ⟨rfl, rfl⟩, ?_⟩
  repeat' first | (with_reducible first | exact ⟨⟩ | exact rfl | exact lr _) | ((conv => whnf); with_reducible first | apply And.intro | exact ⟨⟩) | exact rfl | exact id | exact lr _
  all_goals try (conv => whnf)
end Go.Proofs.Ytpbjamihhkmgiaa.Tb
