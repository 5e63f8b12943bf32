/-
  Contracts of functions of the program and of the document, each for every input that its premises name.
-/
import Derived.Test.YtpbjamihhkmgiaaRP
import Derived.Test.YtpbjamihhkmgiaaAe
set_option linter.unusedSectionVars false
set_option maxRecDepth 100000
set_option maxHeartbeats 4000000
set_option linter.unusedVariables false
set_option linter.unusedSimpArgs false
open Go Go.AX
namespace Go.Proofs.Ytpbjamihhkmgiaa.Tb
section
variable (x : Rv) (now : Int) (r : Rs)
theorem gotAN_g (hf : frsOk x.l.frags) (hff : frsOk x.frags) (hn : 0 ≤ x.n ∧ x.n ≤ 1000) (hb : r.body.length ≤ 1000000) (hw : (writesR x).length ≤ 1000) (p2 : (x.phase == 2) = true) (k0 : (r.code == 0) = true) (h1 : (readsR x).any (· == r.from_) = true) (ha : ackedP (writesR (copyingR x now r)) x.l.a [r.from_] = false) :
    GCx Try.prog 27 [.ptr 1 0, .pv (uu now), .pv (.agg r.c)] [(1, .var (x.v (.pv (slP x.heard)) (.pv (slP x.none)) (.pv (slP x.has)) (.pv (slF x.frags)) (.pv (slP x.bad)) (.pv (.sc (.slice none 0 0)))))] (.pv (.tup []))
      [(1, .var ((copyingR x now r).v (.pv (slP x.heard)) (.pv (slP x.none)) (.slw 1001 0) (.pv (slF x.frags)) (.pv (slP x.bad)) (.slw 1002 0))), (1001, .arr 38 0 2 ([r.from_].map Pl.c)), (1002, .arr 54 0 10 ((copiesQ (copyingR x now r) (writesR (copyingR x now r))).map Rq.c))] := by
  have hrd := readsP_g x [] hf (by omega)
  have hcr := containsPlace_c (readsR x) r.from_.node r.from_.serial
  rw [show ((readsR x).any fun y => y == (⟨r.from_.node, r.from_.serial⟩ : Pl)) = true from h1] at hcr
  have hco := copiesS_g ({ x with has := [r.from_], body := r.body, phase := 3, born := now } : Rv) now rfl hff (by simp only; omega) (by show (writesR x).length ≤ 1000000; omega) hb
  have hql : (copiesQ (copyingR x now r) (writesR (copyingR x now r))).length ≤ 1000 := by
    unfold copiesQ
    rw [List.length_map]
    exact Nat.le_trans (List.length_filter_le _ _) hw
  have hen := enoughNO_g (copyingR x now r) (copiesQ (copyingR x now r) (writesR (copyingR x now r))) now hff hn ha
  clear h1 hw hff hf hn ha
  refine GC_of_VC tabOk (draw_ok mixed tabOk) fn_wGot rfl ?_
  repeat' ((conv => whnf); first | with_reducible refine (Or.inl ?_ : VC _ _ _ _ _ ∨ _) | ((with_reducible refine fk (fun hc => ?_) fun hc => ?_) <;> first | exact absurd hc (by decide) | (exfalso; simp only [*, reduceCtorEq] at hc; done) | skip) | (refine Or.inr ?_; (conv => whnf); refine ⟨_, _, GCx_pre (hrd) ?_, ?_⟩; focus ((repeat' first | (with_reducible first | exact ⟨⟩ | exact rfl | exact lr _) | ((conv => whnf); with_reducible first | apply And.intro | exact ⟨⟩) | exact rfl | exact id | assumption | exact lr _); done)) | (refine Or.inl (Or.inl ?_); (conv => whnf); refine ⟨_, hcr, ?_⟩) | (refine Or.inl (Or.inl ?_); (conv => whnf); refine ⟨_, cloneByte_c r.body (by omega), ?_⟩) | (refine Or.inr ?_; (conv => whnf); refine ⟨_, GI_of_VC tabOk (draw_ok mixed tabOk) fn_wBegin rfl ?_, fun _ _ h => h⟩) | (refine Or.inl (Or.inr ?_); (conv => whnf); refine ⟨_, _, GCx_pre (hco) ?_, ?_⟩; focus ((repeat' first | (with_reducible first | exact ⟨⟩ | exact rfl | exact lr _) | ((conv => whnf); with_reducible first | apply And.intro | exact ⟨⟩) | exact rfl | exact id | assumption | exact lr _); done)) | (refine Or.inl (Or.inr ?_); (conv => whnf); refine ⟨_, _, GCx_pre (hen) ?_, ?_⟩; focus ((repeat' first | (with_reducible first | exact ⟨⟩ | exact rfl | exact lr _) | ((conv => whnf); with_reducible first | apply And.intro | exact ⟨⟩) | exact rfl | exact id | assumption | exact lr _); done)) | ((with_reducible apply And.intro); focus (first | rfl | exact Nat.le_of_ble_eq_true rfl | omega | (simp only [List.length_cons, List.length_nil, List.length_map, List.length_append]; omega))))
  all_goals
    refine ⟨_, _, ⟨rfl, rfl⟩, ?_⟩
    repeat' first | (with_reducible first | exact ⟨⟩ | exact rfl | exact lr _) | ((conv => whnf); with_reducible first | apply And.intro | exact ⟨⟩) | exact rfl | exact id | exact lr _
    all_goals try (conv => whnf)
theorem gotAE_g (hf : frsOk x.l.frags) (hff : frsOk x.frags) (hn : 0 ≤ x.n ∧ x.n ≤ 1000) (hb : r.body.length ≤ 1000000) (hw : (writesR x).length ≤ 1000) (p2 : (x.phase == 2) = true) (k0 : (r.code == 0) = true) (h1 : (readsR x).any (· == r.from_) = true) (ha : ackedP (writesR (copyingR x now r)) x.l.a [r.from_] = true) (h8 : 8 < x.n + 1) :
    GCx Try.prog 27 [.ptr 1 0, .pv (uu now), .pv (.agg r.c)] [(1, .var (x.v (.pv (slP x.heard)) (.pv (slP x.none)) (.pv (slP x.has)) (.pv (slF x.frags)) (.pv (slP x.bad)) (.pv (.sc (.slice none 0 0)))))] (.pv (.tup []))
      [(1, .var ((goOnR (copyingR x now r) (x.n + 1) now).1.v (.pv (slP x.heard)) (.pv (slP [])) (.pv (slP [])) (.pv (slF x.frags)) (.pv (slP [])) (.slw 1001 0))), (1001, .arr 54 0 10 ((copiesQ (copyingR x now r) (writesR (copyingR x now r))).map Rq.c))] := by
  have hrd := readsP_g x [] hf (by omega)
  have hcr := containsPlace_c (readsR x) r.from_.node r.from_.serial
  rw [show ((readsR x).any fun y => y == (⟨r.from_.node, r.from_.serial⟩ : Pl)) = true from h1] at hcr
  have hco := copiesS_g ({ x with has := [r.from_], body := r.body, phase := 3, born := now } : Rv) now rfl hff (by simp only; omega) (by show (writesR x).length ≤ 1000000; omega) hb
  have hql : (copiesQ (copyingR x now r) (writesR (copyingR x now r))).length ≤ 1000 := by
    unfold copiesQ
    rw [List.length_map]
    exact Nat.le_trans (List.length_filter_le _ _) hw
  have hen := enoughEO_g (copyingR x now r) (copiesQ (copyingR x now r) (writesR (copyingR x now r))) now hff hn ha h8
  clear h1 hw hff hf hn ha h8
  refine GC_of_VC tabOk (draw_ok mixed tabOk) fn_wGot rfl ?_
  repeat' ((conv => whnf); first | with_reducible refine (Or.inl ?_ : VC _ _ _ _ _ ∨ _) | ((with_reducible refine fk (fun hc => ?_) fun hc => ?_) <;> first | exact absurd hc (by decide) | (exfalso; simp only [*, reduceCtorEq] at hc; done) | skip) | (refine Or.inr ?_; (conv => whnf); refine ⟨_, _, GCx_pre (hrd) ?_, ?_⟩; focus ((repeat' first | (with_reducible first | exact ⟨⟩ | exact rfl | exact lr _) | ((conv => whnf); with_reducible first | apply And.intro | exact ⟨⟩) | exact rfl | exact id | assumption | exact lr _); done)) | (refine Or.inl (Or.inl ?_); (conv => whnf); refine ⟨_, hcr, ?_⟩) | (refine Or.inl (Or.inl ?_); (conv => whnf); refine ⟨_, cloneByte_c r.body (by omega), ?_⟩) | (refine Or.inr ?_; (conv => whnf); refine ⟨_, GI_of_VC tabOk (draw_ok mixed tabOk) fn_wBegin rfl ?_, fun _ _ h => h⟩) | (refine Or.inl (Or.inr ?_); (conv => whnf); refine ⟨_, _, GCx_pre (hco) ?_, ?_⟩; focus ((repeat' first | (with_reducible first | exact ⟨⟩ | exact rfl | exact lr _) | ((conv => whnf); with_reducible first | apply And.intro | exact ⟨⟩) | exact rfl | exact id | assumption | exact lr _); done)) | (refine Or.inl (Or.inr ?_); (conv => whnf); refine ⟨_, _, GCx_pre (hen) ?_, ?_⟩; focus ((repeat' first | (with_reducible first | exact ⟨⟩ | exact rfl | exact lr _) | ((conv => whnf); with_reducible first | apply And.intro | exact ⟨⟩) | exact rfl | exact id | assumption | exact lr _); done)) | ((with_reducible apply And.intro); focus (first | rfl | exact Nat.le_of_ble_eq_true rfl | omega | (simp only [List.length_cons, List.length_nil, List.length_map, List.length_append]; omega))))
  all_goals
    refine ⟨_, _, ⟨rfl, rfl⟩, ?_⟩
    repeat' first | (with_reducible first | exact ⟨⟩ | exact rfl | exact lr _) | ((conv => whnf); with_reducible first | apply And.intro | exact ⟨⟩) | exact rfl | exact id | exact lr _
    all_goals try (conv => whnf)
theorem gotAA_g (hf : frsOk x.l.frags) (hff : frsOk x.frags) (hn : 0 ≤ x.n ∧ x.n ≤ 1000) (hb : r.body.length ≤ 1000000) (hw : (writesR x).length ≤ 1000) (p2 : (x.phase == 2) = true) (k0 : (r.code == 0) = true) (h1 : (readsR x).any (· == r.from_) = true) (ha : ackedP (writesR (copyingR x now r)) x.l.a [r.from_] = true) (h8 : x.n + 1 ≤ 8) (hs : ∀ n, (setOf x.l.frags x.l.w n).length ≤ 1000000) :
    GCx Try.prog 27 [.ptr 1 0, .pv (uu now), .pv (.agg r.c)] [(1, .var (x.v (.pv (slP x.heard)) (.pv (slP x.none)) (.pv (slP x.has)) (.pv (slF x.frags)) (.pv (slP x.bad)) (.pv (.sc (.slice none 0 0)))))] (.pv (.tup []))
      [(1, .var ((goOnR (copyingR x now r) (x.n + 1) now).1.v (.pv (slP x.heard)) (.pv (slP [])) (.pv (slP [])) (.pv (slF x.frags)) (.pv (slP [])) (.slw 1001 0))), (1001, .arr 54 0 10 ((copiesQ (copyingR x now r) (writesR (copyingR x now r)) ++ (goOnR (copyingR x now r) (x.n + 1) now).2).map Rq.c))] := by
  have hrd := readsP_g x [] hf (by omega)
  have hcr := containsPlace_c (readsR x) r.from_.node r.from_.serial
  rw [show ((readsR x).any fun y => y == (⟨r.from_.node, r.from_.serial⟩ : Pl)) = true from h1] at hcr
  have hco := copiesS_g ({ x with has := [r.from_], body := r.body, phase := 3, born := now } : Rv) now rfl hff (by simp only; omega) (by show (writesR x).length ≤ 1000000; omega) hb
  have hql : (copiesQ (copyingR x now r) (writesR (copyingR x now r))).length ≤ 1000 := by
    unfold copiesQ
    rw [List.length_map]
    exact Nat.le_trans (List.length_filter_le _ _) hw
  have hen := enoughAO_g (copyingR x now r) (copiesQ (copyingR x now r) (writesR (copyingR x now r))) now hql hff hn ha h8 hf hs
  clear h1 hw hff hf hn ha h8 hs
  refine GC_of_VC tabOk (draw_ok mixed tabOk) fn_wGot rfl ?_
  repeat' ((conv => whnf); first | with_reducible refine (Or.inl ?_ : VC _ _ _ _ _ ∨ _) | ((with_reducible refine fk (fun hc => ?_) fun hc => ?_) <;> first | exact absurd hc (by decide) | (exfalso; simp only [*, reduceCtorEq] at hc; done) | skip) | (refine Or.inr ?_; (conv => whnf); refine ⟨_, _, GCx_pre (hrd) ?_, ?_⟩; focus ((repeat' first | (with_reducible first | exact ⟨⟩ | exact rfl | exact lr _) | ((conv => whnf); with_reducible first | apply And.intro | exact ⟨⟩) | exact rfl | exact id | assumption | exact lr _); done)) | (refine Or.inl (Or.inl ?_); (conv => whnf); refine ⟨_, hcr, ?_⟩) | (refine Or.inl (Or.inl ?_); (conv => whnf); refine ⟨_, cloneByte_c r.body (by omega), ?_⟩) | (refine Or.inr ?_; (conv => whnf); refine ⟨_, GI_of_VC tabOk (draw_ok mixed tabOk) fn_wBegin rfl ?_, fun _ _ h => h⟩) | (refine Or.inl (Or.inr ?_); (conv => whnf); refine ⟨_, _, GCx_pre (hco) ?_, ?_⟩; focus ((repeat' first | (with_reducible first | exact ⟨⟩ | exact rfl | exact lr _) | ((conv => whnf); with_reducible first | apply And.intro | exact ⟨⟩) | exact rfl | exact id | assumption | exact lr _); done)) | (refine Or.inl (Or.inr ?_); (conv => whnf); refine ⟨_, _, GCx_pre (hen) ?_, ?_⟩; focus ((repeat' first | (with_reducible first | exact ⟨⟩ | exact rfl | exact lr _) | ((conv => whnf); with_reducible first | apply And.intro | exact ⟨⟩) | exact rfl | exact id | assumption | exact lr _); done)) | ((with_reducible apply And.intro); focus (first | rfl | exact Nat.le_of_ble_eq_true rfl | omega | (simp only [List.length_cons, List.length_nil, List.length_map, List.length_append]; omega))))
  all_goals
    refine ⟨_, _, ⟨rfl, rfl⟩, ?_⟩
    repeat' first | (with_reducible first | exact ⟨⟩ | exact rfl | exact lr _) | ((conv => whnf); with_reducible first | apply And.intro | exact ⟨⟩) | exact rfl | exact id | exact lr _
    all_goals try (conv => whnf)
end
end Go.Proofs.Ytpbjamihhkmgiaa.Tb
