/-
  Contracts of functions of the program and of the document, each for every input that its premises name.
-/
import Derived.Test.YtpbjamihhkmgiaaRP
import Derived.Test.YtpbjamihhkmgiaaAe
set_option linter.unusedSectionVars false
set_option maxRecDepth 100000
set_option maxHeartbeats 4000000
set_option linter.unusedVariables false
set_option linter.unusedSimpArgs false
open Go Go.AX
namespace Go.Proofs.Ytpbjamihhkmgiaa.Tb
section
variable (x : Rv) (now : Int) (r : Rs)
theorem got0_g (hf : frsOk x.l.frags) (hn : 0 ≤ x.n ∧ x.n ≤ 1000)
    (c1 : (x.phase == 2 && (r.code == 0 && (readsR x).any (· == r.from_))) = false)
    (c2 : (x.phase == 2 && (r.code == 3 && ((readsR x).any (· == r.from_) && (x.heard.any (· == r.from_) && !x.none.any (· == r.from_))))) = false)
    (c3 : (x.phase == 3 && (r.code == 0 && decide (r.body = x.body))) = false) :
    GCx Try.prog 27 [.ptr 1 0, .pv (uu now), .pv (.agg r.c)] [(1, .var (x.v (.pv (slP x.heard)) (.pv (slP x.none)) (.pv (slP x.has)) (.pv (slF x.frags)) (.pv (slP x.bad)) (.pv (.sc (.slice none 0 0)))))] (.pv (.tup []))
      [(1, .var (x.v (.pv (slP x.heard)) (.pv (slP x.none)) (.pv (slP x.has)) (.pv (slF x.frags)) (.pv (slP x.bad)) (.pv (.sc (.slice none 0 0)))))] := by
  have hrd := readsP_g x [] hf (by omega)
  have hcr := containsPlace_c (readsR x) r.from_.node r.from_.serial
  have hch := containsPlace_c x.heard r.from_.node r.from_.serial
  have hcn := containsPlace_c x.none r.from_.node r.from_.serial
  obtain ⟨th, hth⟩ : ∃ th, (readsR x).any (· == r.from_) = th := ⟨_, rfl⟩
  obtain ⟨he, hhe⟩ : ∃ th, x.heard.any (· == r.from_) = th := ⟨_, rfl⟩
  obtain ⟨no, hno⟩ : ∃ th, x.none.any (· == r.from_) = th := ⟨_, rfl⟩
  rw [show ((readsR x).any fun y => y == (⟨r.from_.node, r.from_.serial⟩ : Pl)) = th from hth] at hcr
  rw [show (x.heard.any fun y => y == (⟨r.from_.node, r.from_.serial⟩ : Pl)) = he from hhe] at hch
  rw [show (x.none.any fun y => y == (⟨r.from_.node, r.from_.serial⟩ : Pl)) = no from hno] at hcn
  rw [hth] at c1 c2
  rw [hhe, hno] at c2
  clear hth hhe hno hf hn
  rw [← bsl_beq] at c3
  cases e1 : x.phase == 2
  · cases e3 : x.phase == 3
    · refine GC_of_VC tabOk (draw_ok mixed tabOk) fn_wGot rfl ?_
      repeat' ((conv => whnf); first | with_reducible refine (Or.inl ?_ : VC _ _ _ _ _ ∨ _) | ((with_reducible refine fk (fun hc => ?_) fun hc => ?_) <;> first | exact absurd hc (by decide) | (exfalso; simp only [*, reduceCtorEq] at hc; done) | skip) | (refine Or.inr ?_; (conv => whnf); refine ⟨_, _, GCx_pre (hrd) ?_, ?_⟩; focus ((repeat' first | (with_reducible first | exact ⟨⟩ | exact rfl | exact lr _) | ((conv => whnf); with_reducible first | apply And.intro | exact ⟨⟩) | exact rfl | exact id | assumption | exact lr _); done)) | (refine Or.inl (Or.inl ?_); (conv => whnf); refine ⟨_, hcr, ?_⟩) | (refine Or.inl (Or.inl ?_); (conv => whnf); refine ⟨_, hch, ?_⟩) | (refine Or.inl (Or.inl ?_); (conv => whnf); refine ⟨_, hcn, ?_⟩) | ((refine ⟨r.body, rfl, ?_⟩)) | ((refine ⟨x.body, rfl, ?_⟩)) | ((with_reducible apply And.intro); focus (first | rfl | exact Nat.le_of_ble_eq_true rfl | omega | (simp only [List.length_cons, List.length_nil, List.length_map, List.length_append]; omega))))
      all_goals
        refine ⟨_, _, ⟨rfl, rfl⟩, ?_⟩
        repeat' first | (with_reducible first | exact ⟨⟩ | exact rfl | exact lr _) | ((conv => whnf); with_reducible first | apply And.intro | exact ⟨⟩) | exact rfl | exact id | exact lr _
        all_goals try (conv => whnf)
    · rw [e3] at c3
      simp only [Bool.true_and] at c3
      cases e4 : r.code == 0
      · refine GC_of_VC tabOk (draw_ok mixed tabOk) fn_wGot rfl ?_
        repeat' ((conv => whnf); first | with_reducible refine (Or.inl ?_ : VC _ _ _ _ _ ∨ _) | ((with_reducible refine fk (fun hc => ?_) fun hc => ?_) <;> first | exact absurd hc (by decide) | (exfalso; simp only [*, reduceCtorEq] at hc; done) | skip) | (refine Or.inr ?_; (conv => whnf); refine ⟨_, _, GCx_pre (hrd) ?_, ?_⟩; focus ((repeat' first | (with_reducible first | exact ⟨⟩ | exact rfl | exact lr _) | ((conv => whnf); with_reducible first | apply And.intro | exact ⟨⟩) | exact rfl | exact id | assumption | exact lr _); done)) | (refine Or.inl (Or.inl ?_); (conv => whnf); refine ⟨_, hcr, ?_⟩) | (refine Or.inl (Or.inl ?_); (conv => whnf); refine ⟨_, hch, ?_⟩) | (refine Or.inl (Or.inl ?_); (conv => whnf); refine ⟨_, hcn, ?_⟩) | ((refine ⟨r.body, rfl, ?_⟩)) | ((refine ⟨x.body, rfl, ?_⟩)) | ((with_reducible apply And.intro); focus (first | rfl | exact Nat.le_of_ble_eq_true rfl | omega | (simp only [List.length_cons, List.length_nil, List.length_map, List.length_append]; omega))))
        all_goals
          refine ⟨_, _, ⟨rfl, rfl⟩, ?_⟩
          repeat' first | (with_reducible first | exact ⟨⟩ | exact rfl | exact lr _) | ((conv => whnf); with_reducible first | apply And.intro | exact ⟨⟩) | exact rfl | exact id | exact lr _
          all_goals try (conv => whnf)
      · rw [e4] at c3
        simp only [Bool.true_and] at c3
        refine GC_of_VC tabOk (draw_ok mixed tabOk) fn_wGot rfl ?_
        repeat' ((conv => whnf); first | with_reducible refine (Or.inl ?_ : VC _ _ _ _ _ ∨ _) | ((with_reducible refine fk (fun hc => ?_) fun hc => ?_) <;> first | exact absurd hc (by decide) | (exfalso; simp only [*, reduceCtorEq] at hc; done) | skip) | (refine Or.inr ?_; (conv => whnf); refine ⟨_, _, GCx_pre (hrd) ?_, ?_⟩; focus ((repeat' first | (with_reducible first | exact ⟨⟩ | exact rfl | exact lr _) | ((conv => whnf); with_reducible first | apply And.intro | exact ⟨⟩) | exact rfl | exact id | assumption | exact lr _); done)) | (refine Or.inl (Or.inl ?_); (conv => whnf); refine ⟨_, hcr, ?_⟩) | (refine Or.inl (Or.inl ?_); (conv => whnf); refine ⟨_, hch, ?_⟩) | (refine Or.inl (Or.inl ?_); (conv => whnf); refine ⟨_, hcn, ?_⟩) | ((refine ⟨r.body, rfl, ?_⟩)) | ((refine ⟨x.body, rfl, ?_⟩)) | ((with_reducible apply And.intro); focus (first | rfl | exact Nat.le_of_ble_eq_true rfl | omega | (simp only [List.length_cons, List.length_nil, List.length_map, List.length_append]; omega))))
        all_goals
          refine ⟨_, _, ⟨rfl, rfl⟩, ?_⟩
          repeat' first | (with_reducible first | exact ⟨⟩ | exact rfl | exact lr _) | ((conv => whnf); with_reducible first | apply And.intro | exact ⟨⟩) | exact rfl | exact id | exact lr _
          all_goals try (conv => whnf)
  · rw [e1] at c1 c2
    simp only [Bool.true_and] at c1 c2
    have e3 : (x.phase == 3) = false := by
      have : x.phase = 2 := by simpa using e1
      rw [this]; rfl
    clear c3
    cases e4 : r.code == 0
    · cases e5 : r.code == 3
      · refine GC_of_VC tabOk (draw_ok mixed tabOk) fn_wGot rfl ?_
        repeat' ((conv => whnf); first | with_reducible refine (Or.inl ?_ : VC _ _ _ _ _ ∨ _) | ((with_reducible refine fk (fun hc => ?_) fun hc => ?_) <;> first | exact absurd hc (by decide) | (exfalso; simp only [*, reduceCtorEq] at hc; done) | skip) | (refine Or.inr ?_; (conv => whnf); refine ⟨_, _, GCx_pre (hrd) ?_, ?_⟩; focus ((repeat' first | (with_reducible first | exact ⟨⟩ | exact rfl | exact lr _) | ((conv => whnf); with_reducible first | apply And.intro | exact ⟨⟩) | exact rfl | exact id | assumption | exact lr _); done)) | (refine Or.inl (Or.inl ?_); (conv => whnf); refine ⟨_, hcr, ?_⟩) | (refine Or.inl (Or.inl ?_); (conv => whnf); refine ⟨_, hch, ?_⟩) | (refine Or.inl (Or.inl ?_); (conv => whnf); refine ⟨_, hcn, ?_⟩) | ((refine ⟨r.body, rfl, ?_⟩)) | ((refine ⟨x.body, rfl, ?_⟩)) | ((with_reducible apply And.intro); focus (first | rfl | exact Nat.le_of_ble_eq_true rfl | omega | (simp only [List.length_cons, List.length_nil, List.length_map, List.length_append]; omega))))
        all_goals
          refine ⟨_, _, ⟨rfl, rfl⟩, ?_⟩
          repeat' first | (with_reducible first | exact ⟨⟩ | exact rfl | exact lr _) | ((conv => whnf); with_reducible first | apply And.intro | exact ⟨⟩) | exact rfl | exact id | exact lr _
          all_goals try (conv => whnf)
      · rw [e5] at c2
        simp only [Bool.true_and] at c2
        cases th
        · refine GC_of_VC tabOk (draw_ok mixed tabOk) fn_wGot rfl ?_
          repeat' ((conv => whnf); first | with_reducible refine (Or.inl ?_ : VC _ _ _ _ _ ∨ _) | ((with_reducible refine fk (fun hc => ?_) fun hc => ?_) <;> first | exact absurd hc (by decide) | (exfalso; simp only [*, reduceCtorEq] at hc; done) | skip) | (refine Or.inr ?_; (conv => whnf); refine ⟨_, _, GCx_pre (hrd) ?_, ?_⟩; focus ((repeat' first | (with_reducible first | exact ⟨⟩ | exact rfl | exact lr _) | ((conv => whnf); with_reducible first | apply And.intro | exact ⟨⟩) | exact rfl | exact id | assumption | exact lr _); done)) | (refine Or.inl (Or.inl ?_); (conv => whnf); refine ⟨_, hcr, ?_⟩) | (refine Or.inl (Or.inl ?_); (conv => whnf); refine ⟨_, hch, ?_⟩) | (refine Or.inl (Or.inl ?_); (conv => whnf); refine ⟨_, hcn, ?_⟩) | ((refine ⟨r.body, rfl, ?_⟩)) | ((refine ⟨x.body, rfl, ?_⟩)) | ((with_reducible apply And.intro); focus (first | rfl | exact Nat.le_of_ble_eq_true rfl | omega | (simp only [List.length_cons, List.length_nil, List.length_map, List.length_append]; omega))))
          all_goals
            refine ⟨_, _, ⟨rfl, rfl⟩, ?_⟩
            repeat' first | (with_reducible first | exact ⟨⟩ | exact rfl | exact lr _) | ((conv => whnf); with_reducible first | apply And.intro | exact ⟨⟩) | exact rfl | exact id | exact lr _
            all_goals try (conv => whnf)
        · simp only [Bool.true_and] at c2
          cases he
          · refine GC_of_VC tabOk (draw_ok mixed tabOk) fn_wGot rfl ?_
            repeat' ((conv => whnf); first | with_reducible refine (Or.inl ?_ : VC _ _ _ _ _ ∨ _) | ((with_reducible refine fk (fun hc => ?_) fun hc => ?_) <;> first | exact absurd hc (by decide) | (exfalso; simp only [*, reduceCtorEq] at hc; done) | skip) | (refine Or.inr ?_; (conv => whnf); refine ⟨_, _, GCx_pre (hrd) ?_, ?_⟩; focus ((repeat' first | (with_reducible first | exact ⟨⟩ | exact rfl | exact lr _) | ((conv => whnf); with_reducible first | apply And.intro | exact ⟨⟩) | exact rfl | exact id | assumption | exact lr _); done)) | (refine Or.inl (Or.inl ?_); (conv => whnf); refine ⟨_, hcr, ?_⟩) | (refine Or.inl (Or.inl ?_); (conv => whnf); refine ⟨_, hch, ?_⟩) | (refine Or.inl (Or.inl ?_); (conv => whnf); refine ⟨_, hcn, ?_⟩) | ((refine ⟨r.body, rfl, ?_⟩)) | ((refine ⟨x.body, rfl, ?_⟩)) | ((with_reducible apply And.intro); focus (first | rfl | exact Nat.le_of_ble_eq_true rfl | omega | (simp only [List.length_cons, List.length_nil, List.length_map, List.length_append]; omega))))
            all_goals
              refine ⟨_, _, ⟨rfl, rfl⟩, ?_⟩
              repeat' first | (with_reducible first | exact ⟨⟩ | exact rfl | exact lr _) | ((conv => whnf); with_reducible first | apply And.intro | exact ⟨⟩) | exact rfl | exact id | exact lr _
              all_goals try (conv => whnf)
          · simp only [Bool.true_and] at c2
            refine GC_of_VC tabOk (draw_ok mixed tabOk) fn_wGot rfl ?_
            repeat' ((conv => whnf); first | with_reducible refine (Or.inl ?_ : VC _ _ _ _ _ ∨ _) | ((with_reducible refine fk (fun hc => ?_) fun hc => ?_) <;> first | exact absurd hc (by decide) | (exfalso; simp only [*, reduceCtorEq] at hc; done) | skip) | (refine Or.inr ?_; (conv => whnf); refine ⟨_, _, GCx_pre (hrd) ?_, ?_⟩; focus ((repeat' first | (with_reducible first | exact ⟨⟩ | exact rfl | exact lr _) | ((conv => whnf); with_reducible first | apply And.intro | exact ⟨⟩) | exact rfl | exact id | assumption | exact lr _); done)) | (refine Or.inl (Or.inl ?_); (conv => whnf); refine ⟨_, hcr, ?_⟩) | (refine Or.inl (Or.inl ?_); (conv => whnf); refine ⟨_, hch, ?_⟩) | (refine Or.inl (Or.inl ?_); (conv => whnf); refine ⟨_, hcn, ?_⟩) | ((refine ⟨r.body, rfl, ?_⟩)) | ((refine ⟨x.body, rfl, ?_⟩)) | ((with_reducible apply And.intro); focus (first | rfl | exact Nat.le_of_ble_eq_true rfl | omega | (simp only [List.length_cons, List.length_nil, List.length_map, List.length_append]; omega))))
            all_goals
              refine ⟨_, _, ⟨rfl, rfl⟩, ?_⟩
              repeat' first | (with_reducible first | exact ⟨⟩ | exact rfl | exact lr _) | ((conv => whnf); with_reducible first | apply And.intro | exact ⟨⟩) | exact rfl | exact id | exact lr _
              all_goals try (conv => whnf)
    · rw [e4] at c1
      simp only [Bool.true_and] at c1
      subst c1
      cases e5 : r.code == 3
      · refine GC_of_VC tabOk (draw_ok mixed tabOk) fn_wGot rfl ?_
        repeat' ((conv => whnf); first | with_reducible refine (Or.inl ?_ : VC _ _ _ _ _ ∨ _) | ((with_reducible refine fk (fun hc => ?_) fun hc => ?_) <;> first | exact absurd hc (by decide) | (exfalso; simp only [*, reduceCtorEq] at hc; done) | skip) | (refine Or.inr ?_; (conv => whnf); refine ⟨_, _, GCx_pre (hrd) ?_, ?_⟩; focus ((repeat' first | (with_reducible first | exact ⟨⟩ | exact rfl | exact lr _) | ((conv => whnf); with_reducible first | apply And.intro | exact ⟨⟩) | exact rfl | exact id | assumption | exact lr _); done)) | (refine Or.inl (Or.inl ?_); (conv => whnf); refine ⟨_, hcr, ?_⟩) | (refine Or.inl (Or.inl ?_); (conv => whnf); refine ⟨_, hch, ?_⟩) | (refine Or.inl (Or.inl ?_); (conv => whnf); refine ⟨_, hcn, ?_⟩) | ((refine ⟨r.body, rfl, ?_⟩)) | ((refine ⟨x.body, rfl, ?_⟩)) | ((with_reducible apply And.intro); focus (first | rfl | exact Nat.le_of_ble_eq_true rfl | omega | (simp only [List.length_cons, List.length_nil, List.length_map, List.length_append]; omega))))
        all_goals
          refine ⟨_, _, ⟨rfl, rfl⟩, ?_⟩
          repeat' first | (with_reducible first | exact ⟨⟩ | exact rfl | exact lr _) | ((conv => whnf); with_reducible first | apply And.intro | exact ⟨⟩) | exact rfl | exact id | exact lr _
          all_goals try (conv => whnf)
      · simp_all
end
end Go.Proofs.Ytpbjamihhkmgiaa.Tb
