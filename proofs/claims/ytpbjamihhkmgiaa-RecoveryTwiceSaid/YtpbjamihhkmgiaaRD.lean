/-
  Contracts of functions of the program and of the document, each for every input that its premises name.
-/
import Derived.Test.YtpbjamihhkmgiaaRC
import Derived.Test.YtpbjamihhkmgiaaAe
set_option linter.unusedSectionVars false
set_option maxRecDepth 100000
set_option maxHeartbeats 4000000
set_option linter.unusedVariables false
set_option linter.unusedSimpArgs false
open Go Go.AX
namespace Go.Proofs.Ytpbjamihhkmgiaa.Tb
theorem fn_ownFrags : FnOk Try.prog 29 Try.f29 := ⟨Try.func29, by kernel_rfl, by kernel_rfl, by kernel_rfl⟩
theorem ownFrags_g (l : List Fr) (hl : l.length ≤ 1000000) (hb : ∀ f ∈ l, f.bookies.length ≤ 1000000) : GCx Try.prog 29 [.pv (slF l)] [] (.slw 1001 0) [(1001, .arr 49 0 2 (l.map Fr.c))] := by
  refine GC_of_VC tabOk (draw_ok mixed tabOk) fn_ownFrags rfl ?_
  repeat' ((conv => whnf); first | with_reducible refine (Or.inl ?_ : VC _ _ _ _ _ ∨ _) | ((with_reducible refine fk (fun hc => ?_) fun hc => ?_) <;> first | exact absurd hc (by decide) | (exfalso; simp only [*, reduceCtorEq] at hc; done) | skip) | ((with_reducible apply And.intro); focus (first | rfl | exact Nat.le_of_ble_eq_true rfl | omega | (simp only [List.length_cons, List.length_nil, List.length_map, List.length_append]; omega))))
  refine ⟨{k : Nat // k ≤ l.length}, fun ⟨k, _⟩ => ⟨[(3, .slw 1003 0), (6, .pv (slF l)), (7, .pv (ii l.length)), (8, .pv (ii k))], 1000000000, [(1003, .arr 49 0 2 ((l.take k).map Fr.c))]⟩, fun ⟨k, _⟩ => l.length - k, ⟨⟨0, Nat.zero_le _⟩, ent_of ?_⟩, ?_⟩
  · repeat' first
      | fail
      | with_reducible exact True.intro
      | with_reducible exact rfl
      | with_reducible exact leRs_refl _
      | ((conv => whnf); with_reducible apply And.intro)
      | ((conv => whnf); with_reducible exact True.intro)
      | exact rfl
      | exact id
      | exact leRs_refl _
    all_goals try (conv => whnf)
    all_goals simp
  rintro ⟨k, hk⟩
  by_cases hlt : k < l.length
  · have d0 : decide ((k : Int) < (l.length : Int)) = true := by simp only [decide_eq_true_eq]; omega
    have eW : IntKind.i64.wrap ((k : Int) + 1) = ((k + 1 : Nat) : Int) := by rw [wrapI (by omega) (by omega)]; omega
    have hbl := hb _ (List.getElem_mem hlt)
    repeat' ((conv => whnf); first | with_reducible refine (Or.inl ?_ : VC _ _ _ _ _ ∨ _) | ((with_reducible refine fk (fun hc => ?_) fun hc => ?_) <;> first | exact absurd hc (by decide) | (exfalso; simp only [*, reduceCtorEq] at hc; done) | skip) | ((refine ⟨_, rowK _ _ _ hlt, ?_⟩)) | (refine Or.inl (Or.inl ?_); (conv => whnf); refine ⟨_, clonePlace_c _ (by omega), ?_⟩) | (((with_reducible apply And.intro); focus (simp only [List.length_map, List.length_take, List.length_cons, List.length_nil] at *; omega))) | ((with_reducible apply And.intro); focus (first | rfl | exact Nat.le_of_ble_eq_true rfl | omega | (simp only [List.length_cons, List.length_nil, List.length_map, List.length_append]; omega))))
    all_goals
      refine ⟨⟨k + 1, hlt⟩, dec_lt hlt, ent_of ?_⟩
      repeat' first | (with_reducible first | exact ⟨⟩ | exact rfl | exact lr _) | ((conv => whnf); with_reducible first | apply And.intro | exact ⟨⟩) | exact rfl | exact id | exact lr _
      all_goals try (conv => whnf)
      · rw [List.take_succ_eq_append_getElem hlt, List.map_append]
        refine leRs_app (leRs_refl _) ?_
        repeat' first | (with_reducible first | exact ⟨⟩ | exact rfl | exact lr _) | ((conv => whnf); with_reducible first | apply And.intro | exact ⟨⟩) | exact rfl | exact id | exact lr _
        all_goals try (conv => whnf)
      · exact eW
  · have hke : k = l.length := by omega
    subst hke
    have d0 : decide ((l.length : Int) < (l.length : Int)) = false := by simp
    repeat' ((conv => whnf); first | with_reducible refine (Or.inl ?_ : VC _ _ _ _ _ ∨ _) | ((with_reducible refine fk (fun hc => ?_) fun hc => ?_) <;> first | exact absurd hc (by decide) | (exfalso; simp only [*, reduceCtorEq] at hc; done) | skip) | ((with_reducible apply And.intro); focus (first | rfl | exact Nat.le_of_ble_eq_true rfl | omega | (simp only [List.length_cons, List.length_nil, List.length_map, List.length_append]; omega))))
    refine ⟨_, _, ⟨rfl, rfl⟩, ?_⟩
    repeat' first | (with_reducible first | exact ⟨⟩ | exact rfl | exact lr _) | ((conv => whnf); with_reducible first | apply And.intro | exact ⟨⟩) | exact rfl | exact id | exact lr _
    all_goals try (conv => whnf)
    rw [List.take_length]
    exact leRs_refl _
theorem fn_rcOwn : FnOk Try.prog 15 Try.f15 := ⟨Try.func15, by kernel_rfl, by kernel_rfl, by kernel_rfl⟩
theorem own0_g (x : Rv) (h : x.sm) : GCx Try.prog 15 [.pv (.agg x.c)] [] (.ptr 1001 0) [(1001, .var (x.w (.slw 1002 0) (.slw 1003 0) (.slw 1004 0) (.slw 1005 0) (.slw 1006 0) (.slw 1007 0) (.pv (.sc (.slice none 0 0))))), (1002, .arr 49 0 2 (x.l.frags.map Fr.c)), (1003, .arr 38 0 2 (x.heard.map Pl.c)), (1004, .arr 38 0 2 (x.none.map Pl.c)), (1005, .arr 38 0 2 (x.has.map Pl.c)), (1006, .arr 49 0 2 (x.frags.map Fr.c)), (1007, .arr 38 0 2 (x.bad.map Pl.c))] := by
  obtain ⟨⟨a1, a2⟩, ⟨a3, a4⟩, a5, a6, a7, a8, a9⟩ := h
  have o1 := ownFrags_g x.l.frags (by omega) (fun f hf => by have := a2 f hf; omega)
  have o2 := ownFrags_g x.frags (by omega) (fun f hf => by have := a4 f hf; omega)
  refine GC_of_VC tabOk (draw_ok mixed tabOk) fn_rcOwn rfl ?_
  repeat' ((conv => whnf); first | with_reducible refine (Or.inl ?_ : VC _ _ _ _ _ ∨ _) | ((with_reducible refine fk (fun hc => ?_) fun hc => ?_) <;> first | exact absurd hc (by decide) | (exfalso; simp only [*, reduceCtorEq] at hc; done) | skip) | (refine Or.inl (Or.inr ?_); (conv => whnf); refine ⟨_, _, o1, ?_⟩) | (refine Or.inl (Or.inr ?_); (conv => whnf); refine ⟨_, _, o2, ?_⟩) | (refine Or.inl (Or.inr ?_); (conv => whnf); refine ⟨_, _, clonePlace_g x.heard (by omega), ?_⟩) | (refine Or.inl (Or.inr ?_); (conv => whnf); refine ⟨_, _, clonePlace_g x.none (by omega), ?_⟩) | (refine Or.inl (Or.inr ?_); (conv => whnf); refine ⟨_, _, clonePlace_g x.has (by omega), ?_⟩) | (refine Or.inl (Or.inr ?_); (conv => whnf); refine ⟨_, _, clonePlace_g x.bad (by omega), ?_⟩) | (refine Or.inl (Or.inl ?_); (conv => whnf); refine ⟨_, cloneByte_c x.body (by omega), ?_⟩) | ((with_reducible apply And.intro); focus (first | rfl | exact Nat.le_of_ble_eq_true rfl | omega | (simp only [List.length_cons, List.length_nil, List.length_map, List.length_append]; omega))))
  refine ⟨_, _, ⟨rfl, rfl⟩, ?_⟩
  repeat' first | (with_reducible first | exact ⟨⟩ | exact rfl | exact lr _) | ((conv => whnf); with_reducible first | apply And.intro | exact ⟨⟩) | exact rfl | exact id | exact lr _
  all_goals try (conv => whnf)
theorem ownP_g (x : Rv) (h : x.sm) : GCx Try.prog 15 [.pv (.agg x.c)] [] (.ptr 1001 0) [(1001, .var (x.v (.pv (slP x.heard)) (.pv (slP x.none)) (.pv (slP x.has)) (.pv (slF x.frags)) (.pv (slP x.bad)) (.pv (.sc (.slice none 0 0)))))] := by
  refine GCx_post2 (own0_g x h) [1002, 1003, 1004, 1005, 1006, 1007] ?_
  (conv => whnf)
  refine ⟨_, _, ⟨rfl, rfl⟩, ?_⟩
  repeat' first | (with_reducible first | exact ⟨⟩ | exact rfl | exact lr _) | ((conv => whnf); with_reducible first | apply And.intro | exact ⟨⟩) | exact rfl | exact id | exact lr _
  all_goals try (conv => whnf)
theorem ownH_g (x : Rv) (h : x.sm) : GCx Try.prog 15 [.pv (.agg x.c)] [] (.ptr 1001 0) [(1001, .var (x.v (.slw 1002 0) (.pv (slP x.none)) (.pv (slP x.has)) (.pv (slF x.frags)) (.pv (slP x.bad)) (.pv (.sc (.slice none 0 0))))), (1002, .arr 38 0 2 (x.heard.map Pl.c))] := by
  refine GCx_post2 (own0_g x h) [1002, 1004, 1005, 1006, 1007] ?_
  (conv => whnf)
  refine ⟨_, _, ⟨rfl, rfl⟩, ?_⟩
  repeat' first | (with_reducible first | exact ⟨⟩ | exact rfl | exact lr _) | ((conv => whnf); with_reducible first | apply And.intro | exact ⟨⟩) | exact rfl | exact id | exact lr _
  all_goals try (conv => whnf)
theorem ownN_g (x : Rv) (h : x.sm) : GCx Try.prog 15 [.pv (.agg x.c)] [] (.ptr 1001 0) [(1001, .var (x.v (.pv (slP x.heard)) (.slw 1002 0) (.pv (slP x.has)) (.pv (slF x.frags)) (.pv (slP x.bad)) (.pv (.sc (.slice none 0 0))))), (1002, .arr 38 0 2 (x.none.map Pl.c))] := by
  refine GCx_post2 (own0_g x h) [1002, 1003, 1005, 1006, 1007] ?_
  (conv => whnf)
  refine ⟨_, _, ⟨rfl, rfl⟩, ?_⟩
  repeat' first | (with_reducible first | exact ⟨⟩ | exact rfl | exact lr _) | ((conv => whnf); with_reducible first | apply And.intro | exact ⟨⟩) | exact rfl | exact id | exact lr _
  all_goals try (conv => whnf)
theorem ownS_g (x : Rv) (h : x.sm) : GCx Try.prog 15 [.pv (.agg x.c)] [] (.ptr 1001 0) [(1001, .var (x.v (.pv (slP x.heard)) (.pv (slP x.none)) (.slw 1002 0) (.pv (slF x.frags)) (.pv (slP x.bad)) (.pv (.sc (.slice none 0 0))))), (1002, .arr 38 0 2 (x.has.map Pl.c))] := by
  refine GCx_post2 (own0_g x h) [1002, 1003, 1004, 1006, 1007] ?_
  (conv => whnf)
  refine ⟨_, _, ⟨rfl, rfl⟩, ?_⟩
  repeat' first | (with_reducible first | exact ⟨⟩ | exact rfl | exact lr _) | ((conv => whnf); with_reducible first | apply And.intro | exact ⟨⟩) | exact rfl | exact id | exact lr _
  all_goals try (conv => whnf)
theorem ownB_g (x : Rv) (h : x.sm) : GCx Try.prog 15 [.pv (.agg x.c)] [] (.ptr 1001 0) [(1001, .var (x.v (.pv (slP x.heard)) (.pv (slP x.none)) (.pv (slP x.has)) (.pv (slF x.frags)) (.slw 1002 0) (.pv (.sc (.slice none 0 0))))), (1002, .arr 38 0 2 (x.bad.map Pl.c))] := by
  refine GCx_post2 (own0_g x h) [1002, 1003, 1004, 1005, 1006] ?_
  (conv => whnf)
  refine ⟨_, _, ⟨rfl, rfl⟩, ?_⟩
  repeat' first | (with_reducible first | exact ⟨⟩ | exact rfl | exact lr _) | ((conv => whnf); with_reducible first | apply And.intro | exact ⟨⟩) | exact rfl | exact id | exact lr _
  all_goals try (conv => whnf)
end Go.Proofs.Ytpbjamihhkmgiaa.Tb
