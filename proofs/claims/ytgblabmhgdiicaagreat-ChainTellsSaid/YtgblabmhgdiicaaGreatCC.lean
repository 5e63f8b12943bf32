/-
  Contracts of functions of the program and of the document, each for every input that its premises name.
-/
import Derived.Test.YtgblabmhgdiicaaGreatCB
import Derived.Test.YtgblabmhgdiicaaGreatAe
set_option linter.unusedSectionVars false
set_option maxRecDepth 100000
set_option maxHeartbeats 4000000
set_option linter.unusedVariables false
set_option linter.unusedSimpArgs false
open Go Go.AX
namespace Go.Proofs.YtgblabmhgdiicaaGreat.Tb
theorem fn_counts1 : FnOk Tryz.prog 57 Tryz.f57 := ⟨Tryz.func57, by kernel_rfl, by kernel_rfl, by kernel_rfl⟩
theorem counts1_c (n : Int) : PCx Tryz.prog 57 ([] ++ ([uu n] ++ [])) (bl (decide (n > 4611686018427387903))) := by
  refine PC.le ?_
  refine PC_of_VC tabOk (draw_ok mixed tabOk) fn_counts1 rfl ?_
  repeat' ((conv => whnf); first | with_reducible refine zol ?_ | ((with_reducible refine fk (fun hc => ?_) fun hc => ?_) <;> first | exact absurd hc (by decide) | (exfalso; simp only [*, reduceCtorEq] at hc; done) | skip) | ((with_reducible apply And.intro); focus (first | rfl | exact znb rfl | omega | (simp only [zlc, zln, zlm, zla]; omega))))
  repeat' first | (with_reducible first | exact ⟨⟩ | exact rfl | exact lr _) | ((conv => whnf); with_reducible first | apply And.intro | exact ⟨⟩) | exact rfl | exact fun h => h | exact lr _
  all_goals try (conv => whnf)
theorem fn_counts : FnOk Tryz.prog 28 Tryz.f28 := ⟨Tryz.func28, by kernel_rfl, by kernel_rfl, by kernel_rfl⟩
theorem counts_c (l : List Int) : PCx Tryz.prog 28 [slU l] (bl (l.all cnt)) := by
  refine PC.le ?_
  refine PC_of_VC tabOk (draw_ok mixed tabOk) fn_counts rfl ?_
  repeat' ((conv => whnf); first | with_reducible refine zol ?_ | ((with_reducible refine fk (fun hc => ?_) fun hc => ?_) <;> first | exact absurd hc (by decide) | (exfalso; simp only [*, reduceCtorEq] at hc; done) | skip) | (refine zll ?_; (conv => whnf); refine ⟨_, containsFuncU_c _ _ _ _ _ fun x _ => counts1_c x, ?_⟩) | ((with_reducible apply And.intro); focus (first | rfl | exact znb rfl | omega | (simp only [zlc, zln, zlm, zla]; omega))))
  repeat' first | (with_reducible first | exact ⟨⟩ | exact rfl | exact lr _) | ((conv => whnf); with_reducible first | apply And.intro | exact ⟨⟩) | exact rfl | exact fun h => h | exact lr _
  all_goals try (conv => whnf)
  rw [List.not_any_eq_all_not]
  rfl
theorem fn_owned : FnOk Tryz.prog 63 Tryz.f63 := ⟨Tryz.func63, by kernel_rfl, by kernel_rfl, by kernel_rfl⟩
theorem owned_c (c : Ch) : PCx Tryz.prog 63 [.agg c.c] (bl (ownedC c)) := by
  refine PC.le ?_
  obtain ⟨X, hX⟩ : ∃ X, X = ownedC c := ⟨_, rfl⟩
  rw [← hX]
  unfold ownedC at hX
  refine PC_of_VC tabOk (draw_ok mixed tabOk) fn_owned rfl ?_
  repeat' ((conv => whnf); first | with_reducible refine zol ?_ | ((with_reducible refine fk (fun hc => ?_) fun hc => ?_) <;> first | exact absurd hc (by decide) | (exfalso; simp only [*, reduceCtorEq] at hc; done) | skip) | (refine zll ?_; (conv => whnf); refine ⟨_, fromI_c _ _ _, ?_⟩) | (refine zll ?_; (conv => whnf); refine ⟨_, fromU_c _ _ _, ?_⟩) | ((with_reducible apply And.intro); focus (first | rfl | exact znb rfl | omega | (simp only [zlc, zln, zlm, zla]; omega))))
  all_goals
    simp only [*, Bool.true_and, Bool.false_and, Bool.and_true, Bool.false_eq_true, ↓reduceIte] at hX
    subst hX
    repeat' first | (with_reducible first | exact ⟨⟩ | exact rfl | exact lr _) | ((conv => whnf); with_reducible first | apply And.intro | exact ⟨⟩) | exact rfl | exact fun h => h | exact lr _
    all_goals try (conv => whnf)
  all_goals first
    | rfl
    | (rw [Bool.eq_iff_iff]; simp; done)
    | simp
theorem fn_pHas : FnOk Tryz.prog 96 Tryz.f96 := ⟨Tryz.func96, by kernel_rfl, by kernel_rfl, by kernel_rfl⟩
theorem pHas_c (p : Pn) (n : Int) : PCx Tryz.prog 96 [.agg p.c, ii n] (bl (hasP p n)) := by
  refine PC.le ?_
  refine PC_of_VC tabOk (draw_ok mixed tabOk) fn_pHas rfl ?_
  repeat' ((conv => whnf); first | with_reducible refine zol ?_ | ((with_reducible refine fk (fun hc => ?_) fun hc => ?_) <;> first | exact absurd hc (by decide) | (exfalso; simp only [*, reduceCtorEq] at hc; done) | skip) | ((with_reducible apply And.intro); focus (first | rfl | exact znb rfl | omega | (simp only [zlc, zln, zlm, zla]; omega))))
  all_goals
    repeat' first | (with_reducible first | exact ⟨⟩ | exact rfl | exact lr _) | ((conv => whnf); with_reducible first | apply And.intro | exact ⟨⟩) | exact rfl | exact fun h => h | exact lr _
    all_goals try (conv => whnf)
  all_goals (simp_all [hasP]; try (intros; omega))
theorem fn_pIds : FnOk Tryz.prog 37 Tryz.f37 := ⟨Tryz.func37, by kernel_rfl, by kernel_rfl, by kernel_rfl⟩
theorem pIds_c (p : Pn) (h : p.ledgers.length ≤ 1000000) : PCx Tryz.prog 37 [.agg p.c] (slU (idsP p)) := by
  refine PC.le ?_
  refine PC_of_VC tabOk (draw_ok mixed tabOk) fn_pIds rfl ?_
  repeat' ((conv => whnf); first | with_reducible refine zol ?_ | ((with_reducible refine fk (fun hc => ?_) fun hc => ?_) <;> first | exact absurd hc (by decide) | (exfalso; simp only [*, reduceCtorEq] at hc; done) | skip) | ((with_reducible apply And.intro); focus (first | rfl | exact znb rfl | omega | (simp only [zlc, zln, zlm, zla]; omega))))
  refine ⟨{k : Nat // k ≤ p.ledgers.length}, fun ⟨k, _⟩ => ⟨[(3, .slw 1001 0), (7, .pv (slLg p.ledgers)), (8, .pv (ii p.ledgers.length)), (9, .pv (ii k))], 1000000000, [(1001, .arr 22 0 1 (((p.ledgers.take k).map (·.id)).map uRow))]⟩, fun ⟨k, _⟩ => p.ledgers.length - k, ⟨⟨0, by simp⟩, ent_of ?_⟩, ?_⟩
  · repeat' first
      | fail
      | with_reducible exact True.intro
      | with_reducible exact rfl
      | with_reducible exact leRs_refl _
      | ((conv => whnf); with_reducible apply And.intro)
      | ((conv => whnf); with_reducible exact True.intro)
      | exact rfl
      | exact fun h => h
      | exact leRs_refl _
    all_goals try (conv => whnf)
    all_goals simp
  rintro ⟨k, hk⟩
  by_cases hlt : k < p.ledgers.length
  · have d0 : decide ((k : Int) < (p.ledgers.length : Int)) = true := by simp only [zdt]; omega
    have eW : IntKind.i64.wrap ((k : Int) + 1) = ((k + 1 : Nat) : Int) := by rw [wrapI (by omega) (by omega)]; omega
    repeat' ((conv => whnf); first | with_reducible refine zol ?_ | ((with_reducible refine fk (fun hc => ?_) fun hc => ?_) <;> first | exact absurd hc (by decide) | (exfalso; simp only [*, reduceCtorEq] at hc; done) | skip) | ((refine ⟨_, rowK _ _ _ hlt, ?_⟩)) | (((with_reducible apply And.intro); focus (simp only [List.length_map, List.length_cons, List.length_nil, List.length_take] at *; omega))) | ((with_reducible apply And.intro); focus (first | rfl | exact znb rfl | omega | (simp only [zlc, zln, zlm, zla]; omega))))
    refine ⟨⟨k + 1, hlt⟩, dec_lt hlt, ent_of ?_⟩
    repeat' first | (with_reducible first | exact ⟨⟩ | exact rfl | exact lr _) | ((conv => whnf); with_reducible first | apply And.intro | exact ⟨⟩) | exact rfl | exact fun h => h | exact lr _
    all_goals try (conv => whnf)
    all_goals first
      | exact eW
      | (rw [List.take_succ_eq_append_getElem hlt, List.map_append, List.map_append]
         exact leRs_refl _)
  · have hke : k = p.ledgers.length := by omega
    subst hke
    have d0 : decide ((p.ledgers.length : Int) < (p.ledgers.length : Int)) = false := by simp
    repeat' ((conv => whnf); first | with_reducible refine zol ?_ | ((with_reducible refine fk (fun hc => ?_) fun hc => ?_) <;> first | exact absurd hc (by decide) | (exfalso; simp only [*, reduceCtorEq] at hc; done) | skip) | ((with_reducible apply And.intro); focus (first | rfl | exact znb rfl | omega | (simp only [zlc, zln, zlm, zla]; omega))))
    repeat' first | (with_reducible first | exact ⟨⟩ | exact rfl | exact lr _) | ((conv => whnf); with_reducible first | apply And.intro | exact ⟨⟩) | exact rfl | exact fun h => h | exact lr _
    all_goals try (conv => whnf)
    all_goals (rw [List.take_length]; exact leRs_refl _)
theorem fn_ownLedger1 : FnOk Tryz.prog 133 Tryz.f133 := ⟨Tryz.func133, by kernel_rfl, by kernel_rfl, by kernel_rfl⟩
theorem ownLedger1_c (f : Fr) (h : f.bookies.length ≤ 1000000) : PCx Tryz.prog 133 ([] ++ ([.agg f.c] ++ [])) (.agg f.c) := by
  refine PC.le ?_
  refine PC_of_VC tabOk (draw_ok mixed tabOk) fn_ownLedger1 rfl ?_
  repeat' ((conv => whnf); first | with_reducible refine zol ?_ | ((with_reducible refine fk (fun hc => ?_) fun hc => ?_) <;> first | exact absurd hc (by decide) | (exfalso; simp only [*, reduceCtorEq] at hc; done) | skip) | (refine zll ?_; (conv => whnf); refine ⟨_, clonePlace_c _ (by omega), ?_⟩) | ((with_reducible apply And.intro); focus (first | rfl | exact znb rfl | omega | (simp only [zlc, zln, zlm, zla]; omega))))
  repeat' first | (with_reducible first | exact ⟨⟩ | exact rfl | exact lr _) | ((conv => whnf); with_reducible first | apply And.intro | exact ⟨⟩) | exact rfl | exact fun h => h | exact lr _
  all_goals try (conv => whnf)
theorem fn_mappedF : FnOk Tryz.prog 132 Tryz.f132 := ⟨Tryz.func132, by kernel_rfl, by kernel_rfl, by kernel_rfl⟩
theorem mappedF_c (l : List Fr) (f : FuncId) (h : l.length ≤ 1000000) (hp : ∀ x ∈ l, PCx Tryz.prog f ([] ++ ([.agg x.c] ++ [])) (.agg x.c)) : PCx Tryz.prog 132 [slF l, .fn (.func f) [] []] (slF l) := by
  refine PC.le ?_
  refine PC_of_VC tabOk (draw_ok mixed tabOk) fn_mappedF rfl ?_
  repeat' ((conv => whnf); first | with_reducible refine zol ?_ | ((with_reducible refine fk (fun hc => ?_) fun hc => ?_) <;> first | exact absurd hc (by decide) | (exfalso; simp only [*, reduceCtorEq] at hc; done) | skip) | ((with_reducible apply And.intro); focus (first | rfl | exact znb rfl | omega | (simp only [zlc, zln, zlm, zla]; omega))))
  refine ⟨{k : Nat // k ≤ l.length}, fun ⟨k, _⟩ => ⟨[(1, .pv (.fn (.func f) [] [])), (5, .slw 1001 0), (8, .pv (slF l)), (9, .pv (ii l.length)), (10, .pv (ii k))], 1000000000, [(1001, .arr 87 0 2 ((l.take k).map Fr.c))]⟩, fun ⟨k, _⟩ => l.length - k, ⟨⟨0, by simp⟩, ent_of ?_⟩, ?_⟩
  · repeat' first
      | fail
      | with_reducible exact True.intro
      | with_reducible exact rfl
      | with_reducible exact leRs_refl _
      | ((conv => whnf); with_reducible apply And.intro)
      | ((conv => whnf); with_reducible exact True.intro)
      | exact rfl
      | exact fun h => h
      | exact leRs_refl _
    all_goals try (conv => whnf)
    all_goals simp
  rintro ⟨k, hk⟩
  by_cases hlt : k < l.length
  · have d0 : decide ((k : Int) < (l.length : Int)) = true := by simp only [zdt]; omega
    have eW : IntKind.i64.wrap ((k : Int) + 1) = ((k + 1 : Nat) : Int) := by rw [wrapI (by omega) (by omega)]; omega
    repeat' ((conv => whnf); first | with_reducible refine zol ?_ | ((with_reducible refine fk (fun hc => ?_) fun hc => ?_) <;> first | exact absurd hc (by decide) | (exfalso; simp only [*, reduceCtorEq] at hc; done) | skip) | ((refine ⟨_, rowK _ _ _ hlt, ?_⟩)) | (refine zll ?_; (conv => whnf); refine ⟨_, hp _ (List.getElem_mem hlt), ?_⟩) | (((with_reducible apply And.intro); focus (simp only [List.length_map, List.length_cons, List.length_nil, List.length_take] at *; omega))) | ((with_reducible apply And.intro); focus (first | rfl | exact znb rfl | omega | (simp only [zlc, zln, zlm, zla]; omega))))
    refine ⟨⟨k + 1, hlt⟩, dec_lt hlt, ent_of ?_⟩
    repeat' first | (with_reducible first | exact ⟨⟩ | exact rfl | exact lr _) | ((conv => whnf); with_reducible first | apply And.intro | exact ⟨⟩) | exact rfl | exact fun h => h | exact lr _
    all_goals try (conv => whnf)
    all_goals first
      | exact eW
      | (rw [List.take_succ_eq_append_getElem hlt, List.map_append]
         refine leRs_app (leRs_refl _) ?_
         (repeat' first | (with_reducible first | exact ⟨⟩ | exact rfl | exact lr _) | ((conv => whnf); with_reducible first | apply And.intro | exact ⟨⟩) | exact rfl | exact fun h => h | exact lr _); (all_goals try (conv => whnf)))
  · have hke : k = l.length := by omega
    subst hke
    have d0 : decide ((l.length : Int) < (l.length : Int)) = false := by simp
    repeat' ((conv => whnf); first | with_reducible refine zol ?_ | ((with_reducible refine fk (fun hc => ?_) fun hc => ?_) <;> first | exact absurd hc (by decide) | (exfalso; simp only [*, reduceCtorEq] at hc; done) | skip) | ((with_reducible apply And.intro); focus (first | rfl | exact znb rfl | omega | (simp only [zlc, zln, zlm, zla]; omega))))
    repeat' first | (with_reducible first | exact ⟨⟩ | exact rfl | exact lr _) | ((conv => whnf); with_reducible first | apply And.intro | exact ⟨⟩) | exact rfl | exact fun h => h | exact lr _
    all_goals try (conv => whnf)
    all_goals (rw [List.take_length]; exact leRs_refl _)
theorem fn_ownLedger : FnOk Tryz.prog 98 Tryz.f98 := ⟨Tryz.func98, by kernel_rfl, by kernel_rfl, by kernel_rfl⟩
theorem ownLedger_c (l : Lg) (h : LgB l) : PCx Tryz.prog 98 [.agg l.c] (.agg l.c) := by
  refine PC.le ?_
  refine PC_of_VC tabOk (draw_ok mixed tabOk) fn_ownLedger rfl ?_
  repeat' ((conv => whnf); first | with_reducible refine zol ?_ | ((with_reducible refine fk (fun hc => ?_) fun hc => ?_) <;> first | exact absurd hc (by decide) | (exfalso; simp only [*, reduceCtorEq] at hc; done) | skip) | (refine zll ?_; (conv => whnf); refine ⟨_, mappedF_c l.frags _ h.frags (fun x hx => ownLedger1_c x (h.bookies x hx)), ?_⟩) | ((with_reducible apply And.intro); focus (first | rfl | exact znb rfl | omega | (simp only [zlc, zln, zlm, zla]; omega))))
  repeat' first | (with_reducible first | exact ⟨⟩ | exact rfl | exact lr _) | ((conv => whnf); with_reducible first | apply And.intro | exact ⟨⟩) | exact rfl | exact fun h => h | exact lr _
  all_goals try (conv => whnf)
theorem fn_pFind1 : FnOk Tryz.prog 97 Tryz.f97 := ⟨Tryz.func97, by kernel_rfl, by kernel_rfl, by kernel_rfl⟩
theorem pFind1_c (l : Lg) (id : Int) : PCx Tryz.prog 97 ([] ++ ([.agg l.c] ++ [.eptr [uu id] 0])) (bl (l.id == id)) := by
  refine PC.le ?_
  refine PC_of_VC tabOk (draw_ok mixed tabOk) fn_pFind1 rfl ?_
  repeat' ((conv => whnf); first | with_reducible refine zol ?_ | ((with_reducible refine fk (fun hc => ?_) fun hc => ?_) <;> first | exact absurd hc (by decide) | (exfalso; simp only [*, reduceCtorEq] at hc; done) | skip) | ((with_reducible apply And.intro); focus (first | rfl | exact znb rfl | omega | (simp only [zlc, zln, zlm, zla]; omega))))
  repeat' first | (with_reducible first | exact ⟨⟩ | exact rfl | exact lr _) | ((conv => whnf); with_reducible first | apply And.intro | exact ⟨⟩) | exact rfl | exact fun h => h | exact lr _
  all_goals try (conv => whnf)
theorem fn_pFind : FnOk Tryz.prog 66 Tryz.f66 := ⟨Tryz.func66, by kernel_rfl, by kernel_rfl, by kernel_rfl⟩
theorem pFind_c (p : Pn) (id : Int) (h : PnB p) : PCx Tryz.prog 66 [.agg p.c, uu id] (.tup [.agg (findL p id).c, bl (findP p id).isSome]) := by
  refine PC.le ?_
  rcases findP_ix p id with ⟨e1, e2⟩ | ⟨k, hk, e1, e2⟩
  · have d0 : decide ((-1 : Int) < 0) = true := rfl
    have c := indexFuncLedger_c p.ledgers 97 [] [.eptr [uu id] 0] (fun l => l.id == id) fun x _ => pFind1_c x id
    rw [e1] at c
    simp only [findL, e2]
    clear e1 e2
    refine PC_of_VC tabOk (draw_ok mixed tabOk) fn_pFind rfl ?_
    repeat' ((conv => whnf); first | with_reducible refine zol ?_ | ((with_reducible refine fk (fun hc => ?_) fun hc => ?_) <;> first | exact absurd hc (by decide) | (exfalso; simp only [*, reduceCtorEq] at hc; done) | skip) | (refine zll ?_; (conv => whnf); refine ⟨_, c, ?_⟩) | ((with_reducible apply And.intro); focus (first | rfl | exact znb rfl | omega | (simp only [zlc, zln, zlm, zla]; omega))))
    repeat' first | (with_reducible first | exact ⟨⟩ | exact rfl | exact lr _) | ((conv => whnf); with_reducible first | apply And.intro | exact ⟨⟩) | exact rfl | exact fun h => h | exact lr _
    all_goals try (conv => whnf)
  · have d0 : decide ((k : Int) < 0) = false := by simp only [zdf]; omega
    have c := indexFuncLedger_c p.ledgers 97 [] [.eptr [uu id] 0] (fun l => l.id == id) fun x _ => pFind1_c x id
    rw [e1] at c
    simp only [findL, e2]
    clear e1 e2
    have cO := ownLedger_c _ (h.lg _ (List.getElem_mem hk))
    refine PC_of_VC tabOk (draw_ok mixed tabOk) fn_pFind rfl ?_
    repeat' ((conv => whnf); first | with_reducible refine zol ?_ | ((with_reducible refine fk (fun hc => ?_) fun hc => ?_) <;> first | exact absurd hc (by decide) | (exfalso; simp only [*, reduceCtorEq] at hc; done) | skip) | (refine zll ?_; (conv => whnf); refine ⟨_, c, ?_⟩) | ((refine ⟨_, rowK _ _ _ hk, ?_⟩)) | (refine zll ?_; (conv => whnf); refine ⟨_, cO, ?_⟩) | ((with_reducible apply And.intro); focus (first | rfl | exact znb rfl | omega | (simp only [zlc, zln, zlm, zla]; omega))))
    repeat' first | (with_reducible first | exact ⟨⟩ | exact rfl | exact lr _) | ((conv => whnf); with_reducible first | apply And.intro | exact ⟨⟩) | exact rfl | exact fun h => h | exact lr _
    all_goals try (conv => whnf)
    all_goals exact fun h => h
end Go.Proofs.YtgblabmhgdiicaaGreat.Tb
