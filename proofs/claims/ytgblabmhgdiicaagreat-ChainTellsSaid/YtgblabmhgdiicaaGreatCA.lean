/-
  Contracts of functions of the program and of the document, each for every input that its premises name.
-/
import Derived.Test.YtgblabmhgdiicaaGreatSA
import Derived.Test.YtgblabmhgdiicaaGreatAd
import Derived.Test.YtgblabmhgdiicaaGreatAe
set_option linter.unusedSectionVars false
set_option maxRecDepth 100000
set_option linter.unusedVariables false
set_option linter.unusedSimpArgs false
open Go Go.AX
namespace Go.Proofs.YtgblabmhgdiicaaGreat.Tb
theorem fn_indexFuncPlace : FnOk Tryz.prog 162 Tryz.f162 := ⟨Tryz.func162, by kernel_rfl, by kernel_rfl, by kernel_rfl⟩
theorem indexFuncPlace_c (l : List Pl) (f : FuncId) (first caps : List PV) (p : Pl → Bool) (hp : ∀ x ∈ l, PCx Tryz.prog f (first ++ ([.agg x.c] ++ caps)) (bl (p x))) :
    PCx Tryz.prog 162 [slP l, .fn (.func f) first caps] (ii (ixP p l)) := by
  refine PC.le (PC_bd fn_indexFuncPlace fun hb => ?_)
  have hb : l.length ≤ 9223372036854775807 := by simpa [bdL, bdP, slP] using hb
  refine PC_of_VC tabOk (draw_ok mixed tabOk) fn_indexFuncPlace rfl ?_
  repeat' ((conv => whnf); first | with_reducible refine zol ?_ | ((with_reducible refine fk (fun hc => ?_) fun hc => ?_) <;> first | exact absurd hc (by decide) | (exfalso; simp only [*, reduceCtorEq] at hc; done) | skip) | ((with_reducible apply And.intro); focus (first | rfl | exact znb rfl | omega | (simp only [zlc, zln, zlm, zla]; omega))))
  refine ⟨{k : Nat // k ≤ l.length ∧ ∀ j (hj : j < l.length), j < k → p l[j] = false}, fun ⟨k, _⟩ => ⟨[(0, .pv (slP l)), (1, .pv (.fn (.func f) first caps)), (7, .pv (ii l.length)), (8, .pv (ii k))], 1000000000, []⟩, fun ⟨k, _⟩ => l.length - k, ⟨⟨0, by simp⟩, ent_of ?_⟩, ?_⟩
  · repeat' first
      | fail
      | with_reducible exact True.intro
      | with_reducible exact rfl
      | with_reducible exact leRs_refl _
      | ((conv => whnf); with_reducible apply And.intro)
      | ((conv => whnf); with_reducible exact True.intro)
      | exact rfl
      | exact fun h => h
      | exact leRs_refl _
    all_goals try (conv => whnf)
    simp
  rintro ⟨k, hk, hn⟩
  repeat' ((conv => whnf); first | with_reducible refine zol ?_ | ((with_reducible refine fk (fun hc => ?_) fun hc => ?_) <;> first | exact absurd hc (by decide) | (exfalso; simp only [*, reduceCtorEq] at hc; done) | skip) | ((with_reducible apply And.intro); focus (first | rfl | exact znb rfl | omega | (simp only [zlc, zln, zlm, zla]; omega))))
  · skip
    have hlt : k < l.length := by simpa using hc
    refine ⟨_, rowK _ _ _ hlt, ?_⟩
    repeat' ((conv => whnf); first | with_reducible refine zol ?_ | ((with_reducible refine fk (fun hc => ?_) fun hc => ?_) <;> first | exact absurd hc (by decide) | (exfalso; simp only [*, reduceCtorEq] at hc; done) | skip) | (refine zll ?_; (conv => whnf); refine ⟨_, hp _ (List.getElem_mem hlt), ?_⟩) | ((with_reducible apply And.intro); focus (first | rfl | exact znb rfl | omega | (simp only [zlc, zln, zlm, zla]; omega))))
    · skip
      repeat' first | (with_reducible first | exact ⟨⟩ | exact rfl | exact lr _) | ((conv => whnf); with_reducible first | apply And.intro | exact ⟨⟩) | exact rfl | exact fun h => h | exact lr _
      all_goals try (conv => whnf)
      exact (ixP_at _ hlt hn hc).symm
    · skip
      repeat' ((conv => whnf); first | with_reducible refine zol ?_ | ((with_reducible refine fk (fun hc => ?_) fun hc => ?_) <;> first | exact absurd hc (by decide) | (exfalso; simp only [*, reduceCtorEq] at hc; done) | skip) | ((with_reducible apply And.intro); focus (first | rfl | exact znb rfl | omega | (simp only [zlc, zln, zlm, zla]; omega))))
      refine ⟨⟨k + 1, hlt, step_lt hn fun _ => hc⟩, dec_lt hlt, ent_of ?_⟩
      repeat' first | (with_reducible first | exact ⟨⟩ | exact rfl | exact lr _) | ((conv => whnf); with_reducible first | apply And.intro | exact ⟨⟩) | exact rfl | exact fun h => h | exact lr _
      all_goals try (conv => whnf)
      exact wrapI (by omega) (by omega)
  · skip
    repeat' first | (with_reducible first | exact ⟨⟩ | exact rfl | exact lr _) | ((conv => whnf); with_reducible first | apply And.intro | exact ⟨⟩) | exact rfl | exact fun h => h | exact lr _
    all_goals try (conv => whnf)
    have : k = l.length := by simp at hc; omega
    subst this
    exact (ixP_none _ (all_of hn)).symm
theorem fn_containsFuncPlace : FnOk Tryz.prog 143 Tryz.f143 := ⟨Tryz.func143, by kernel_rfl, by kernel_rfl, by kernel_rfl⟩
theorem containsFuncPlace_c (l : List Pl) (f : FuncId) (first caps : List PV) (p : Pl → Bool) (hp : ∀ x ∈ l, PCx Tryz.prog f (first ++ ([.agg x.c] ++ caps)) (bl (p x))) :
    PCx Tryz.prog 143 [slP l, .fn (.func f) first caps] (bl (l.any p)) := by
  refine PC.le ?_
  refine PC_of_VC tabOk (draw_ok mixed tabOk) fn_containsFuncPlace rfl ?_
  repeat' ((conv => whnf); first | with_reducible refine zol ?_ | ((with_reducible refine fk (fun hc => ?_) fun hc => ?_) <;> first | exact absurd hc (by decide) | (exfalso; simp only [*, reduceCtorEq] at hc; done) | skip) | (refine zll ?_; (conv => whnf); refine ⟨_, indexFuncPlace_c _ _ _ _ _ hp, ?_⟩) | ((with_reducible apply And.intro); focus (first | rfl | exact znb rfl | omega | (simp only [zlc, zln, zlm, zla]; omega))))
  repeat' first | (with_reducible first | exact ⟨⟩ | exact rfl | exact lr _) | ((conv => whnf); with_reducible first | apply And.intro | exact ⟨⟩) | exact rfl | exact fun h => h | exact lr _
  all_goals try (conv => whnf)
  exact ixP_ge _ _
theorem fn_indexFuncFrag : FnOk Tryz.prog 140 Tryz.f140 := ⟨Tryz.func140, by kernel_rfl, by kernel_rfl, by kernel_rfl⟩
theorem indexFuncFrag_c (l : List Fr) (f : FuncId) (first caps : List PV) (p : Fr → Bool) (hp : ∀ x ∈ l, PCx Tryz.prog f (first ++ ([.agg x.c] ++ caps)) (bl (p x))) :
    PCx Tryz.prog 140 [slF l, .fn (.func f) first caps] (ii (ixP p l)) := by
  refine PC.le (PC_bd fn_indexFuncFrag fun hb => ?_)
  have hb : l.length ≤ 9223372036854775807 := by simpa [bdL, bdP, slF] using hb
  refine PC_of_VC tabOk (draw_ok mixed tabOk) fn_indexFuncFrag rfl ?_
  repeat' ((conv => whnf); first | with_reducible refine zol ?_ | ((with_reducible refine fk (fun hc => ?_) fun hc => ?_) <;> first | exact absurd hc (by decide) | (exfalso; simp only [*, reduceCtorEq] at hc; done) | skip) | ((with_reducible apply And.intro); focus (first | rfl | exact znb rfl | omega | (simp only [zlc, zln, zlm, zla]; omega))))
  refine ⟨{k : Nat // k ≤ l.length ∧ ∀ j (hj : j < l.length), j < k → p l[j] = false}, fun ⟨k, _⟩ => ⟨[(0, .pv (slF l)), (1, .pv (.fn (.func f) first caps)), (7, .pv (ii l.length)), (8, .pv (ii k))], 1000000000, []⟩, fun ⟨k, _⟩ => l.length - k, ⟨⟨0, by simp⟩, ent_of ?_⟩, ?_⟩
  · repeat' first
      | fail
      | with_reducible exact True.intro
      | with_reducible exact rfl
      | with_reducible exact leRs_refl _
      | ((conv => whnf); with_reducible apply And.intro)
      | ((conv => whnf); with_reducible exact True.intro)
      | exact rfl
      | exact fun h => h
      | exact leRs_refl _
    all_goals try (conv => whnf)
    simp
  rintro ⟨k, hk, hn⟩
  repeat' ((conv => whnf); first | with_reducible refine zol ?_ | ((with_reducible refine fk (fun hc => ?_) fun hc => ?_) <;> first | exact absurd hc (by decide) | (exfalso; simp only [*, reduceCtorEq] at hc; done) | skip) | ((with_reducible apply And.intro); focus (first | rfl | exact znb rfl | omega | (simp only [zlc, zln, zlm, zla]; omega))))
  · skip
    have hlt : k < l.length := by simpa using hc
    refine ⟨_, rowK _ _ _ hlt, ?_⟩
    repeat' ((conv => whnf); first | with_reducible refine zol ?_ | ((with_reducible refine fk (fun hc => ?_) fun hc => ?_) <;> first | exact absurd hc (by decide) | (exfalso; simp only [*, reduceCtorEq] at hc; done) | skip) | (refine zll ?_; (conv => whnf); refine ⟨_, hp _ (List.getElem_mem hlt), ?_⟩) | ((with_reducible apply And.intro); focus (first | rfl | exact znb rfl | omega | (simp only [zlc, zln, zlm, zla]; omega))))
    · skip
      repeat' first | (with_reducible first | exact ⟨⟩ | exact rfl | exact lr _) | ((conv => whnf); with_reducible first | apply And.intro | exact ⟨⟩) | exact rfl | exact fun h => h | exact lr _
      all_goals try (conv => whnf)
      exact (ixP_at _ hlt hn hc).symm
    · skip
      repeat' ((conv => whnf); first | with_reducible refine zol ?_ | ((with_reducible refine fk (fun hc => ?_) fun hc => ?_) <;> first | exact absurd hc (by decide) | (exfalso; simp only [*, reduceCtorEq] at hc; done) | skip) | ((with_reducible apply And.intro); focus (first | rfl | exact znb rfl | omega | (simp only [zlc, zln, zlm, zla]; omega))))
      refine ⟨⟨k + 1, hlt, step_lt hn fun _ => hc⟩, dec_lt hlt, ent_of ?_⟩
      repeat' first | (with_reducible first | exact ⟨⟩ | exact rfl | exact lr _) | ((conv => whnf); with_reducible first | apply And.intro | exact ⟨⟩) | exact rfl | exact fun h => h | exact lr _
      all_goals try (conv => whnf)
      exact wrapI (by omega) (by omega)
  · skip
    repeat' first | (with_reducible first | exact ⟨⟩ | exact rfl | exact lr _) | ((conv => whnf); with_reducible first | apply And.intro | exact ⟨⟩) | exact rfl | exact fun h => h | exact lr _
    all_goals try (conv => whnf)
    have : k = l.length := by simp at hc; omega
    subst this
    exact (ixP_none _ (all_of hn)).symm
theorem fn_containsFuncFrag : FnOk Tryz.prog 122 Tryz.f122 := ⟨Tryz.func122, by kernel_rfl, by kernel_rfl, by kernel_rfl⟩
theorem containsFuncFrag_c (l : List Fr) (f : FuncId) (first caps : List PV) (p : Fr → Bool) (hp : ∀ x ∈ l, PCx Tryz.prog f (first ++ ([.agg x.c] ++ caps)) (bl (p x))) :
    PCx Tryz.prog 122 [slF l, .fn (.func f) first caps] (bl (l.any p)) := by
  refine PC.le ?_
  refine PC_of_VC tabOk (draw_ok mixed tabOk) fn_containsFuncFrag rfl ?_
  repeat' ((conv => whnf); first | with_reducible refine zol ?_ | ((with_reducible refine fk (fun hc => ?_) fun hc => ?_) <;> first | exact absurd hc (by decide) | (exfalso; simp only [*, reduceCtorEq] at hc; done) | skip) | (refine zll ?_; (conv => whnf); refine ⟨_, indexFuncFrag_c _ _ _ _ _ hp, ?_⟩) | ((with_reducible apply And.intro); focus (first | rfl | exact znb rfl | omega | (simp only [zlc, zln, zlm, zla]; omega))))
  repeat' first | (with_reducible first | exact ⟨⟩ | exact rfl | exact lr _) | ((conv => whnf); with_reducible first | apply And.intro | exact ⟨⟩) | exact rfl | exact fun h => h | exact lr _
  all_goals try (conv => whnf)
  exact ixP_ge _ _
theorem fn_indexFuncLedger : FnOk Tryz.prog 90 Tryz.f90 := ⟨Tryz.func90, by kernel_rfl, by kernel_rfl, by kernel_rfl⟩
theorem indexFuncLedger_c (l : List Lg) (f : FuncId) (first caps : List PV) (p : Lg → Bool) (hp : ∀ x ∈ l, PCx Tryz.prog f (first ++ ([.agg x.c] ++ caps)) (bl (p x))) :
    PCx Tryz.prog 90 [slLg l, .fn (.func f) first caps] (ii (ixP p l)) := by
  refine PC.le (PC_bd fn_indexFuncLedger fun hb => ?_)
  have hb : l.length ≤ 9223372036854775807 := by simpa [bdL, bdP, slLg] using hb
  refine PC_of_VC tabOk (draw_ok mixed tabOk) fn_indexFuncLedger rfl ?_
  repeat' ((conv => whnf); first | with_reducible refine zol ?_ | ((with_reducible refine fk (fun hc => ?_) fun hc => ?_) <;> first | exact absurd hc (by decide) | (exfalso; simp only [*, reduceCtorEq] at hc; done) | skip) | ((with_reducible apply And.intro); focus (first | rfl | exact znb rfl | omega | (simp only [zlc, zln, zlm, zla]; omega))))
  refine ⟨{k : Nat // k ≤ l.length ∧ ∀ j (hj : j < l.length), j < k → p l[j] = false}, fun ⟨k, _⟩ => ⟨[(0, .pv (slLg l)), (1, .pv (.fn (.func f) first caps)), (7, .pv (ii l.length)), (8, .pv (ii k))], 1000000000, []⟩, fun ⟨k, _⟩ => l.length - k, ⟨⟨0, by simp⟩, ent_of ?_⟩, ?_⟩
  · repeat' first
      | fail
      | with_reducible exact True.intro
      | with_reducible exact rfl
      | with_reducible exact leRs_refl _
      | ((conv => whnf); with_reducible apply And.intro)
      | ((conv => whnf); with_reducible exact True.intro)
      | exact rfl
      | exact fun h => h
      | exact leRs_refl _
    all_goals try (conv => whnf)
    simp
  rintro ⟨k, hk, hn⟩
  repeat' ((conv => whnf); first | with_reducible refine zol ?_ | ((with_reducible refine fk (fun hc => ?_) fun hc => ?_) <;> first | exact absurd hc (by decide) | (exfalso; simp only [*, reduceCtorEq] at hc; done) | skip) | ((with_reducible apply And.intro); focus (first | rfl | exact znb rfl | omega | (simp only [zlc, zln, zlm, zla]; omega))))
  · skip
    have hlt : k < l.length := by simpa using hc
    refine ⟨_, rowK _ _ _ hlt, ?_⟩
    repeat' ((conv => whnf); first | with_reducible refine zol ?_ | ((with_reducible refine fk (fun hc => ?_) fun hc => ?_) <;> first | exact absurd hc (by decide) | (exfalso; simp only [*, reduceCtorEq] at hc; done) | skip) | (refine zll ?_; (conv => whnf); refine ⟨_, hp _ (List.getElem_mem hlt), ?_⟩) | ((with_reducible apply And.intro); focus (first | rfl | exact znb rfl | omega | (simp only [zlc, zln, zlm, zla]; omega))))
    · skip
      repeat' first | (with_reducible first | exact ⟨⟩ | exact rfl | exact lr _) | ((conv => whnf); with_reducible first | apply And.intro | exact ⟨⟩) | exact rfl | exact fun h => h | exact lr _
      all_goals try (conv => whnf)
      exact (ixP_at _ hlt hn hc).symm
    · skip
      repeat' ((conv => whnf); first | with_reducible refine zol ?_ | ((with_reducible refine fk (fun hc => ?_) fun hc => ?_) <;> first | exact absurd hc (by decide) | (exfalso; simp only [*, reduceCtorEq] at hc; done) | skip) | ((with_reducible apply And.intro); focus (first | rfl | exact znb rfl | omega | (simp only [zlc, zln, zlm, zla]; omega))))
      refine ⟨⟨k + 1, hlt, step_lt hn fun _ => hc⟩, dec_lt hlt, ent_of ?_⟩
      repeat' first | (with_reducible first | exact ⟨⟩ | exact rfl | exact lr _) | ((conv => whnf); with_reducible first | apply And.intro | exact ⟨⟩) | exact rfl | exact fun h => h | exact lr _
      all_goals try (conv => whnf)
      exact wrapI (by omega) (by omega)
  · skip
    repeat' first | (with_reducible first | exact ⟨⟩ | exact rfl | exact lr _) | ((conv => whnf); with_reducible first | apply And.intro | exact ⟨⟩) | exact rfl | exact fun h => h | exact lr _
    all_goals try (conv => whnf)
    have : k = l.length := by simp at hc; omega
    subst this
    exact (ixP_none _ (all_of hn)).symm
theorem fn_containsFuncLedger : FnOk Tryz.prog 58 Tryz.f58 := ⟨Tryz.func58, by kernel_rfl, by kernel_rfl, by kernel_rfl⟩
theorem containsFuncLedger_c (l : List Lg) (f : FuncId) (first caps : List PV) (p : Lg → Bool) (hp : ∀ x ∈ l, PCx Tryz.prog f (first ++ ([.agg x.c] ++ caps)) (bl (p x))) :
    PCx Tryz.prog 58 [slLg l, .fn (.func f) first caps] (bl (l.any p)) := by
  refine PC.le ?_
  refine PC_of_VC tabOk (draw_ok mixed tabOk) fn_containsFuncLedger rfl ?_
  repeat' ((conv => whnf); first | with_reducible refine zol ?_ | ((with_reducible refine fk (fun hc => ?_) fun hc => ?_) <;> first | exact absurd hc (by decide) | (exfalso; simp only [*, reduceCtorEq] at hc; done) | skip) | (refine zll ?_; (conv => whnf); refine ⟨_, indexFuncLedger_c _ _ _ _ _ hp, ?_⟩) | ((with_reducible apply And.intro); focus (first | rfl | exact znb rfl | omega | (simp only [zlc, zln, zlm, zla]; omega))))
  repeat' first | (with_reducible first | exact ⟨⟩ | exact rfl | exact lr _) | ((conv => whnf); with_reducible first | apply And.intro | exact ⟨⟩) | exact rfl | exact fun h => h | exact lr _
  all_goals try (conv => whnf)
  exact ixP_ge _ _
theorem fn_indexFuncMark : FnOk Tryz.prog 153 Tryz.f153 := ⟨Tryz.func153, by kernel_rfl, by kernel_rfl, by kernel_rfl⟩
theorem indexFuncMark_c (l : List Mk) (f : FuncId) (first caps : List PV) (p : Mk → Bool) (hp : ∀ x ∈ l, PCx Tryz.prog f (first ++ ([.agg x.c] ++ caps)) (bl (p x))) :
    PCx Tryz.prog 153 [slM l, .fn (.func f) first caps] (ii (ixP p l)) := by
  refine PC.le (PC_bd fn_indexFuncMark fun hb => ?_)
  have hb : l.length ≤ 9223372036854775807 := by simpa [bdL, bdP, slM] using hb
  refine PC_of_VC tabOk (draw_ok mixed tabOk) fn_indexFuncMark rfl ?_
  repeat' ((conv => whnf); first | with_reducible refine zol ?_ | ((with_reducible refine fk (fun hc => ?_) fun hc => ?_) <;> first | exact absurd hc (by decide) | (exfalso; simp only [*, reduceCtorEq] at hc; done) | skip) | ((with_reducible apply And.intro); focus (first | rfl | exact znb rfl | omega | (simp only [zlc, zln, zlm, zla]; omega))))
  refine ⟨{k : Nat // k ≤ l.length ∧ ∀ j (hj : j < l.length), j < k → p l[j] = false}, fun ⟨k, _⟩ => ⟨[(0, .pv (slM l)), (1, .pv (.fn (.func f) first caps)), (7, .pv (ii l.length)), (8, .pv (ii k))], 1000000000, []⟩, fun ⟨k, _⟩ => l.length - k, ⟨⟨0, by simp⟩, ent_of ?_⟩, ?_⟩
  · repeat' first
      | fail
      | with_reducible exact True.intro
      | with_reducible exact rfl
      | with_reducible exact leRs_refl _
      | ((conv => whnf); with_reducible apply And.intro)
      | ((conv => whnf); with_reducible exact True.intro)
      | exact rfl
      | exact fun h => h
      | exact leRs_refl _
    all_goals try (conv => whnf)
    simp
  rintro ⟨k, hk, hn⟩
  repeat' ((conv => whnf); first | with_reducible refine zol ?_ | ((with_reducible refine fk (fun hc => ?_) fun hc => ?_) <;> first | exact absurd hc (by decide) | (exfalso; simp only [*, reduceCtorEq] at hc; done) | skip) | ((with_reducible apply And.intro); focus (first | rfl | exact znb rfl | omega | (simp only [zlc, zln, zlm, zla]; omega))))
  · skip
    have hlt : k < l.length := by simpa using hc
    refine ⟨_, rowK _ _ _ hlt, ?_⟩
    repeat' ((conv => whnf); first | with_reducible refine zol ?_ | ((with_reducible refine fk (fun hc => ?_) fun hc => ?_) <;> first | exact absurd hc (by decide) | (exfalso; simp only [*, reduceCtorEq] at hc; done) | skip) | (refine zll ?_; (conv => whnf); refine ⟨_, hp _ (List.getElem_mem hlt), ?_⟩) | ((with_reducible apply And.intro); focus (first | rfl | exact znb rfl | omega | (simp only [zlc, zln, zlm, zla]; omega))))
    · skip
      repeat' first | (with_reducible first | exact ⟨⟩ | exact rfl | exact lr _) | ((conv => whnf); with_reducible first | apply And.intro | exact ⟨⟩) | exact rfl | exact fun h => h | exact lr _
      all_goals try (conv => whnf)
      exact (ixP_at _ hlt hn hc).symm
    · skip
      repeat' ((conv => whnf); first | with_reducible refine zol ?_ | ((with_reducible refine fk (fun hc => ?_) fun hc => ?_) <;> first | exact absurd hc (by decide) | (exfalso; simp only [*, reduceCtorEq] at hc; done) | skip) | ((with_reducible apply And.intro); focus (first | rfl | exact znb rfl | omega | (simp only [zlc, zln, zlm, zla]; omega))))
      refine ⟨⟨k + 1, hlt, step_lt hn fun _ => hc⟩, dec_lt hlt, ent_of ?_⟩
      repeat' first | (with_reducible first | exact ⟨⟩ | exact rfl | exact lr _) | ((conv => whnf); with_reducible first | apply And.intro | exact ⟨⟩) | exact rfl | exact fun h => h | exact lr _
      all_goals try (conv => whnf)
      exact wrapI (by omega) (by omega)
  · skip
    repeat' first | (with_reducible first | exact ⟨⟩ | exact rfl | exact lr _) | ((conv => whnf); with_reducible first | apply And.intro | exact ⟨⟩) | exact rfl | exact fun h => h | exact lr _
    all_goals try (conv => whnf)
    have : k = l.length := by simp at hc; omega
    subst this
    exact (ixP_none _ (all_of hn)).symm
theorem fn_containsFuncMark : FnOk Tryz.prog 135 Tryz.f135 := ⟨Tryz.func135, by kernel_rfl, by kernel_rfl, by kernel_rfl⟩
theorem containsFuncMark_c (l : List Mk) (f : FuncId) (first caps : List PV) (p : Mk → Bool) (hp : ∀ x ∈ l, PCx Tryz.prog f (first ++ ([.agg x.c] ++ caps)) (bl (p x))) :
    PCx Tryz.prog 135 [slM l, .fn (.func f) first caps] (bl (l.any p)) := by
  refine PC.le ?_
  refine PC_of_VC tabOk (draw_ok mixed tabOk) fn_containsFuncMark rfl ?_
  repeat' ((conv => whnf); first | with_reducible refine zol ?_ | ((with_reducible refine fk (fun hc => ?_) fun hc => ?_) <;> first | exact absurd hc (by decide) | (exfalso; simp only [*, reduceCtorEq] at hc; done) | skip) | (refine zll ?_; (conv => whnf); refine ⟨_, indexFuncMark_c _ _ _ _ _ hp, ?_⟩) | ((with_reducible apply And.intro); focus (first | rfl | exact znb rfl | omega | (simp only [zlc, zln, zlm, zla]; omega))))
  repeat' first | (with_reducible first | exact ⟨⟩ | exact rfl | exact lr _) | ((conv => whnf); with_reducible first | apply And.intro | exact ⟨⟩) | exact rfl | exact fun h => h | exact lr _
  all_goals try (conv => whnf)
  exact ixP_ge _ _
theorem fn_indexFuncCursor : FnOk Tryz.prog 137 Tryz.f137 := ⟨Tryz.func137, by kernel_rfl, by kernel_rfl, by kernel_rfl⟩
theorem indexFuncCursor_c (l : List Cu) (f : FuncId) (first caps : List PV) (p : Cu → Bool) (hp : ∀ x ∈ l, PCx Tryz.prog f (first ++ ([.agg x.c] ++ caps)) (bl (p x))) :
    PCx Tryz.prog 137 [slK l, .fn (.func f) first caps] (ii (ixP p l)) := by
  refine PC.le (PC_bd fn_indexFuncCursor fun hb => ?_)
  have hb : l.length ≤ 9223372036854775807 := by simpa [bdL, bdP, slK] using hb
  refine PC_of_VC tabOk (draw_ok mixed tabOk) fn_indexFuncCursor rfl ?_
  repeat' ((conv => whnf); first | with_reducible refine zol ?_ | ((with_reducible refine fk (fun hc => ?_) fun hc => ?_) <;> first | exact absurd hc (by decide) | (exfalso; simp only [*, reduceCtorEq] at hc; done) | skip) | ((with_reducible apply And.intro); focus (first | rfl | exact znb rfl | omega | (simp only [zlc, zln, zlm, zla]; omega))))
  refine ⟨{k : Nat // k ≤ l.length ∧ ∀ j (hj : j < l.length), j < k → p l[j] = false}, fun ⟨k, _⟩ => ⟨[(0, .pv (slK l)), (1, .pv (.fn (.func f) first caps)), (7, .pv (ii l.length)), (8, .pv (ii k))], 1000000000, []⟩, fun ⟨k, _⟩ => l.length - k, ⟨⟨0, by simp⟩, ent_of ?_⟩, ?_⟩
  · repeat' first
      | fail
      | with_reducible exact True.intro
      | with_reducible exact rfl
      | with_reducible exact leRs_refl _
      | ((conv => whnf); with_reducible apply And.intro)
      | ((conv => whnf); with_reducible exact True.intro)
      | exact rfl
      | exact fun h => h
      | exact leRs_refl _
    all_goals try (conv => whnf)
    simp
  rintro ⟨k, hk, hn⟩
  repeat' ((conv => whnf); first | with_reducible refine zol ?_ | ((with_reducible refine fk (fun hc => ?_) fun hc => ?_) <;> first | exact absurd hc (by decide) | (exfalso; simp only [*, reduceCtorEq] at hc; done) | skip) | ((with_reducible apply And.intro); focus (first | rfl | exact znb rfl | omega | (simp only [zlc, zln, zlm, zla]; omega))))
  · skip
    have hlt : k < l.length := by simpa using hc
    refine ⟨_, rowK _ _ _ hlt, ?_⟩
    repeat' ((conv => whnf); first | with_reducible refine zol ?_ | ((with_reducible refine fk (fun hc => ?_) fun hc => ?_) <;> first | exact absurd hc (by decide) | (exfalso; simp only [*, reduceCtorEq] at hc; done) | skip) | (refine zll ?_; (conv => whnf); refine ⟨_, hp _ (List.getElem_mem hlt), ?_⟩) | ((with_reducible apply And.intro); focus (first | rfl | exact znb rfl | omega | (simp only [zlc, zln, zlm, zla]; omega))))
    · skip
      repeat' first | (with_reducible first | exact ⟨⟩ | exact rfl | exact lr _) | ((conv => whnf); with_reducible first | apply And.intro | exact ⟨⟩) | exact rfl | exact fun h => h | exact lr _
      all_goals try (conv => whnf)
      exact (ixP_at _ hlt hn hc).symm
    · skip
      repeat' ((conv => whnf); first | with_reducible refine zol ?_ | ((with_reducible refine fk (fun hc => ?_) fun hc => ?_) <;> first | exact absurd hc (by decide) | (exfalso; simp only [*, reduceCtorEq] at hc; done) | skip) | ((with_reducible apply And.intro); focus (first | rfl | exact znb rfl | omega | (simp only [zlc, zln, zlm, zla]; omega))))
      refine ⟨⟨k + 1, hlt, step_lt hn fun _ => hc⟩, dec_lt hlt, ent_of ?_⟩
      repeat' first | (with_reducible first | exact ⟨⟩ | exact rfl | exact lr _) | ((conv => whnf); with_reducible first | apply And.intro | exact ⟨⟩) | exact rfl | exact fun h => h | exact lr _
      all_goals try (conv => whnf)
      exact wrapI (by omega) (by omega)
  · skip
    repeat' first | (with_reducible first | exact ⟨⟩ | exact rfl | exact lr _) | ((conv => whnf); with_reducible first | apply And.intro | exact ⟨⟩) | exact rfl | exact fun h => h | exact lr _
    all_goals try (conv => whnf)
    have : k = l.length := by simp at hc; omega
    subst this
    exact (ixP_none _ (all_of hn)).symm
theorem fn_containsFuncCursor : FnOk Tryz.prog 109 Tryz.f109 := ⟨Tryz.func109, by kernel_rfl, by kernel_rfl, by kernel_rfl⟩
theorem containsFuncCursor_c (l : List Cu) (f : FuncId) (first caps : List PV) (p : Cu → Bool) (hp : ∀ x ∈ l, PCx Tryz.prog f (first ++ ([.agg x.c] ++ caps)) (bl (p x))) :
    PCx Tryz.prog 109 [slK l, .fn (.func f) first caps] (bl (l.any p)) := by
  refine PC.le ?_
  refine PC_of_VC tabOk (draw_ok mixed tabOk) fn_containsFuncCursor rfl ?_
  repeat' ((conv => whnf); first | with_reducible refine zol ?_ | ((with_reducible refine fk (fun hc => ?_) fun hc => ?_) <;> first | exact absurd hc (by decide) | (exfalso; simp only [*, reduceCtorEq] at hc; done) | skip) | (refine zll ?_; (conv => whnf); refine ⟨_, indexFuncCursor_c _ _ _ _ _ hp, ?_⟩) | ((with_reducible apply And.intro); focus (first | rfl | exact znb rfl | omega | (simp only [zlc, zln, zlm, zla]; omega))))
  repeat' first | (with_reducible first | exact ⟨⟩ | exact rfl | exact lr _) | ((conv => whnf); with_reducible first | apply And.intro | exact ⟨⟩) | exact rfl | exact fun h => h | exact lr _
  all_goals try (conv => whnf)
  exact ixP_ge _ _
theorem fn_indexFuncPast : FnOk Tryz.prog 111 Tryz.f111 := ⟨Tryz.func111, by kernel_rfl, by kernel_rfl, by kernel_rfl⟩
theorem indexFuncPast_c (l : List Pa) (f : FuncId) (first caps : List PV) (p : Pa → Bool) (hp : ∀ x ∈ l, PCx Tryz.prog f (first ++ ([.agg x.c] ++ caps)) (bl (p x))) :
    PCx Tryz.prog 111 [slA l, .fn (.func f) first caps] (ii (ixP p l)) := by
  refine PC.le (PC_bd fn_indexFuncPast fun hb => ?_)
  have hb : l.length ≤ 9223372036854775807 := by simpa [bdL, bdP, slA] using hb
  refine PC_of_VC tabOk (draw_ok mixed tabOk) fn_indexFuncPast rfl ?_
  repeat' ((conv => whnf); first | with_reducible refine zol ?_ | ((with_reducible refine fk (fun hc => ?_) fun hc => ?_) <;> first | exact absurd hc (by decide) | (exfalso; simp only [*, reduceCtorEq] at hc; done) | skip) | ((with_reducible apply And.intro); focus (first | rfl | exact znb rfl | omega | (simp only [zlc, zln, zlm, zla]; omega))))
  refine ⟨{k : Nat // k ≤ l.length ∧ ∀ j (hj : j < l.length), j < k → p l[j] = false}, fun ⟨k, _⟩ => ⟨[(0, .pv (slA l)), (1, .pv (.fn (.func f) first caps)), (7, .pv (ii l.length)), (8, .pv (ii k))], 1000000000, []⟩, fun ⟨k, _⟩ => l.length - k, ⟨⟨0, by simp⟩, ent_of ?_⟩, ?_⟩
  · repeat' first
      | fail
      | with_reducible exact True.intro
      | with_reducible exact rfl
      | with_reducible exact leRs_refl _
      | ((conv => whnf); with_reducible apply And.intro)
      | ((conv => whnf); with_reducible exact True.intro)
      | exact rfl
      | exact fun h => h
      | exact leRs_refl _
    all_goals try (conv => whnf)
    simp
  rintro ⟨k, hk, hn⟩
  repeat' ((conv => whnf); first | with_reducible refine zol ?_ | ((with_reducible refine fk (fun hc => ?_) fun hc => ?_) <;> first | exact absurd hc (by decide) | (exfalso; simp only [*, reduceCtorEq] at hc; done) | skip) | ((with_reducible apply And.intro); focus (first | rfl | exact znb rfl | omega | (simp only [zlc, zln, zlm, zla]; omega))))
  · skip
    have hlt : k < l.length := by simpa using hc
    refine ⟨_, rowK _ _ _ hlt, ?_⟩
    repeat' ((conv => whnf); first | with_reducible refine zol ?_ | ((with_reducible refine fk (fun hc => ?_) fun hc => ?_) <;> first | exact absurd hc (by decide) | (exfalso; simp only [*, reduceCtorEq] at hc; done) | skip) | (refine zll ?_; (conv => whnf); refine ⟨_, hp _ (List.getElem_mem hlt), ?_⟩) | ((with_reducible apply And.intro); focus (first | rfl | exact znb rfl | omega | (simp only [zlc, zln, zlm, zla]; omega))))
    · skip
      repeat' first | (with_reducible first | exact ⟨⟩ | exact rfl | exact lr _) | ((conv => whnf); with_reducible first | apply And.intro | exact ⟨⟩) | exact rfl | exact fun h => h | exact lr _
      all_goals try (conv => whnf)
      exact (ixP_at _ hlt hn hc).symm
    · skip
      repeat' ((conv => whnf); first | with_reducible refine zol ?_ | ((with_reducible refine fk (fun hc => ?_) fun hc => ?_) <;> first | exact absurd hc (by decide) | (exfalso; simp only [*, reduceCtorEq] at hc; done) | skip) | ((with_reducible apply And.intro); focus (first | rfl | exact znb rfl | omega | (simp only [zlc, zln, zlm, zla]; omega))))
      refine ⟨⟨k + 1, hlt, step_lt hn fun _ => hc⟩, dec_lt hlt, ent_of ?_⟩
      repeat' first | (with_reducible first | exact ⟨⟩ | exact rfl | exact lr _) | ((conv => whnf); with_reducible first | apply And.intro | exact ⟨⟩) | exact rfl | exact fun h => h | exact lr _
      all_goals try (conv => whnf)
      exact wrapI (by omega) (by omega)
  · skip
    repeat' first | (with_reducible first | exact ⟨⟩ | exact rfl | exact lr _) | ((conv => whnf); with_reducible first | apply And.intro | exact ⟨⟩) | exact rfl | exact fun h => h | exact lr _
    all_goals try (conv => whnf)
    have : k = l.length := by simp at hc; omega
    subst this
    exact (ixP_none _ (all_of hn)).symm
theorem fn_containsFuncPast : FnOk Tryz.prog 72 Tryz.f72 := ⟨Tryz.func72, by kernel_rfl, by kernel_rfl, by kernel_rfl⟩
theorem containsFuncPast_c (l : List Pa) (f : FuncId) (first caps : List PV) (p : Pa → Bool) (hp : ∀ x ∈ l, PCx Tryz.prog f (first ++ ([.agg x.c] ++ caps)) (bl (p x))) :
    PCx Tryz.prog 72 [slA l, .fn (.func f) first caps] (bl (l.any p)) := by
  refine PC.le ?_
  refine PC_of_VC tabOk (draw_ok mixed tabOk) fn_containsFuncPast rfl ?_
  repeat' ((conv => whnf); first | with_reducible refine zol ?_ | ((with_reducible refine fk (fun hc => ?_) fun hc => ?_) <;> first | exact absurd hc (by decide) | (exfalso; simp only [*, reduceCtorEq] at hc; done) | skip) | (refine zll ?_; (conv => whnf); refine ⟨_, indexFuncPast_c _ _ _ _ _ hp, ?_⟩) | ((with_reducible apply And.intro); focus (first | rfl | exact znb rfl | omega | (simp only [zlc, zln, zlm, zla]; omega))))
  repeat' first | (with_reducible first | exact ⟨⟩ | exact rfl | exact lr _) | ((conv => whnf); with_reducible first | apply And.intro | exact ⟨⟩) | exact rfl | exact fun h => h | exact lr _
  all_goals try (conv => whnf)
  exact ixP_ge _ _
theorem fn_indexFuncU : FnOk Tryz.prog 89 Tryz.f89 := ⟨Tryz.func89, by kernel_rfl, by kernel_rfl, by kernel_rfl⟩
theorem indexFuncU_c (l : List Int) (f : FuncId) (first caps : List PV) (p : Int → Bool) (hp : ∀ x ∈ l, PCx Tryz.prog f (first ++ ([uu x] ++ caps)) (bl (p x))) :
    PCx Tryz.prog 89 [slU l, .fn (.func f) first caps] (ii (ixP p l)) := by
  refine PC.le (PC_bd fn_indexFuncU fun hb => ?_)
  have hb : l.length ≤ 9223372036854775807 := by simpa [bdL, bdP, slU] using hb
  refine PC_of_VC tabOk (draw_ok mixed tabOk) fn_indexFuncU rfl ?_
  repeat' ((conv => whnf); first | with_reducible refine zol ?_ | ((with_reducible refine fk (fun hc => ?_) fun hc => ?_) <;> first | exact absurd hc (by decide) | (exfalso; simp only [*, reduceCtorEq] at hc; done) | skip) | ((with_reducible apply And.intro); focus (first | rfl | exact znb rfl | omega | (simp only [zlc, zln, zlm, zla]; omega))))
  refine ⟨{k : Nat // k ≤ l.length ∧ ∀ j (hj : j < l.length), j < k → p l[j] = false}, fun ⟨k, _⟩ => ⟨[(0, .pv (slU l)), (1, .pv (.fn (.func f) first caps)), (7, .pv (ii l.length)), (8, .pv (ii k))], 1000000000, []⟩, fun ⟨k, _⟩ => l.length - k, ⟨⟨0, by simp⟩, ent_of ?_⟩, ?_⟩
  · repeat' first
      | fail
      | with_reducible exact True.intro
      | with_reducible exact rfl
      | with_reducible exact leRs_refl _
      | ((conv => whnf); with_reducible apply And.intro)
      | ((conv => whnf); with_reducible exact True.intro)
      | exact rfl
      | exact fun h => h
      | exact leRs_refl _
    all_goals try (conv => whnf)
    simp
  rintro ⟨k, hk, hn⟩
  repeat' ((conv => whnf); first | with_reducible refine zol ?_ | ((with_reducible refine fk (fun hc => ?_) fun hc => ?_) <;> first | exact absurd hc (by decide) | (exfalso; simp only [*, reduceCtorEq] at hc; done) | skip) | ((with_reducible apply And.intro); focus (first | rfl | exact znb rfl | omega | (simp only [zlc, zln, zlm, zla]; omega))))
  · skip
    have hlt : k < l.length := by simpa using hc
    refine ⟨_, rowK _ _ _ hlt, ?_⟩
    repeat' ((conv => whnf); first | with_reducible refine zol ?_ | ((with_reducible refine fk (fun hc => ?_) fun hc => ?_) <;> first | exact absurd hc (by decide) | (exfalso; simp only [*, reduceCtorEq] at hc; done) | skip) | (refine zll ?_; (conv => whnf); refine ⟨_, hp _ (List.getElem_mem hlt), ?_⟩) | ((with_reducible apply And.intro); focus (first | rfl | exact znb rfl | omega | (simp only [zlc, zln, zlm, zla]; omega))))
    · skip
      repeat' first | (with_reducible first | exact ⟨⟩ | exact rfl | exact lr _) | ((conv => whnf); with_reducible first | apply And.intro | exact ⟨⟩) | exact rfl | exact fun h => h | exact lr _
      all_goals try (conv => whnf)
      exact (ixP_at _ hlt hn hc).symm
    · skip
      repeat' ((conv => whnf); first | with_reducible refine zol ?_ | ((with_reducible refine fk (fun hc => ?_) fun hc => ?_) <;> first | exact absurd hc (by decide) | (exfalso; simp only [*, reduceCtorEq] at hc; done) | skip) | ((with_reducible apply And.intro); focus (first | rfl | exact znb rfl | omega | (simp only [zlc, zln, zlm, zla]; omega))))
      refine ⟨⟨k + 1, hlt, step_lt hn fun _ => hc⟩, dec_lt hlt, ent_of ?_⟩
      repeat' first | (with_reducible first | exact ⟨⟩ | exact rfl | exact lr _) | ((conv => whnf); with_reducible first | apply And.intro | exact ⟨⟩) | exact rfl | exact fun h => h | exact lr _
      all_goals try (conv => whnf)
      exact wrapI (by omega) (by omega)
  · skip
    repeat' first | (with_reducible first | exact ⟨⟩ | exact rfl | exact lr _) | ((conv => whnf); with_reducible first | apply And.intro | exact ⟨⟩) | exact rfl | exact fun h => h | exact lr _
    all_goals try (conv => whnf)
    have : k = l.length := by simp at hc; omega
    subst this
    exact (ixP_none _ (all_of hn)).symm
theorem fn_containsFuncU : FnOk Tryz.prog 56 Tryz.f56 := ⟨Tryz.func56, by kernel_rfl, by kernel_rfl, by kernel_rfl⟩
theorem containsFuncU_c (l : List Int) (f : FuncId) (first caps : List PV) (p : Int → Bool) (hp : ∀ x ∈ l, PCx Tryz.prog f (first ++ ([uu x] ++ caps)) (bl (p x))) :
    PCx Tryz.prog 56 [slU l, .fn (.func f) first caps] (bl (l.any p)) := by
  refine PC.le ?_
  refine PC_of_VC tabOk (draw_ok mixed tabOk) fn_containsFuncU rfl ?_
  repeat' ((conv => whnf); first | with_reducible refine zol ?_ | ((with_reducible refine fk (fun hc => ?_) fun hc => ?_) <;> first | exact absurd hc (by decide) | (exfalso; simp only [*, reduceCtorEq] at hc; done) | skip) | (refine zll ?_; (conv => whnf); refine ⟨_, indexFuncU_c _ _ _ _ _ hp, ?_⟩) | ((with_reducible apply And.intro); focus (first | rfl | exact znb rfl | omega | (simp only [zlc, zln, zlm, zla]; omega))))
  repeat' first | (with_reducible first | exact ⟨⟩ | exact rfl | exact lr _) | ((conv => whnf); with_reducible first | apply And.intro | exact ⟨⟩) | exact rfl | exact fun h => h | exact lr _
  all_goals try (conv => whnf)
  exact ixP_ge _ _
theorem fn_clonePlace : FnOk Tryz.prog 124 Tryz.f124 := ⟨Tryz.func124, by kernel_rfl, by kernel_rfl, by kernel_rfl⟩
theorem clonePlace_g (l : List Pl) (h : l.length * 16 ≤ 140737488355328) : GCx Tryz.prog 124 [.pv (slP l)] [] (.slw 1001 0) [(1001, .arr 112 0 2 (l.map Pl.c))] := by
  refine GC_nn [] ?_ fun h0 => ?_
  all_goals
    refine GC_of_VC tabOk (draw_ok mixed tabOk) fn_clonePlace rfl ?_
    repeat' ((conv => whnf); first | with_reducible refine zol ?_ | ((with_reducible refine fk (fun hc => ?_) fun hc => ?_) <;> first | exact absurd hc (by decide) | (exfalso; simp only [*, reduceCtorEq] at hc; done) | skip) | ((with_reducible apply And.intro); focus (first | rfl | exact znb rfl | omega | (simp only [zlc, zln, zlm, zla]; omega))))
    refine ⟨_, _, ⟨rfl, rfl⟩, ?_⟩
    repeat' first | (with_reducible first | exact ⟨⟩ | exact rfl | exact lr _) | ((conv => whnf); with_reducible first | apply And.intro | exact ⟨⟩) | exact rfl | exact fun h => h | exact lr _
    all_goals try (conv => whnf)
  exact h0
theorem clonePlace_c (l : List Pl) (h : l.length * 16 ≤ 140737488355328) : PCx Tryz.prog 124 [slP l] (slP l) := by
  refine PC.le (PC_nn [] ?_ fun h0 => ?_)
  all_goals
    refine PC_of_VC tabOk (draw_ok mixed tabOk) fn_clonePlace rfl ?_
    repeat' ((conv => whnf); first | with_reducible refine zol ?_ | ((with_reducible refine fk (fun hc => ?_) fun hc => ?_) <;> first | exact absurd hc (by decide) | (exfalso; simp only [*, reduceCtorEq] at hc; done) | skip) | ((with_reducible apply And.intro); focus (first | rfl | exact znb rfl | omega | (simp only [zlc, zln, zlm, zla]; omega))))
    repeat' first | (with_reducible first | exact ⟨⟩ | exact rfl | exact lr _) | ((conv => whnf); with_reducible first | apply And.intro | exact ⟨⟩) | exact rfl | exact fun h => h | exact lr _
    all_goals try (conv => whnf)
  exact h0
theorem fn_cloneMark : FnOk Tryz.prog 99 Tryz.f99 := ⟨Tryz.func99, by kernel_rfl, by kernel_rfl, by kernel_rfl⟩
theorem cloneMark_g (l : List Mk) (h : l.length * 24 ≤ 140737488355328) : GCx Tryz.prog 99 [.pv (slM l)] [] (.slw 1001 0) [(1001, .arr 135 0 3 (l.map Mk.c))] := by
  refine GC_nn [] ?_ fun h0 => ?_
  all_goals
    refine GC_of_VC tabOk (draw_ok mixed tabOk) fn_cloneMark rfl ?_
    repeat' ((conv => whnf); first | with_reducible refine zol ?_ | ((with_reducible refine fk (fun hc => ?_) fun hc => ?_) <;> first | exact absurd hc (by decide) | (exfalso; simp only [*, reduceCtorEq] at hc; done) | skip) | ((with_reducible apply And.intro); focus (first | rfl | exact znb rfl | omega | (simp only [zlc, zln, zlm, zla]; omega))))
    refine ⟨_, _, ⟨rfl, rfl⟩, ?_⟩
    repeat' first | (with_reducible first | exact ⟨⟩ | exact rfl | exact lr _) | ((conv => whnf); with_reducible first | apply And.intro | exact ⟨⟩) | exact rfl | exact fun h => h | exact lr _
    all_goals try (conv => whnf)
  exact h0
end Go.Proofs.YtgblabmhgdiicaaGreat.Tb
