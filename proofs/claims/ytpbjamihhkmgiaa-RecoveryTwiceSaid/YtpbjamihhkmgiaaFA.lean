/-
  Contracts of functions of the program and of the document, each for every input that its premises name.
-/
import Derived.Test.YtpbjamihhkmgiaaTab
import Derived.Test.YtpbjamihhkmgiaaAd
set_option linter.unusedSectionVars false
set_option maxRecDepth 100000
set_option linter.unusedVariables false
set_option linter.unusedSimpArgs false
open Go Go.AX
namespace Go.Proofs.Ytpbjamihhkmgiaa.Tb
theorem mixed : Try.prog.follows .mixedOrders = true := by kernel_rfl
theorem fn_indexPlace : FnOk Try.prog 36 Try.f36 := ⟨Try.func36, by kernel_rfl, by kernel_rfl, by kernel_rfl⟩
theorem indexPlace_c (l : List Pl) (a b : Int) : PCx Try.prog 36 [slP l, .agg [ii a, uu b]] (ii (ixP (fun y => y == ⟨a, b⟩) l)) := by
  refine PC.le (PC_bd fn_indexPlace fun hb => ?_)
  have hb : l.length ≤ 9223372036854775807 := by simpa [bdL, bdP, slP] using hb
  refine PC_of_VC tabOk (draw_ok mixed tabOk) fn_indexPlace rfl ?_
  repeat' ((conv => whnf); first | with_reducible refine (Or.inl ?_ : VC _ _ _ _ _ ∨ _) | ((with_reducible refine (⟨fun h => ?_, fun h => ?_⟩ : (_ = true → _) ∧ (_ = false → _))) <;> first | exact absurd h (by decide) | (exfalso; simp only [*, reduceCtorEq] at h; done) | skip) | ((with_reducible apply And.intro); focus (first | rfl | exact Nat.le_of_ble_eq_true rfl | omega | (simp only [List.length_cons, List.length_nil, List.length_map, List.length_append]; omega))))
  refine ⟨{k : Nat // k ≤ l.length ∧ ∀ j (hj : j < l.length), j < k → (l[j] == ⟨a, b⟩) = false}, fun ⟨k, _⟩ => ⟨[(0, .pv (slP l)), (3, .ptr 1003 0), (7, .pv (ii l.length)), (8, .pv (ii k))], 1000000000, [(1003, .var [.pv (ii a), .pv (uu b)])]⟩, fun ⟨k, _⟩ => l.length - k, ⟨⟨0, by simp⟩, ent_of ?_⟩, ?_⟩
  · repeat' first
      | fail
      | with_reducible exact True.intro
      | with_reducible exact rfl
      | with_reducible exact leRs_refl _
      | ((conv => whnf); with_reducible apply And.intro)
      | ((conv => whnf); with_reducible exact True.intro)
      | exact rfl
      | exact id
      | exact leRs_refl _
    all_goals try (conv => whnf)
    simp
  rintro ⟨k, hk, hn⟩
  repeat' ((conv => whnf); first | with_reducible refine (Or.inl ?_ : VC _ _ _ _ _ ∨ _) | ((with_reducible refine (⟨fun h => ?_, fun h => ?_⟩ : (_ = true → _) ∧ (_ = false → _))) <;> first | exact absurd h (by decide) | (exfalso; simp only [*, reduceCtorEq] at h; done) | skip) | ((with_reducible apply And.intro); focus (first | rfl | exact Nat.le_of_ble_eq_true rfl | omega | (simp only [List.length_cons, List.length_nil, List.length_map, List.length_append]; omega))))
  · rename_i h
    have hlt : k < l.length := by simpa using h
    refine ⟨_, rowK _ _ _ hlt, ?_⟩
    repeat' ((conv => whnf); first | with_reducible refine (Or.inl ?_ : VC _ _ _ _ _ ∨ _) | ((with_reducible refine (⟨fun h => ?_, fun h => ?_⟩ : (_ = true → _) ∧ (_ = false → _))) <;> first | exact absurd h (by decide) | (exfalso; simp only [*, reduceCtorEq] at h; done) | skip) | ((with_reducible apply And.intro); focus (first | rfl | exact Nat.le_of_ble_eq_true rfl | omega | (simp only [List.length_cons, List.length_nil, List.length_map, List.length_append]; omega))))
    · rename_i h2 h
      repeat' first | (with_reducible first | exact ⟨⟩ | exact rfl | exact lr _) | ((conv => whnf); with_reducible first | apply And.intro | exact ⟨⟩) | exact rfl | exact id | exact lr _
      all_goals try (conv => whnf)
      exact (ixP_at _ hlt hn (by rw [← Pl.beqr]; exact h)).symm
    · rename_i h2 h
      repeat' ((conv => whnf); first | with_reducible refine (Or.inl ?_ : VC _ _ _ _ _ ∨ _) | ((with_reducible refine (⟨fun h => ?_, fun h => ?_⟩ : (_ = true → _) ∧ (_ = false → _))) <;> first | exact absurd h (by decide) | (exfalso; simp only [*, reduceCtorEq] at h; done) | skip) | ((with_reducible apply And.intro); focus (first | rfl | exact Nat.le_of_ble_eq_true rfl | omega | (simp only [List.length_cons, List.length_nil, List.length_map, List.length_append]; omega))))
      refine ⟨⟨k + 1, hlt, step_lt hn fun _ => (by rw [← Pl.beqr]; exact h)⟩, dec_lt hlt, ent_of ?_⟩
      repeat' first | (with_reducible first | exact ⟨⟩ | exact rfl | exact lr _) | ((conv => whnf); with_reducible first | apply And.intro | exact ⟨⟩) | exact rfl | exact id | exact lr _
      all_goals try (conv => whnf)
      exact wrapI (by omega) (by omega)
  · rename_i h
    repeat' first | (with_reducible first | exact ⟨⟩ | exact rfl | exact lr _) | ((conv => whnf); with_reducible first | apply And.intro | exact ⟨⟩) | exact rfl | exact id | exact lr _
    all_goals try (conv => whnf)
    have : k = l.length := by simp at h; omega
    subst this
    exact (ixP_none _ (all_of hn)).symm
theorem fn_containsPlace : FnOk Try.prog 19 Try.f19 := ⟨Try.func19, by kernel_rfl, by kernel_rfl, by kernel_rfl⟩
theorem containsPlace_c (l : List Pl) (a b : Int) : PCx Try.prog 19 [slP l, .agg [ii a, uu b]] (bl (l.any (fun y => y == ⟨a, b⟩))) := by
  refine PC.le ?_
  refine PC_of_VC tabOk (draw_ok mixed tabOk) fn_containsPlace rfl ?_
  repeat' ((conv => whnf); first | with_reducible refine (Or.inl ?_ : VC _ _ _ _ _ ∨ _) | ((with_reducible refine (⟨fun h => ?_, fun h => ?_⟩ : (_ = true → _) ∧ (_ = false → _))) <;> first | exact absurd h (by decide) | (exfalso; simp only [*, reduceCtorEq] at h; done) | skip) | (refine Or.inl (Or.inl ?_); (conv => whnf); refine ⟨_, indexPlace_c _ _ _, ?_⟩) | ((with_reducible apply And.intro); focus (first | rfl | exact Nat.le_of_ble_eq_true rfl | omega | (simp only [List.length_cons, List.length_nil, List.length_map, List.length_append]; omega))))
  repeat' first | (with_reducible first | exact ⟨⟩ | exact rfl | exact lr _) | ((conv => whnf); with_reducible first | apply And.intro | exact ⟨⟩) | exact rfl | exact id | exact lr _
  all_goals try (conv => whnf)
  exact ixP_ge _ _
theorem fn_indexFuncPlace : FnOk Try.prog 75 Try.f75 := ⟨Try.func75, by kernel_rfl, by kernel_rfl, by kernel_rfl⟩
theorem indexFuncPlace_c (l : List Pl) (f : FuncId) (first caps : List PV) (p : Pl → Bool) (hp : ∀ x ∈ l, PCx Try.prog f (first ++ ([.agg x.c] ++ caps)) (bl (p x))) :
    PCx Try.prog 75 [slP l, .fn (.func f) first caps] (ii (ixP p l)) := by
  refine PC.le (PC_bd fn_indexFuncPlace fun hb => ?_)
  have hb : l.length ≤ 9223372036854775807 := by simpa [bdL, bdP, slP] using hb
  refine PC_of_VC tabOk (draw_ok mixed tabOk) fn_indexFuncPlace rfl ?_
  repeat' ((conv => whnf); first | with_reducible refine (Or.inl ?_ : VC _ _ _ _ _ ∨ _) | ((with_reducible refine (⟨fun h => ?_, fun h => ?_⟩ : (_ = true → _) ∧ (_ = false → _))) <;> first | exact absurd h (by decide) | (exfalso; simp only [*, reduceCtorEq] at h; done) | skip) | ((with_reducible apply And.intro); focus (first | rfl | exact Nat.le_of_ble_eq_true rfl | omega | (simp only [List.length_cons, List.length_nil, List.length_map, List.length_append]; omega))))
  refine ⟨{k : Nat // k ≤ l.length ∧ ∀ j (hj : j < l.length), j < k → p l[j] = false}, fun ⟨k, _⟩ => ⟨[(0, .pv (slP l)), (1, .pv (.fn (.func f) first caps)), (7, .pv (ii l.length)), (8, .pv (ii k))], 1000000000, []⟩, fun ⟨k, _⟩ => l.length - k, ⟨⟨0, by simp⟩, ent_of ?_⟩, ?_⟩
  · repeat' first
      | fail
      | with_reducible exact True.intro
      | with_reducible exact rfl
      | with_reducible exact leRs_refl _
      | ((conv => whnf); with_reducible apply And.intro)
      | ((conv => whnf); with_reducible exact True.intro)
      | exact rfl
      | exact id
      | exact leRs_refl _
    all_goals try (conv => whnf)
    simp
  rintro ⟨k, hk, hn⟩
  repeat' ((conv => whnf); first | with_reducible refine (Or.inl ?_ : VC _ _ _ _ _ ∨ _) | ((with_reducible refine (⟨fun h => ?_, fun h => ?_⟩ : (_ = true → _) ∧ (_ = false → _))) <;> first | exact absurd h (by decide) | (exfalso; simp only [*, reduceCtorEq] at h; done) | skip) | ((with_reducible apply And.intro); focus (first | rfl | exact Nat.le_of_ble_eq_true rfl | omega | (simp only [List.length_cons, List.length_nil, List.length_map, List.length_append]; omega))))
  · rename_i h
    have hlt : k < l.length := by simpa using h
    refine ⟨_, rowK _ _ _ hlt, ?_⟩
    repeat' ((conv => whnf); first | with_reducible refine (Or.inl ?_ : VC _ _ _ _ _ ∨ _) | ((with_reducible refine (⟨fun h => ?_, fun h => ?_⟩ : (_ = true → _) ∧ (_ = false → _))) <;> first | exact absurd h (by decide) | (exfalso; simp only [*, reduceCtorEq] at h; done) | skip) | (refine Or.inl (Or.inl ?_); (conv => whnf); refine ⟨_, hp _ (List.getElem_mem hlt), ?_⟩) | ((with_reducible apply And.intro); focus (first | rfl | exact Nat.le_of_ble_eq_true rfl | omega | (simp only [List.length_cons, List.length_nil, List.length_map, List.length_append]; omega))))
    · rename_i h2 h
      repeat' first | (with_reducible first | exact ⟨⟩ | exact rfl | exact lr _) | ((conv => whnf); with_reducible first | apply And.intro | exact ⟨⟩) | exact rfl | exact id | exact lr _
      all_goals try (conv => whnf)
      exact (ixP_at _ hlt hn h).symm
    · rename_i h2 h
      repeat' ((conv => whnf); first | with_reducible refine (Or.inl ?_ : VC _ _ _ _ _ ∨ _) | ((with_reducible refine (⟨fun h => ?_, fun h => ?_⟩ : (_ = true → _) ∧ (_ = false → _))) <;> first | exact absurd h (by decide) | (exfalso; simp only [*, reduceCtorEq] at h; done) | skip) | ((with_reducible apply And.intro); focus (first | rfl | exact Nat.le_of_ble_eq_true rfl | omega | (simp only [List.length_cons, List.length_nil, List.length_map, List.length_append]; omega))))
      refine ⟨⟨k + 1, hlt, step_lt hn fun _ => h⟩, dec_lt hlt, ent_of ?_⟩
      repeat' first | (with_reducible first | exact ⟨⟩ | exact rfl | exact lr _) | ((conv => whnf); with_reducible first | apply And.intro | exact ⟨⟩) | exact rfl | exact id | exact lr _
      all_goals try (conv => whnf)
      exact wrapI (by omega) (by omega)
  · rename_i h
    repeat' first | (with_reducible first | exact ⟨⟩ | exact rfl | exact lr _) | ((conv => whnf); with_reducible first | apply And.intro | exact ⟨⟩) | exact rfl | exact id | exact lr _
    all_goals try (conv => whnf)
    have : k = l.length := by simp at h; omega
    subst this
    exact (ixP_none _ (all_of hn)).symm
theorem fn_containsFuncPlace : FnOk Try.prog 62 Try.f62 := ⟨Try.func62, by kernel_rfl, by kernel_rfl, by kernel_rfl⟩
theorem containsFuncPlace_c (l : List Pl) (f : FuncId) (first caps : List PV) (p : Pl → Bool) (hp : ∀ x ∈ l, PCx Try.prog f (first ++ ([.agg x.c] ++ caps)) (bl (p x))) :
    PCx Try.prog 62 [slP l, .fn (.func f) first caps] (bl (l.any p)) := by
  refine PC.le ?_
  refine PC_of_VC tabOk (draw_ok mixed tabOk) fn_containsFuncPlace rfl ?_
  repeat' ((conv => whnf); first | with_reducible refine (Or.inl ?_ : VC _ _ _ _ _ ∨ _) | ((with_reducible refine (⟨fun h => ?_, fun h => ?_⟩ : (_ = true → _) ∧ (_ = false → _))) <;> first | exact absurd h (by decide) | (exfalso; simp only [*, reduceCtorEq] at h; done) | skip) | (refine Or.inl (Or.inl ?_); (conv => whnf); refine ⟨_, indexFuncPlace_c _ _ _ _ _ hp, ?_⟩) | ((with_reducible apply And.intro); focus (first | rfl | exact Nat.le_of_ble_eq_true rfl | omega | (simp only [List.length_cons, List.length_nil, List.length_map, List.length_append]; omega))))
  repeat' first | (with_reducible first | exact ⟨⟩ | exact rfl | exact lr _) | ((conv => whnf); with_reducible first | apply And.intro | exact ⟨⟩) | exact rfl | exact id | exact lr _
  all_goals try (conv => whnf)
  exact ixP_ge _ _
theorem fn_indexFuncFrag : FnOk Try.prog 78 Try.f78 := ⟨Try.func78, by kernel_rfl, by kernel_rfl, by kernel_rfl⟩
theorem indexFuncFrag_c (l : List Fr) (f : FuncId) (first caps : List PV) (p : Fr → Bool) (hp : ∀ x ∈ l, PCx Try.prog f (first ++ ([.agg x.c] ++ caps)) (bl (p x))) :
    PCx Try.prog 78 [slF l, .fn (.func f) first caps] (ii (ixP p l)) := by
  refine PC.le (PC_bd fn_indexFuncFrag fun hb => ?_)
  have hb : l.length ≤ 9223372036854775807 := by simpa [bdL, bdP, slF] using hb
  refine PC_of_VC tabOk (draw_ok mixed tabOk) fn_indexFuncFrag rfl ?_
  repeat' ((conv => whnf); first | with_reducible refine (Or.inl ?_ : VC _ _ _ _ _ ∨ _) | ((with_reducible refine (⟨fun h => ?_, fun h => ?_⟩ : (_ = true → _) ∧ (_ = false → _))) <;> first | exact absurd h (by decide) | (exfalso; simp only [*, reduceCtorEq] at h; done) | skip) | ((with_reducible apply And.intro); focus (first | rfl | exact Nat.le_of_ble_eq_true rfl | omega | (simp only [List.length_cons, List.length_nil, List.length_map, List.length_append]; omega))))
  refine ⟨{k : Nat // k ≤ l.length ∧ ∀ j (hj : j < l.length), j < k → p l[j] = false}, fun ⟨k, _⟩ => ⟨[(0, .pv (slF l)), (1, .pv (.fn (.func f) first caps)), (7, .pv (ii l.length)), (8, .pv (ii k))], 1000000000, []⟩, fun ⟨k, _⟩ => l.length - k, ⟨⟨0, by simp⟩, ent_of ?_⟩, ?_⟩
  · repeat' first
      | fail
      | with_reducible exact True.intro
      | with_reducible exact rfl
      | with_reducible exact leRs_refl _
      | ((conv => whnf); with_reducible apply And.intro)
      | ((conv => whnf); with_reducible exact True.intro)
      | exact rfl
      | exact id
      | exact leRs_refl _
    all_goals try (conv => whnf)
    simp
  rintro ⟨k, hk, hn⟩
  repeat' ((conv => whnf); first | with_reducible refine (Or.inl ?_ : VC _ _ _ _ _ ∨ _) | ((with_reducible refine (⟨fun h => ?_, fun h => ?_⟩ : (_ = true → _) ∧ (_ = false → _))) <;> first | exact absurd h (by decide) | (exfalso; simp only [*, reduceCtorEq] at h; done) | skip) | ((with_reducible apply And.intro); focus (first | rfl | exact Nat.le_of_ble_eq_true rfl | omega | (simp only [List.length_cons, List.length_nil, List.length_map, List.length_append]; omega))))
  · rename_i h
    have hlt : k < l.length := by simpa using h
    refine ⟨_, rowK _ _ _ hlt, ?_⟩
    repeat' ((conv => whnf); first | with_reducible refine (Or.inl ?_ : VC _ _ _ _ _ ∨ _) | ((with_reducible refine (⟨fun h => ?_, fun h => ?_⟩ : (_ = true → _) ∧ (_ = false → _))) <;> first | exact absurd h (by decide) | (exfalso; simp only [*, reduceCtorEq] at h; done) | skip) | (refine Or.inl (Or.inl ?_); (conv => whnf); refine ⟨_, hp _ (List.getElem_mem hlt), ?_⟩) | ((with_reducible apply And.intro); focus (first | rfl | exact Nat.le_of_ble_eq_true rfl | omega | (simp only [List.length_cons, List.length_nil, List.length_map, List.length_append]; omega))))
    · rename_i h2 h
      repeat' first | (with_reducible first | exact ⟨⟩ | exact rfl | exact lr _) | ((conv => whnf); with_reducible first | apply And.intro | exact ⟨⟩) | exact rfl | exact id | exact lr _
      all_goals try (conv => whnf)
      exact (ixP_at _ hlt hn h).symm
    · rename_i h2 h
      repeat' ((conv => whnf); first | with_reducible refine (Or.inl ?_ : VC _ _ _ _ _ ∨ _) | ((with_reducible refine (⟨fun h => ?_, fun h => ?_⟩ : (_ = true → _) ∧ (_ = false → _))) <;> first | exact absurd h (by decide) | (exfalso; simp only [*, reduceCtorEq] at h; done) | skip) | ((with_reducible apply And.intro); focus (first | rfl | exact Nat.le_of_ble_eq_true rfl | omega | (simp only [List.length_cons, List.length_nil, List.length_map, List.length_append]; omega))))
      refine ⟨⟨k + 1, hlt, step_lt hn fun _ => h⟩, dec_lt hlt, ent_of ?_⟩
      repeat' first | (with_reducible first | exact ⟨⟩ | exact rfl | exact lr _) | ((conv => whnf); with_reducible first | apply And.intro | exact ⟨⟩) | exact rfl | exact id | exact lr _
      all_goals try (conv => whnf)
      exact wrapI (by omega) (by omega)
  · rename_i h
    repeat' first | (with_reducible first | exact ⟨⟩ | exact rfl | exact lr _) | ((conv => whnf); with_reducible first | apply And.intro | exact ⟨⟩) | exact rfl | exact id | exact lr _
    all_goals try (conv => whnf)
    have : k = l.length := by simp at h; omega
    subst this
    exact (ixP_none _ (all_of hn)).symm
theorem fn_containsFuncFrag : FnOk Try.prog 66 Try.f66 := ⟨Try.func66, by kernel_rfl, by kernel_rfl, by kernel_rfl⟩
theorem containsFuncFrag_c (l : List Fr) (f : FuncId) (first caps : List PV) (p : Fr → Bool) (hp : ∀ x ∈ l, PCx Try.prog f (first ++ ([.agg x.c] ++ caps)) (bl (p x))) :
    PCx Try.prog 66 [slF l, .fn (.func f) first caps] (bl (l.any p)) := by
  refine PC.le ?_
  refine PC_of_VC tabOk (draw_ok mixed tabOk) fn_containsFuncFrag rfl ?_
  repeat' ((conv => whnf); first | with_reducible refine (Or.inl ?_ : VC _ _ _ _ _ ∨ _) | ((with_reducible refine (⟨fun h => ?_, fun h => ?_⟩ : (_ = true → _) ∧ (_ = false → _))) <;> first | exact absurd h (by decide) | (exfalso; simp only [*, reduceCtorEq] at h; done) | skip) | (refine Or.inl (Or.inl ?_); (conv => whnf); refine ⟨_, indexFuncFrag_c _ _ _ _ _ hp, ?_⟩) | ((with_reducible apply And.intro); focus (first | rfl | exact Nat.le_of_ble_eq_true rfl | omega | (simp only [List.length_cons, List.length_nil, List.length_map, List.length_append]; omega))))
  repeat' first | (with_reducible first | exact ⟨⟩ | exact rfl | exact lr _) | ((conv => whnf); with_reducible first | apply And.intro | exact ⟨⟩) | exact rfl | exact id | exact lr _
  all_goals try (conv => whnf)
  exact ixP_ge _ _
theorem fn_clonePlace : FnOk Try.prog 33 Try.f33 := ⟨Try.func33, by kernel_rfl, by kernel_rfl, by kernel_rfl⟩
theorem clonePlace_g (l : List Pl) (h : l.length * 16 ≤ 140737488355328) : GCx Try.prog 33 [.pv (slP l)] [] (.slw 1001 0) [(1001, .arr 38 0 2 (l.map Pl.c))] := by
  refine GC_nn [] ?_ fun h0 => ?_
  all_goals
    refine GC_of_VC tabOk (draw_ok mixed tabOk) fn_clonePlace rfl ?_
    repeat' ((conv => whnf); first | with_reducible refine (Or.inl ?_ : VC _ _ _ _ _ ∨ _) | ((with_reducible refine (⟨fun h => ?_, fun h => ?_⟩ : (_ = true → _) ∧ (_ = false → _))) <;> first | exact absurd h (by decide) | (exfalso; simp only [*, reduceCtorEq] at h; done) | skip) | ((with_reducible apply And.intro); focus (first | rfl | exact Nat.le_of_ble_eq_true rfl | omega | (simp only [List.length_cons, List.length_nil, List.length_map, List.length_append]; omega))))
    refine ⟨_, _, ⟨rfl, rfl⟩, ?_⟩
    repeat' first | (with_reducible first | exact ⟨⟩ | exact rfl | exact lr _) | ((conv => whnf); with_reducible first | apply And.intro | exact ⟨⟩) | exact rfl | exact id | exact lr _
    all_goals try (conv => whnf)
  exact h0
theorem clonePlace_c (l : List Pl) (h : l.length * 16 ≤ 140737488355328) : PCx Try.prog 33 [slP l] (slP l) := by
  refine PC.le (PC_nn [] ?_ fun h0 => ?_)
  all_goals
    refine PC_of_VC tabOk (draw_ok mixed tabOk) fn_clonePlace rfl ?_
    repeat' ((conv => whnf); first | with_reducible refine (Or.inl ?_ : VC _ _ _ _ _ ∨ _) | ((with_reducible refine (⟨fun h => ?_, fun h => ?_⟩ : (_ = true → _) ∧ (_ = false → _))) <;> first | exact absurd h (by decide) | (exfalso; simp only [*, reduceCtorEq] at h; done) | skip) | ((with_reducible apply And.intro); focus (first | rfl | exact Nat.le_of_ble_eq_true rfl | omega | (simp only [List.length_cons, List.length_nil, List.length_map, List.length_append]; omega))))
    repeat' first | (with_reducible first | exact ⟨⟩ | exact rfl | exact lr _) | ((conv => whnf); with_reducible first | apply And.intro | exact ⟨⟩) | exact rfl | exact id | exact lr _
    all_goals try (conv => whnf)
  exact h0
theorem fn_cloneByte : FnOk Try.prog 34 Try.f34 := ⟨Try.func34, by kernel_rfl, by kernel_rfl, by kernel_rfl⟩
theorem cloneByte_c (l : List UInt8) (h : l.length * 1 ≤ 140737488355328) : PCx Try.prog 34 [bys l] (bys l) := by
  refine PC.le (PC_nn [] ?_ fun h0 => ?_)
  all_goals
    refine PC_of_VC tabOk (draw_ok mixed tabOk) fn_cloneByte rfl ?_
    repeat' ((conv => whnf); first | with_reducible refine (Or.inl ?_ : VC _ _ _ _ _ ∨ _) | ((with_reducible refine (⟨fun h => ?_, fun h => ?_⟩ : (_ = true → _) ∧ (_ = false → _))) <;> first | exact absurd h (by decide) | (exfalso; simp only [*, reduceCtorEq] at h; done) | skip) | ((with_reducible apply And.intro); focus (first | rfl | exact Nat.le_of_ble_eq_true rfl | omega | (simp only [List.length_cons, List.length_nil, List.length_map, List.length_append]; omega))))
    repeat' first | (with_reducible first | exact ⟨⟩ | exact rfl | exact lr _) | ((conv => whnf); with_reducible first | apply And.intro | exact ⟨⟩) | exact rfl | exact id | exact lr _
    all_goals try (conv => whnf)
  exact h0
end Go.Proofs.Ytpbjamihhkmgiaa.Tb
