/-
  Contracts of functions of the program and of the document, each for every input that its premises name.
-/
import Derived.Test.YtpbjamihhkmgiaaFS
set_option linter.unusedSectionVars false
set_option maxRecDepth 100000
set_option linter.unusedVariables false
set_option linter.unusedSimpArgs false
open Go Go.AX
namespace Go.Proofs.Ytpbjamihhkmgiaa.Tb
theorem fn_fromU : FnOk Try.prog 30 Try.f30 := ⟨Try.func30, by kernel_rfl, by kernel_rfl, by kernel_rfl⟩
theorem fromU_c (n l m : Int) : PCx Try.prog 30 [uu n, uu l, uu m] (bl (fromZ n l m)) := by
  refine PC.le ?_
  refine PC_of_VC tabOk (draw_ok mixed tabOk) fn_fromU rfl ?_
  repeat' ((conv => whnf); first | with_reducible refine (Or.inl ?_ : VC _ _ _ _ _ ∨ _) | ((with_reducible refine fk (fun hc => ?_) fun hc => ?_) <;> first | exact absurd hc (by decide) | (exfalso; simp only [*, reduceCtorEq] at hc; done) | skip) | ((with_reducible apply And.intro); focus (first | rfl | exact Nat.le_of_ble_eq_true rfl | omega | (simp only [List.length_cons, List.length_nil, List.length_map, List.length_append]; omega))))
  all_goals
    repeat' first | (with_reducible first | exact ⟨⟩ | exact rfl | exact lr _) | ((conv => whnf); with_reducible first | apply And.intro | exact ⟨⟩) | exact rfl | exact id | exact lr _
    all_goals try (conv => whnf)
    simp_all [fromZ]
  omega
theorem fn_fromI : FnOk Try.prog 31 Try.f31 := ⟨Try.func31, by kernel_rfl, by kernel_rfl, by kernel_rfl⟩
theorem fromI_c (n l m : Int) : PCx Try.prog 31 [ii n, ii l, ii m] (bl (fromZ n l m)) := by
  refine PC.le ?_
  refine PC_of_VC tabOk (draw_ok mixed tabOk) fn_fromI rfl ?_
  repeat' ((conv => whnf); first | with_reducible refine (Or.inl ?_ : VC _ _ _ _ _ ∨ _) | ((with_reducible refine fk (fun hc => ?_) fun hc => ?_) <;> first | exact absurd hc (by decide) | (exfalso; simp only [*, reduceCtorEq] at hc; done) | skip) | ((with_reducible apply And.intro); focus (first | rfl | exact Nat.le_of_ble_eq_true rfl | omega | (simp only [List.length_cons, List.length_nil, List.length_map, List.length_append]; omega))))
  all_goals
    repeat' first | (with_reducible first | exact ⟨⟩ | exact rfl | exact lr _) | ((conv => whnf); with_reducible first | apply And.intro | exact ⟨⟩) | exact rfl | exact id | exact lr _
    all_goals try (conv => whnf)
    simp_all [fromZ]
  omega
theorem fn_place : FnOk Try.prog 72 Try.f72 := ⟨Try.func72, by kernel_rfl, by kernel_rfl, by kernel_rfl⟩
theorem place_c (a b : Int) : PCx Try.prog 72 [.agg [ii a, uu b]] (bl (mayPl ⟨a, b⟩)) := by
  refine PC.le ?_
  refine PC_of_VC tabOk (draw_ok mixed tabOk) fn_place rfl ?_
  repeat' ((conv => whnf); first | with_reducible refine (Or.inl ?_ : VC _ _ _ _ _ ∨ _) | ((with_reducible refine fk (fun hc => ?_) fun hc => ?_) <;> first | exact absurd hc (by decide) | (exfalso; simp only [*, reduceCtorEq] at hc; done) | skip) | (refine Or.inl (Or.inl ?_); (conv => whnf); refine ⟨_, fromI_c _ _ _, ?_⟩) | (refine Or.inl (Or.inl ?_); (conv => whnf); refine ⟨_, fromU_c _ _ _, ?_⟩) | ((with_reducible apply And.intro); focus (first | rfl | exact Nat.le_of_ble_eq_true rfl | omega | (simp only [List.length_cons, List.length_nil, List.length_map, List.length_append]; omega))))
  all_goals
    repeat' first | (with_reducible first | exact ⟨⟩ | exact rfl | exact lr _) | ((conv => whnf); with_reducible first | apply And.intro | exact ⟨⟩) | exact rfl | exact id | exact lr _
    all_goals try (conv => whnf)
    simp_all [mayPl]
theorem fn_all1Place : FnOk Try.prog 82 Try.f82 := ⟨Try.func82, by kernel_rfl, by kernel_rfl, by kernel_rfl⟩
theorem all1Place_c (x : Pl) (f : FuncId) (first caps : List PV) (p : Pl → Bool) (hp : PCx Try.prog f (first ++ ([.agg x.c] ++ caps)) (bl (p x))) :
    PCx Try.prog 82 ([] ++ ([.agg x.c] ++ [.eptr [.fn (.func f) first caps] 0])) (bl (!p x)) := by
  refine PC.le ?_
  refine PC_of_VC tabOk (draw_ok mixed tabOk) fn_all1Place rfl ?_
  repeat' ((conv => whnf); first | with_reducible refine (Or.inl ?_ : VC _ _ _ _ _ ∨ _) | ((with_reducible refine fk (fun hc => ?_) fun hc => ?_) <;> first | exact absurd hc (by decide) | (exfalso; simp only [*, reduceCtorEq] at hc; done) | skip) | (refine Or.inl (Or.inl ?_); (conv => whnf); refine ⟨_, hp, ?_⟩) | ((with_reducible apply And.intro); focus (first | rfl | exact Nat.le_of_ble_eq_true rfl | omega | (simp only [List.length_cons, List.length_nil, List.length_map, List.length_append]; omega))))
  repeat' first | (with_reducible first | exact ⟨⟩ | exact rfl | exact lr _) | ((conv => whnf); with_reducible first | apply And.intro | exact ⟨⟩) | exact rfl | exact id | exact lr _
  all_goals try (conv => whnf)
theorem fn_allPlace : FnOk Try.prog 71 Try.f71 := ⟨Try.func71, by kernel_rfl, by kernel_rfl, by kernel_rfl⟩
theorem allPlace_c (l : List Pl) (f : FuncId) (first caps : List PV) (p : Pl → Bool) (hp : ∀ x ∈ l, PCx Try.prog f (first ++ ([.agg x.c] ++ caps)) (bl (p x))) :
    PCx Try.prog 71 [slP l, .fn (.func f) first caps] (bl (l.all p)) := by
  refine PC.le ?_
  refine PC_of_VC tabOk (draw_ok mixed tabOk) fn_allPlace rfl ?_
  repeat' ((conv => whnf); first | with_reducible refine (Or.inl ?_ : VC _ _ _ _ _ ∨ _) | ((with_reducible refine fk (fun hc => ?_) fun hc => ?_) <;> first | exact absurd hc (by decide) | (exfalso; simp only [*, reduceCtorEq] at hc; done) | skip) | (refine Or.inl (Or.inl ?_); (conv => whnf); refine ⟨_, containsFuncPlace_c _ _ _ _ _ fun x hx => all1Place_c x _ _ _ p (hp x hx), ?_⟩) | ((with_reducible apply And.intro); focus (first | rfl | exact Nat.le_of_ble_eq_true rfl | omega | (simp only [List.length_cons, List.length_nil, List.length_map, List.length_append]; omega))))
  repeat' first | (with_reducible first | exact ⟨⟩ | exact rfl | exact lr _) | ((conv => whnf); with_reducible first | apply And.intro | exact ⟨⟩) | exact rfl | exact id | exact lr _
  all_goals try (conv => whnf)
  rw [List.not_any_eq_all_not]
  simp
theorem fn_all1Frag : FnOk Try.prog 67 Try.f67 := ⟨Try.func67, by kernel_rfl, by kernel_rfl, by kernel_rfl⟩
theorem all1Frag_c (x : Fr) (f : FuncId) (first caps : List PV) (p : Fr → Bool) (hp : PCx Try.prog f (first ++ ([.agg x.c] ++ caps)) (bl (p x))) :
    PCx Try.prog 67 ([] ++ ([.agg x.c] ++ [.eptr [.fn (.func f) first caps] 0])) (bl (!p x)) := by
  refine PC.le ?_
  refine PC_of_VC tabOk (draw_ok mixed tabOk) fn_all1Frag rfl ?_
  repeat' ((conv => whnf); first | with_reducible refine (Or.inl ?_ : VC _ _ _ _ _ ∨ _) | ((with_reducible refine fk (fun hc => ?_) fun hc => ?_) <;> first | exact absurd hc (by decide) | (exfalso; simp only [*, reduceCtorEq] at hc; done) | skip) | (refine Or.inl (Or.inl ?_); (conv => whnf); refine ⟨_, hp, ?_⟩) | ((with_reducible apply And.intro); focus (first | rfl | exact Nat.le_of_ble_eq_true rfl | omega | (simp only [List.length_cons, List.length_nil, List.length_map, List.length_append]; omega))))
  repeat' first | (with_reducible first | exact ⟨⟩ | exact rfl | exact lr _) | ((conv => whnf); with_reducible first | apply And.intro | exact ⟨⟩) | exact rfl | exact id | exact lr _
  all_goals try (conv => whnf)
theorem fn_allFrag : FnOk Try.prog 50 Try.f50 := ⟨Try.func50, by kernel_rfl, by kernel_rfl, by kernel_rfl⟩
theorem allFrag_c (l : List Fr) (f : FuncId) (first caps : List PV) (p : Fr → Bool) (hp : ∀ x ∈ l, PCx Try.prog f (first ++ ([.agg x.c] ++ caps)) (bl (p x))) :
    PCx Try.prog 50 [slF l, .fn (.func f) first caps] (bl (l.all p)) := by
  refine PC.le ?_
  refine PC_of_VC tabOk (draw_ok mixed tabOk) fn_allFrag rfl ?_
  repeat' ((conv => whnf); first | with_reducible refine (Or.inl ?_ : VC _ _ _ _ _ ∨ _) | ((with_reducible refine fk (fun hc => ?_) fun hc => ?_) <;> first | exact absurd hc (by decide) | (exfalso; simp only [*, reduceCtorEq] at hc; done) | skip) | (refine Or.inl (Or.inl ?_); (conv => whnf); refine ⟨_, containsFuncFrag_c _ _ _ _ _ fun x hx => all1Frag_c x _ _ _ p (hp x hx), ?_⟩) | ((with_reducible apply And.intro); focus (first | rfl | exact Nat.le_of_ble_eq_true rfl | omega | (simp only [List.length_cons, List.length_nil, List.length_map, List.length_append]; omega))))
  repeat' first | (with_reducible first | exact ⟨⟩ | exact rfl | exact lr _) | ((conv => whnf); with_reducible first | apply And.intro | exact ⟨⟩) | exact rfl | exact id | exact lr _
  all_goals try (conv => whnf)
  rw [List.not_any_eq_all_not]
  simp
theorem fn_risePlace : FnOk Try.prog 73 Try.f73 := ⟨Try.func73, by kernel_rfl, by kernel_rfl, by kernel_rfl⟩
theorem risePlace_c (l : List Pl) (f : FuncId) (first caps : List PV) (key : Pl → Int) (hp : ∀ x ∈ l, PCx Try.prog f (first ++ ([.agg x.c] ++ caps)) (ii (key x))) :
    PCx Try.prog 73 [slP l, .fn (.func f) first caps] (bl (decide (l.Pairwise fun a b => key a < key b))) := by
  refine PC.le (PC_bd fn_risePlace fun hb => ?_)
  have hb : l.length ≤ 9223372036854775807 := by simpa [bdL, bdP, slP] using hb
  refine PC_of_VC tabOk (draw_ok mixed tabOk) fn_risePlace rfl ?_
  repeat' ((conv => whnf); first | with_reducible refine (Or.inl ?_ : VC _ _ _ _ _ ∨ _) | ((with_reducible refine fk (fun hc => ?_) fun hc => ?_) <;> first | exact absurd hc (by decide) | (exfalso; simp only [*, reduceCtorEq] at hc; done) | skip) | ((with_reducible apply And.intro); focus (first | rfl | exact Nat.le_of_ble_eq_true rfl | omega | (simp only [List.length_cons, List.length_nil, List.length_map, List.length_append]; omega))))
  refine ⟨{k : Nat // (k + 1 ≤ l.length ∨ k = 0) ∧ ∀ j (hj : j + 1 < l.length), j < k → key (l[j]'(by omega)) < key l[j + 1]}, fun ⟨k, _⟩ => ⟨[(0, .pv (slP l)), (1, .pv (.fn (.func f) first caps)), (5, .pv (ii ((k + 1 : Nat) : Int)))], 1000000000, []⟩, fun ⟨k, _⟩ => l.length - k, ⟨⟨0, by simp⟩, ent_of ?_⟩, ?_⟩
  · repeat' first
      | fail
      | with_reducible exact True.intro
      | with_reducible exact rfl
      | with_reducible exact leRs_refl _
      | ((conv => whnf); with_reducible apply And.intro)
      | ((conv => whnf); with_reducible exact True.intro)
      | exact rfl
      | exact id
      | exact leRs_refl _
    all_goals try (conv => whnf)
  rintro ⟨k, hk, hn⟩
  repeat' ((conv => whnf); first | with_reducible refine (Or.inl ?_ : VC _ _ _ _ _ ∨ _) | ((with_reducible refine fk (fun hc => ?_) fun hc => ?_) <;> first | exact absurd hc (by decide) | (exfalso; simp only [*, reduceCtorEq] at hc; done) | skip) | ((with_reducible apply And.intro); focus (first | rfl | exact Nat.le_of_ble_eq_true rfl | omega | (simp only [List.length_cons, List.length_nil, List.length_map, List.length_append]; omega))))
  · have hlt : k + 1 < l.length := by simp at hc; omega
    have e1 : IntKind.i64.wrap (((k + 1 : Nat) : Int) - 1) = ((k : Nat) : Int) := by rw [wrapI (by omega) (by omega)]; omega
    repeat' ((conv => whnf); first | with_reducible refine (Or.inl ?_ : VC _ _ _ _ _ ∨ _) | ((with_reducible refine fk (fun hc => ?_) fun hc => ?_) <;> first | exact absurd hc (by decide) | (exfalso; simp only [*, reduceCtorEq] at hc; done) | skip) | ((refine ⟨by rw [e1]; omega, _, rowE _ _ e1 (by omega), ?_⟩)) | ((with_reducible apply And.intro); focus (first | rfl | exact Nat.le_of_ble_eq_true rfl | omega | (simp only [List.length_cons, List.length_nil, List.length_map, List.length_append]; omega))))
    repeat' ((conv => whnf); first | with_reducible refine (Or.inl ?_ : VC _ _ _ _ _ ∨ _) | ((with_reducible refine fk (fun hc => ?_) fun hc => ?_) <;> first | exact absurd hc (by decide) | (exfalso; simp only [*, reduceCtorEq] at hc; done) | skip) | (refine Or.inl (Or.inl ?_); (conv => whnf); refine ⟨_, hp _ (List.getElem_mem _), ?_⟩) | ((with_reducible apply And.intro); focus (first | rfl | exact Nat.le_of_ble_eq_true rfl | omega | (simp only [List.length_cons, List.length_nil, List.length_map, List.length_append]; omega))))
    refine ⟨_, rowK _ _ _ hlt, ?_⟩
    repeat' ((conv => whnf); first | with_reducible refine (Or.inl ?_ : VC _ _ _ _ _ ∨ _) | ((with_reducible refine fk (fun hc => ?_) fun hc => ?_) <;> first | exact absurd hc (by decide) | (exfalso; simp only [*, reduceCtorEq] at hc; done) | skip) | (refine Or.inl (Or.inl ?_); (conv => whnf); refine ⟨_, hp _ (List.getElem_mem _), ?_⟩) | ((with_reducible apply And.intro); focus (first | rfl | exact Nat.le_of_ble_eq_true rfl | omega | (simp only [List.length_cons, List.length_nil, List.length_map, List.length_append]; omega))))
    · repeat' first
        | fail
        | with_reducible exact True.intro
        | with_reducible exact rfl
        | with_reducible exact leRs_refl _
        | ((conv => whnf); with_reducible apply And.intro)
        | ((conv => whnf); with_reducible exact True.intro)
        | exact rfl
        | exact id
        | exact leRs_refl _
      all_goals try (conv => whnf)
      simp at hc
      simp
      intro hp
      have := List.pairwise_iff_getElem.1 hp k (k + 1) (by omega) hlt (by omega)
      omega
    · repeat' ((conv => whnf)
               first
               | with_reducible refine (Or.inl ?_ : VC _ _ _ _ _ ∨ _)
               | ((with_reducible refine fk (fun hc => ?_) fun hc => ?_) <;> first | exact absurd hc (by decide) | (exfalso; simp only [*, reduceCtorEq] at hc; done) | skip)
               | ((with_reducible apply And.intro); focus (first | rfl | exact Nat.le_of_ble_eq_true rfl | omega | (simp only [List.length_cons, List.length_nil, List.length_map, List.length_append]; omega))))
      refine ⟨⟨k + 1, .inl hlt, ?_⟩, dec_lt (by omega), ent_of ?_⟩
      · intro j hj hjk
        rcases Nat.lt_succ_iff_lt_or_eq.1 hjk with hj' | rfl
        · exact hn j hj hj'
        · simp at hc; exact hc
      · repeat' first
          | fail
          | with_reducible exact True.intro
          | with_reducible exact rfl
          | with_reducible exact leRs_refl _
          | ((conv => whnf); with_reducible apply And.intro)
          | ((conv => whnf); with_reducible exact True.intro)
          | exact rfl
          | exact id
          | exact leRs_refl _
        all_goals try (conv => whnf)
        rw [wrapI (by omega) (by omega)]; omega
  · repeat' first
      | fail
      | with_reducible exact True.intro
      | with_reducible exact rfl
      | with_reducible exact leRs_refl _
      | ((conv => whnf); with_reducible apply And.intro)
      | ((conv => whnf); with_reducible exact True.intro)
      | exact rfl
      | exact id
      | exact leRs_refl _
    all_goals try (conv => whnf)
    simp at hc
    simp
    exact adj_pairwise fun j hj => hn j hj (by omega)
theorem fn_riseFrag : FnOk Try.prog 53 Try.f53 := ⟨Try.func53, by kernel_rfl, by kernel_rfl, by kernel_rfl⟩
theorem riseFrag_c (l : List Fr) (f : FuncId) (first caps : List PV) (key : Fr → Int) (hp : ∀ x ∈ l, PCx Try.prog f (first ++ ([.agg x.c] ++ caps)) (uu (key x))) :
    PCx Try.prog 53 [slF l, .fn (.func f) first caps] (bl (decide (l.Pairwise fun a b => key a < key b))) := by
  refine PC.le (PC_bd fn_riseFrag fun hb => ?_)
  have hb : l.length ≤ 9223372036854775807 := by simpa [bdL, bdP, slF] using hb
  refine PC_of_VC tabOk (draw_ok mixed tabOk) fn_riseFrag rfl ?_
  repeat' ((conv => whnf); first | with_reducible refine (Or.inl ?_ : VC _ _ _ _ _ ∨ _) | ((with_reducible refine fk (fun hc => ?_) fun hc => ?_) <;> first | exact absurd hc (by decide) | (exfalso; simp only [*, reduceCtorEq] at hc; done) | skip) | ((with_reducible apply And.intro); focus (first | rfl | exact Nat.le_of_ble_eq_true rfl | omega | (simp only [List.length_cons, List.length_nil, List.length_map, List.length_append]; omega))))
  refine ⟨{k : Nat // (k + 1 ≤ l.length ∨ k = 0) ∧ ∀ j (hj : j + 1 < l.length), j < k → key (l[j]'(by omega)) < key l[j + 1]}, fun ⟨k, _⟩ => ⟨[(0, .pv (slF l)), (1, .pv (.fn (.func f) first caps)), (5, .pv (ii ((k + 1 : Nat) : Int)))], 1000000000, []⟩, fun ⟨k, _⟩ => l.length - k, ⟨⟨0, by simp⟩, ent_of ?_⟩, ?_⟩
  · repeat' first
      | fail
      | with_reducible exact True.intro
      | with_reducible exact rfl
      | with_reducible exact leRs_refl _
      | ((conv => whnf); with_reducible apply And.intro)
      | ((conv => whnf); with_reducible exact True.intro)
      | exact rfl
      | exact id
      | exact leRs_refl _
    all_goals try (conv => whnf)
  rintro ⟨k, hk, hn⟩
  repeat' ((conv => whnf); first | with_reducible refine (Or.inl ?_ : VC _ _ _ _ _ ∨ _) | ((with_reducible refine fk (fun hc => ?_) fun hc => ?_) <;> first | exact absurd hc (by decide) | (exfalso; simp only [*, reduceCtorEq] at hc; done) | skip) | ((with_reducible apply And.intro); focus (first | rfl | exact Nat.le_of_ble_eq_true rfl | omega | (simp only [List.length_cons, List.length_nil, List.length_map, List.length_append]; omega))))
  · have hlt : k + 1 < l.length := by simp at hc; omega
    have e1 : IntKind.i64.wrap (((k + 1 : Nat) : Int) - 1) = ((k : Nat) : Int) := by rw [wrapI (by omega) (by omega)]; omega
    repeat' ((conv => whnf); first | with_reducible refine (Or.inl ?_ : VC _ _ _ _ _ ∨ _) | ((with_reducible refine fk (fun hc => ?_) fun hc => ?_) <;> first | exact absurd hc (by decide) | (exfalso; simp only [*, reduceCtorEq] at hc; done) | skip) | ((refine ⟨by rw [e1]; omega, _, rowE _ _ e1 (by omega), ?_⟩)) | ((with_reducible apply And.intro); focus (first | rfl | exact Nat.le_of_ble_eq_true rfl | omega | (simp only [List.length_cons, List.length_nil, List.length_map, List.length_append]; omega))))
    repeat' ((conv => whnf); first | with_reducible refine (Or.inl ?_ : VC _ _ _ _ _ ∨ _) | ((with_reducible refine fk (fun hc => ?_) fun hc => ?_) <;> first | exact absurd hc (by decide) | (exfalso; simp only [*, reduceCtorEq] at hc; done) | skip) | (refine Or.inl (Or.inl ?_); (conv => whnf); refine ⟨_, hp _ (List.getElem_mem _), ?_⟩) | ((with_reducible apply And.intro); focus (first | rfl | exact Nat.le_of_ble_eq_true rfl | omega | (simp only [List.length_cons, List.length_nil, List.length_map, List.length_append]; omega))))
    refine ⟨_, rowK _ _ _ hlt, ?_⟩
    repeat' ((conv => whnf); first | with_reducible refine (Or.inl ?_ : VC _ _ _ _ _ ∨ _) | ((with_reducible refine fk (fun hc => ?_) fun hc => ?_) <;> first | exact absurd hc (by decide) | (exfalso; simp only [*, reduceCtorEq] at hc; done) | skip) | (refine Or.inl (Or.inl ?_); (conv => whnf); refine ⟨_, hp _ (List.getElem_mem _), ?_⟩) | ((with_reducible apply And.intro); focus (first | rfl | exact Nat.le_of_ble_eq_true rfl | omega | (simp only [List.length_cons, List.length_nil, List.length_map, List.length_append]; omega))))
    · repeat' first
        | fail
        | with_reducible exact True.intro
        | with_reducible exact rfl
        | with_reducible exact leRs_refl _
        | ((conv => whnf); with_reducible apply And.intro)
        | ((conv => whnf); with_reducible exact True.intro)
        | exact rfl
        | exact id
        | exact leRs_refl _
      all_goals try (conv => whnf)
      simp at hc
      simp
      intro hp
      have := List.pairwise_iff_getElem.1 hp k (k + 1) (by omega) hlt (by omega)
      omega
    · repeat' ((conv => whnf)
               first
               | with_reducible refine (Or.inl ?_ : VC _ _ _ _ _ ∨ _)
               | ((with_reducible refine fk (fun hc => ?_) fun hc => ?_) <;> first | exact absurd hc (by decide) | (exfalso; simp only [*, reduceCtorEq] at hc; done) | skip)
               | ((with_reducible apply And.intro); focus (first | rfl | exact Nat.le_of_ble_eq_true rfl | omega | (simp only [List.length_cons, List.length_nil, List.length_map, List.length_append]; omega))))
      refine ⟨⟨k + 1, .inl hlt, ?_⟩, dec_lt (by omega), ent_of ?_⟩
      · intro j hj hjk
        rcases Nat.lt_succ_iff_lt_or_eq.1 hjk with hj' | rfl
        · exact hn j hj hj'
        · simp at hc; exact hc
      · repeat' first
          | fail
          | with_reducible exact True.intro
          | with_reducible exact rfl
          | with_reducible exact leRs_refl _
          | ((conv => whnf); with_reducible apply And.intro)
          | ((conv => whnf); with_reducible exact True.intro)
          | exact rfl
          | exact id
          | exact leRs_refl _
        all_goals try (conv => whnf)
        rw [wrapI (by omega) (by omega)]; omega
  · repeat' first
      | fail
      | with_reducible exact True.intro
      | with_reducible exact rfl
      | with_reducible exact leRs_refl _
      | ((conv => whnf); with_reducible apply And.intro)
      | ((conv => whnf); with_reducible exact True.intro)
      | exact rfl
      | exact id
      | exact leRs_refl _
    all_goals try (conv => whnf)
    simp at hc
    simp
    exact adj_pairwise fun j hj => hn j hj (by omega)
theorem fn_frag2 : FnOk Try.prog 74 Try.f74 := ⟨Try.func74, by kernel_rfl, by kernel_rfl, by kernel_rfl⟩
theorem frag2_c (a b : Int) : PCx Try.prog 74 ([] ++ ([.agg [ii a, uu b]] ++ [])) (ii a) := by
  refine PC.le ?_
  refine PC_of_VC tabOk (draw_ok mixed tabOk) fn_frag2 rfl ?_
  repeat' ((conv => whnf); first | with_reducible refine (Or.inl ?_ : VC _ _ _ _ _ ∨ _) | ((with_reducible refine fk (fun hc => ?_) fun hc => ?_) <;> first | exact absurd hc (by decide) | (exfalso; simp only [*, reduceCtorEq] at hc; done) | skip) | ((with_reducible apply And.intro); focus (first | rfl | exact Nat.le_of_ble_eq_true rfl | omega | (simp only [List.length_cons, List.length_nil, List.length_map, List.length_append]; omega))))
  repeat' first | (with_reducible first | exact ⟨⟩ | exact rfl | exact lr _) | ((conv => whnf); with_reducible first | apply And.intro | exact ⟨⟩) | exact rfl | exact id | exact lr _
  all_goals try (conv => whnf)
theorem fn_mayFrags2 : FnOk Try.prog 54 Try.f54 := ⟨Try.func54, by kernel_rfl, by kernel_rfl, by kernel_rfl⟩
theorem mayFrags2_c (x : Fr) : PCx Try.prog 54 ([] ++ ([.agg x.c] ++ [])) (uu x.first) := by
  refine PC.le ?_
  refine PC_of_VC tabOk (draw_ok mixed tabOk) fn_mayFrags2 rfl ?_
  repeat' ((conv => whnf); first | with_reducible refine (Or.inl ?_ : VC _ _ _ _ _ ∨ _) | ((with_reducible refine fk (fun hc => ?_) fun hc => ?_) <;> first | exact absurd hc (by decide) | (exfalso; simp only [*, reduceCtorEq] at hc; done) | skip) | ((with_reducible apply And.intro); focus (first | rfl | exact Nat.le_of_ble_eq_true rfl | omega | (simp only [List.length_cons, List.length_nil, List.length_map, List.length_append]; omega))))
  repeat' first | (with_reducible first | exact ⟨⟩ | exact rfl | exact lr _) | ((conv => whnf); with_reducible first | apply And.intro | exact ⟨⟩) | exact rfl | exact id | exact lr _
  all_goals try (conv => whnf)
theorem fn_frag : FnOk Try.prog 52 Try.f52 := ⟨Try.func52, by kernel_rfl, by kernel_rfl, by kernel_rfl⟩
theorem frag_c (w n : Int) (l : List Pl) (h : l.length ≤ 8796093022208) : PCx Try.prog 52 [ii w, .agg [uu n, slP l]] (bl (mayFr w ⟨n, l⟩)) := by
  refine PC.le ?_
  refine PC_of_VC tabOk (draw_ok mixed tabOk) fn_frag rfl ?_
  repeat' ((conv => whnf); first | with_reducible refine (Or.inl ?_ : VC _ _ _ _ _ ∨ _) | ((with_reducible refine fk (fun hc => ?_) fun hc => ?_) <;> first | exact absurd hc (by decide) | (exfalso; simp only [*, reduceCtorEq] at hc; done) | skip) | (refine Or.inl (Or.inr ?_); (conv => whnf); refine ⟨_, _, clonePlace_g _ (by omega), ?_⟩) | (refine Or.inl (Or.inr ?_); (conv => whnf); refine ⟨_, _, sortPlace_g _ (by omega), ?_⟩) | (refine Or.inl (Or.inl ?_); (conv => whnf); refine ⟨_, fromU_c _ _ _, ?_⟩) | (refine Or.inl (Or.inl ?_); (conv => whnf); refine ⟨_, fromI_c _ _ _, ?_⟩) | (refine Or.inl (Or.inl ?_); (conv => whnf); refine ⟨_, allPlace_c _ _ _ _ mayPl fun x _ => place_c x.node x.serial, ?_⟩) | (refine Or.inl (Or.inl ?_); (conv => whnf); refine ⟨_, risePlace_c _ _ _ _ (·.node) fun x _ => frag2_c _ _, ?_⟩) | ((with_reducible apply And.intro); focus (first | rfl | exact Nat.le_of_ble_eq_true rfl | omega | (simp only [List.length_cons, List.length_nil, List.length_map, List.length_append]; omega))))
  all_goals
    repeat' first | (with_reducible first | exact ⟨⟩ | exact rfl | exact lr _) | ((conv => whnf); with_reducible first | apply And.intro | exact ⟨⟩) | exact rfl | exact id | exact lr _
    all_goals try (conv => whnf)
    simp_all only [mayFr, ← sortPl_rise, Bool.and_true, Bool.and_false, Bool.true_and, Bool.false_and, List.length_map]
theorem fn_mayFrags1 : FnOk Try.prog 51 Try.f51 := ⟨Try.func51, by kernel_rfl, by kernel_rfl, by kernel_rfl⟩
theorem mayFrags1_c (w : Int) (x : Fr) (h : x.bookies.length ≤ 8796093022208) : PCx Try.prog 51 ([] ++ ([.agg x.c] ++ [.eptr [ii w] 0])) (bl (mayFr w x)) := by
  refine PC.le ?_
  refine PC_of_VC tabOk (draw_ok mixed tabOk) fn_mayFrags1 rfl ?_
  repeat' ((conv => whnf); first | with_reducible refine (Or.inl ?_ : VC _ _ _ _ _ ∨ _) | ((with_reducible refine fk (fun hc => ?_) fun hc => ?_) <;> first | exact absurd hc (by decide) | (exfalso; simp only [*, reduceCtorEq] at hc; done) | skip) | (refine Or.inl (Or.inl ?_); (conv => whnf); refine ⟨_, frag_c _ _ _ h, ?_⟩) | ((with_reducible apply And.intro); focus (first | rfl | exact Nat.le_of_ble_eq_true rfl | omega | (simp only [List.length_cons, List.length_nil, List.length_map, List.length_append]; omega))))
  repeat' first | (with_reducible first | exact ⟨⟩ | exact rfl | exact lr _) | ((conv => whnf); with_reducible first | apply And.intro | exact ⟨⟩) | exact rfl | exact id | exact lr _
  all_goals try (conv => whnf)
theorem fn_mayFrags : FnOk Try.prog 32 Try.f32 := ⟨Try.func32, by kernel_rfl, by kernel_rfl, by kernel_rfl⟩
theorem mayFrags_c (w : Int) (l : List Fr) (h : ∀ x ∈ l, x.bookies.length ≤ 8796093022208) : PCx Try.prog 32 [ii w, slF l] (bl (mayFrs w l)) := by
  refine PC.le ?_
  refine PC_of_VC tabOk (draw_ok mixed tabOk) fn_mayFrags rfl ?_
  cases l with
  | nil =>
    repeat' ((conv => whnf); first | with_reducible refine (Or.inl ?_ : VC _ _ _ _ _ ∨ _) | ((with_reducible refine fk (fun hc => ?_) fun hc => ?_) <;> first | exact absurd hc (by decide) | (exfalso; simp only [*, reduceCtorEq] at hc; done) | skip) | (refine Or.inl (Or.inl ?_); (conv => whnf); refine ⟨_, fromI_c _ _ _, ?_⟩) | ((with_reducible apply And.intro); focus (first | rfl | exact Nat.le_of_ble_eq_true rfl | omega | (simp only [List.length_cons, List.length_nil, List.length_map, List.length_append]; omega))))
    all_goals
      repeat' first | (with_reducible first | exact ⟨⟩ | exact rfl | exact lr _) | ((conv => whnf); with_reducible first | apply And.intro | exact ⟨⟩) | exact rfl | exact id | exact lr _
      all_goals try (conv => whnf)
      all_goals simp [mayFrs, fromZ]
  | cons x r =>
    repeat' ((conv => whnf); first | with_reducible refine (Or.inl ?_ : VC _ _ _ _ _ ∨ _) | ((with_reducible refine fk (fun hc => ?_) fun hc => ?_) <;> first | exact absurd hc (by decide) | (exfalso; simp only [*, reduceCtorEq] at hc; done) | skip) | (refine Or.inl (Or.inl ?_); (conv => whnf); refine ⟨_, fromI_c _ _ _, ?_⟩) | (refine Or.inl (Or.inl ?_); (conv => whnf); refine ⟨_, allFrag_c _ _ _ _ _ fun x hx => mayFrags1_c w x (h x hx), ?_⟩) | (refine Or.inl (Or.inl ?_); (conv => whnf); refine ⟨_, riseFrag_c _ _ _ _ (·.first) fun x _ => mayFrags2_c x, ?_⟩) | ((refine ⟨_, rfl, ?_⟩)) | ((with_reducible apply And.intro); focus (first | rfl | exact Nat.le_of_ble_eq_true rfl | omega | (simp only [List.length_cons, List.length_nil, List.length_map, List.length_append]; omega))))
    all_goals
      repeat' first | (with_reducible first | exact ⟨⟩ | exact rfl | exact lr _) | ((conv => whnf); with_reducible first | apply And.intro | exact ⟨⟩) | exact rfl | exact id | exact lr _
      all_goals try (conv => whnf)
      simp_all only [mayFrs, first1, List.length_map, Bool.true_and, Bool.false_and, Bool.and_true]
theorem fn_mayLedger : FnOk Try.prog 14 Try.f14 := ⟨Try.func14, by kernel_rfl, by kernel_rfl, by kernel_rfl⟩
theorem mayLedger_c (l : Lg) (h : l.ok) : PCx Try.prog 14 [.agg l.c] (bl (mayLg l)) := by
  refine PC.le ?_
  refine PC_of_VC tabOk (draw_ok mixed tabOk) fn_mayLedger rfl ?_
  repeat' ((conv => whnf); first | with_reducible refine (Or.inl ?_ : VC _ _ _ _ _ ∨ _) | ((with_reducible refine fk (fun hc => ?_) fun hc => ?_) <;> first | exact absurd hc (by decide) | (exfalso; simp only [*, reduceCtorEq] at hc; done) | skip) | (refine Or.inl (Or.inl ?_); (conv => whnf); refine ⟨_, fromI_c _ _ _, ?_⟩) | (refine Or.inl (Or.inl ?_); (conv => whnf); refine ⟨_, fromU_c _ _ _, ?_⟩) | (refine Or.inl (Or.inl ?_); (conv => whnf); refine ⟨_, mayFrags_c _ _ h, ?_⟩) | ((with_reducible apply And.intro); focus (first | rfl | exact Nat.le_of_ble_eq_true rfl | omega | (simp only [List.length_cons, List.length_nil, List.length_map, List.length_append]; omega))))
  all_goals
    repeat' first | (with_reducible first | exact ⟨⟩ | exact rfl | exact lr _) | ((conv => whnf); with_reducible first | apply And.intro | exact ⟨⟩) | exact rfl | exact id | exact lr _
    all_goals try (conv => whnf)
    try (simp only [mayLg, *, Bool.true_and, Bool.false_and]; done)
  have hq : 0 ≤ l.closed ∧ l.closed ≤ 1 := by simpa [fromZ] using hc
  simp only [mayLg, *, Bool.true_and]
  rw [wrapU hq.1 (by omega), wrapU (by omega) (by omega)]
end Go.Proofs.Ytpbjamihhkmgiaa.Tb
