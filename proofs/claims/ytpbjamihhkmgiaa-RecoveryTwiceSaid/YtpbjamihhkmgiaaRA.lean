/-
  Contracts of functions of the program and of the document, each for every input that its premises name.
-/
import Derived.Test.YtpbjamihhkmgiaaFE
import Derived.Test.YtpbjamihhkmgiaaAe
set_option linter.unusedSectionVars false
set_option maxRecDepth 100000
set_option maxHeartbeats 4000000
set_option linter.unusedVariables false
set_option linter.unusedSimpArgs false
open Go Go.AX
namespace Go.Proofs.Ytpbjamihhkmgiaa.Tb
theorem containsTake_c (l : List Pl) (k : Nat) (a b : Int) : PCx Try.prog 19 [.sl false 2 ((List.map Pl.c l).take ((k : Nat) : Int).toNat), .agg [ii a, uu b]] (bl ((l.take k).any (fun y => y == ⟨a, b⟩))) := by
  have h := containsPlace_c (l.take k) a b
  rw [slP, List.map_take] at h
  exact h
theorem fn_sCount : FnOk Try.prog 64 Try.f64 := ⟨Try.func64, by kernel_rfl, by kernel_rfl, by kernel_rfl⟩
theorem sCount_c (set among : List Pl) : PCx Try.prog 64 [slP set, slP among] (ii (cntP set among : Nat)) := by
  refine PC.le (PC_bd fn_sCount fun hb => ?_)
  have hb : set.length ≤ 9223372036854775807 := by simp [bdL, bdP, slP] at hb; omega
  refine PC_of_VC tabOk (draw_ok mixed tabOk) fn_sCount rfl ?_
  repeat' ((conv => whnf); first | with_reducible refine (Or.inl ?_ : VC _ _ _ _ _ ∨ _) | ((with_reducible refine fk (fun hc => ?_) fun hc => ?_) <;> first | exact absurd hc (by decide) | (exfalso; simp only [*, reduceCtorEq] at hc; done) | skip) | ((with_reducible apply And.intro); focus (first | rfl | exact Nat.le_of_ble_eq_true rfl | omega | (simp only [List.length_cons, List.length_nil, List.length_map, List.length_append]; omega))))
  refine ⟨{k : Nat // k ≤ set.length}, fun ⟨k, _⟩ => ⟨[(0, .pv (slP set)), (1, .pv (slP among)), (5, .pv (ii (cntK set among k : Nat))), (8, .pv (slP set)), (9, .pv (ii set.length)), (10, .pv (ii k))], 1000000000, []⟩, fun ⟨k, _⟩ => set.length - k, ⟨⟨0, Nat.zero_le _⟩, ent_of ?_⟩, ?_⟩
  · repeat' first
      | fail
      | with_reducible exact True.intro
      | with_reducible exact rfl
      | with_reducible exact leRs_refl _
      | ((conv => whnf); with_reducible apply And.intro)
      | ((conv => whnf); with_reducible exact True.intro)
      | exact rfl
      | exact id
      | exact leRs_refl _
    all_goals try (conv => whnf)
    all_goals simp
  rintro ⟨k, hk⟩
  have hcl := cntK_le set among k
  by_cases hlt : k < set.length
  · have d0 : decide ((k : Int) < (set.length : Int)) = true := by simp only [decide_eq_true_eq]; omega
    have eW : IntKind.i64.wrap ((k : Int) + 1) = ((k + 1 : Nat) : Int) := by rw [wrapI (by omega) (by omega)]; omega
    have eC : IntKind.i64.wrap ((cntK set among k : Int) + 1) = ((cntK set among k + 1 : Nat) : Int) := by rw [wrapI (by omega) (by omega)]; omega
    have es : cntK set among (k + 1) = cntK set among k + (if (among.any fun y => y == (⟨set[k].node, set[k].serial⟩ : Pl)) && !((set.take k).any fun y => y == (⟨set[k].node, set[k].serial⟩ : Pl)) then 1 else 0) := cntK_succ set among k hlt
    have hct := containsTake_c set k
    repeat' ((conv => whnf); first | with_reducible refine (Or.inl ?_ : VC _ _ _ _ _ ∨ _) | ((with_reducible refine fk (fun hc => ?_) fun hc => ?_) <;> first | exact absurd hc (by decide) | (exfalso; simp only [*, reduceCtorEq] at hc; done) | skip) | ((refine ⟨_, rowK _ _ _ hlt, ?_⟩)) | (refine Or.inl (Or.inl ?_); (conv => whnf); refine ⟨_, containsPlace_c _ _ _, ?_⟩) | (refine Or.inl (Or.inl ?_); (conv => whnf); refine ⟨_, hct _ _, ?_⟩) | (((with_reducible apply And.intro); focus (show (k : Int) ≤ ((List.map Pl.c set).length : Int); rw [List.length_map]; omega))) | ((with_reducible apply And.intro); focus (first | rfl | exact Nat.le_of_ble_eq_true rfl | omega | (simp only [List.length_cons, List.length_nil, List.length_map, List.length_append]; omega))))
    all_goals
      refine ⟨⟨k + 1, hlt⟩, dec_lt hlt, ent_of ?_⟩
      repeat' first | (with_reducible first | exact ⟨⟩ | exact rfl | exact lr _) | ((conv => whnf); with_reducible first | apply And.intro | exact ⟨⟩) | exact rfl | exact id | exact lr _
      all_goals try (conv => whnf)
      all_goals first
        | exact eW
        | (rw [eC, es]; simp only [*, Bool.and_self, Bool.true_and, Bool.false_and, Bool.false_eq_true, ↓reduceIte, Nat.add_zero]; done)
        | (rw [es]; simp only [*, Bool.and_self, Bool.true_and, Bool.false_and, Bool.and_false, Bool.false_eq_true, ↓reduceIte, Nat.add_zero]; done)
  · have hke : k = set.length := by omega
    subst hke
    have d0 : decide ((set.length : Int) < (set.length : Int)) = false := by simp
    repeat' ((conv => whnf); first | with_reducible refine (Or.inl ?_ : VC _ _ _ _ _ ∨ _) | ((with_reducible refine fk (fun hc => ?_) fun hc => ?_) <;> first | exact absurd hc (by decide) | (exfalso; simp only [*, reduceCtorEq] at hc; done) | skip) | ((with_reducible apply And.intro); focus (first | rfl | exact Nat.le_of_ble_eq_true rfl | omega | (simp only [List.length_cons, List.length_nil, List.length_map, List.length_append]; omega))))
    repeat' first | (with_reducible first | exact ⟨⟩ | exact rfl | exact lr _) | ((conv => whnf); with_reducible first | apply And.intro | exact ⟨⟩) | exact rfl | exact id | exact lr _
    all_goals try (conv => whnf)
theorem fn_sAcked : FnOk Try.prog 39 Try.f39 := ⟨Try.func39, by kernel_rfl, by kernel_rfl, by kernel_rfl⟩
theorem sAcked_c (set : List Pl) (a : Int) (from_ : List Pl) : PCx Try.prog 39 [slP set, ii a, slP from_] (bl (ackedP set a from_)) := by
  refine PC.le ?_
  refine PC_of_VC tabOk (draw_ok mixed tabOk) fn_sAcked rfl ?_
  repeat' ((conv => whnf); first | with_reducible refine (Or.inl ?_ : VC _ _ _ _ _ ∨ _) | ((with_reducible refine fk (fun hc => ?_) fun hc => ?_) <;> first | exact absurd hc (by decide) | (exfalso; simp only [*, reduceCtorEq] at hc; done) | skip) | (refine Or.inl (Or.inl ?_); (conv => whnf); refine ⟨_, sCount_c _ _, ?_⟩) | ((with_reducible apply And.intro); focus (first | rfl | exact Nat.le_of_ble_eq_true rfl | omega | (simp only [List.length_cons, List.length_nil, List.length_map, List.length_append]; omega))))
  all_goals
    repeat' first | (with_reducible first | exact ⟨⟩ | exact rfl | exact lr _) | ((conv => whnf); with_reducible first | apply And.intro | exact ⟨⟩) | exact rfl | exact id | exact lr _
    all_goals try (conv => whnf)
    all_goals first
      | (simp_all [ackedP]; done)
      | (simp_all [ackedP]; omega)
theorem fn_sMissing : FnOk Try.prog 45 Try.f45 := ⟨Try.func45, by kernel_rfl, by kernel_rfl, by kernel_rfl⟩
theorem sMissing_c (set : List Pl) (w a : Int) (from_ : List Pl) (hw : 0 ≤ w ∧ w ≤ 9223372036854775807) (ha : 0 ≤ a) : PCx Try.prog 45 [slP set, ii w, ii a, slP from_] (bl (missingP set w a from_)) := by
  refine PC.le ?_
  refine PC_of_VC tabOk (draw_ok mixed tabOk) fn_sMissing rfl ?_
  repeat' ((conv => whnf); first | with_reducible refine (Or.inl ?_ : VC _ _ _ _ _ ∨ _) | ((with_reducible refine fk (fun hc => ?_) fun hc => ?_) <;> first | exact absurd hc (by decide) | (exfalso; simp only [*, reduceCtorEq] at hc; done) | skip) | (refine Or.inl (Or.inl ?_); (conv => whnf); refine ⟨_, sCount_c _ _, ?_⟩) | ((with_reducible apply And.intro); focus (first | rfl | exact Nat.le_of_ble_eq_true rfl | omega | (simp only [List.length_cons, List.length_nil, List.length_map, List.length_append]; omega))))
  · repeat' first
      | fail
      | with_reducible exact True.intro
      | with_reducible exact rfl
      | with_reducible exact leRs_refl _
      | ((conv => whnf); with_reducible apply And.intro)
      | ((conv => whnf); with_reducible exact True.intro)
      | exact rfl
      | exact id
      | exact leRs_refl _
    all_goals try (conv => whnf)
    simp_all [missingP]
  · have e : IntKind.i64.wrap (w - a) = w - a := by
      simp only [decide_eq_false_iff_not] at hc
      exact wrapI (by omega) (by omega)
    repeat' first | (with_reducible first | exact ⟨⟩ | exact rfl | exact lr _) | ((conv => whnf); with_reducible first | apply And.intro | exact ⟨⟩) | exact rfl | exact id | exact lr _
    all_goals try (conv => whnf)
    rw [e]
    simp only [missingP, hc, Bool.false_or]
theorem fn_sSets : FnOk Try.prog 65 Try.f65 := ⟨Try.func65, by kernel_rfl, by kernel_rfl, by kernel_rfl⟩
theorem sSets_c (f : Fr) (w : Int) : PCx Try.prog 65 [.agg f.c, ii w] (.fn (.func 77) [] [.eptr f.c 0, .eptr [ii w] 0]) := by
  refine PC.le ?_
  refine PC_of_VC tabOk (draw_ok mixed tabOk) fn_sSets rfl ?_
  repeat' ((conv => whnf); first | with_reducible refine (Or.inl ?_ : VC _ _ _ _ _ ∨ _) | ((with_reducible refine fk (fun hc => ?_) fun hc => ?_) <;> first | exact absurd hc (by decide) | (exfalso; simp only [*, reduceCtorEq] at hc; done) | skip) | ((with_reducible apply And.intro); focus (first | rfl | exact Nat.le_of_ble_eq_true rfl | omega | (simp only [List.length_cons, List.length_nil, List.length_map, List.length_append]; omega))))
  repeat' first | (with_reducible first | exact ⟨⟩ | exact rfl | exact lr _) | ((conv => whnf); with_reducible first | apply And.intro | exact ⟨⟩) | exact rfl | exact id | exact lr _
  all_goals try (conv => whnf)
theorem fn_sSets1 : FnOk Try.prog 77 Try.f77 := ⟨Try.func77, by kernel_rfl, by kernel_rfl, by kernel_rfl⟩
theorem sSets1_s (f : Fr) (w : Int) (hw : 1 ≤ w ∧ w ≤ (f.bookies.length : Int)) (hl : f.bookies.length ≤ 8796093022208) : SeqC Try.prog 77 [.eptr f.c 0, .eptr [ii w] 0] ((setsP f w).map fun s => [slP s]) := by
  refine SeqC_of_VC tabOk (draw_ok mixed tabOk) fn_sSets1 rfl rfl (fun P0 => ?_)
  repeat' ((conv => whnf); first | with_reducible refine (Or.inl ?_ : VC _ _ _ _ _ ∨ _) | ((with_reducible refine fk (fun hc => ?_) fun hc => ?_) <;> first | exact absurd hc (by decide) | (exfalso; simp only [*, reduceCtorEq] at hc; done) | skip) | ((with_reducible apply And.intro); focus (first | rfl | exact Nat.le_of_ble_eq_true rfl | omega | (simp only [List.length_cons, List.length_nil, List.length_map, List.length_append]; omega))))
  refine ⟨{k : Nat // k ≤ f.bookies.length}, fun ⟨k, _⟩ => ⟨[(0, .pv (.fn (.yield P0) [] [])), (1, .pv (.eptr f.c 0)), (2, .pv (.eptr [ii w] 0)), (7, .pv (ii f.bookies.length)), (8, .pv (ii k))], 1000000000, [(999, .tr (Try.prog, P0) 0 (((setsP f w).drop k).map fun s => [slP s]) (some false))]⟩, fun ⟨k, _⟩ => f.bookies.length - k, ⟨⟨0, Nat.zero_le _⟩, ent_of ?_⟩, ?_⟩
  · repeat' first
      | fail
      | with_reducible exact True.intro
      | with_reducible exact rfl
      | with_reducible exact leRs_refl _
      | ((conv => whnf); with_reducible apply And.intro)
      | ((conv => whnf); with_reducible exact True.intro)
      | exact rfl
      | exact id
      | exact leRs_refl _
    all_goals try (conv => whnf)
    all_goals simp
  rintro ⟨k, hk⟩
  by_cases hlt : k < f.bookies.length
  · have d0 : decide ((k : Int) < (f.bookies.length : Int)) = true := by simp only [decide_eq_true_eq]; omega
    have eW : IntKind.i64.wrap ((k : Int) + 1) = ((k + 1 : Nat) : Int) := by rw [wrapI (by omega) (by omega)]; omega
    have hd : (setsP f w).drop k = fromPl f.bookies k w.toNat :: (setsP f w).drop (k + 1) := by
      have hk2 : k < (setsP f w).length := by simpa [setsP] using hlt
      rw [List.drop_eq_getElem_cons hk2]
      simp [setsP]
    have hfrom := sfrom_i f.bookies (k : Int) w (by omega) hl (by omega) (by omega)
    repeat' ((conv => whnf); first | with_reducible refine (Or.inl ?_ : VC _ _ _ _ _ ∨ _) | ((with_reducible refine fk (fun hc => ?_) fun hc => ?_) <;> first | exact absurd hc (by decide) | (exfalso; simp only [*, reduceCtorEq] at hc; done) | skip) | (refine Or.inl (Or.inl ?_); (conv => whnf); refine ⟨_, hfrom, ?_⟩) | ((rw [hd]; refine ⟨_, _, rfl, leQs_refl _, ?_⟩)) | ((with_reducible apply And.intro); focus (first | rfl | exact Nat.le_of_ble_eq_true rfl | omega | (simp only [List.length_cons, List.length_nil, List.length_map, List.length_append]; omega))))
    refine ⟨trivial, ⟨k + 1, hlt⟩, dec_lt hlt, ent_of ?_⟩
    repeat' first | (with_reducible first | exact ⟨⟩ | exact rfl | exact lr _) | ((conv => whnf); with_reducible first | apply And.intro | exact ⟨⟩) | exact rfl | exact id | exact lr _
    all_goals try (conv => whnf)
    exact eW
  · have hke : k = f.bookies.length := by omega
    subst hke
    have d0 : decide ((f.bookies.length : Int) < (f.bookies.length : Int)) = false := by simp
    have hd : (setsP f w).drop f.bookies.length = [] := List.drop_eq_nil_of_le (by simp [setsP])
    repeat' ((conv => whnf); first | with_reducible refine (Or.inl ?_ : VC _ _ _ _ _ ∨ _) | ((with_reducible refine fk (fun hc => ?_) fun hc => ?_) <;> first | exact absurd hc (by decide) | (exfalso; simp only [*, reduceCtorEq] at hc; done) | skip) | ((with_reducible apply And.intro); focus (first | rfl | exact Nat.le_of_ble_eq_true rfl | omega | (simp only [List.length_cons, List.length_nil, List.length_map, List.length_append]; omega))))
    rw [hd]
    repeat' first | (with_reducible first | exact ⟨⟩ | exact rfl | exact lr _) | ((conv => whnf); with_reducible first | apply And.intro | exact ⟨⟩) | exact rfl | exact id | exact lr _
    all_goals try (conv => whnf)
theorem fn_sCovered : FnOk Try.prog 44 Try.f44 := ⟨Try.func44, by kernel_rfl, by kernel_rfl, by kernel_rfl⟩
theorem sCovered_c (f : Fr) (w a : Int) (from_ : List Pl) (hw : 0 ≤ w ∧ w ≤ 9223372036854775807) (ha : 0 ≤ a) (hl : f.bookies.length ≤ 8796093022208) : PCx Try.prog 44 [.agg f.c, ii w, ii a, slP from_] (bl (coveredP f w a from_)) := by
  refine PC.le ?_
  refine PC_of_VC tabOk (draw_ok mixed tabOk) fn_sCovered rfl ?_
  by_cases h1 : decide (w < 1) = true
  · have e : coveredP f w a from_ = false := by unfold coveredP; rw [if_pos (by simp [h1])]
    rw [e]
    repeat' ((conv => whnf); first | with_reducible refine (Or.inl ?_ : VC _ _ _ _ _ ∨ _) | ((with_reducible refine fk (fun hc => ?_) fun hc => ?_) <;> first | exact absurd hc (by decide) | (exfalso; simp only [*, reduceCtorEq] at hc; done) | skip) | ((with_reducible apply And.intro); focus (first | rfl | exact Nat.le_of_ble_eq_true rfl | omega | (simp only [List.length_cons, List.length_nil, List.length_map, List.length_append]; omega))))
    repeat' first | (with_reducible first | exact ⟨⟩ | exact rfl | exact lr _) | ((conv => whnf); with_reducible first | apply And.intro | exact ⟨⟩) | exact rfl | exact id | exact lr _
    all_goals try (conv => whnf)
  have h1 : decide (w < 1) = false := by simpa using h1
  by_cases h2 : decide (w > (f.bookies.length : Int)) = true
  · have e : coveredP f w a from_ = false := by unfold coveredP; rw [if_pos (by simp [h2])]
    have h3 : decide (w > ((List.map Pl.c f.bookies).length : Int)) = true := by rw [List.length_map]; exact h2
    rw [e]
    repeat' ((conv => whnf); first | with_reducible refine (Or.inl ?_ : VC _ _ _ _ _ ∨ _) | ((with_reducible refine fk (fun hc => ?_) fun hc => ?_) <;> first | exact absurd hc (by decide) | (exfalso; simp only [*, reduceCtorEq] at hc; done) | skip) | ((with_reducible apply And.intro); focus (first | rfl | exact Nat.le_of_ble_eq_true rfl | omega | (simp only [List.length_cons, List.length_nil, List.length_map, List.length_append]; omega))))
    repeat' first | (with_reducible first | exact ⟨⟩ | exact rfl | exact lr _) | ((conv => whnf); with_reducible first | apply And.intro | exact ⟨⟩) | exact rfl | exact id | exact lr _
    all_goals try (conv => whnf)
  have h2 : decide (w > (f.bookies.length : Int)) = false := by simpa using h2
  have h3 : decide (w > ((List.map Pl.c f.bookies).length : Int)) = false := by rw [List.length_map]; exact h2
  have e : coveredP f w a from_ = (setsP f w).all fun s => missingP s w a from_ := by unfold coveredP; rw [if_neg (by simp [h1, h2])]
  have hseq := sSets1_s f w (by simp at h1 h2; omega) hl
  rw [e]
  repeat' ((conv => whnf); first | with_reducible refine (Or.inl ?_ : VC _ _ _ _ _ ∨ _) | ((with_reducible refine fk (fun hc => ?_) fun hc => ?_) <;> first | exact absurd hc (by decide) | (exfalso; simp only [*, reduceCtorEq] at hc; done) | skip) | (refine Or.inl (Or.inl ?_); (conv => whnf); refine ⟨_, sSets_c _ _, ?_⟩) | ((with_reducible apply And.intro); focus (first | rfl | exact Nat.le_of_ble_eq_true rfl | omega | (simp only [List.length_cons, List.length_nil, List.length_map, List.length_append]; omega))))
  refine ⟨_, _, _, hseq, Unit, fun k _ => ∀ j (hj : j < (setsP f w).length), j < k → missingP (setsP f w)[j] w a from_ = true, fun _ _ => ⟨[(5, .ptr 505 0), (6, .ptr 506 0), (7, .ptr 507 0), (8, .ptr 508 0), (21, .pv (.fn (.func 77) [] [.eptr f.c 0, .eptr [ii w] 0]))], 1000000000, [(505, .var [.pv (ii w)]), (506, .var [.pv (ii a)]), (507, .var [.pv (slP from_)]), (508, .var [.pv (bl false)])]⟩, ⟨(), ent_of ?_⟩, fun _ => rfl, fun _ _ => rfl, ?_, ?_⟩
  · repeat' first
      | fail
      | with_reducible exact True.intro
      | with_reducible exact rfl
      | with_reducible exact leRs_refl _
      | ((conv => whnf); with_reducible apply And.intro)
      | ((conv => whnf); with_reducible exact True.intro)
      | exact rfl
      | exact id
      | exact leRs_refl _
    all_goals try (conv => whnf)
  · intro k x _ hx
    have hk : k < (setsP f w).length := by simpa using (List.getElem?_eq_some_iff.1 hx).1
    have hx : x = [slP (setsP f w)[k]] := by
      have := (List.getElem?_eq_some_iff.1 hx).2
      simpa using this.symm
    subst hx
    have hmis := sMissing_c (setsP f w)[k] w a from_ hw ha
    (conv => whnf)
    intro h0
    cases hm : missingP (setsP f w)[k] w a from_ with
    | true =>
      rw [hm] at hmis
      repeat' ((conv => whnf); first | with_reducible refine (Or.inl ?_ : VC _ _ _ _ _ ∨ _) | ((with_reducible refine fk (fun hc => ?_) fun hc => ?_) <;> first | exact absurd hc (by decide) | (exfalso; simp only [*, reduceCtorEq] at hc; done) | skip) | (refine Or.inl (Or.inl ?_); (conv => whnf); refine ⟨_, hmis, ?_⟩) | ((with_reducible apply And.intro); focus (first | rfl | exact Nat.le_of_ble_eq_true rfl | omega | (simp only [List.length_cons, List.length_nil, List.length_map, List.length_append]; omega))))
      refine ⟨(), fun j hj hjk => ?_, ent_of ?_⟩
      · by_cases hjk2 : j = k
        · subst hjk2; exact hm
        · exact h0 (by omega) j hj (by omega)
      · repeat' first
          | fail
          | with_reducible exact True.intro
          | with_reducible exact rfl
          | with_reducible exact leRs_refl _
          | ((conv => whnf); with_reducible apply And.intro)
          | ((conv => whnf); with_reducible exact True.intro)
          | exact rfl
          | exact id
          | exact leRs_refl _
        all_goals try (conv => whnf)
    | false =>
      rw [hm] at hmis
      repeat' ((conv => whnf); first | with_reducible refine (Or.inl ?_ : VC _ _ _ _ _ ∨ _) | ((with_reducible refine fk (fun hc => ?_) fun hc => ?_) <;> first | exact absurd hc (by decide) | (exfalso; simp only [*, reduceCtorEq] at hc; done) | skip) | (refine Or.inl (Or.inl ?_); (conv => whnf); refine ⟨_, hmis, ?_⟩) | ((with_reducible apply And.intro); focus (first | rfl | exact Nat.le_of_ble_eq_true rfl | omega | (simp only [List.length_cons, List.length_nil, List.length_map, List.length_append]; omega))))
      repeat' first | (with_reducible first | exact ⟨⟩ | exact rfl | exact lr _) | ((conv => whnf); with_reducible first | apply And.intro | exact ⟨⟩) | exact rfl | exact id | exact lr _
      all_goals try (conv => whnf)
      symm
      rw [List.all_eq_false]
      exact ⟨_, List.getElem_mem hk, by rw [hm]; simp⟩
  · intro _ h0
    rw [List.length_map] at h0
    repeat' ((conv => whnf); first | with_reducible refine (Or.inl ?_ : VC _ _ _ _ _ ∨ _) | ((with_reducible refine fk (fun hc => ?_) fun hc => ?_) <;> first | exact absurd hc (by decide) | (exfalso; simp only [*, reduceCtorEq] at hc; done) | skip) | ((with_reducible apply And.intro); focus (first | rfl | exact Nat.le_of_ble_eq_true rfl | omega | (simp only [List.length_cons, List.length_nil, List.length_map, List.length_append]; omega))))
    repeat' first | (with_reducible first | exact ⟨⟩ | exact rfl | exact lr _) | ((conv => whnf); with_reducible first | apply And.intro | exact ⟨⟩) | exact rfl | exact id | exact lr _
    all_goals try (conv => whnf)
    symm
    rw [List.all_eq_true]
    intro s hs
    obtain ⟨j, hj, rfl⟩ := List.getElem_of_mem hs
    exact h0 (by omega) j hj hj
end Go.Proofs.Ytpbjamihhkmgiaa.Tb
