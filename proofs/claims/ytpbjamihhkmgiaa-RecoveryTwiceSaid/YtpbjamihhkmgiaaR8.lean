/-
  Contracts of functions of the program and of the document, each for every input that its premises name.
-/
import Derived.Test.YtpbjamihhkmgiaaFE
import Derived.Test.YtpbjamihhkmgiaaAe
set_option linter.unusedSectionVars false
set_option maxRecDepth 100000
set_option maxHeartbeats 4000000
set_option linter.unusedVariables false
set_option linter.unusedSimpArgs false
open Go Go.AX
namespace Go.Proofs.Ytpbjamihhkmgiaa.Tb
theorem fn_r07SameFrags : FnOk Try.prog 25 Try.f25 := ⟨Try.func25, by kernel_rfl, by kernel_rfl, by kernel_rfl⟩
theorem sameFrags_r (l : List Fr) (hl : l.length ≤ 1000000) (hb : ∀ f ∈ l, f.bookies.length ≤ 1000000) : PCx Try.prog 25 [slF l, slF l] (bl true) := by
  refine PC.le ?_
  have e0 : (((List.map Fr.c l).length : Int) != ((List.map Fr.c l).length : Int)) = false := by simp
  refine PC_of_VC tabOk (draw_ok mixed tabOk) fn_r07SameFrags rfl ?_
  repeat' ((conv => whnf); first | with_reducible refine (Or.inl ?_ : VC _ _ _ _ _ ∨ _) | ((with_reducible refine fk (fun hc => ?_) fun hc => ?_) <;> first | exact absurd hc (by decide) | (exfalso; simp only [*, reduceCtorEq] at hc; done) | skip) | ((with_reducible apply And.intro); focus (first | rfl | exact Nat.le_of_ble_eq_true rfl | omega | (simp only [List.length_cons, List.length_nil, List.length_map, List.length_append]; omega))))
  refine ⟨{k : Nat // k ≤ l.length}, fun ⟨k, _⟩ => ⟨[(0, .pv (slF l)), (1, .pv (slF l)), (5, .pv (ii k))], 1000000000, []⟩, fun ⟨k, _⟩ => l.length - k, ⟨⟨0, Nat.zero_le _⟩, ent_of ?_⟩, ?_⟩
  · repeat' first
      | fail
      | with_reducible exact True.intro
      | with_reducible exact rfl
      | with_reducible exact leRs_refl _
      | ((conv => whnf); with_reducible apply And.intro)
      | ((conv => whnf); with_reducible exact True.intro)
      | exact rfl
      | exact id
      | exact leRs_refl _
    all_goals try (conv => whnf)
  rintro ⟨k, hk⟩
  by_cases hlt : k < l.length
  · have d0 : decide ((k : Int) < ((List.map Fr.c l).length : Int)) = true := by rw [List.length_map]; simp only [decide_eq_true_eq]; omega
    have hbk := hb _ (List.getElem_mem hlt)
    have hrow := rowK Fr.c l k hlt
    obtain ⟨f, hf⟩ : ∃ f, l[k] = f := ⟨_, rfl⟩
    rw [hf] at hbk hrow
    clear hf
    have e1 : (f.first != f.first) = false := by simp
    have e2 : (((List.map Pl.c f.bookies).length : Int) != ((List.map Pl.c f.bookies).length : Int)) = false := by simp
    repeat' ((conv => whnf); first | with_reducible refine (Or.inl ?_ : VC _ _ _ _ _ ∨ _) | ((with_reducible refine fk (fun hc => ?_) fun hc => ?_) <;> first | exact absurd hc (by decide) | (exfalso; simp only [*, reduceCtorEq] at hc; done) | skip) | ((refine ⟨_, hrow, ?_⟩)) | ((with_reducible apply And.intro); focus (first | rfl | exact Nat.le_of_ble_eq_true rfl | omega | (simp only [List.length_cons, List.length_nil, List.length_map, List.length_append]; omega))))
    refine ⟨{j : Nat // j ≤ f.bookies.length}, fun ⟨j, _⟩ => ⟨[(0, .pv (slF l)), (1, .pv (slF l)), (5, .pv (ii k)), (6, .pv (ii j))], 1000000000, []⟩, fun ⟨j, _⟩ => f.bookies.length - j, ⟨⟨0, Nat.zero_le _⟩, ent_of ?_⟩, ?_⟩
    · repeat' first
        | fail
        | with_reducible exact True.intro
        | with_reducible exact rfl
        | with_reducible exact leRs_refl _
        | ((conv => whnf); with_reducible apply And.intro)
        | ((conv => whnf); with_reducible exact True.intro)
        | exact rfl
        | exact id
        | exact leRs_refl _
      all_goals try (conv => whnf)
    rintro ⟨j, hj⟩
    by_cases hjt : j < f.bookies.length
    · have d1 : decide ((j : Int) < ((List.map Pl.c f.bookies).length : Int)) = true := by rw [List.length_map]; simp only [decide_eq_true_eq]; omega
      repeat' ((conv => whnf); first | with_reducible refine (Or.inl ?_ : VC _ _ _ _ _ ∨ _) | ((with_reducible refine fk (fun hc => ?_) fun hc => ?_) <;> first | exact absurd hc (by decide) | (exfalso; simp only [*, reduceCtorEq] at hc; done) | skip) | ((refine ⟨_, hrow, ?_⟩)) | ((refine ⟨_, rowK _ _ _ hjt, ?_⟩)) | ((with_reducible apply And.intro); focus (first | rfl | exact Nat.le_of_ble_eq_true rfl | omega | (simp only [List.length_cons, List.length_nil, List.length_map, List.length_append]; omega))))
      · exfalso
        rw [Pl.beq] at hc
        simp at hc
      · repeat' ((conv => whnf)
                 first
                 | with_reducible refine (Or.inl ?_ : VC _ _ _ _ _ ∨ _)
                 | ((with_reducible refine fk (fun hc => ?_) fun hc => ?_) <;> first | exact absurd hc (by decide) | (exfalso; simp only [*, reduceCtorEq] at hc; done) | skip)
                 | ((with_reducible apply And.intro); focus (first | rfl | exact Nat.le_of_ble_eq_true rfl | omega | (simp only [List.length_cons, List.length_nil, List.length_map, List.length_append]; omega))))
        refine ⟨⟨j + 1, hjt⟩, dec_lt hjt, ent_of ?_⟩
        repeat' first | (with_reducible first | exact ⟨⟩ | exact rfl | exact lr _) | ((conv => whnf); with_reducible first | apply And.intro | exact ⟨⟩) | exact rfl | exact id | exact lr _
        all_goals try (conv => whnf)
        exact wrapI (by omega) (by omega)
    · have hje : j = f.bookies.length := by omega
      subst hje
      have d1 : decide ((f.bookies.length : Int) < ((List.map Pl.c f.bookies).length : Int)) = false := by rw [List.length_map]; simp
      repeat' ((conv => whnf); first | with_reducible refine (Or.inl ?_ : VC _ _ _ _ _ ∨ _) | ((with_reducible refine fk (fun hc => ?_) fun hc => ?_) <;> first | exact absurd hc (by decide) | (exfalso; simp only [*, reduceCtorEq] at hc; done) | skip) | ((refine ⟨_, hrow, ?_⟩)) | ((with_reducible apply And.intro); focus (first | rfl | exact Nat.le_of_ble_eq_true rfl | omega | (simp only [List.length_cons, List.length_nil, List.length_map, List.length_append]; omega))))
      refine ⟨⟨k + 1, hlt⟩, dec_lt hlt, ent_of ?_⟩
      repeat' first | (with_reducible first | exact ⟨⟩ | exact rfl | exact lr _) | ((conv => whnf); with_reducible first | apply And.intro | exact ⟨⟩) | exact rfl | exact id | exact lr _
      all_goals try (conv => whnf)
      exact wrapI (by omega) (by omega)
  · have hke : k = l.length := by omega
    subst hke
    have d0 : decide ((l.length : Int) < ((List.map Fr.c l).length : Int)) = false := by rw [List.length_map]; simp
    repeat' ((conv => whnf); first | with_reducible refine (Or.inl ?_ : VC _ _ _ _ _ ∨ _) | ((with_reducible refine fk (fun hc => ?_) fun hc => ?_) <;> first | exact absurd hc (by decide) | (exfalso; simp only [*, reduceCtorEq] at hc; done) | skip) | ((with_reducible apply And.intro); focus (first | rfl | exact Nat.le_of_ble_eq_true rfl | omega | (simp only [List.length_cons, List.length_nil, List.length_map, List.length_append]; omega))))
    repeat' first | (with_reducible first | exact ⟨⟩ | exact rfl | exact lr _) | ((conv => whnf); with_reducible first | apply And.intro | exact ⟨⟩) | exact rfl | exact id | exact lr _
    all_goals try (conv => whnf)
theorem fn_r07SameLedger : FnOk Try.prog 23 Try.f23 := ⟨Try.func23, by kernel_rfl, by kernel_rfl, by kernel_rfl⟩
theorem sameLedger_r (l : Lg) (hl : l.frags.length ≤ 1000000) (hb : ∀ f ∈ l.frags, f.bookies.length ≤ 1000000) : PCx Try.prog 23 [.agg l.c, .agg l.c] (bl true) := by
  refine PC.le ?_
  have hs := sameFrags_r l.frags hl hb
  have e1 : (l.id == l.id) = true := by simp
  have e2 : (l.w == l.w) = true := by simp
  have e3 : (l.a == l.a) = true := by simp
  have e4 : (l.closed == l.closed) = true := by simp
  have e5 : (l.last == l.last) = true := by simp
  clear hl hb
  refine PC_of_VC tabOk (draw_ok mixed tabOk) fn_r07SameLedger rfl ?_
  repeat' ((conv => whnf); first | with_reducible refine (Or.inl ?_ : VC _ _ _ _ _ ∨ _) | ((with_reducible refine fk (fun hc => ?_) fun hc => ?_) <;> first | exact absurd hc (by decide) | (exfalso; simp only [*, reduceCtorEq] at hc; done) | skip) | (refine Or.inl (Or.inl ?_); (conv => whnf); refine ⟨_, hs, ?_⟩) | ((with_reducible apply And.intro); focus (first | rfl | exact Nat.le_of_ble_eq_true rfl | omega | (simp only [List.length_cons, List.length_nil, List.length_map, List.length_append]; omega))))
  all_goals
    repeat' first | (with_reducible first | exact ⟨⟩ | exact rfl | exact lr _) | ((conv => whnf); with_reducible first | apply And.intro | exact ⟨⟩) | exact rfl | exact id | exact lr _
    all_goals try (conv => whnf)
theorem fn_r16Same : FnOk Try.prog 8 Try.f8 := ⟨Try.func8, by kernel_rfl, by kernel_rfl, by kernel_rfl⟩
theorem r16Same_r (x : Rv) (h : x.sm) : PCx Try.prog 8 [.agg x.c, .agg x.c] (bl true) := by
  refine PC.le ?_
  have hl := sameLedger_r x.l (by have := h.f1.1; omega) (fun f hf => by have := h.f1.2 f hf; omega)
  have hf := sameFrags_r x.frags (by have := h.f2.1; omega) (fun f hf => by have := h.f2.2 f hf; omega)
  have r14 : ∀ l : List Pl, PCx Try.prog 24 [slP l, slP l] (bl true) := fun l => by
    have := r14Same_c l l
    rwa [decide_eq_true rfl] at this
  have r1 := r14 x.heard
  have r2 := r14 x.none
  have r3 := r14 x.has
  have r4 := r14 x.bad
  have e1 : (x.epoch == x.epoch) = true := by simp
  have e2 : (x.phase == x.phase) = true := by simp
  have e3 : (x.sure == x.sure) = true := by simp
  have e4 : (x.n == x.n) = true := by simp
  have e5 : (x.born == x.born) = true := by simp
  have e6 : (x.since == x.since) = true := by simp
  have e7 : ((⟨x.body.toArray⟩ : ByteArray).toList == (⟨x.body.toArray⟩ : ByteArray).toList) = true := by simp
  clear h r14
  refine PC_of_VC tabOk (draw_ok mixed tabOk) fn_r16Same rfl ?_
  repeat' ((conv => whnf); first | with_reducible refine (Or.inl ?_ : VC _ _ _ _ _ ∨ _) | ((with_reducible refine fk (fun hc => ?_) fun hc => ?_) <;> first | exact absurd hc (by decide) | (exfalso; simp only [*, reduceCtorEq] at hc; done) | skip) | (refine Or.inl (Or.inl ?_); (conv => whnf); refine ⟨_, PCx_pre (hl) ?_, ?_⟩; focus ((repeat' first | (with_reducible first | exact ⟨⟩ | exact rfl | exact lr _) | ((conv => whnf); with_reducible first | apply And.intro | exact ⟨⟩) | exact rfl | exact id | assumption | exact lr _); done)) | (refine Or.inl (Or.inl ?_); (conv => whnf); refine ⟨_, r1, ?_⟩) | (refine Or.inl (Or.inl ?_); (conv => whnf); refine ⟨_, r2, ?_⟩) | (refine Or.inl (Or.inl ?_); (conv => whnf); refine ⟨_, r3, ?_⟩) | (refine Or.inl (Or.inl ?_); (conv => whnf); refine ⟨_, r4, ?_⟩) | (refine Or.inl (Or.inl ?_); (conv => whnf); refine ⟨_, hf, ?_⟩) | ((refine ⟨x.body, rfl, ?_⟩)) | ((with_reducible apply And.intro); focus (first | rfl | exact Nat.le_of_ble_eq_true rfl | omega | (simp only [List.length_cons, List.length_nil, List.length_map, List.length_append]; omega))))
  all_goals
    repeat' first | (with_reducible first | exact ⟨⟩ | exact rfl | exact lr _) | ((conv => whnf); with_reducible first | apply And.intro | exact ⟨⟩) | exact rfl | exact id | exact lr _
    all_goals try (conv => whnf)
  all_goals exact e6
end Go.Proofs.Ytpbjamihhkmgiaa.Tb
