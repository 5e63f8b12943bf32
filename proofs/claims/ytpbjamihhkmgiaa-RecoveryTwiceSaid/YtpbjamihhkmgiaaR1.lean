/-
  Contracts of functions of the program and of the document, each for every input that its premises name.
-/
import Derived.Test.YtpbjamihhkmgiaaFC
import Derived.Test.YtpbjamihhkmgiaaAe
set_option linter.unusedSectionVars false
set_option maxRecDepth 100000
set_option maxHeartbeats 4000000
set_option linter.unusedVariables false
set_option linter.unusedSimpArgs false
open Go Go.AX
namespace Go.Proofs.Ytpbjamihhkmgiaa.Tb
theorem lastO_g (l : List Fr) (hb : l.length ≤ 1000000) (f : FuncId) (first caps : List PV) (p : Fr → Bool) (hp : ∀ x ∈ l, PCx Try.prog f (first ++ ([.agg x.c] ++ caps)) (bl (p x))) :
    GCx Try.prog 56 [.slw 1 0, .pv (.fn (.func f) first caps)] [(1, .arr 49 0 2 (l.map Fr.c))] (.pv (.tup [.agg ((lastP p l).getD fr0).c, bl (lastP p l).isSome])) [(1, .arr 49 0 2 (l.map Fr.c))] := by
  refine GC_of_VC tabOk (draw_ok mixed tabOk) fn_last rfl ?_
  repeat' ((conv => whnf); first | with_reducible refine (Or.inl ?_ : VC _ _ _ _ _ ∨ _) | ((with_reducible refine fk (fun hc => ?_) fun hc => ?_) <;> first | exact absurd hc (by decide) | (exfalso; simp only [*, reduceCtorEq] at hc; done) | skip) | ((with_reducible apply And.intro); focus (first | rfl | exact Nat.le_of_ble_eq_true rfl | omega | (simp only [List.length_cons, List.length_nil, List.length_map, List.length_append]; omega))))
  refine ⟨{k : Nat // k ≤ l.length}, fun ⟨k, _⟩ => ⟨[(1, .pv (.fn (.func f) first caps)), (4, .ptr 1004 0), (5, .pv (bl (lastP p (l.take k)).isSome)), (8, .slw 1 0), (9, .pv (ii l.length)), (10, .pv (ii k))], 1000000000, [(1, .arr 49 0 2 (l.map Fr.c)), (1004, .var [.pv (uu ((lastP p (l.take k)).getD fr0).first), .pv (slP ((lastP p (l.take k)).getD fr0).bookies)])]⟩, fun ⟨k, _⟩ => l.length - k, ⟨⟨0, by simp⟩, ent_of ?_⟩, ?_⟩
  · repeat' first
      | fail
      | with_reducible exact True.intro
      | with_reducible exact rfl
      | with_reducible exact leRs_refl _
      | ((conv => whnf); with_reducible apply And.intro)
      | ((conv => whnf); with_reducible exact True.intro)
      | exact rfl
      | exact id
      | exact leRs_refl _
    all_goals try (conv => whnf)
    all_goals simp
  rintro ⟨k, hk⟩
  by_cases hlt : k < l.length
  · have d0 : decide ((k : Int) < (l.length : Int)) = true := by simp only [decide_eq_true_eq]; omega
    have hs : lastP p (l.take (k + 1)) = if p l[k] then some l[k] else lastP p (l.take k) := take_foldl _ _ _ _ hlt
    repeat' ((conv => whnf); first | with_reducible refine (Or.inl ?_ : VC _ _ _ _ _ ∨ _) | ((with_reducible refine fk (fun hc => ?_) fun hc => ?_) <;> first | exact absurd hc (by decide) | (exfalso; simp only [*, reduceCtorEq] at hc; done) | skip) | ((refine ⟨_, rowK _ _ _ hlt, ?_⟩)) | (refine Or.inl (Or.inl ?_); (conv => whnf); refine ⟨_, hp _ (List.getElem_mem hlt), ?_⟩) | (((with_reducible apply And.intro); focus (rw [List.length_map]; omega))) | ((with_reducible apply And.intro); focus (first | rfl | exact Nat.le_of_ble_eq_true rfl | omega | (simp only [List.length_cons, List.length_nil, List.length_map, List.length_append]; omega))))
    · refine ⟨⟨k + 1, hlt⟩, dec_lt hlt, ent_of ?_⟩
      repeat' first | (with_reducible first | exact ⟨⟩ | exact rfl | exact lr _) | ((conv => whnf); with_reducible first | apply And.intro | exact ⟨⟩) | exact rfl | exact id | exact lr _
      all_goals try (conv => whnf)
      all_goals first | exact wrapI (by omega) (by omega) | (rw [hs, if_pos hc]; first | rfl | exact leRs_refl _)
    · refine ⟨⟨k + 1, hlt⟩, dec_lt hlt, ent_of ?_⟩
      repeat' first | (with_reducible first | exact ⟨⟩ | exact rfl | exact lr _) | ((conv => whnf); with_reducible first | apply And.intro | exact ⟨⟩) | exact rfl | exact id | exact lr _
      all_goals try (conv => whnf)
      all_goals first | exact wrapI (by omega) (by omega) | (rw [hs, if_neg (by simp [hc])]; first | done | exact leRs_refl _)
  · have hke : k = l.length := by omega
    subst hke
    have d0 : decide ((l.length : Int) < (l.length : Int)) = false := by simp
    dsimp only
    rw [List.take_length]
    repeat' ((conv => whnf); first | with_reducible refine (Or.inl ?_ : VC _ _ _ _ _ ∨ _) | ((with_reducible refine fk (fun hc => ?_) fun hc => ?_) <;> first | exact absurd hc (by decide) | (exfalso; simp only [*, reduceCtorEq] at hc; done) | skip) | ((with_reducible apply And.intro); focus (first | rfl | exact Nat.le_of_ble_eq_true rfl | omega | (simp only [List.length_cons, List.length_nil, List.length_map, List.length_append]; omega))))
    refine ⟨_, _, ⟨rfl, rfl⟩, ?_⟩
    repeat' first | (with_reducible first | exact ⟨⟩ | exact rfl | exact lr _) | ((conv => whnf); with_reducible first | apply And.intro | exact ⟨⟩) | exact rfl | exact id | exact lr _
    all_goals try (conv => whnf)
theorem sFragO_g (l : List Fr) (n : Int) (hb : l.length ≤ 1000000) (h : frsOk l) : GCx Try.prog 37 [.slw 1 0, .pv (uu n)] [(1, .arr 49 0 2 (l.map Fr.c))] (.pv (.tup [.agg ((fragAt l n).getD fr0).c, bl (fragAt l n).isSome])) [(1, .arr 49 0 2 (l.map Fr.c))] := by
  refine GC_of_VC tabOk (draw_ok mixed tabOk) fn_sFrag rfl ?_
  repeat' ((conv => whnf); first | with_reducible refine (Or.inl ?_ : VC _ _ _ _ _ ∨ _) | ((with_reducible refine fk (fun hc => ?_) fun hc => ?_) <;> first | exact absurd hc (by decide) | (exfalso; simp only [*, reduceCtorEq] at hc; done) | skip) | (refine Or.inl (Or.inr ?_); (conv => whnf); refine ⟨_, _, lastO_g l hb _ _ _ _ fun x _ => sFrag1_c n x, ?_⟩) | (refine Or.inl (Or.inl ?_); (conv => whnf); refine ⟨_, clonePlace_c _ (by have := fragAt_len h n; exact Nat.le_trans (Nat.mul_le_mul_right 16 this) (by decide)), ?_⟩) | ((with_reducible apply And.intro); focus (first | rfl | exact Nat.le_of_ble_eq_true rfl | omega | (simp only [List.length_cons, List.length_nil, List.length_map, List.length_append]; omega))))
  refine ⟨_, _, ⟨rfl, rfl⟩, ?_⟩
  repeat' first | (with_reducible first | exact ⟨⟩ | exact rfl | exact lr _) | ((conv => whnf); with_reducible first | apply And.intro | exact ⟨⟩) | exact rfl | exact id | exact lr _
  all_goals try (conv => whnf)
theorem sSetO_g (l : List Fr) (w n : Int) (hb : l.length ≤ 1000000) (h : frsOk l) (hn : 0 ≤ n ∧ n ≤ 18446744073709551615) : GCx Try.prog 35 [.slw 1 0, .pv (ii w), .pv (uu n)] [(1, .arr 49 0 2 (l.map Fr.c))] (.pv (slP (setOf l w n))) [(1, .arr 49 0 2 (l.map Fr.c))] := by
  cases hf : fragAt l n with
  | none =>
    have hF := sFragO_g l n hb h
    rw [hf] at hF
    simp only [Option.getD_none, Option.isSome_none] at hF
    refine GC_of_VC tabOk (draw_ok mixed tabOk) fn_sSet rfl ?_
    repeat' ((conv => whnf); first | with_reducible refine (Or.inl ?_ : VC _ _ _ _ _ ∨ _) | ((with_reducible refine fk (fun hc => ?_) fun hc => ?_) <;> first | exact absurd hc (by decide) | (exfalso; simp only [*, reduceCtorEq] at hc; done) | skip) | (refine Or.inl (Or.inr ?_); (conv => whnf); refine ⟨_, _, hF, ?_⟩) | ((with_reducible apply And.intro); focus (first | rfl | exact Nat.le_of_ble_eq_true rfl | omega | (simp only [List.length_cons, List.length_nil, List.length_map, List.length_append]; omega))))
    refine ⟨_, _, ⟨rfl, rfl⟩, ?_⟩
    repeat' first | (with_reducible first | exact ⟨⟩ | exact rfl | exact lr _) | ((conv => whnf); with_reducible first | apply And.intro | exact ⟨⟩) | exact rfl | exact id | exact lr _
    all_goals try (conv => whnf)
    simp [setOf, hf]
  | some f =>
    obtain ⟨⟨f1, f2, f3⟩, f4⟩ := fragAt_ok h hf
    have hF := sFragO_g l n hb h
    rw [hf] at hF
    simp only [Option.getD_some, Option.isSome_some] at hF
    have e1 (hpos : 0 < f.bookies.length) : IntKind.i64.wrap ((IntKind.u64.wrap (n - f.first)).tmod (IntKind.u64.wrap ((f.bookies.map Pl.c).length : Int))) = (n - f.first) % (f.bookies.length : Int) := by
      rw [wrapU (by omega) (by omega), List.length_map, wrapU (by omega) (by omega), Int.tmod_eq_emod_of_nonneg (by omega)]
      have h1 := Int.emod_nonneg (n - f.first) (b := (f.bookies.length : Int)) (by omega)
      have h2 := Int.emod_lt_of_pos (n - f.first) (b := (f.bookies.length : Int)) (by omega)
      exact wrapI (by omega) (by omega)
    by_cases hw1 : w < 1
    · have d1 : decide (w < 1) = true := by simp only [decide_eq_true_eq]; omega
      clear hw1
      refine GC_of_VC tabOk (draw_ok mixed tabOk) fn_sSet rfl ?_
      repeat' ((conv => whnf); first | with_reducible refine (Or.inl ?_ : VC _ _ _ _ _ ∨ _) | ((with_reducible refine fk (fun hc => ?_) fun hc => ?_) <;> first | exact absurd hc (by decide) | (exfalso; simp only [*, reduceCtorEq] at hc; done) | skip) | (refine Or.inl (Or.inr ?_); (conv => whnf); refine ⟨_, _, hF, ?_⟩) | ((with_reducible apply And.intro); focus (first | rfl | exact Nat.le_of_ble_eq_true rfl | omega | (simp only [List.length_cons, List.length_nil, List.length_map, List.length_append]; omega))))
      all_goals
        refine ⟨_, _, ⟨rfl, rfl⟩, ?_⟩
        repeat' first | (with_reducible first | exact ⟨⟩ | exact rfl | exact lr _) | ((conv => whnf); with_reducible first | apply And.intro | exact ⟨⟩) | exact rfl | exact id | exact lr _
        all_goals try (conv => whnf)
      all_goals
        simp only [decide_eq_true_eq] at d1
        simp only [setOf, hf]
        rw [if_neg (by omega)]; rfl
    by_cases hw2 : w > (f.bookies.length : Int)
    · have d1 : decide (w < 1) = false := by simp only [decide_eq_false_iff_not]; omega
      have d2 : decide (w > ((f.bookies.map Pl.c).length : Int)) = true := by rw [List.length_map]; simp only [decide_eq_true_eq]; omega
      clear hw1 hw2
      refine GC_of_VC tabOk (draw_ok mixed tabOk) fn_sSet rfl ?_
      repeat' ((conv => whnf); first | with_reducible refine (Or.inl ?_ : VC _ _ _ _ _ ∨ _) | ((with_reducible refine fk (fun hc => ?_) fun hc => ?_) <;> first | exact absurd hc (by decide) | (exfalso; simp only [*, reduceCtorEq] at hc; done) | skip) | (refine Or.inl (Or.inr ?_); (conv => whnf); refine ⟨_, _, hF, ?_⟩) | ((with_reducible apply And.intro); focus (first | rfl | exact Nat.le_of_ble_eq_true rfl | omega | (simp only [List.length_cons, List.length_nil, List.length_map, List.length_append]; omega))))
      all_goals
        refine ⟨_, _, ⟨rfl, rfl⟩, ?_⟩
        repeat' first | (with_reducible first | exact ⟨⟩ | exact rfl | exact lr _) | ((conv => whnf); with_reducible first | apply And.intro | exact ⟨⟩) | exact rfl | exact id | exact lr _
        all_goals try (conv => whnf)
      all_goals
        simp only [decide_eq_true_eq, decide_eq_false_iff_not, List.length_map] at d1 d2
        simp only [setOf, hf]
        rw [if_neg (by omega)]; rfl
    have d1 : decide (w < 1) = false := by simp only [decide_eq_false_iff_not]; omega
    have d2 : decide (w > ((f.bookies.map Pl.c).length : Int)) = false := by rw [List.length_map]; simp only [decide_eq_false_iff_not]; omega
    have hpos : 0 < f.bookies.length := by omega
    have e1 := e1 hpos
    have h1 := Int.emod_nonneg (n - f.first) (b := (f.bookies.length : Int)) (by omega)
    have h2 := Int.emod_lt_of_pos (n - f.first) (b := (f.bookies.length : Int)) (by omega)
    have hfr := sfrom_i f.bookies (IntKind.i64.wrap ((IntKind.u64.wrap (n - f.first)).tmod (IntKind.u64.wrap ((f.bookies.map Pl.c).length : Int)))) w hpos f3 (by rw [e1]; exact ⟨h1, h2⟩) ⟨by omega, by omega⟩
    have hw3 : 1 ≤ w ∧ w ≤ (f.bookies.length : Int) := by omega
    clear hw1 hw2
    refine GC_of_VC tabOk (draw_ok mixed tabOk) fn_sSet rfl ?_
    repeat' ((conv => whnf); first | with_reducible refine (Or.inl ?_ : VC _ _ _ _ _ ∨ _) | ((with_reducible refine fk (fun hc => ?_) fun hc => ?_) <;> first | exact absurd hc (by decide) | (exfalso; simp only [*, reduceCtorEq] at hc; done) | skip) | (refine Or.inl (Or.inr ?_); (conv => whnf); refine ⟨_, _, hF, ?_⟩) | (((with_reducible apply And.intro); focus (rw [List.length_map, wrapU (by omega) (by omega)]; omega))) | (refine Or.inl (Or.inl ?_); (conv => whnf); refine ⟨_, PCx_pre (hfr) ?_, ?_⟩; focus ((repeat' first | (with_reducible first | exact ⟨⟩ | exact rfl | exact lr _) | ((conv => whnf); with_reducible first | apply And.intro | exact ⟨⟩) | exact rfl | exact id | assumption | exact lr _); done)) | ((with_reducible apply And.intro); focus (first | rfl | exact Nat.le_of_ble_eq_true rfl | omega | (simp only [List.length_cons, List.length_nil, List.length_map, List.length_append]; omega))))
    refine ⟨_, _, ⟨rfl, rfl⟩, ?_⟩
    repeat' first | (with_reducible first | exact ⟨⟩ | exact rfl | exact lr _) | ((conv => whnf); with_reducible first | apply And.intro | exact ⟨⟩) | exact rfl | exact id | exact lr _
    all_goals try (conv => whnf)
    refine leRs_of_eq ?_
    rw [e1]
    simp only [setOf, hf]
    rw [if_pos (by omega)]
end Go.Proofs.Ytpbjamihhkmgiaa.Tb
