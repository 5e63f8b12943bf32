/-
  Contracts of functions of the program and of the document, each for every input that its premises name.
-/
import Derived.Test.YtpbjamihhkmgiaaFC
import Derived.Test.YtpbjamihhkmgiaaAe
set_option linter.unusedSectionVars false
set_option maxRecDepth 100000
set_option maxHeartbeats 4000000
set_option linter.unusedVariables false
set_option linter.unusedSimpArgs false
open Go Go.AX
namespace Go.Proofs.Ytpbjamihhkmgiaa.Tb
theorem fn_sSwap : FnOk Try.prog 76 Try.f76 := ⟨Try.func76, by kernel_rfl, by kernel_rfl, by kernel_rfl⟩
theorem sSwap_c (f : Fr) (old fresh : Pl) (hl : f.bookies.length ≤ 1000000) : PCx Try.prog 76 [.agg f.c, .agg old.c, .agg fresh.c] (.tup [.agg ((swapP f old fresh).getD fr0).c, bl (swapP f old fresh).isSome]) := by
  refine PC.le ?_
  have hix := indexPlace_c f.bookies old.node old.serial
  obtain ⟨K, hK⟩ : ∃ K, ixP (· == old) f.bookies = K := ⟨_, rfl⟩
  rw [show ixP (fun y => y == (⟨old.node, old.serial⟩ : Pl)) f.bookies = K from hK] at hix
  obtain ⟨X, hX⟩ : ∃ X, X = swapP f old fresh := ⟨_, rfl⟩
  rw [← hX]
  have hsp := ixP_spec (· == old) f.bookies
  rw [hK] at hsp
  refine PC_of_VC tabOk (draw_ok mixed tabOk) fn_sSwap rfl ?_
  repeat' ((conv => whnf); first | with_reducible refine (Or.inl ?_ : VC _ _ _ _ _ ∨ _) | ((with_reducible refine fk (fun hc => ?_) fun hc => ?_) <;> first | exact absurd hc (by decide) | (exfalso; simp only [*, reduceCtorEq] at hc; done) | skip) | (refine Or.inl (Or.inl ?_); (conv => whnf); refine ⟨_, hix, ?_⟩) | ((with_reducible apply And.intro); focus (first | rfl | exact Nat.le_of_ble_eq_true rfl | omega | (simp only [List.length_cons, List.length_nil, List.length_map, List.length_append]; omega))))
  refine ⟨{k : Nat // k ≤ f.bookies.length ∧ clashK K fresh.node f.bookies k = false}, fun ⟨k, _⟩ => ⟨[(3, .ptr 1003 0), (5, .ptr 1005 0), (6, .ptr 1006 0), (8, .pv (ii K)), (16, .pv (slP f.bookies)), (17, .pv (ii f.bookies.length)), (18, .pv (ii k))], 1000000000, [(1003, .var [.pv (uu f.first), .pv (slP f.bookies)]), (1005, .var [.pv (ii fresh.node), .pv (uu fresh.serial)]), (1006, .var [.pv (uu 0), .pv nilS])]⟩, fun ⟨k, _⟩ => f.bookies.length - k, ⟨⟨0, Nat.zero_le _, rfl⟩, ent_of ?_⟩, ?_⟩
  · repeat' first
      | fail
      | with_reducible exact True.intro
      | with_reducible exact rfl
      | with_reducible exact leRs_refl _
      | ((conv => whnf); with_reducible apply And.intro)
      | ((conv => whnf); with_reducible exact True.intro)
      | exact rfl
      | exact id
      | exact leRs_refl _
    all_goals try (conv => whnf)
    all_goals simp
  rintro ⟨k, hk, hcl⟩
  by_cases hlt : k < f.bookies.length
  · have d0 : decide ((k : Int) < (f.bookies.length : Int)) = true := by simp only [decide_eq_true_eq]; omega
    have eW : IntKind.i64.wrap ((k : Int) + 1) = ((k + 1 : Nat) : Int) := by rw [wrapI (by omega) (by omega)]; omega
    have hcs := clashK_succ K fresh.node f.bookies k hlt
    rw [hcl, Bool.false_or] at hcs
    clear hsp
    cases e1 : ((k : Int) != K)
    · rw [e1, Bool.false_and] at hcs
      repeat' ((conv => whnf); first | with_reducible refine (Or.inl ?_ : VC _ _ _ _ _ ∨ _) | ((with_reducible refine fk (fun hc => ?_) fun hc => ?_) <;> first | exact absurd hc (by decide) | (exfalso; simp only [*, reduceCtorEq] at hc; done) | skip) | ((refine ⟨_, rowK _ _ _ hlt, ?_⟩)) | ((with_reducible apply And.intro); focus (first | rfl | exact Nat.le_of_ble_eq_true rfl | omega | (simp only [List.length_cons, List.length_nil, List.length_map, List.length_append]; omega))))
      refine ⟨⟨k + 1, hlt, hcs⟩, dec_lt hlt, ent_of ?_⟩
      repeat' first | (with_reducible first | exact ⟨⟩ | exact rfl | exact lr _) | ((conv => whnf); with_reducible first | apply And.intro | exact ⟨⟩) | exact rfl | exact id | exact lr _
      all_goals try (conv => whnf)
      exact eW
    · cases e2 : (f.bookies[k].node == fresh.node)
      · rw [e2, Bool.and_false] at hcs
        repeat' ((conv => whnf); first | with_reducible refine (Or.inl ?_ : VC _ _ _ _ _ ∨ _) | ((with_reducible refine fk (fun hc => ?_) fun hc => ?_) <;> first | exact absurd hc (by decide) | (exfalso; simp only [*, reduceCtorEq] at hc; done) | skip) | ((refine ⟨_, rowK _ _ _ hlt, ?_⟩)) | ((with_reducible apply And.intro); focus (first | rfl | exact Nat.le_of_ble_eq_true rfl | omega | (simp only [List.length_cons, List.length_nil, List.length_map, List.length_append]; omega))))
        refine ⟨⟨k + 1, hlt, hcs⟩, dec_lt hlt, ent_of ?_⟩
        repeat' first | (with_reducible first | exact ⟨⟩ | exact rfl | exact lr _) | ((conv => whnf); with_reducible first | apply And.intro | exact ⟨⟩) | exact rfl | exact id | exact lr _
        all_goals try (conv => whnf)
        exact eW
      · have hn : X = none := by
          rw [hX]; unfold swapP
          rw [hK, if_pos (clashK_mono _ _ _ hlt (by rw [hcs, e1, e2]; rfl))]
        clear hX hcs
        subst hn
        repeat' ((conv => whnf); first | with_reducible refine (Or.inl ?_ : VC _ _ _ _ _ ∨ _) | ((with_reducible refine fk (fun hc => ?_) fun hc => ?_) <;> first | exact absurd hc (by decide) | (exfalso; simp only [*, reduceCtorEq] at hc; done) | skip) | ((refine ⟨_, rowK _ _ _ hlt, ?_⟩)) | ((with_reducible apply And.intro); focus (first | rfl | exact Nat.le_of_ble_eq_true rfl | omega | (simp only [List.length_cons, List.length_nil, List.length_map, List.length_append]; omega))))
        repeat' first | (with_reducible first | exact ⟨⟩ | exact rfl | exact lr _) | ((conv => whnf); with_reducible first | apply And.intro | exact ⟨⟩) | exact rfl | exact id | exact lr _
        all_goals try (conv => whnf)
  · have hke : k = f.bookies.length := by omega
    subst hke
    have d0 : decide ((f.bookies.length : Int) < (f.bookies.length : Int)) = false := by simp
    rcases hsp with ⟨hsp, _⟩ | ⟨n, hn, hsp, _⟩
    · have hn : X = none := by
        rw [hX]; unfold swapP
        rw [hK, if_neg (by rw [hcl]; decide), if_pos (by omega)]
      clear hX hK
      subst hn
      subst hsp
      repeat' ((conv => whnf); first | with_reducible refine (Or.inl ?_ : VC _ _ _ _ _ ∨ _) | ((with_reducible refine fk (fun hc => ?_) fun hc => ?_) <;> first | exact absurd hc (by decide) | (exfalso; simp only [*, reduceCtorEq] at hc; done) | skip) | ((with_reducible apply And.intro); focus (first | rfl | exact Nat.le_of_ble_eq_true rfl | omega | (simp only [List.length_cons, List.length_nil, List.length_map, List.length_append]; omega))))
      repeat' first | (with_reducible first | exact ⟨⟩ | exact rfl | exact lr _) | ((conv => whnf); with_reducible first | apply And.intro | exact ⟨⟩) | exact rfl | exact id | exact lr _
      all_goals try (conv => whnf)
    · have hn2 : X = some ⟨f.first, f.bookies.set n fresh⟩ := by
        rw [hX]; unfold swapP
        rw [hK, if_neg (by rw [hcl]; decide), if_neg (by omega), hsp]
        rfl
      clear hX hK
      subst hn2
      subst hsp
      have d1 : decide ((n : Int) < 0) = false := by simp
      repeat' ((conv => whnf); first | with_reducible refine (Or.inl ?_ : VC _ _ _ _ _ ∨ _) | ((with_reducible refine fk (fun hc => ?_) fun hc => ?_) <;> first | exact absurd hc (by decide) | (exfalso; simp only [*, reduceCtorEq] at hc; done) | skip) | (refine Or.inl (Or.inr ?_); (conv => whnf); refine ⟨_, _, clonePlace_g f.bookies (by omega), ?_⟩) | ((refine ⟨_, rowK _ _ _ hn, ?_⟩)) | ((with_reducible apply And.intro); focus (first | rfl | exact Nat.le_of_ble_eq_true rfl | omega | (simp only [List.length_cons, List.length_nil, List.length_map, List.length_append]; omega))))
      repeat' first | (with_reducible first | exact ⟨⟩ | exact rfl | exact lr _) | ((conv => whnf); with_reducible first | apply And.intro | exact ⟨⟩) | exact rfl | exact id | exact lr _
      all_goals try (conv => whnf)
      refine leRs_of_eq ?_
      show (List.map Pl.c f.bookies).set n (Pl.c fresh) = List.map Pl.c (f.bookies.set n fresh)
      rw [List.map_set]
theorem fn_sReplaced : FnOk Try.prog 60 Try.f60 := ⟨Try.func60, by kernel_rfl, by kernel_rfl, by kernel_rfl⟩
theorem sReplaced_c (f : Fr) (old : Pl) (known : List Pl) (hl : f.bookies.length ≤ 1000000) : PCx Try.prog 60 [.agg f.c, .agg old.c, slP known] (.tup [.agg (replP f old known).1.c, bl (replP f old known).2]) := by
  refine PC.le (PC_bd fn_sReplaced fun hb => ?_)
  have hb : known.length ≤ 9223372036854775807 := by simp [bdL, bdP, slP] at hb; omega
  obtain ⟨X, hX⟩ : ∃ X, X = replP f old known := ⟨_, rfl⟩
  rw [← hX]
  refine PC_of_VC tabOk (draw_ok mixed tabOk) fn_sReplaced rfl ?_
  repeat' ((conv => whnf); first | with_reducible refine (Or.inl ?_ : VC _ _ _ _ _ ∨ _) | ((with_reducible refine fk (fun hc => ?_) fun hc => ?_) <;> first | exact absurd hc (by decide) | (exfalso; simp only [*, reduceCtorEq] at hc; done) | skip) | ((with_reducible apply And.intro); focus (first | rfl | exact Nat.le_of_ble_eq_true rfl | omega | (simp only [List.length_cons, List.length_nil, List.length_map, List.length_append]; omega))))
  refine ⟨{k : Nat // k ≤ known.length ∧ X = replP f old (known.drop k)}, fun ⟨k, _⟩ => ⟨[(3, .ptr 1003 0), (4, .ptr 1004 0), (6, .ptr 1006 0), (12, .pv (slP known)), (13, .pv (ii known.length)), (14, .pv (ii k))], 1000000000, [(1003, .var [.pv (uu f.first), .pv (slP f.bookies)]), (1004, .var [.pv (ii old.node), .pv (uu old.serial)]), (1006, .var [.pv (uu 0), .pv nilS])]⟩, fun ⟨k, _⟩ => known.length - k, ⟨⟨0, Nat.zero_le _, hX⟩, ent_of ?_⟩, ?_⟩
  · repeat' first
      | fail
      | with_reducible exact True.intro
      | with_reducible exact rfl
      | with_reducible exact leRs_refl _
      | ((conv => whnf); with_reducible apply And.intro)
      | ((conv => whnf); with_reducible exact True.intro)
      | exact rfl
      | exact id
      | exact leRs_refl _
    all_goals try (conv => whnf)
    all_goals simp
  rintro ⟨k, hk, hcl⟩
  clear hX
  by_cases hlt : k < known.length
  · have d0 : decide ((k : Int) < (known.length : Int)) = true := by simp only [decide_eq_true_eq]; omega
    have eW : IntKind.i64.wrap ((k : Int) + 1) = ((k + 1 : Nat) : Int) := by rw [wrapI (by omega) (by omega)]; omega
    rw [replP_drop f old known k hlt] at hcl
    have hsw := sSwap_c f old known[k] hl
    cases hs : swapP f old known[k] with
    | none =>
      rw [hs] at hcl hsw
      simp only [Option.getD_none, Option.isSome_none] at hsw
      repeat' ((conv => whnf); first | with_reducible refine (Or.inl ?_ : VC _ _ _ _ _ ∨ _) | ((with_reducible refine fk (fun hc => ?_) fun hc => ?_) <;> first | exact absurd hc (by decide) | (exfalso; simp only [*, reduceCtorEq] at hc; done) | skip) | ((refine ⟨_, rowK _ _ _ hlt, ?_⟩)) | (refine Or.inl (Or.inl ?_); (conv => whnf); refine ⟨_, PCx_pre (hsw) ?_, ?_⟩; focus ((repeat' first | (with_reducible first | exact ⟨⟩ | exact rfl | exact lr _) | ((conv => whnf); with_reducible first | apply And.intro | exact ⟨⟩) | exact rfl | exact id | assumption | exact lr _); done)) | ((with_reducible apply And.intro); focus (first | rfl | exact Nat.le_of_ble_eq_true rfl | omega | (simp only [List.length_cons, List.length_nil, List.length_map, List.length_append]; omega))))
      refine ⟨⟨k + 1, hlt, hcl⟩, dec_lt hlt, ent_of ?_⟩
      repeat' first | (with_reducible first | exact ⟨⟩ | exact rfl | exact lr _) | ((conv => whnf); with_reducible first | apply And.intro | exact ⟨⟩) | exact rfl | exact id | exact lr _
      all_goals try (conv => whnf)
      exact eW
    | some g =>
      rw [hs] at hcl hsw
      simp only [Option.getD_some, Option.isSome_some] at hsw
      subst hcl
      repeat' ((conv => whnf); first | with_reducible refine (Or.inl ?_ : VC _ _ _ _ _ ∨ _) | ((with_reducible refine fk (fun hc => ?_) fun hc => ?_) <;> first | exact absurd hc (by decide) | (exfalso; simp only [*, reduceCtorEq] at hc; done) | skip) | ((refine ⟨_, rowK _ _ _ hlt, ?_⟩)) | (refine Or.inl (Or.inl ?_); (conv => whnf); refine ⟨_, PCx_pre (hsw) ?_, ?_⟩; focus ((repeat' first | (with_reducible first | exact ⟨⟩ | exact rfl | exact lr _) | ((conv => whnf); with_reducible first | apply And.intro | exact ⟨⟩) | exact rfl | exact id | assumption | exact lr _); done)) | ((with_reducible apply And.intro); focus (first | rfl | exact Nat.le_of_ble_eq_true rfl | omega | (simp only [List.length_cons, List.length_nil, List.length_map, List.length_append]; omega))))
      repeat' first | (with_reducible first | exact ⟨⟩ | exact rfl | exact lr _) | ((conv => whnf); with_reducible first | apply And.intro | exact ⟨⟩) | exact rfl | exact id | exact lr _
      all_goals try (conv => whnf)
  · have hke : k = known.length := by omega
    subst hke
    have d0 : decide ((known.length : Int) < (known.length : Int)) = false := by simp
    rw [List.drop_length] at hcl
    subst hcl
    repeat' ((conv => whnf); first | with_reducible refine (Or.inl ?_ : VC _ _ _ _ _ ∨ _) | ((with_reducible refine fk (fun hc => ?_) fun hc => ?_) <;> first | exact absurd hc (by decide) | (exfalso; simp only [*, reduceCtorEq] at hc; done) | skip) | ((with_reducible apply And.intro); focus (first | rfl | exact Nat.le_of_ble_eq_true rfl | omega | (simp only [List.length_cons, List.length_nil, List.length_map, List.length_append]; omega))))
    repeat' first | (with_reducible first | exact ⟨⟩ | exact rfl | exact lr _) | ((conv => whnf); with_reducible first | apply And.intro | exact ⟨⟩) | exact rfl | exact id | exact lr _
    all_goals try (conv => whnf)
theorem fn_sRenew1 : FnOk Try.prog 59 Try.f59 := ⟨Try.func59, by kernel_rfl, by kernel_rfl, by kernel_rfl⟩
theorem sRenew1_c (bad : List Pl) (y : Pl) : PCx Try.prog 59 ([] ++ ([.agg y.c] ++ [.eptr [slP bad] 0])) (bl (bad.any (· == y))) := by
  refine PC.le ?_
  refine PC_of_VC tabOk (draw_ok mixed tabOk) fn_sRenew1 rfl ?_
  repeat' ((conv => whnf); first | with_reducible refine (Or.inl ?_ : VC _ _ _ _ _ ∨ _) | ((with_reducible refine fk (fun hc => ?_) fun hc => ?_) <;> first | exact absurd hc (by decide) | (exfalso; simp only [*, reduceCtorEq] at hc; done) | skip) | (refine Or.inl (Or.inl ?_); (conv => whnf); refine ⟨_, containsPlace_c _ _ _, ?_⟩) | ((with_reducible apply And.intro); focus (first | rfl | exact Nat.le_of_ble_eq_true rfl | omega | (simp only [List.length_cons, List.length_nil, List.length_map, List.length_append]; omega))))
  repeat' first | (with_reducible first | exact ⟨⟩ | exact rfl | exact lr _) | ((conv => whnf); with_reducible first | apply And.intro | exact ⟨⟩) | exact rfl | exact id | exact lr _
  all_goals try (conv => whnf)
theorem fn_sRenew2 : FnOk Try.prog 63 Try.f63 := ⟨Try.func63, by kernel_rfl, by kernel_rfl, by kernel_rfl⟩
theorem sRenew2_c (x y : Pl) : PCx Try.prog 63 ([] ++ ([.agg y.c] ++ [.eptr x.c 0])) (bl (y.node == x.node)) := by
  refine PC.le ?_
  refine PC_of_VC tabOk (draw_ok mixed tabOk) fn_sRenew2 rfl ?_
  repeat' ((conv => whnf); first | with_reducible refine (Or.inl ?_ : VC _ _ _ _ _ ∨ _) | ((with_reducible refine fk (fun hc => ?_) fun hc => ?_) <;> first | exact absurd hc (by decide) | (exfalso; simp only [*, reduceCtorEq] at hc; done) | skip) | ((with_reducible apply And.intro); focus (first | rfl | exact Nat.le_of_ble_eq_true rfl | omega | (simp only [List.length_cons, List.length_nil, List.length_map, List.length_append]; omega))))
  repeat' first | (with_reducible first | exact ⟨⟩ | exact rfl | exact lr _) | ((conv => whnf); with_reducible first | apply And.intro | exact ⟨⟩) | exact rfl | exact id | exact lr _
  all_goals try (conv => whnf)
end Go.Proofs.Ytpbjamihhkmgiaa.Tb
