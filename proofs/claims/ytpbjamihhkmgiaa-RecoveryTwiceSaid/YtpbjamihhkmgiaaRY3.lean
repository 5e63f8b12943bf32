/-
  Contracts of functions of the program and of the document, each for every input that its premises name.
-/
import Derived.Test.YtpbjamihhkmgiaaRY2
import Derived.Test.YtpbjamihhkmgiaaAe
set_option linter.unusedSectionVars false
set_option maxRecDepth 100000
set_option maxHeartbeats 4000000
set_option linter.unusedVariables false
set_option linter.unusedSimpArgs false
open Go Go.AX
namespace Go.Proofs.Ytpbjamihhkmgiaa.Tb
theorem delFit_g (bad known : List Pl) (hk : known.length ≤ 1000) : GCx Try.prog 58 [.slw 1 0, .pv (.fn (.func 59) [] [.eptr [slP bad] 0])] [(1, .arr 38 0 2 (known.map Pl.c))] (.slw 1 1) [(1, .arr 38 1 2 ((fit bad known).map Pl.c))] := by
  by_cases h0 : ∀ x ∈ known, bad.any (· == x) = false
  · have h := GCx_bump (delF0_g [slP bad] known 59 (fun x => bad.any (· == x)) (fun x _ => sRenew1_c bad x) h0 (by omega))
    have hf : fit bad known = known := List.filter_eq_self.2 (fun x hx => by rw [h0 x hx]; rfl)
    rw [hf]
    exact h
  · exact delF1_g [slP bad] known 59 (fun x => bad.any (· == x)) (fun x _ => sRenew1_c bad x) h0 (by omega)
theorem fn_sRenew : FnOk Try.prog 38 Try.f38 := ⟨Try.func38, by kernel_rfl, by kernel_rfl, by kernel_rfl⟩
theorem sRenew_c (f : Fr) (w e : Int) (bad known : List Pl) (hf : f.bookies.length ≤ 1000) (hk : known.length ≤ 1000) :
    PCx Try.prog 38 [.agg f.c, ii w, ii e, slP bad, slP known] (.tup [.agg (renewP f w e bad known).1.c, bl (renewP f w e bad known).2]) := by
  refine PC.le ?_
  have hdel := delFit_g bad known hk
  have hcl := clonePlace_g known (by omega)
  obtain ⟨X, hX⟩ : ∃ X, X = renewP f w e bad known := ⟨_, rfl⟩
  rw [← hX]
  unfold renewP at hX
  have hfl : (fit bad known).length ≤ 1000 := Nat.le_trans (List.length_filter_le _ _) hk
  obtain ⟨kn, hkn⟩ : ∃ kn, fit bad known = kn := ⟨_, rfl⟩
  rw [hkn] at hX hdel hfl
  clear hkn hk
  refine PC_of_VC tabOk (draw_ok mixed tabOk) fn_sRenew rfl ?_
  repeat' ((conv => whnf); first | with_reducible refine (Or.inl ?_ : VC _ _ _ _ _ ∨ _) | ((with_reducible refine fk (fun hc => ?_) fun hc => ?_) <;> first | exact absurd hc (by decide) | (exfalso; simp only [*, reduceCtorEq] at hc; done) | skip) | (refine Or.inl (Or.inr ?_); (conv => whnf); refine ⟨_, _, hcl, ?_⟩) | (refine Or.inl (Or.inr ?_); (conv => whnf); refine ⟨_, _, GCx_pre (hdel) ?_, ?_⟩; focus ((repeat' first | (with_reducible first | exact ⟨⟩ | exact rfl | exact lr _) | ((conv => whnf); with_reducible first | apply And.intro | exact ⟨⟩) | exact rfl | exact id | assumption | exact lr _); done)) | ((with_reducible apply And.intro); focus (first | rfl | exact Nat.le_of_ble_eq_true rfl | omega | (simp only [List.length_cons, List.length_nil, List.length_map, List.length_append]; omega))))
  clear hdel hcl
  refine ⟨{k : Nat // k ≤ f.bookies.length}, fun ⟨k, _⟩ => ⟨[(1, .pv (ii w)), (2, .pv (ii e)), (4, .slw 1004 0), (8, .ptr 1008 0), (10, .ptr 1010 0), (12, .pv (bl ((f.bookies.take k).foldl (rn1 bad kn) (f, [], false)).2.2)), (13, .slw 1013 0), (14, .ptr 1014 0), (29, .pv (slP f.bookies)), (30, .pv (ii f.bookies.length)), (31, .pv (ii k))], 1000000000, [(1004, .roa 0 2 (kn.map Pl.c)), (1008, .rov [slP bad]), (1010, .var [.pv (uu 0), .pv nilS]), (1013, .arr 38 0 2 (((f.bookies.take k).foldl (rn1 bad kn) (f, [], false)).2.1.map Pl.c)), (1014, .var [.pv (uu ((f.bookies.take k).foldl (rn1 bad kn) (f, [], false)).1.first), .pv (slP ((f.bookies.take k).foldl (rn1 bad kn) (f, [], false)).1.bookies)])]⟩, fun ⟨k, _⟩ => f.bookies.length - k, ⟨⟨0, Nat.zero_le _⟩, ent_frz [1001003001] ?_⟩, ?_⟩
  · repeat' first
      | fail
      | with_reducible exact True.intro
      | with_reducible exact rfl
      | with_reducible exact leRs_refl _
      | ((conv => whnf); with_reducible apply And.intro)
      | ((conv => whnf); with_reducible exact True.intro)
      | exact rfl
      | exact id
      | exact leRs_refl _
    all_goals try (conv => whnf)
    all_goals simp
  rintro ⟨k, hk⟩
  by_cases hlt : k < f.bookies.length
  · have d0 : decide ((k : Int) < (f.bookies.length : Int)) = true := by simp only [decide_eq_true_eq]; omega
    have eW : IntKind.i64.wrap ((k : Int) + 1) = ((k + 1 : Nat) : Int) := by rw [wrapI (by omega) (by omega)]; omega
    have hst := foldl_take_succ (rn1 bad kn) (f, [], false) f.bookies k hlt
    obtain ⟨g1, g2, g3⟩ := rn1_len bad kn (f.bookies.take k) (f, [], false)
    simp only [List.length_take, List.length_nil] at g1 g3
    obtain ⟨S, hS⟩ : ∃ S, (f.bookies.take k).foldl (rn1 bad kn) (f, [], false) = S := ⟨_, rfl⟩
    rw [hS] at hst g1 g3
    clear g2 hX
    have hco := containsPlace_c bad f.bookies[k].node f.bookies[k].serial
    have hre := sReplaced_c S.1 f.bookies[k] kn (by omega)
    have hr1 : rn1 bad kn S f.bookies[k] = if bad.any (· == f.bookies[k]) then (if (replP S.1 f.bookies[k] kn).2 then ((replP S.1 f.bookies[k] kn).1, S.2.1, true) else ((replP S.1 f.bookies[k] kn).1, S.2.1 ++ [f.bookies[k]], S.2.2)) else S := rfl
    rw [hr1] at hst
    clear hr1
    rw [show (bad.any fun y => y == (⟨f.bookies[k].node, f.bookies[k].serial⟩ : Pl)) = bad.any (· == f.bookies[k]) from rfl] at hco
    obtain ⟨bb, hbb⟩ : ∃ bb, bad.any (· == f.bookies[k]) = bb := ⟨_, rfl⟩
    rw [hbb] at hco hst
    clear hbb
    dsimp only
    rw [hS]
    cases bb with
    | false =>
      simp only [Bool.false_eq_true, ↓reduceIte] at hst
      repeat' ((conv => whnf); first | with_reducible refine (Or.inl ?_ : VC _ _ _ _ _ ∨ _) | ((with_reducible refine fk (fun hc => ?_) fun hc => ?_) <;> first | exact absurd hc (by decide) | (exfalso; simp only [*, reduceCtorEq] at hc; done) | skip) | ((refine ⟨_, rowK _ _ _ hlt, ?_⟩)) | (refine Or.inl (Or.inl ?_); (conv => whnf); refine ⟨_, hco, ?_⟩) | ((with_reducible apply And.intro); focus (first | rfl | exact Nat.le_of_ble_eq_true rfl | omega | (simp only [List.length_cons, List.length_nil, List.length_map, List.length_append]; omega))))
      all_goals
        refine ⟨⟨k + 1, hlt⟩, dec_lt hlt, ent_of ?_⟩
        simp only [hst]
        repeat' first | (with_reducible first | exact ⟨⟩ | exact rfl | exact lr _) | ((conv => whnf); with_reducible first | apply And.intro | exact ⟨⟩) | exact rfl | exact id | exact lr _
        all_goals try (conv => whnf)
      all_goals exact eW
    | true =>
      simp only [↓reduceIte] at hst
      obtain ⟨rp, hrp⟩ : ∃ rp, replP S.1 f.bookies[k] kn = rp := ⟨_, rfl⟩
      rw [hrp] at hst hre
      clear hrp
      obtain ⟨rp1, rp2⟩ := rp
      cases rp2 with
      | true =>
        simp only [↓reduceIte] at hst
        simp only at hre
        repeat' ((conv => whnf); first | with_reducible refine (Or.inl ?_ : VC _ _ _ _ _ ∨ _) | ((with_reducible refine fk (fun hc => ?_) fun hc => ?_) <;> first | exact absurd hc (by decide) | (exfalso; simp only [*, reduceCtorEq] at hc; done) | skip) | ((refine ⟨_, rowK _ _ _ hlt, ?_⟩)) | (refine Or.inl (Or.inl ?_); (conv => whnf); refine ⟨_, hco, ?_⟩) | (refine Or.inl (Or.inl ?_); (conv => whnf); refine ⟨_, PCx_pre (hre) ?_, ?_⟩; focus ((repeat' first | (with_reducible first | exact ⟨⟩ | exact rfl | exact lr _) | ((conv => whnf); with_reducible first | apply And.intro | exact ⟨⟩) | exact rfl | exact id | assumption | exact lr _); done)) | ((with_reducible apply And.intro); focus (first | rfl | exact Nat.le_of_ble_eq_true rfl | omega | (simp only [List.length_cons, List.length_nil, List.length_map, List.length_append]; omega))))
        all_goals
          refine ⟨⟨k + 1, hlt⟩, dec_lt hlt, ent_of ?_⟩
          simp only [hst]
          repeat' first | (with_reducible first | exact ⟨⟩ | exact rfl | exact lr _) | ((conv => whnf); with_reducible first | apply And.intro | exact ⟨⟩) | exact rfl | exact id | exact lr _
          all_goals try (conv => whnf)
        all_goals first
          | exact eW
          | (show _ = true; simp_all; done)
      | false =>
        simp only [Bool.false_eq_true, ↓reduceIte] at hst
        simp only at hre
        repeat' ((conv => whnf); first | with_reducible refine (Or.inl ?_ : VC _ _ _ _ _ ∨ _) | ((with_reducible refine fk (fun hc => ?_) fun hc => ?_) <;> first | exact absurd hc (by decide) | (exfalso; simp only [*, reduceCtorEq] at hc; done) | skip) | ((refine ⟨_, rowK _ _ _ hlt, ?_⟩)) | (refine Or.inl (Or.inl ?_); (conv => whnf); refine ⟨_, hco, ?_⟩) | (refine Or.inl (Or.inl ?_); (conv => whnf); refine ⟨_, PCx_pre (hre) ?_, ?_⟩; focus ((repeat' first | (with_reducible first | exact ⟨⟩ | exact rfl | exact lr _) | ((conv => whnf); with_reducible first | apply And.intro | exact ⟨⟩) | exact rfl | exact id | assumption | exact lr _); done)) | (((with_reducible apply And.intro); focus (simp only [List.length_map, List.length_cons, List.length_nil]; omega))) | ((with_reducible apply And.intro); focus (first | rfl | exact Nat.le_of_ble_eq_true rfl | omega | (simp only [List.length_cons, List.length_nil, List.length_map, List.length_append]; omega))))
        all_goals
          refine ⟨⟨k + 1, hlt⟩, dec_lt hlt, ent_of ?_⟩
          simp only [hst]
          repeat' first | (with_reducible first | exact ⟨⟩ | exact rfl | exact lr _) | ((conv => whnf); with_reducible first | apply And.intro | exact ⟨⟩) | exact rfl | exact id | exact lr _
          all_goals try (conv => whnf)
        all_goals first
          | exact eW
          | (rw [List.map_append]
             refine leRs_app (leRs_refl _) ?_
             (repeat' first | (with_reducible first | exact ⟨⟩ | exact rfl | exact lr _) | ((conv => whnf); with_reducible first | apply And.intro | exact ⟨⟩) | exact rfl | exact id | exact lr _); (all_goals try (conv => whnf)))
          | (symm; assumption)
  have hke : k = f.bookies.length := by omega
  subst hke
  have d0 : decide ((f.bookies.length : Int) < (f.bookies.length : Int)) = false := by simp
  obtain ⟨g1, g2, g3⟩ := rn1_len bad kn f.bookies (f, [], false)
  simp only [List.length_nil] at g1 g3
  dsimp only
  rw [List.take_length]
  unfold left1 at hX
  obtain ⟨⟨S, left, s1⟩, hS⟩ : ∃ S, f.bookies.foldl (rn1 bad kn) (f, [], false) = S := ⟨_, rfl⟩
  rw [hS] at hX g1 g3 ⊢
  simp only at g1 g3
  unfold left2 at hX
  simp only at hX
  clear g2 hS
  have hcl := clonePlace_g S.bookies (by omega)
  repeat' ((conv => whnf); first | with_reducible refine (Or.inl ?_ : VC _ _ _ _ _ ∨ _) | ((with_reducible refine fk (fun hc => ?_) fun hc => ?_) <;> first | exact absurd hc (by decide) | (exfalso; simp only [*, reduceCtorEq] at hc; done) | skip) | (refine Or.inl (Or.inr ?_); (conv => whnf); refine ⟨_, _, hcl, ?_⟩) | ((with_reducible apply And.intro); focus (first | rfl | exact Nat.le_of_ble_eq_true rfl | omega | (simp only [List.length_cons, List.length_nil, List.length_map, List.length_append]; omega))))
  clear hcl
  refine ⟨{k : Nat // k ≤ left.length}, fun ⟨k, _⟩ => ⟨[(1, .pv (ii w)), (2, .pv (ii e)), (4, .slw 1004 0), (10, .ptr 1010 0), (12, .pv (bl ((left.take k).foldl (rn2 w) (S.bookies, s1)).2)), (14, .ptr 1014 0), (61, .slw 1061 0), (62, .pv (ii left.length)), (63, .pv (ii k))], 1000000000, [(1004, .roa 0 2 (kn.map Pl.c)), (1010, .var [.pv (uu 0), .pv nilS]), (1061, .arr 38 0 2 (left.map Pl.c)), (1014, .var [.pv (uu S.first), .slw 1015 0]), (1015, .arr 38 0 2 (((left.take k).foldl (rn2 w) (S.bookies, s1)).1.map Pl.c))]⟩, fun ⟨k, _⟩ => left.length - k, ⟨⟨0, Nat.zero_le _⟩, ent_of ?_⟩, ?_⟩
  · repeat' first
      | fail
      | with_reducible exact True.intro
      | with_reducible exact rfl
      | with_reducible exact leRs_refl _
      | ((conv => whnf); with_reducible apply And.intro)
      | ((conv => whnf); with_reducible exact True.intro)
      | exact rfl
      | exact id
      | exact leRs_refl _
    all_goals try (conv => whnf)
    all_goals simp
  rintro ⟨k, hk2⟩
  by_cases hlt2 : k < left.length
  · have d1 : decide ((k : Int) < (left.length : Int)) = true := by simp only [decide_eq_true_eq]; omega
    have eW : IntKind.i64.wrap ((k : Int) + 1) = ((k + 1 : Nat) : Int) := by rw [wrapI (by omega) (by omega)]; omega
    have hst := foldl_take_succ (rn2 w) (S.bookies, s1) left k hlt2
    have g4 := rn2_len w (left.take k) (S.bookies, s1)
    simp only at g4
    clear hX
    obtain ⟨⟨b, s2⟩, hS2⟩ : ∃ S2, (left.take k).foldl (rn2 w) (S.bookies, s1) = S2 := ⟨_, rfl⟩
    dsimp only
    rw [hS2] at hst g4 ⊢
    simp only at g4
    have hix := indexPlace_c b left[k].node left[k].serial
    rw [show ixP (fun y => y == (⟨left[k].node, left[k].serial⟩ : Pl)) b = ixP (· == left[k]) b from rfl] at hix
    have hr2 : rn2 w (b, s2) left[k] = if decide ((b.length : Int) > w) && decide (ixP (· == left[k]) b ≥ 0) then (b.eraseIdx (ixP (· == left[k]) b).toNat, true) else (b, s2) := rfl
    rw [hr2] at hst
    have hsp := ixP_spec (· == left[k]) b
    obtain ⟨K, hK⟩ : ∃ K, ixP (· == left[k]) b = K := ⟨_, rfl⟩
    rw [hK] at hix hst hsp
    clear hr2 hK hS2
    cases e1 : decide ((b.length : Int) > w) with
    | false =>
      have e1' : decide (((List.map Pl.c b).length : Int) > w) = false := by rw [List.length_map]; exact e1
      rw [e1] at hst
      simp only [Bool.false_and, Bool.false_eq_true, ↓reduceIte] at hst
      clear hsp
      repeat' ((conv => whnf); first | with_reducible refine (Or.inl ?_ : VC _ _ _ _ _ ∨ _) | ((with_reducible refine fk (fun hc => ?_) fun hc => ?_) <;> first | exact absurd hc (by decide) | (exfalso; simp only [*, reduceCtorEq] at hc; done) | skip) | ((refine ⟨_, rowK _ _ _ hlt2, ?_⟩)) | (refine Or.inl (Or.inl ?_); (conv => whnf); refine ⟨_, PCx_pre (hix) ?_, ?_⟩; focus ((repeat' first | (with_reducible first | exact ⟨⟩ | exact rfl | exact lr _) | ((conv => whnf); with_reducible first | apply And.intro | exact ⟨⟩) | exact rfl | exact id | assumption | exact lr _); done)) | ((with_reducible apply And.intro); focus (first | rfl | exact Nat.le_of_ble_eq_true rfl | omega | (simp only [List.length_cons, List.length_nil, List.length_map, List.length_append]; omega))))
      all_goals
        refine ⟨⟨k + 1, hlt2⟩, dec_lt hlt2, ent_of ?_⟩
        simp only [hst]
        repeat' first | (with_reducible first | exact ⟨⟩ | exact rfl | exact lr _) | ((conv => whnf); with_reducible first | apply And.intro | exact ⟨⟩) | exact rfl | exact id | exact lr _
        all_goals try (conv => whnf)
      all_goals exact eW
    | true =>
      have e1' : decide (((List.map Pl.c b).length : Int) > w) = true := by rw [List.length_map]; exact e1
      rw [e1] at hst
      rcases hsp with ⟨hsp, _⟩ | ⟨n, hn, hsp, _⟩
      · have e2 : decide (K ≥ 0) = false := by simp only [decide_eq_false_iff_not]; omega
        rw [e2] at hst
        simp only [Bool.and_false, Bool.false_eq_true, ↓reduceIte] at hst
        clear hsp
        repeat' ((conv => whnf); first | with_reducible refine (Or.inl ?_ : VC _ _ _ _ _ ∨ _) | ((with_reducible refine fk (fun hc => ?_) fun hc => ?_) <;> first | exact absurd hc (by decide) | (exfalso; simp only [*, reduceCtorEq] at hc; done) | skip) | ((refine ⟨_, rowK _ _ _ hlt2, ?_⟩)) | (refine Or.inl (Or.inl ?_); (conv => whnf); refine ⟨_, PCx_pre (hix) ?_, ?_⟩; focus ((repeat' first | (with_reducible first | exact ⟨⟩ | exact rfl | exact lr _) | ((conv => whnf); with_reducible first | apply And.intro | exact ⟨⟩) | exact rfl | exact id | assumption | exact lr _); done)) | ((with_reducible apply And.intro); focus (first | rfl | exact Nat.le_of_ble_eq_true rfl | omega | (simp only [List.length_cons, List.length_nil, List.length_map, List.length_append]; omega))))
        all_goals
          refine ⟨⟨k + 1, hlt2⟩, dec_lt hlt2, ent_of ?_⟩
          simp only [hst]
          repeat' first | (with_reducible first | exact ⟨⟩ | exact rfl | exact lr _) | ((conv => whnf); with_reducible first | apply And.intro | exact ⟨⟩) | exact rfl | exact id | exact lr _
          all_goals try (conv => whnf)
        all_goals exact eW
      · have e2 : decide (K ≥ 0) = true := by simp only [decide_eq_true_eq]; omega
        rw [e2] at hst
        simp only [Bool.and_self, ↓reduceIte] at hst
        have hde := sDelete_g b n hn (by omega) K (IntKind.i64.wrap (K + 1)) hsp (by rw [wrapI (by omega) (by omega)]; omega)
        rw [show K.toNat = n by omega] at hst
        clear hsp
        repeat' ((conv => whnf); first | with_reducible refine (Or.inl ?_ : VC _ _ _ _ _ ∨ _) | ((with_reducible refine fk (fun hc => ?_) fun hc => ?_) <;> first | exact absurd hc (by decide) | (exfalso; simp only [*, reduceCtorEq] at hc; done) | skip) | ((refine ⟨_, rowK _ _ _ hlt2, ?_⟩)) | (refine Or.inl (Or.inl ?_); (conv => whnf); refine ⟨_, PCx_pre (hix) ?_, ?_⟩; focus ((repeat' first | (with_reducible first | exact ⟨⟩ | exact rfl | exact lr _) | ((conv => whnf); with_reducible first | apply And.intro | exact ⟨⟩) | exact rfl | exact id | assumption | exact lr _); done)) | (refine Or.inl (Or.inr ?_); (conv => whnf); refine ⟨_, _, GCx_pre (hde) ?_, ?_⟩; focus ((repeat' first | (with_reducible first | exact ⟨⟩ | exact rfl | exact lr _) | ((conv => whnf); with_reducible first | apply And.intro | exact ⟨⟩) | exact rfl | exact id | assumption | exact lr _); done)) | ((with_reducible apply And.intro); focus (first | rfl | exact Nat.le_of_ble_eq_true rfl | omega | (simp only [List.length_cons, List.length_nil, List.length_map, List.length_append]; omega))))
        all_goals
          refine ⟨⟨k + 1, hlt2⟩, dec_lt hlt2, ent_of ?_⟩
          simp only [hst]
          repeat' first | (with_reducible first | exact ⟨⟩ | exact rfl | exact lr _) | ((conv => whnf); with_reducible first | apply And.intro | exact ⟨⟩) | exact rfl | exact id | exact lr _
          all_goals try (conv => whnf)
        all_goals exact eW
  have hke2 : k = left.length := by omega
  subst hke2
  have d1 : decide ((left.length : Int) < (left.length : Int)) = false := by simp
  have g4 := rn2_len w left (S.bookies, s1)
  simp only at g4
  dsimp only
  rw [List.take_length]
  obtain ⟨⟨b, s2⟩, hS2⟩ : ∃ S2, left.foldl (rn2 w) (S.bookies, s1) = S2 := ⟨_, rfl⟩
  rw [hS2] at hX g4 ⊢
  simp only at hX g4
  clear hS2
  cases s2 with
  | false =>
    simp only [Bool.false_eq_true, ↓reduceIte] at hX
    subst hX
    dsimp only
    repeat' ((conv => whnf); first | with_reducible refine (Or.inl ?_ : VC _ _ _ _ _ ∨ _) | ((with_reducible refine fk (fun hc => ?_) fun hc => ?_) <;> first | exact absurd hc (by decide) | (exfalso; simp only [*, reduceCtorEq] at hc; done) | skip) | ((with_reducible apply And.intro); focus (first | rfl | exact Nat.le_of_ble_eq_true rfl | omega | (simp only [List.length_cons, List.length_nil, List.length_map, List.length_append]; omega))))
    repeat' first | (with_reducible first | exact ⟨⟩ | exact rfl | exact lr _) | ((conv => whnf); with_reducible first | apply And.intro | exact ⟨⟩) | exact rfl | exact id | exact lr _
    all_goals try (conv => whnf)
  | true =>
  simp only [↓reduceIte] at hX
  dsimp only
  repeat' ((conv => whnf); first | with_reducible refine (Or.inl ?_ : VC _ _ _ _ _ ∨ _) | ((with_reducible refine fk (fun hc => ?_) fun hc => ?_) <;> first | exact absurd hc (by decide) | (exfalso; simp only [*, reduceCtorEq] at hc; done) | skip) | ((with_reducible apply And.intro); focus (first | rfl | exact Nat.le_of_ble_eq_true rfl | omega | (simp only [List.length_cons, List.length_nil, List.length_map, List.length_append]; omega))))
  refine ⟨{k : Nat // k ≤ kn.length}, fun ⟨k, _⟩ => ⟨[(2, .pv (ii e)), (10, .ptr 1010 0), (14, .ptr 1014 0), (91, .slw 1004 0), (92, .pv (ii kn.length)), (93, .pv (ii k))], 1000000000, [(1004, .roa 0 2 (kn.map Pl.c)), (1010, .var [.pv (uu 0), .pv nilS]), (1014, .var [.pv (uu S.first), .slw 1015 0]), (1015, .arr 38 0 2 (((kn.take k).foldl (rn3 e) b).map Pl.c))]⟩, fun ⟨k, _⟩ => kn.length - k, ⟨⟨0, Nat.zero_le _⟩, ent_of ?_⟩, ?_⟩
  · repeat' first
      | fail
      | with_reducible exact True.intro
      | with_reducible exact rfl
      | with_reducible exact leRs_refl _
      | ((conv => whnf); with_reducible apply And.intro)
      | ((conv => whnf); with_reducible exact True.intro)
      | exact rfl
      | exact id
      | exact leRs_refl _
    all_goals try (conv => whnf)
    all_goals simp
  rintro ⟨k, hk3⟩
  by_cases hlt3 : k < kn.length
  · have d2 : decide ((k : Int) < (kn.length : Int)) = true := by simp only [decide_eq_true_eq]; omega
    have eW : IntKind.i64.wrap ((k : Int) + 1) = ((k + 1 : Nat) : Int) := by rw [wrapI (by omega) (by omega)]; omega
    have hst := foldl_take_succ (rn3 e) b kn k hlt3
    have g5 := rn3_len e (kn.take k) b
    simp only [List.length_take] at g5
    clear hX
    obtain ⟨m, hm⟩ : ∃ m, (kn.take k).foldl (rn3 e) b = m := ⟨_, rfl⟩
    dsimp only
    rw [hm] at hst g5 ⊢
    clear hm
    have hcf := containsFuncPlace_c m 63 [] [.eptr (kn[k]).c 0] (fun y => y.node == kn[k].node) (fun y _ => sRenew2_c kn[k] y)
    have hr3 : rn3 e m kn[k] = if decide ((m.length : Int) < (if 5 < e then 5 else e)) && !(m.any fun y => y.node == kn[k].node) then m ++ [kn[k]] else m := rfl
    rw [hr3] at hst
    clear hr3
    obtain ⟨ct, hct⟩ : ∃ ct, (m.any fun y => y.node == kn[k].node) = ct := ⟨_, rfl⟩
    rw [hct] at hst hcf
    clear hct
    cases e1 : decide ((m.length : Int) < (if 5 < e then 5 else e)) with
    | false =>
      have e1' : decide (((List.map Pl.c m).length : Int) < (if 5 < e then 5 else e)) = false := by rw [List.length_map]; exact e1
      rw [e1] at hst
      simp only [Bool.false_and, Bool.false_eq_true, ↓reduceIte] at hst
      repeat' ((conv => whnf); first | with_reducible refine (Or.inl ?_ : VC _ _ _ _ _ ∨ _) | ((with_reducible refine fk (fun hc => ?_) fun hc => ?_) <;> first | exact absurd hc (by decide) | (exfalso; simp only [*, reduceCtorEq] at hc; done) | skip) | ((refine ⟨_, rowK _ _ _ hlt3, ?_⟩)) | (refine Or.inl (Or.inl ?_); (conv => whnf); refine ⟨_, PCx_pre (hcf) ?_, ?_⟩; focus ((repeat' first | (with_reducible first | exact ⟨⟩ | exact rfl | exact lr _) | ((conv => whnf); with_reducible first | apply And.intro | exact ⟨⟩) | exact rfl | exact id | assumption | exact lr _); done)) | ((with_reducible apply And.intro); focus (first | rfl | exact Nat.le_of_ble_eq_true rfl | omega | (simp only [List.length_cons, List.length_nil, List.length_map, List.length_append]; omega))))
      all_goals
        refine ⟨⟨k + 1, hlt3⟩, dec_lt hlt3, ent_of ?_⟩
        simp only [hst]
        repeat' first | (with_reducible first | exact ⟨⟩ | exact rfl | exact lr _) | ((conv => whnf); with_reducible first | apply And.intro | exact ⟨⟩) | exact rfl | exact id | exact lr _
        all_goals try (conv => whnf)
      all_goals exact eW
    | true =>
      have e1' : decide (((List.map Pl.c m).length : Int) < (if 5 < e then 5 else e)) = true := by rw [List.length_map]; exact e1
      rw [e1] at hst
      cases ct with
      | true =>
        simp only [Bool.not_true, Bool.and_false, Bool.false_eq_true, ↓reduceIte] at hst
        repeat' ((conv => whnf); first | with_reducible refine (Or.inl ?_ : VC _ _ _ _ _ ∨ _) | ((with_reducible refine fk (fun hc => ?_) fun hc => ?_) <;> first | exact absurd hc (by decide) | (exfalso; simp only [*, reduceCtorEq] at hc; done) | skip) | ((refine ⟨_, rowK _ _ _ hlt3, ?_⟩)) | (refine Or.inl (Or.inl ?_); (conv => whnf); refine ⟨_, PCx_pre (hcf) ?_, ?_⟩; focus ((repeat' first | (with_reducible first | exact ⟨⟩ | exact rfl | exact lr _) | ((conv => whnf); with_reducible first | apply And.intro | exact ⟨⟩) | exact rfl | exact id | assumption | exact lr _); done)) | ((with_reducible apply And.intro); focus (first | rfl | exact Nat.le_of_ble_eq_true rfl | omega | (simp only [List.length_cons, List.length_nil, List.length_map, List.length_append]; omega))))
        all_goals
          refine ⟨⟨k + 1, hlt3⟩, dec_lt hlt3, ent_of ?_⟩
          simp only [hst]
          repeat' first | (with_reducible first | exact ⟨⟩ | exact rfl | exact lr _) | ((conv => whnf); with_reducible first | apply And.intro | exact ⟨⟩) | exact rfl | exact id | exact lr _
          all_goals try (conv => whnf)
        all_goals exact eW
      | false =>
        simp only [Bool.not_false, Bool.and_self, ↓reduceIte] at hst
        repeat' ((conv => whnf); first | with_reducible refine (Or.inl ?_ : VC _ _ _ _ _ ∨ _) | ((with_reducible refine fk (fun hc => ?_) fun hc => ?_) <;> first | exact absurd hc (by decide) | (exfalso; simp only [*, reduceCtorEq] at hc; done) | skip) | ((refine ⟨_, rowK _ _ _ hlt3, ?_⟩)) | (refine Or.inl (Or.inl ?_); (conv => whnf); refine ⟨_, PCx_pre (hcf) ?_, ?_⟩; focus ((repeat' first | (with_reducible first | exact ⟨⟩ | exact rfl | exact lr _) | ((conv => whnf); with_reducible first | apply And.intro | exact ⟨⟩) | exact rfl | exact id | assumption | exact lr _); done)) | (((with_reducible apply And.intro); focus (simp only [List.length_map, List.length_cons, List.length_nil]; omega))) | ((with_reducible apply And.intro); focus (first | rfl | exact Nat.le_of_ble_eq_true rfl | omega | (simp only [List.length_cons, List.length_nil, List.length_map, List.length_append]; omega))))
        all_goals
          refine ⟨⟨k + 1, hlt3⟩, dec_lt hlt3, ent_of ?_⟩
          simp only [hst]
          repeat' first | (with_reducible first | exact ⟨⟩ | exact rfl | exact lr _) | ((conv => whnf); with_reducible first | apply And.intro | exact ⟨⟩) | exact rfl | exact id | exact lr _
          all_goals try (conv => whnf)
        all_goals first
          | exact eW
          | (rw [List.map_append]
             refine leRs_app (leRs_refl _) ?_
             (repeat' first | (with_reducible first | exact ⟨⟩ | exact rfl | exact lr _) | ((conv => whnf); with_reducible first | apply And.intro | exact ⟨⟩) | exact rfl | exact id | exact lr _); (all_goals try (conv => whnf)))
  have hke3 : k = kn.length := by omega
  subst hke3
  have d2 : decide ((kn.length : Int) < (kn.length : Int)) = false := by simp
  dsimp only
  rw [List.take_length]
  subst hX
  repeat' ((conv => whnf); first | with_reducible refine (Or.inl ?_ : VC _ _ _ _ _ ∨ _) | ((with_reducible refine fk (fun hc => ?_) fun hc => ?_) <;> first | exact absurd hc (by decide) | (exfalso; simp only [*, reduceCtorEq] at hc; done) | skip) | ((with_reducible apply And.intro); focus (first | rfl | exact Nat.le_of_ble_eq_true rfl | omega | (simp only [List.length_cons, List.length_nil, List.length_map, List.length_append]; omega))))
  repeat' first | (with_reducible first | exact ⟨⟩ | exact rfl | exact lr _) | ((conv => whnf); with_reducible first | apply And.intro | exact ⟨⟩) | exact rfl | exact id | exact lr _
  all_goals try (conv => whnf)
end Go.Proofs.Ytpbjamihhkmgiaa.Tb
