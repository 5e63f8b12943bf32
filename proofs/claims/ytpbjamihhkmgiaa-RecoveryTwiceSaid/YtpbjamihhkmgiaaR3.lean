/-
  Contracts of functions of the program and of the document, each for every input that its premises name.
-/
import Derived.Test.YtpbjamihhkmgiaaR2
set_option linter.unusedSectionVars false
set_option maxRecDepth 100000
set_option maxHeartbeats 4000000
set_option linter.unusedVariables false
set_option linter.unusedSimpArgs false
open Go Go.AX
namespace Go.Proofs.Ytpbjamihhkmgiaa.Tb
section
variable (x : Rv) (known : List Pl) (hk : known.length ≤ 1000) (hf : frsOk x.frags) (hfl : x.frags.length ≤ 1000) (hfb : ∀ f ∈ x.frags, f.bookies.length ≤ 1000)
include hk hf hfl hfb
theorem renewF_g (h1 : (renewN x known).2 = true) (hc1 : ((fragN x).first == x.n && decide ((x.frags.length : Int) > 0)) = false) (h6 : ((x.frags.length : Int) == 6) = true) :
    GCx Try.prog 20 [.ptr 1 0, .pv (slP known)] [(1, .var (x.v (.pv (slP x.heard)) (.pv (slP x.none)) (.pv (slP x.has)) (.slw 2 0) (.slw 3 0) (.pv (.sc (.slice none 0 0))))), (2, .arr 49 0 2 (x.frags.map Fr.c)), (3, .arr 38 0 2 (x.bad.map Pl.c))] (.pv (bl false))
      [(1, .var (({ x with bad := [] } : Rv).v (.pv (slP x.heard)) (.pv (slP x.none)) (.pv (slP x.has)) (.slw 2 0) (.pv (slP [])) (.pv (.sc (.slice none 0 0))))), (2, .arr 49 0 2 ((x.frags).map Fr.c)), (3, .roa 0 2 (x.bad.map Pl.c))] := by
  have e6 : (((List.map Fr.c x.frags).length : Int) == 6) = true := by rw [List.length_map]; exact h6
  have hfr := sFragO_g x.frags x.n (by omega) hf
  have hre : PCx Try.prog 38 [.agg (fragN x).c, ii x.l.w, ii ((List.map Pl.c (fragN x).bookies).length : Int), slP x.bad, slP known] (.tup [.agg (renewN x known).1.c, bl (renewN x known).2]) := by
    rw [List.length_map]; exact sRenew_c _ _ _ _ _ (fragN_len x known hk hf hfl hfb) hk
  rw [h1] at hre
  rw [show ((fragAt x.frags x.n).getD fr0) = fragN x from rfl] at hfr
  obtain ⟨F, hF⟩ : ∃ F, fragN x = F := ⟨_, rfl⟩
  obtain ⟨G, hG⟩ : ∃ G, (renewN x known).1 = G := ⟨_, rfl⟩
  obtain ⟨ok, hok⟩ : ∃ ok, (fragAt x.frags x.n).isSome = ok := ⟨_, rfl⟩
  rw [hF] at hfr hre hc1
  rw [hG] at hre
  rw [hok] at hfr
  clear hF hG h1 hok hfb hf
  have e2 : decide (((List.map Fr.c x.frags).length : Int) > 0) = true := by
    have : (x.frags.length : Int) = 6 := by simpa using h6
    rw [List.length_map, this]; rfl
  have e2' : decide ((x.frags.length : Int) > 0) = true := by rw [List.length_map] at e2; exact e2
  rw [e2', Bool.and_true] at hc1
  clear h6 e2'
  refine GC_of_VC tabOk (draw_ok mixed tabOk) fn_wRenew rfl ?_
  repeat' ((conv => whnf); first | with_reducible refine (Or.inl ?_ : VC _ _ _ _ _ ∨ _) | ((with_reducible refine fk (fun hc => ?_) fun hc => ?_) <;> first | exact absurd hc (by decide) | (exfalso; simp only [*, reduceCtorEq] at hc; done) | skip) | (refine Or.inr ?_; (conv => whnf); refine ⟨_, _, GCx_pre (hfr) ?_, ?_⟩; focus ((repeat' first | (with_reducible first | exact ⟨⟩ | exact rfl | exact lr _) | ((conv => whnf); with_reducible first | apply And.intro | exact ⟨⟩) | exact rfl | exact id | assumption | exact lr _); done)) | (refine Or.inl (Or.inl ?_); (conv => whnf); refine ⟨_, PCx_pre (hre) ?_, ?_⟩; focus ((repeat' first | (with_reducible first | exact ⟨⟩ | exact rfl | exact lr _) | ((conv => whnf); with_reducible first | apply And.intro | exact ⟨⟩) | exact rfl | exact id | assumption | exact lr _); done)) | (((with_reducible apply And.intro); focus (simp only [cutN, List.length_map, List.length_take, List.length_drop, List.length_cons, List.length_nil]; omega))) | (((with_reducible apply And.intro); focus (rw [List.length_map, wrapI (by omega) (by omega)]; omega))) | (((with_reducible apply And.intro); focus (rw [eL, List.length_map]; simp only [List.length_cons, List.length_nil]; omega))) | ((with_reducible apply And.intro); focus (first | rfl | exact Nat.le_of_ble_eq_true rfl | omega | (simp only [List.length_cons, List.length_nil, List.length_map, List.length_append]; omega))))
  all_goals
    refine ⟨_, _, ⟨rfl, rfl⟩, ?_⟩
    repeat' first | (with_reducible first | exact ⟨⟩ | exact rfl | exact lr _) | ((conv => whnf); with_reducible first | apply And.intro | exact ⟨⟩) | exact rfl | exact id | exact lr _
    all_goals try (conv => whnf)
theorem renewA_g (h1 : (renewN x known).2 = true) (hc1 : ((fragN x).first == x.n && decide ((x.frags.length : Int) > 0)) = false) (h6 : ((x.frags.length : Int) == 6) = false) :
    GCx Try.prog 20 [.ptr 1 0, .pv (slP known)] [(1, .var (x.v (.pv (slP x.heard)) (.pv (slP x.none)) (.pv (slP x.has)) (.slw 2 0) (.slw 3 0) (.pv (.sc (.slice none 0 0))))), (2, .arr 49 0 2 (x.frags.map Fr.c)), (3, .arr 38 0 2 (x.bad.map Pl.c))] (.pv (bl true))
      [(1, .var (({ x with bad := [], frags := x.frags ++ [(⟨x.n, (renewN x known).1.bookies⟩ : Fr)] } : Rv).v (.pv (slP x.heard)) (.pv (slP x.none)) (.pv (slP x.has)) (.slw 1001 0) (.pv (slP [])) (.pv (.sc (.slice none 0 0))))), (1001, .arr 49 0 2 ((x.frags ++ [(⟨x.n, (renewN x known).1.bookies⟩ : Fr)]).map Fr.c)), (2, .roa 1 2 []), (3, .roa 0 2 (x.bad.map Pl.c))] := by
  have e6 : (((List.map Fr.c x.frags).length : Int) == 6) = false := by rw [List.length_map]; exact h6
  have hfr := sFragO_g x.frags x.n (by omega) hf
  have hre : PCx Try.prog 38 [.agg (fragN x).c, ii x.l.w, ii ((List.map Pl.c (fragN x).bookies).length : Int), slP x.bad, slP known] (.tup [.agg (renewN x known).1.c, bl (renewN x known).2]) := by
    rw [List.length_map]; exact sRenew_c _ _ _ _ _ (fragN_len x known hk hf hfl hfb) hk
  rw [h1] at hre
  rw [show ((fragAt x.frags x.n).getD fr0) = fragN x from rfl] at hfr
  obtain ⟨F, hF⟩ : ∃ F, fragN x = F := ⟨_, rfl⟩
  obtain ⟨G, hG⟩ : ∃ G, (renewN x known).1 = G := ⟨_, rfl⟩
  obtain ⟨ok, hok⟩ : ∃ ok, (fragAt x.frags x.n).isSome = ok := ⟨_, rfl⟩
  rw [hF] at hfr hre hc1
  rw [hG] at hre ⊢
  rw [hok] at hfr
  clear hF hG h1 hok hfb hf
  have hmap : (x.frags ++ [(⟨x.n, G.bookies⟩ : Fr)]).map Fr.c = x.frags.map Fr.c ++ [[uu x.n, slP G.bookies]] := by rw [List.map_append]; rfl
  rw [hmap]
  refine GC_mv 2 1777 rfl ?_
  show GC _ _ [.ptr 1 0, .pv (slP known)] [(1777, .arr 49 0 2 (x.frags.map Fr.c)), (1, .var (x.v (.pv (slP x.heard)) (.pv (slP x.none)) (.pv (slP x.has)) (.slw 1777 0) (.slw 3 0) (.pv (.sc (.slice none 0 0))))), (2, .roa 1 2 []), (3, .arr 38 0 2 (x.bad.map Pl.c))] _
  cases e2 : decide ((x.frags.length : Int) > 0) with
  | true =>
    have e2' : decide (((List.map Fr.c x.frags).length : Int) > 0) = true := by rw [List.length_map]; exact e2
    rw [e2, Bool.and_true] at hc1
    clear h6 e2
    refine GC_of_VC tabOk (draw_ok mixed tabOk) fn_wRenew rfl ?_
    repeat' ((conv => whnf); first | with_reducible refine (Or.inl ?_ : VC _ _ _ _ _ ∨ _) | ((with_reducible refine fk (fun hc => ?_) fun hc => ?_) <;> first | exact absurd hc (by decide) | (exfalso; simp only [*, reduceCtorEq] at hc; done) | skip) | (refine Or.inr ?_; (conv => whnf); refine ⟨_, _, GCx_pre (hfr) ?_, ?_⟩; focus ((repeat' first | (with_reducible first | exact ⟨⟩ | exact rfl | exact lr _) | ((conv => whnf); with_reducible first | apply And.intro | exact ⟨⟩) | exact rfl | exact id | assumption | exact lr _); done)) | (refine Or.inl (Or.inl ?_); (conv => whnf); refine ⟨_, PCx_pre (hre) ?_, ?_⟩; focus ((repeat' first | (with_reducible first | exact ⟨⟩ | exact rfl | exact lr _) | ((conv => whnf); with_reducible first | apply And.intro | exact ⟨⟩) | exact rfl | exact id | assumption | exact lr _); done)) | (((with_reducible apply And.intro); focus (simp only [cutN, List.length_map, List.length_take, List.length_drop, List.length_cons, List.length_nil]; omega))) | (((with_reducible apply And.intro); focus (rw [List.length_map, wrapI (by omega) (by omega)]; omega))) | (((with_reducible apply And.intro); focus (rw [eL, List.length_map]; simp only [List.length_cons, List.length_nil]; omega))) | ((with_reducible apply And.intro); focus (first | rfl | exact Nat.le_of_ble_eq_true rfl | omega | (simp only [List.length_cons, List.length_nil, List.length_map, List.length_append]; omega))))
    all_goals
      refine ⟨_, _, ⟨rfl, rfl⟩, ?_⟩
      repeat' first | (with_reducible first | exact ⟨⟩ | exact rfl | exact lr _) | ((conv => whnf); with_reducible first | apply And.intro | exact ⟨⟩) | exact rfl | exact id | exact lr _
      all_goals try (conv => whnf)
  | false =>
    have e2' : decide (((List.map Fr.c x.frags).length : Int) > 0) = false := by rw [List.length_map]; exact e2
    clear h6 e2 hc1
    refine GC_of_VC tabOk (draw_ok mixed tabOk) fn_wRenew rfl ?_
    repeat' ((conv => whnf); first | with_reducible refine (Or.inl ?_ : VC _ _ _ _ _ ∨ _) | ((with_reducible refine fk (fun hc => ?_) fun hc => ?_) <;> first | exact absurd hc (by decide) | (exfalso; simp only [*, reduceCtorEq] at hc; done) | skip) | (refine Or.inr ?_; (conv => whnf); refine ⟨_, _, GCx_pre (hfr) ?_, ?_⟩; focus ((repeat' first | (with_reducible first | exact ⟨⟩ | exact rfl | exact lr _) | ((conv => whnf); with_reducible first | apply And.intro | exact ⟨⟩) | exact rfl | exact id | assumption | exact lr _); done)) | (refine Or.inl (Or.inl ?_); (conv => whnf); refine ⟨_, PCx_pre (hre) ?_, ?_⟩; focus ((repeat' first | (with_reducible first | exact ⟨⟩ | exact rfl | exact lr _) | ((conv => whnf); with_reducible first | apply And.intro | exact ⟨⟩) | exact rfl | exact id | assumption | exact lr _); done)) | (((with_reducible apply And.intro); focus (simp only [cutN, List.length_map, List.length_take, List.length_drop, List.length_cons, List.length_nil]; omega))) | (((with_reducible apply And.intro); focus (rw [List.length_map, wrapI (by omega) (by omega)]; omega))) | (((with_reducible apply And.intro); focus (rw [eL, List.length_map]; simp only [List.length_cons, List.length_nil]; omega))) | ((with_reducible apply And.intro); focus (first | rfl | exact Nat.le_of_ble_eq_true rfl | omega | (simp only [List.length_cons, List.length_nil, List.length_map, List.length_append]; omega))))
    all_goals
      refine ⟨_, _, ⟨rfl, rfl⟩, ?_⟩
      repeat' first | (with_reducible first | exact ⟨⟩ | exact rfl | exact lr _) | ((conv => whnf); with_reducible first | apply And.intro | exact ⟨⟩) | exact rfl | exact id | exact lr _
      all_goals try (conv => whnf)
theorem renewC0_g (h1 : (renewN x known).2 = true) (hc1 : ((fragN x).first == x.n && decide ((x.frags.length : Int) > 0)) = true) (h6 : x.frags.length ≤ 6) :
    GCx Try.prog 20 [.ptr 1 0, .pv (slP known)] [(1, .var (x.v (.pv (slP x.heard)) (.pv (slP x.none)) (.pv (slP x.has)) (.slw 2 0) (.slw 3 0) (.pv (.sc (.slice none 0 0))))), (2, .arr 49 0 2 (x.frags.map Fr.c)), (3, .arr 38 0 2 (x.bad.map Pl.c))] (.pv (bl true))
      [(1, .var (({ x with bad := [], frags := x.frags.take (x.frags.length - 1) ++ [(⟨x.n, (renewN x known).1.bookies⟩ : Fr)] } : Rv).v (.pv (slP x.heard)) (.pv (slP x.none)) (.pv (slP x.has)) (.sub 1001 0 2 0 x.frags.length) (.pv (slP [])) (.pv (.sc (.slice none 0 0))))), (1001, .arr 49 0 2 ((x.frags.take (x.frags.length - 1) ++ [(⟨x.n, (renewN x known).1.bookies⟩ : Fr)]).map Fr.c)), (2, .roa 1 2 []), (3, .roa 0 2 (x.bad.map Pl.c))] := by
  simp only [Bool.and_eq_true] at hc1
  obtain ⟨hc1, e2⟩ := hc1
  have h0 : 0 < x.frags.length := by simp only [decide_eq_true_eq] at e2; omega
  have eL : (IntKind.i64.wrap (((List.map Fr.c x.frags).length : Int) - 1)).toNat = x.frags.length - 1 := by rw [List.length_map, wrapI (by omega) (by omega)]; omega
  have e6 : (((cutN (List.map Fr.c x.frags) 0 (x.frags.length - 1)).length : Int) == 6) = false := by
    have : (cutN (List.map Fr.c x.frags) 0 (x.frags.length - 1)).length = x.frags.length - 1 := by simp only [cutN, List.length_take, List.length_drop, List.length_map]; omega
    rw [this]
    simp
    omega
  have e2' : decide (((List.map Fr.c x.frags).length : Int) > 0) = true := by rw [List.length_map]; exact e2
  clear e2
  have hfr := sFragO_g x.frags x.n (by omega) hf
  have hre : PCx Try.prog 38 [.agg (fragN x).c, ii x.l.w, ii ((List.map Pl.c (fragN x).bookies).length : Int), slP x.bad, slP known] (.tup [.agg (renewN x known).1.c, bl (renewN x known).2]) := by
    rw [List.length_map]; exact sRenew_c _ _ _ _ _ (fragN_len x known hk hf hfl hfb) hk
  rw [h1] at hre
  rw [show ((fragAt x.frags x.n).getD fr0) = fragN x from rfl] at hfr
  obtain ⟨F, hF⟩ : ∃ F, fragN x = F := ⟨_, rfl⟩
  obtain ⟨G, hG⟩ : ∃ G, (renewN x known).1 = G := ⟨_, rfl⟩
  obtain ⟨ok, hok⟩ : ∃ ok, (fragAt x.frags x.n).isSome = ok := ⟨_, rfl⟩
  rw [hF] at hfr hre hc1
  rw [hG] at hre ⊢
  rw [hok] at hfr
  clear hF hG h1 hok hfb hf
  refine GC_mv 2 1777 rfl ?_
  show GC _ _ [.ptr 1 0, .pv (slP known)] [(1777, .arr 49 0 2 (x.frags.map Fr.c)), (1, .var (x.v (.pv (slP x.heard)) (.pv (slP x.none)) (.pv (slP x.has)) (.slw 1777 0) (.slw 3 0) (.pv (.sc (.slice none 0 0))))), (2, .roa 1 2 []), (3, .arr 38 0 2 (x.bad.map Pl.c))] _
  refine GC_of_VC tabOk (draw_ok mixed tabOk) fn_wRenew rfl ?_
  repeat' ((conv => whnf); first | with_reducible refine (Or.inl ?_ : VC _ _ _ _ _ ∨ _) | ((with_reducible refine fk (fun hc => ?_) fun hc => ?_) <;> first | exact absurd hc (by decide) | (exfalso; simp only [*, reduceCtorEq] at hc; done) | skip) | (refine Or.inr ?_; (conv => whnf); refine ⟨_, _, GCx_pre (hfr) ?_, ?_⟩; focus ((repeat' first | (with_reducible first | exact ⟨⟩ | exact rfl | exact lr _) | ((conv => whnf); with_reducible first | apply And.intro | exact ⟨⟩) | exact rfl | exact id | assumption | exact lr _); done)) | (refine Or.inl (Or.inl ?_); (conv => whnf); refine ⟨_, PCx_pre (hre) ?_, ?_⟩; focus ((repeat' first | (with_reducible first | exact ⟨⟩ | exact rfl | exact lr _) | ((conv => whnf); with_reducible first | apply And.intro | exact ⟨⟩) | exact rfl | exact id | assumption | exact lr _); done)) | (((with_reducible apply And.intro); focus (simp only [cutN, List.length_map, List.length_take, List.length_drop, List.length_cons, List.length_nil]; omega))) | (((with_reducible apply And.intro); focus (rw [List.length_map, wrapI (by omega) (by omega)]; omega))) | (((with_reducible apply And.intro); focus (rw [eL, List.length_map]; simp only [List.length_cons, List.length_nil]; omega))) | ((with_reducible apply And.intro); focus (first | rfl | exact Nat.le_of_ble_eq_true rfl | omega | (simp only [List.length_cons, List.length_nil, List.length_map, List.length_append]; omega))))
  all_goals
    refine ⟨_, _, ⟨rfl, rfl⟩, ?_⟩
    repeat' first | (with_reducible first | exact ⟨⟩ | exact rfl | exact lr _) | ((conv => whnf); with_reducible first | apply And.intro | exact ⟨⟩) | exact rfl | exact id | exact lr _
    all_goals try (conv => whnf)
  · rw [eL]
    show AV.sub 1777 0 2 0 (x.frags.length - 1 + 1) = AV.sub 1777 0 2 0 x.frags.length
    rw [Nat.sub_add_cancel h0]
  · refine leRs_of_eq ?_
    rw [eL, List.map_append, ← List.map_take]
    rw [List.drop_eq_nil_of_le (by simp only [List.length_map, List.length_cons, List.length_nil]; omega), List.append_nil]
    rfl
theorem renewC_g (h1 : (renewN x known).2 = true) (hc1 : ((fragN x).first == x.n && decide ((x.frags.length : Int) > 0)) = true) (h6 : x.frags.length ≤ 6) :
    GCx Try.prog 20 [.ptr 1 0, .pv (slP known)] [(1, .var (x.v (.pv (slP x.heard)) (.pv (slP x.none)) (.pv (slP x.has)) (.slw 2 0) (.slw 3 0) (.pv (.sc (.slice none 0 0))))), (2, .arr 49 0 2 (x.frags.map Fr.c)), (3, .arr 38 0 2 (x.bad.map Pl.c))] (.pv (bl true))
      [(1, .var (({ x with bad := [], frags := x.frags.take (x.frags.length - 1) ++ [(⟨x.n, (renewN x known).1.bookies⟩ : Fr)] } : Rv).v (.pv (slP x.heard)) (.pv (slP x.none)) (.pv (slP x.has)) (.slw 1001 0) (.pv (slP [])) (.pv (.sc (.slice none 0 0))))), (1001, .arr 49 0 2 ((x.frags.take (x.frags.length - 1) ++ [(⟨x.n, (renewN x known).1.bookies⟩ : Fr)]).map Fr.c)), (2, .roa 1 2 []), (3, .roa 0 2 (x.bad.map Pl.c))] := by
  have h0 : 0 < x.frags.length := by
    simp only [Bool.and_eq_true, decide_eq_true_eq] at hc1
    omega
  have h := GCx_full (renewC0_g x known hk hf hfl hfb h1 hc1 h6) (by decide) (by
    (conv => whnf)
    refine ⟨fun _ => ⟨rfl, ?_⟩, ?_⟩
    · rw [List.length_map, List.length_append, List.length_take, List.length_singleton]; omega
    · trivial)
  exact h
end
end Go.Proofs.Ytpbjamihhkmgiaa.Tb
