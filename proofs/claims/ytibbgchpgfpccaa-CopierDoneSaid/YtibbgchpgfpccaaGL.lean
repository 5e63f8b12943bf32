/-
  Contracts of functions of the program and of the document, each for every input that its premises name.
-/
import Derived.Test.YtibbgchpgfpccaaGK
set_option maxRecDepth 100000
set_option maxHeartbeats 4000000
set_option linter.unusedVariables false
set_option linter.unusedSimpArgs false
open Go Go.AX
namespace Go.Proofs.Ytibbgchpgfpccaa.Tb
theorem fn_cFind : FnOk Try.prog 61 Try.f61 := ⟨Try.func61, by kernel_rfl, by kernel_rfl, by kernel_rfl⟩
theorem cFind1_c (l : Lg) (f1 : Int) (a b : Pl) (r known : List Pl) (k : Nat) (hk : k < known.length) (hcl : (l.closed != 1) = false) (hfr : l.frags = [⟨f1, a :: b :: r⟩]) (ha : cGone a known = false) (hg : cGone b known = true)
    (hix : ixP (fun q => !cGone q known && cFits l b q) known = (k : Int)) (hkl : known.length ≤ 1000000) :
    PCx Try.prog 61 [.agg [uu 0, uu 0, nilS, .sl false 6 [l.c], nilS], slP known] (.tup [uu l.id, .agg b.c, .agg known[k].c, bl true]) := by
  obtain ⟨lid, lw, la, lf, lc, ll⟩ := l
  simp only at hfr hcl
  subst hfr
  refine PC.le (PC_bd fn_cFind fun hb => ?_)
  have hb : True := trivial
  refine PC_of_VC tabOk (draw_ok mixed tabOk) fn_cFind rfl ?_
  repeat' ((conv => whnf)
           first
           | with_reducible refine (Or.inl ?_ : VC _ _ _ _ _ ∨ _)
           | ((with_reducible refine (⟨fun hc => ?_, fun hc => ?_⟩ : (_ = true → _) ∧ (_ = false → _))) <;> first | exact absurd hc (by decide) | (exfalso; simp only [*, reduceCtorEq] at hc; done) | skip)
           | ((with_reducible refine And.intro ?_ ?_); focus (first | rfl | exact Nat.le_of_ble_eq_true rfl | omega | (simp only [List.length_cons, List.length_nil, List.length_map, List.length_append]; omega))))
  refine ⟨Unit, fun _ => ⟨[(3, .ptr 1003 0), (4, .pv (uu 0)), (5, .ptr 1005 0), (6, .ptr 1006 0), (7, .pv (bl false)), (16, .pv (.sl false 6 [Lg.c ⟨lid, lw, la, [⟨f1, a :: b :: r⟩], lc, ll⟩])), (17, .pv (ii 1)), (18, .pv (ii 0))], 1000000000, [(1003, .var [.pv (slP known)]), (1005, .var [.pv (ii 0), .pv (uu 0)]), (1006, .var [.pv (ii 0), .pv (uu 0)])]⟩, fun _ => 0, ⟨(), ent_of ?_⟩, ?_⟩
  · repeat' first
      | fail
      | exact True.intro
      | exact rfl
      | exact id
      | exact leRs_refl _
      | ((conv => whnf); with_reducible refine And.intro ?_ ?_)
      | ((conv => whnf); exact True.intro)
    all_goals try (conv => whnf)
  rintro ⟨⟩
  repeat' ((conv => whnf)
           first
           | with_reducible refine (Or.inl ?_ : VC _ _ _ _ _ ∨ _)
           | ((with_reducible refine (⟨fun hc => ?_, fun hc => ?_⟩ : (_ = true → _) ∧ (_ = false → _))) <;> first | exact absurd hc (by decide) | (exfalso; simp only [*, reduceCtorEq] at hc; done) | skip)
           | ((refine ⟨_, rfl, ?_⟩))
           | ((with_reducible refine And.intro ?_ ?_); focus (first | rfl | exact Nat.le_of_ble_eq_true rfl | omega | (simp only [List.length_cons, List.length_nil, List.length_map, List.length_append]; omega))))
  refine ⟨Unit, fun _ => ⟨[(3, .ptr 1003 0), (4, .pv (uu 0)), (5, .ptr 1005 0), (6, .ptr 1006 0), (7, .pv (bl false)), (16, .pv (.sl false 6 [Lg.c ⟨lid, lw, la, [⟨f1, a :: b :: r⟩], lc, ll⟩])), (17, .pv (ii 1)), (18, .pv (ii 0)), (9, .ptr 1009 0), (26, .pv (slF [⟨f1, a :: b :: r⟩])), (27, .pv (ii 1)), (28, .pv (ii 0))], 1000000000, [(1003, .var [.pv (slP known)]), (1005, .var [.pv (ii 0), .pv (uu 0)]), (1006, .var [.pv (ii 0), .pv (uu 0)]), (1009, .var [.pv (uu lid), .pv (ii lw), .pv (ii la), .pv (slF [⟨f1, a :: b :: r⟩]), .pv (ii lc), .pv (uu ll)])]⟩, fun _ => 0, ⟨(), ent_of ?_⟩, ?_⟩
  · repeat' first
      | fail
      | exact True.intro
      | exact rfl
      | exact id
      | exact leRs_refl _
      | ((conv => whnf); with_reducible refine And.intro ?_ ?_)
      | ((conv => whnf); exact True.intro)
    all_goals try (conv => whnf)
  rintro ⟨⟩
  repeat' ((conv => whnf)
           first
           | with_reducible refine (Or.inl ?_ : VC _ _ _ _ _ ∨ _)
           | ((with_reducible refine (⟨fun hc => ?_, fun hc => ?_⟩ : (_ = true → _) ∧ (_ = false → _))) <;> first | exact absurd hc (by decide) | (exfalso; simp only [*, reduceCtorEq] at hc; done) | skip)
           | ((refine ⟨_, rfl, ?_⟩))
           | ((with_reducible refine And.intro ?_ ?_); focus (first | rfl | exact Nat.le_of_ble_eq_true rfl | omega | (simp only [List.length_cons, List.length_nil, List.length_map, List.length_append]; omega))))
  refine ⟨{j : Nat // j ≤ 1}, fun ⟨j, _⟩ => ⟨[(3, .ptr 1003 0), (4, .pv (uu 0)), (5, .ptr 1005 0), (6, .ptr 1006 0), (7, .pv (bl false)), (16, .pv (.sl false 6 [Lg.c ⟨lid, lw, la, [⟨f1, a :: b :: r⟩], lc, ll⟩])), (17, .pv (ii 1)), (18, .pv (ii 0)), (9, .ptr 1009 0), (26, .pv (slF [⟨f1, a :: b :: r⟩])), (27, .pv (ii 1)), (28, .pv (ii 0)), (33, .pv (slP (a :: b :: r))), (34, .pv (ii ((a :: b :: r).length : Int))), (35, .pv (ii j))], 1000000000, [(1003, .rov [slP known]), (1005, .var [.pv (ii 0), .pv (uu 0)]), (1006, .var [.pv (ii 0), .pv (uu 0)]), (1009, .rov [uu lid, ii lw, ii la, slF [⟨f1, a :: b :: r⟩], ii lc, uu ll])]⟩, fun ⟨j, _⟩ => 1 - j, ⟨⟨0, by simp⟩, ent_frz [1003, 1009] ?_⟩, ?_⟩
  · repeat' first
      | fail
      | exact True.intro
      | exact rfl
      | exact id
      | exact leRs_refl _
      | ((conv => whnf); with_reducible refine And.intro ?_ ?_)
      | ((conv => whnf); exact True.intro)
    all_goals try (conv => whnf)
    all_goals simp
  rintro ⟨j, hj⟩
  have hj2 : j = 0 ∨ j = 1 := by omega
  rcases hj2 with rfl | rfl
  · repeat' ((conv => whnf)
             first
             | with_reducible refine (Or.inl ?_ : VC _ _ _ _ _ ∨ _)
             | ((with_reducible refine (⟨fun hc => ?_, fun hc => ?_⟩ : (_ = true → _) ∧ (_ = false → _))) <;> first | exact absurd hc (by decide) | (exfalso; simp only [*, reduceCtorEq] at hc; done) | skip)
             | ((refine ⟨_, rfl, ?_⟩))
             | (refine Or.inl ?_; (conv => whnf); refine ⟨_, indexFuncPlace_c known _ _ _ _ fun q _ => find1_c known ⟨lid, lw, la, [⟨f1, a :: b :: r⟩], lc, ll⟩ a q, ?_⟩)
             | (refine Or.inl ?_; (conv => whnf); refine ⟨_, gone_c a known, ?_⟩)
             | ((with_reducible refine And.intro ?_ ?_); focus (first | rfl | exact Nat.le_of_ble_eq_true rfl | omega | (simp only [List.length_cons, List.length_nil, List.length_map, List.length_append]; omega))))
    · refine ⟨⟨1, by omega⟩, (by show 1 - 1 < 1 - 0; decide), ent_of ?_⟩
      repeat' first
        | fail
        | exact True.intro
        | exact rfl
        | exact id
        | exact leRs_refl _
        | ((conv => whnf); with_reducible refine And.intro ?_ ?_)
        | ((conv => whnf); exact True.intro)
      all_goals try (conv => whnf)
    · exfalso
      simp only [List.length_cons, decide_eq_false_iff_not] at hc
      omega
  · repeat' ((conv => whnf)
             first
             | with_reducible refine (Or.inl ?_ : VC _ _ _ _ _ ∨ _)
             | ((with_reducible refine (⟨fun hc => ?_, fun hc => ?_⟩ : (_ = true → _) ∧ (_ = false → _))) <;> first | exact absurd hc (by decide) | (exfalso; simp only [*, reduceCtorEq] at hc; done) | skip)
             | ((refine ⟨_, rfl, ?_⟩))
             | (refine Or.inl ?_; (conv => whnf); refine ⟨_, indexFuncPlace_c known _ _ _ _ fun q _ => find1_c known ⟨lid, lw, la, [⟨f1, a :: b :: r⟩], lc, ll⟩ b q, ?_⟩)
             | (refine Or.inl ?_; (conv => whnf); refine ⟨_, gone_c b known, ?_⟩)
             | (((with_reducible refine And.intro ?_ ?_); focus (rw [hix]; omega)))
             | (((with_reducible refine And.intro ?_ ?_); focus (rw [hix, List.length_map]; omega)))
             | ((refine ⟨_, rowE _ _ hix hk, ?_⟩))
             | ((with_reducible refine And.intro ?_ ?_); focus (first | rfl | exact Nat.le_of_ble_eq_true rfl | omega | (simp only [List.length_cons, List.length_nil, List.length_map, List.length_append]; omega))))
    all_goals try (exfalso; simp only [hix, List.length_cons, decide_eq_false_iff_not] at hc; omega)
    all_goals
      repeat' first
        | fail
        | exact True.intro
        | exact rfl
        | exact id
        | exact leRs_refl _
        | ((conv => whnf); with_reducible refine And.intro ?_ ?_)
        | ((conv => whnf); exact True.intro)
      all_goals try (conv => whnf)
    all_goals trace_state
end Go.Proofs.Ytibbgchpgfpccaa.Tb
