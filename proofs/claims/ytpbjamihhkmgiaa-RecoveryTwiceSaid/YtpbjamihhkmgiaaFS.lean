/-
  Contracts of functions of the program and of the document, each for every input that its premises name.
-/
import Derived.Test.YtpbjamihhkmgiaaFA
import Derived.Test.YtpbjamihhkmgiaaFL
set_option linter.unusedSectionVars false
set_option maxRecDepth 100000
set_option maxHeartbeats 4000000
set_option linter.unusedVariables false
set_option linter.unusedSimpArgs false
open Go Go.AX Go.Sort Go.Shelf Go.RowKit Go.Lib
namespace Go.Proofs.Ytpbjamihhkmgiaa.Tb
def encP (x : Pl) : List Value := [.int .i64 x.node, .int .u64 x.serial]
theorem plCmp0 (a b c d : Int) (W : World) : Calls Try.prog 69 #[.agg #[.int .i64 a, .int .u64 b], .agg #[.int .i64 c, .int .u64 d]] W fun e w' => e = .returned (.int .i64 (Lib.compareInt a c)) ∧ ∃ q os', w' = grow (W.drewN q) os' := by
  go_enter Try.func69, Try.ntmps69
  go_wp2
  all_goals
    go_ret
    refine ⟨?_, 0, _, by rw [alloc_eq_grow, alloc_eq_grow, grow_grow]; rfl⟩
    simp_all [Lib.compareInt]
    try omega
theorem plCmp (x y : Pl) (W : World) : Calls Try.prog 69 #[.agg (encP x).toArray, .agg (encP y).toArray] W fun e w' => e = .returned (.int .i64 (cmpPl x y)) ∧ ∃ q os', w' = grow (W.drewN q) os' :=
  plCmp0 x.node x.serial y.node y.serial W
theorem bitsLen_c : PCx Try.prog 80 [.sc (.int .u64 0)] (.sc (.int .i64 0)) := by
  refine ⟨⟨_, Try.func80, rfl, by decide⟩, fun F w cargs _ ha => ?_⟩
  obtain ⟨v, r, e, hv, hr⟩ := ha
  simp only [rep] at hv
  subst hv
  simp only [repL] at hr
  subst hr
  have : cargs = #[.int .u64 0] := by rw [← Array.toList_inj, e]
  subst this
  have h := Any.bits_Len (SlLaysF0.n15.bits (P := Try.prog) (ρ := Try.sortPl_ren) { Try.sortPl with }) 0 w (by omega) (by omega)
  refine h.mono fun e w' ⟨he, hw⟩ => ⟨_, _, he, rfl, by simp only [rep]; rfl, by subst hw; exact Evo.refl _ _⟩
theorem fn_insSort : FnOk Try.prog 83 Try.f83 := ⟨Try.func83, by kernel_rfl, by kernel_rfl, by kernel_rfl⟩
theorem insSortNil_c (f : Fn) : PCx Try.prog 83 [.sc (.slice none 0 0), ii 0, ii 0, .fn f [] []] unit := by
  refine PC.le ?_
  refine PC_of_VC tabOk (draw_ok mixed tabOk) fn_insSort rfl ?_
  repeat' ((conv => whnf); first | with_reducible refine (Or.inl ?_ : VC _ _ _ _ _ ∨ _) | ((with_reducible refine fk (fun hc => ?_) fun hc => ?_) <;> first | exact absurd hc (by decide) | (exfalso; simp only [*, reduceCtorEq] at hc; done) | skip) | ((with_reducible apply And.intro); focus (first | rfl | exact Nat.le_of_ble_eq_true rfl | omega | (simp only [List.length_cons, List.length_nil, List.length_map, List.length_append]; omega))))
  refine ⟨Unit, fun _ => ⟨[(0, .pv (.sc (.slice none 0 0))), (1, .pv (ii 0)), (2, .pv (ii 0)), (3, .pv (.fn f [] [])), (8, .pv (ii 1))], 1000000000, []⟩, fun _ => 0, ⟨(), ent_of ?_⟩, ?_⟩
  · repeat' first
      | fail
      | with_reducible exact True.intro
      | with_reducible exact rfl
      | with_reducible exact leRs_refl _
      | ((conv => whnf); with_reducible apply And.intro)
      | ((conv => whnf); with_reducible exact True.intro)
      | exact rfl
      | exact id
      | exact leRs_refl _
    all_goals try (conv => whnf)
  rintro ⟨⟩
  repeat' ((conv => whnf); first | with_reducible refine (Or.inl ?_ : VC _ _ _ _ _ ∨ _) | ((with_reducible refine fk (fun hc => ?_) fun hc => ?_) <;> first | exact absurd hc (by decide) | (exfalso; simp only [*, reduceCtorEq] at hc; done) | skip) | ((with_reducible apply And.intro); focus (first | rfl | exact Nat.le_of_ble_eq_true rfl | omega | (simp only [List.length_cons, List.length_nil, List.length_map, List.length_append]; omega))))
  repeat' first | (with_reducible first | exact ⟨⟩ | exact rfl | exact lr _) | ((conv => whnf); with_reducible first | apply And.intro | exact ⟨⟩) | exact rfl | exact id | exact lr _
  all_goals try (conv => whnf)
theorem fn_pdqSort : FnOk Try.prog 79 Try.f79 := ⟨Try.func79, by kernel_rfl, by kernel_rfl, by kernel_rfl⟩
theorem pdqNil_c (f : Fn) : PCx Try.prog 79 [.sc (.slice none 0 0), ii 0, ii 0, ii 0, .fn f [] []] unit := by
  refine PC.le ?_
  refine PC_of_VC tabOk (draw_ok mixed tabOk) fn_pdqSort rfl ?_
  repeat' ((conv => whnf); first | with_reducible refine (Or.inl ?_ : VC _ _ _ _ _ ∨ _) | ((with_reducible refine fk (fun hc => ?_) fun hc => ?_) <;> first | exact absurd hc (by decide) | (exfalso; simp only [*, reduceCtorEq] at hc; done) | skip) | ((with_reducible apply And.intro); focus (first | rfl | exact Nat.le_of_ble_eq_true rfl | omega | (simp only [List.length_cons, List.length_nil, List.length_map, List.length_append]; omega))))
  refine ⟨Unit, fun _ => ⟨[(0, .pv (.sc (.slice none 0 0))), (1, .pv (ii 0)), (2, .pv (ii 0)), (3, .pv (ii 0)), (4, .pv (.fn f [] [])), (10, .pv (bl true)), (11, .pv (bl true))], 1000000000, []⟩, fun _ => 0, ⟨(), ent_of ?_⟩, ?_⟩
  · repeat' first
      | fail
      | with_reducible exact True.intro
      | with_reducible exact rfl
      | with_reducible exact leRs_refl _
      | ((conv => whnf); with_reducible apply And.intro)
      | ((conv => whnf); with_reducible exact True.intro)
      | exact rfl
      | exact id
      | exact leRs_refl _
    all_goals try (conv => whnf)
  rintro ⟨⟩
  repeat' ((conv => whnf); first | with_reducible refine (Or.inl ?_ : VC _ _ _ _ _ ∨ _) | ((with_reducible refine fk (fun hc => ?_) fun hc => ?_) <;> first | exact absurd hc (by decide) | (exfalso; simp only [*, reduceCtorEq] at hc; done) | skip) | (refine Or.inl (Or.inl ?_); (conv => whnf); refine ⟨_, insSortNil_c f, ?_⟩) | ((with_reducible apply And.intro); focus (first | rfl | exact Nat.le_of_ble_eq_true rfl | omega | (simp only [List.length_cons, List.length_nil, List.length_map, List.length_append]; omega))))
  repeat' first | (with_reducible first | exact ⟨⟩ | exact rfl | exact lr _) | ((conv => whnf); with_reducible first | apply And.intro | exact ⟨⟩) | exact rfl | exact id | exact lr _
  all_goals try (conv => whnf)
theorem fn_sortF : FnOk Try.prog 68 Try.f68 := ⟨Try.func68, by kernel_rfl, by kernel_rfl, by kernel_rfl⟩
theorem sortNil_c (f : Fn) : PCx Try.prog 68 [.sc (.slice none 0 0), .fn f [] []] unit := by
  refine PC.le ?_
  refine PC_of_VC tabOk (draw_ok mixed tabOk) fn_sortF rfl ?_
  repeat' ((conv => whnf); first | with_reducible refine (Or.inl ?_ : VC _ _ _ _ _ ∨ _) | ((with_reducible refine fk (fun hc => ?_) fun hc => ?_) <;> first | exact absurd hc (by decide) | (exfalso; simp only [*, reduceCtorEq] at hc; done) | skip) | (refine Or.inl (Or.inl ?_); (conv => whnf); refine ⟨_, bitsLen_c, ?_⟩) | (refine Or.inl (Or.inl ?_); (conv => whnf); refine ⟨_, pdqNil_c f, ?_⟩) | ((with_reducible apply And.intro); focus (first | rfl | exact Nat.le_of_ble_eq_true rfl | omega | (simp only [List.length_cons, List.length_nil, List.length_map, List.length_append]; omega))))
  repeat' first | (with_reducible first | exact ⟨⟩ | exact rfl | exact lr _) | ((conv => whnf); with_reducible first | apply And.intro | exact ⟨⟩) | exact rfl | exact id | exact lr _
  all_goals try (conv => whnf)
theorem sortPlace_g (l : List Pl) (h : l.length ≤ 8796093022208) : GCx Try.prog 68 [.slw 1 0, .pv (.fn (.func 69) [] [])] [(1, .arr 38 0 2 (l.map Pl.c))] (.pv unit)
    [(1, .arr 38 0 2 ((sortPl l).map Pl.c))] := by
  have eg : ∀ args w, (callFunc 69 args).run Try.prog w = .ok (.enter 69 args) w := enters_of Try.func69 (by kernel_rfl) rfl
  exact GC_sort (enc := encP) (st := 2) sortA (by decide) (fun _ => rfl) (fun x v hv => by simp [encP] at hv; rcases hv with rfl | rfl <;> rfl) sortA_size
    (fun blk cap d w hH hblk hsz => AnyQ.slices_SortFunc_eq Try.sortPl 2 Try.isAgg38 Try.sizeOf38 encP (fun _ => rfl) (fun x v hv => by simp [encP] at hv; rcases hv with rfl | rfl <;> rfl) cmpPl swoPl 69 #[] blk 0 cap d w eg
      (fun _ _ _ _ x y => plCmp x y _) hH hblk hsz) (sortNil_c _) l (by omega)
end Go.Proofs.Ytpbjamihhkmgiaa.Tb
