/-
  Contracts of functions of the program and of the document, each for every input that its premises name.
-/
import Derived.Test.YtgblabmhgdiicaaGreatCA
import Derived.Test.YtgblabmhgdiicaaGreatFL
import Derived.Test.YtgblabmhgdiicaaGreatSE
import Derived.Test.YtgblabmhgdiicaaGreatAe
set_option linter.unusedSectionVars false
set_option maxRecDepth 100000
set_option maxHeartbeats 4000000
set_option linter.unusedVariables false
set_option linter.unusedSimpArgs false
open Go Go.AX Go.Sort Go.Shelf Go.RowKit Go.Lib
namespace Go.Proofs.YtgblabmhgdiicaaGreat.Tb
def encP (x : Pl) : List Value := [.int .i64 x.node, .int .u64 x.serial]
theorem plCmp0 (a b c d : Int) (W : World) : Calls Tryz.prog 126 #[.agg #[.int .i64 a, .int .u64 b], .agg #[.int .i64 c, .int .u64 d]] W fun e w' => e = .returned (.int .i64 (Lib.compareInt a c)) ∧ ∃ q os', w' = grow (W.drewN q) os' := by
  go_enter Tryz.func126, Tryz.ntmps126
  go_wp2
  all_goals
    go_ret
    refine ⟨?_, 0, _, by rw [alloc_eq_grow, alloc_eq_grow, grow_grow]; rfl⟩
    simp_all [Lib.compareInt]
    try omega
theorem plCmp (x y : Pl) (W : World) : Calls Tryz.prog 126 #[.agg (encP x).toArray, .agg (encP y).toArray] W fun e w' => e = .returned (.int .i64 (cmpPl x y)) ∧ ∃ q os', w' = grow (W.drewN q) os' :=
  plCmp0 x.node x.serial y.node y.serial W
def encM (x : Mk) : List Value := [.int .i64 x.producer, .int .u64 x.seq, .int .u64 x.offset]
theorem mkCmp0 (a b c d e f : Int) (W : World) : Calls Tryz.prog 101 #[.agg #[.int .i64 a, .int .u64 b, .int .u64 c], .agg #[.int .i64 d, .int .u64 e, .int .u64 f]] W fun r w' => r = .returned (.int .i64 (Lib.compareInt c f)) ∧ ∃ q os', w' = grow (W.drewN q) os' := by
  go_enter Tryz.func101, Tryz.ntmps101
  go_wp2
  all_goals
    go_ret
    refine ⟨?_, 0, _, by rw [alloc_eq_grow, alloc_eq_grow, grow_grow]; rfl⟩
    simp_all [Lib.compareInt]
    try omega
theorem mkCmp (x y : Mk) (W : World) : Calls Tryz.prog 101 #[.agg (encM x).toArray, .agg (encM y).toArray] W fun e w' => e = .returned (.int .i64 (cmpBy Mk.offset x y)) ∧ ∃ q os', w' = grow (W.drewN q) os' :=
  mkCmp0 x.producer x.seq x.offset y.producer y.seq y.offset W
theorem bitsLen0_c : PCx Tryz.prog 55 [.sc (.int .u64 0)] (.sc (.int .i64 0)) := uLen_c 0 (by omega)
theorem fn_insSortPlace : FnOk Tryz.prog 154 Tryz.f154 := ⟨Tryz.func154, by kernel_rfl, by kernel_rfl, by kernel_rfl⟩
theorem insSortPlaceNil_c (f : Fn) : PCx Tryz.prog 154 [.sc (.slice none 0 0), ii 0, ii 0, .fn f [] []] unit := by
  refine PC.le ?_
  refine PC_of_VC tabOk (draw_ok mixed tabOk) fn_insSortPlace rfl ?_
  repeat' ((conv => whnf); first | with_reducible refine zol ?_ | ((with_reducible refine fk (fun hc => ?_) fun hc => ?_) <;> first | exact absurd hc (by decide) | (exfalso; simp only [*, reduceCtorEq] at hc; done) | skip) | ((with_reducible apply And.intro); focus (first | rfl | exact znb rfl | omega | (simp only [zlc, zln, zlm, zla]; omega))))
  refine ⟨Unit, fun _ => ⟨[(0, .pv (.sc (.slice none 0 0))), (1, .pv (ii 0)), (2, .pv (ii 0)), (3, .pv (.fn f [] [])), (8, .pv (ii 1))], 1000000000, []⟩, fun _ => 0, ⟨(), ent_of ?_⟩, ?_⟩
  · repeat' first
      | fail
      | with_reducible exact True.intro
      | with_reducible exact rfl
      | with_reducible exact leRs_refl _
      | ((conv => whnf); with_reducible apply And.intro)
      | ((conv => whnf); with_reducible exact True.intro)
      | exact rfl
      | exact fun h => h
      | exact leRs_refl _
    all_goals try (conv => whnf)
  rintro ⟨⟩
  repeat' ((conv => whnf); first | with_reducible refine zol ?_ | ((with_reducible refine fk (fun hc => ?_) fun hc => ?_) <;> first | exact absurd hc (by decide) | (exfalso; simp only [*, reduceCtorEq] at hc; done) | skip) | ((with_reducible apply And.intro); focus (first | rfl | exact znb rfl | omega | (simp only [zlc, zln, zlm, zla]; omega))))
  repeat' first | (with_reducible first | exact ⟨⟩ | exact rfl | exact lr _) | ((conv => whnf); with_reducible first | apply And.intro | exact ⟨⟩) | exact rfl | exact fun h => h | exact lr _
  all_goals try (conv => whnf)
theorem fn_pdqSortPlace : FnOk Tryz.prog 141 Tryz.f141 := ⟨Tryz.func141, by kernel_rfl, by kernel_rfl, by kernel_rfl⟩
theorem pdqPlaceNil_c (f : Fn) : PCx Tryz.prog 141 [.sc (.slice none 0 0), ii 0, ii 0, ii 0, .fn f [] []] unit := by
  refine PC.le ?_
  refine PC_of_VC tabOk (draw_ok mixed tabOk) fn_pdqSortPlace rfl ?_
  repeat' ((conv => whnf); first | with_reducible refine zol ?_ | ((with_reducible refine fk (fun hc => ?_) fun hc => ?_) <;> first | exact absurd hc (by decide) | (exfalso; simp only [*, reduceCtorEq] at hc; done) | skip) | ((with_reducible apply And.intro); focus (first | rfl | exact znb rfl | omega | (simp only [zlc, zln, zlm, zla]; omega))))
  refine ⟨Unit, fun _ => ⟨[(0, .pv (.sc (.slice none 0 0))), (1, .pv (ii 0)), (2, .pv (ii 0)), (3, .pv (ii 0)), (4, .pv (.fn f [] [])), (10, .pv (bl true)), (11, .pv (bl true))], 1000000000, []⟩, fun _ => 0, ⟨(), ent_of ?_⟩, ?_⟩
  · repeat' first
      | fail
      | with_reducible exact True.intro
      | with_reducible exact rfl
      | with_reducible exact leRs_refl _
      | ((conv => whnf); with_reducible apply And.intro)
      | ((conv => whnf); with_reducible exact True.intro)
      | exact rfl
      | exact fun h => h
      | exact leRs_refl _
    all_goals try (conv => whnf)
  rintro ⟨⟩
  repeat' ((conv => whnf); first | with_reducible refine zol ?_ | ((with_reducible refine fk (fun hc => ?_) fun hc => ?_) <;> first | exact absurd hc (by decide) | (exfalso; simp only [*, reduceCtorEq] at hc; done) | skip) | (refine zll ?_; (conv => whnf); refine ⟨_, insSortPlaceNil_c f, ?_⟩) | ((with_reducible apply And.intro); focus (first | rfl | exact znb rfl | omega | (simp only [zlc, zln, zlm, zla]; omega))))
  repeat' first | (with_reducible first | exact ⟨⟩ | exact rfl | exact lr _) | ((conv => whnf); with_reducible first | apply And.intro | exact ⟨⟩) | exact rfl | exact fun h => h | exact lr _
  all_goals try (conv => whnf)
theorem fn_sortFPlace : FnOk Tryz.prog 125 Tryz.f125 := ⟨Tryz.func125, by kernel_rfl, by kernel_rfl, by kernel_rfl⟩
theorem sortPlaceNil_c (f : Fn) : PCx Tryz.prog 125 [.sc (.slice none 0 0), .fn f [] []] unit := by
  refine PC.le ?_
  refine PC_of_VC tabOk (draw_ok mixed tabOk) fn_sortFPlace rfl ?_
  repeat' ((conv => whnf); first | with_reducible refine zol ?_ | ((with_reducible refine fk (fun hc => ?_) fun hc => ?_) <;> first | exact absurd hc (by decide) | (exfalso; simp only [*, reduceCtorEq] at hc; done) | skip) | (refine zll ?_; (conv => whnf); refine ⟨_, bitsLen0_c, ?_⟩) | (refine zll ?_; (conv => whnf); refine ⟨_, pdqPlaceNil_c f, ?_⟩) | ((with_reducible apply And.intro); focus (first | rfl | exact znb rfl | omega | (simp only [zlc, zln, zlm, zla]; omega))))
  repeat' first | (with_reducible first | exact ⟨⟩ | exact rfl | exact lr _) | ((conv => whnf); with_reducible first | apply And.intro | exact ⟨⟩) | exact rfl | exact fun h => h | exact lr _
  all_goals try (conv => whnf)
theorem sortPlace_g (l : List Pl) (h : l.length ≤ 8796093022208) : GCx Tryz.prog 125 [.slw 1 0, .pv (.fn (.func 126) [] [])] [(1, .arr 112 0 2 (l.map Pl.c))] (.pv unit)
    [(1, .arr 112 0 2 ((sortA l.toArray).toList.map Pl.c))] := by
  have eg : ∀ args w, (callFunc 126 args).run Tryz.prog w = .ok (.enter 126 args) w := enters_of Tryz.func126 (by kernel_rfl) rfl
  exact GC_sort (enc := encP) (st := 2) sortA (by decide) (fun _ => rfl) (fun x v hv => by simp [encP] at hv; rcases hv with rfl | rfl | rfl <;> rfl) sortA_size
    (fun blk cap d w hH hblk hsz => AnyQ.slices_SortFunc_eq Tryz.sortPl 2 Tryz.isAgg112 Tryz.sizeOf112 encP (fun _ => rfl) (fun x v hv => by simp [encP] at hv; rcases hv with rfl | rfl | rfl <;> rfl) cmpPl swoPl 126 #[] blk 0 cap d w eg
      (fun _ _ _ _ x y => plCmp x y _) hH hblk hsz) (sortPlaceNil_c _) l (by omega)
theorem fn_insSortMark : FnOk Tryz.prog 145 Tryz.f145 := ⟨Tryz.func145, by kernel_rfl, by kernel_rfl, by kernel_rfl⟩
theorem insSortMarkNil_c (f : Fn) : PCx Tryz.prog 145 [.sc (.slice none 0 0), ii 0, ii 0, .fn f [] []] unit := by
  refine PC.le ?_
  refine PC_of_VC tabOk (draw_ok mixed tabOk) fn_insSortMark rfl ?_
  repeat' ((conv => whnf); first | with_reducible refine zol ?_ | ((with_reducible refine fk (fun hc => ?_) fun hc => ?_) <;> first | exact absurd hc (by decide) | (exfalso; simp only [*, reduceCtorEq] at hc; done) | skip) | ((with_reducible apply And.intro); focus (first | rfl | exact znb rfl | omega | (simp only [zlc, zln, zlm, zla]; omega))))
  refine ⟨Unit, fun _ => ⟨[(0, .pv (.sc (.slice none 0 0))), (1, .pv (ii 0)), (2, .pv (ii 0)), (3, .pv (.fn f [] [])), (8, .pv (ii 1))], 1000000000, []⟩, fun _ => 0, ⟨(), ent_of ?_⟩, ?_⟩
  · repeat' first
      | fail
      | with_reducible exact True.intro
      | with_reducible exact rfl
      | with_reducible exact leRs_refl _
      | ((conv => whnf); with_reducible apply And.intro)
      | ((conv => whnf); with_reducible exact True.intro)
      | exact rfl
      | exact fun h => h
      | exact leRs_refl _
    all_goals try (conv => whnf)
  rintro ⟨⟩
  repeat' ((conv => whnf); first | with_reducible refine zol ?_ | ((with_reducible refine fk (fun hc => ?_) fun hc => ?_) <;> first | exact absurd hc (by decide) | (exfalso; simp only [*, reduceCtorEq] at hc; done) | skip) | ((with_reducible apply And.intro); focus (first | rfl | exact znb rfl | omega | (simp only [zlc, zln, zlm, zla]; omega))))
  repeat' first | (with_reducible first | exact ⟨⟩ | exact rfl | exact lr _) | ((conv => whnf); with_reducible first | apply And.intro | exact ⟨⟩) | exact rfl | exact fun h => h | exact lr _
  all_goals try (conv => whnf)
theorem fn_pdqSortMark : FnOk Tryz.prog 134 Tryz.f134 := ⟨Tryz.func134, by kernel_rfl, by kernel_rfl, by kernel_rfl⟩
theorem pdqMarkNil_c (f : Fn) : PCx Tryz.prog 134 [.sc (.slice none 0 0), ii 0, ii 0, ii 0, .fn f [] []] unit := by
  refine PC.le ?_
  refine PC_of_VC tabOk (draw_ok mixed tabOk) fn_pdqSortMark rfl ?_
  repeat' ((conv => whnf); first | with_reducible refine zol ?_ | ((with_reducible refine fk (fun hc => ?_) fun hc => ?_) <;> first | exact absurd hc (by decide) | (exfalso; simp only [*, reduceCtorEq] at hc; done) | skip) | ((with_reducible apply And.intro); focus (first | rfl | exact znb rfl | omega | (simp only [zlc, zln, zlm, zla]; omega))))
  refine ⟨Unit, fun _ => ⟨[(0, .pv (.sc (.slice none 0 0))), (1, .pv (ii 0)), (2, .pv (ii 0)), (3, .pv (ii 0)), (4, .pv (.fn f [] [])), (10, .pv (bl true)), (11, .pv (bl true))], 1000000000, []⟩, fun _ => 0, ⟨(), ent_of ?_⟩, ?_⟩
  · repeat' first
      | fail
      | with_reducible exact True.intro
      | with_reducible exact rfl
      | with_reducible exact leRs_refl _
      | ((conv => whnf); with_reducible apply And.intro)
      | ((conv => whnf); with_reducible exact True.intro)
      | exact rfl
      | exact fun h => h
      | exact leRs_refl _
    all_goals try (conv => whnf)
  rintro ⟨⟩
  repeat' ((conv => whnf); first | with_reducible refine zol ?_ | ((with_reducible refine fk (fun hc => ?_) fun hc => ?_) <;> first | exact absurd hc (by decide) | (exfalso; simp only [*, reduceCtorEq] at hc; done) | skip) | (refine zll ?_; (conv => whnf); refine ⟨_, insSortMarkNil_c f, ?_⟩) | ((with_reducible apply And.intro); focus (first | rfl | exact znb rfl | omega | (simp only [zlc, zln, zlm, zla]; omega))))
  repeat' first | (with_reducible first | exact ⟨⟩ | exact rfl | exact lr _) | ((conv => whnf); with_reducible first | apply And.intro | exact ⟨⟩) | exact rfl | exact fun h => h | exact lr _
  all_goals try (conv => whnf)
theorem fn_sortFMark : FnOk Tryz.prog 100 Tryz.f100 := ⟨Tryz.func100, by kernel_rfl, by kernel_rfl, by kernel_rfl⟩
theorem sortMarkNil_c (f : Fn) : PCx Tryz.prog 100 [.sc (.slice none 0 0), .fn f [] []] unit := by
  refine PC.le ?_
  refine PC_of_VC tabOk (draw_ok mixed tabOk) fn_sortFMark rfl ?_
  repeat' ((conv => whnf); first | with_reducible refine zol ?_ | ((with_reducible refine fk (fun hc => ?_) fun hc => ?_) <;> first | exact absurd hc (by decide) | (exfalso; simp only [*, reduceCtorEq] at hc; done) | skip) | (refine zll ?_; (conv => whnf); refine ⟨_, bitsLen0_c, ?_⟩) | (refine zll ?_; (conv => whnf); refine ⟨_, pdqMarkNil_c f, ?_⟩) | ((with_reducible apply And.intro); focus (first | rfl | exact znb rfl | omega | (simp only [zlc, zln, zlm, zla]; omega))))
  repeat' first | (with_reducible first | exact ⟨⟩ | exact rfl | exact lr _) | ((conv => whnf); with_reducible first | apply And.intro | exact ⟨⟩) | exact rfl | exact fun h => h | exact lr _
  all_goals try (conv => whnf)
theorem sortMark_g (l : List Mk) (h : l.length ≤ 8796093022208) : GCx Tryz.prog 100 [.slw 1 0, .pv (.fn (.func 101) [] [])] [(1, .arr 135 0 3 (l.map Mk.c))] (.pv unit)
    [(1, .arr 135 0 3 (((sortAB Mk.offset) l.toArray).toList.map Mk.c))] := by
  have eg : ∀ args w, (callFunc 101 args).run Tryz.prog w = .ok (.enter 101 args) w := enters_of Tryz.func101 (by kernel_rfl) rfl
  exact GC_sort (enc := encM) (st := 3) (sortAB Mk.offset) (by decide) (fun _ => rfl) (fun x v hv => by simp [encM] at hv; rcases hv with rfl | rfl | rfl <;> rfl) (sortAB_size Mk.offset)
    (fun blk cap d w hH hblk hsz => AnyQ.slices_SortFunc_eq Tryz.sortMk 3 Tryz.isAgg135 Tryz.sizeOf135 encM (fun _ => rfl) (fun x v hv => by simp [encM] at hv; rcases hv with rfl | rfl | rfl <;> rfl) (cmpBy Mk.offset) (swoBy Mk.offset) 101 #[] blk 0 cap d w eg
      (fun _ _ _ _ x y => mkCmp x y _) hH hblk hsz) (sortMarkNil_c _) l (by omega)
end Go.Proofs.YtgblabmhgdiicaaGreat.Tb
