/-
  Contracts of functions of the program and of the document, each for every input that its premises name.
-/
import Derived.Test.YtgblabmhgdiicaaGreatCL
set_option linter.unusedSectionVars false
set_option maxRecDepth 100000
set_option maxHeartbeats 4000000
set_option linter.unusedVariables false
set_option linter.unusedSimpArgs false
open Go Go.AX
namespace Go.Proofs.YtgblabmhgdiicaaGreat.Tb
theorem fn_l20closed : FnOk Tryz.prog 51 Tryz.f51 := ⟨Tryz.func51, by kernel_rfl, by kernel_rfl, by kernel_rfl⟩
theorem l20closed_c (id last is : Int) : PCx Tryz.prog 51 [uu id, uu last, ii is] (.agg (exL id last is).c) := by
  refine PC.le ?_
  refine PC_of_VC tabOk (draw_ok mixed tabOk) fn_l20closed rfl ?_
  repeat' ((conv => whnf); first | with_reducible refine zol ?_ | ((with_reducible refine fk (fun hc => ?_) fun hc => ?_) <;> first | exact absurd hc (by decide) | (exfalso; simp only [*, reduceCtorEq] at hc; done) | skip) | ((with_reducible apply And.intro); focus (first | rfl | exact znb rfl | omega | (simp only [zlc, zln, zlm, zla]; omega))))
  repeat' first | (with_reducible first | exact ⟨⟩ | exact rfl | exact lr _) | ((conv => whnf); with_reducible first | apply And.intro | exact ⟨⟩) | exact rfl | exact fun h => h | exact lr _
  all_goals try (conv => whnf)
theorem fn_l20ex : FnOk Tryz.prog 24 Tryz.f24 := ⟨Tryz.func24, by kernel_rfl, by kernel_rfl, by kernel_rfl⟩
theorem l20ex_c : PCx Tryz.prog 24 [] (.agg exP.c) := by
  refine PC.le ?_
  refine PC_of_VC tabOk (draw_ok mixed tabOk) fn_l20ex rfl ?_
  repeat' ((conv => whnf); first | with_reducible refine zol ?_ | ((with_reducible refine fk (fun hc => ?_) fun hc => ?_) <;> first | exact absurd hc (by decide) | (exfalso; simp only [*, reduceCtorEq] at hc; done) | skip) | (refine zll ?_; (conv => whnf); refine ⟨_, l20closed_c _ _ _, ?_⟩) | ((with_reducible apply And.intro); focus (first | rfl | exact znb rfl | omega | (simp only [zlc, zln, zlm, zla]; omega))))
  repeat' first | (with_reducible first | exact ⟨⟩ | exact rfl | exact lr _) | ((conv => whnf); with_reducible first | apply And.intro | exact ⟨⟩) | exact rfl | exact fun h => h | exact lr _
  all_goals try (conv => whnf)
theorem exP_ok : PnOk exP := ⟨exP_B, exP_r, exP_f⟩
theorem fn_l20awake : FnOk Tryz.prog 7 Tryz.f7 := ⟨Tryz.func7, by kernel_rfl, by kernel_rfl, by kernel_rfl⟩
theorem l20awake_c : PCx Tryz.prog 7 [] (bl true) := by
  refine PC.le ?_
  have c1 := cFind_c exP 1 1 11 exP_ok (by decide)
  have c2 := cFind_c exP 1 1 12 exP_ok (by decide)
  have c3 := cFind_c exP 1 1 13 exP_ok (by decide)
  have c4 := cOff_c exP 1 1 7 1 exP_ok (by decide)
  have c5 := cGone_c exP 1 exP_ok
  have c6 := cLength_c exP 1 1 exP_ok (by decide)
  have c7 := sameIds_c [3, 5] [3, 5]
  rw [exP_find11] at c1
  rw [exP_find12] at c2
  rw [exP_find13] at c3
  rw [exP_off] at c4
  rw [exP_gone] at c5
  rw [exP_len] at c6
  refine PC_of_VC tabOk (draw_ok mixed tabOk) fn_l20awake rfl ?_
  repeat' ((conv => whnf); first | with_reducible refine zol ?_ | ((with_reducible refine fk (fun hc => ?_) fun hc => ?_) <;> first | exact absurd hc (by decide) | (exfalso; simp only [*, reduceCtorEq] at hc; done) | skip) | (refine zll ?_; (conv => whnf); refine ⟨_, l20ex_c, ?_⟩) | (refine zll ?_; (conv => whnf); refine ⟨_, c1, ?_⟩) | (refine zll ?_; (conv => whnf); refine ⟨_, c2, ?_⟩) | (refine zll ?_; (conv => whnf); refine ⟨_, c3, ?_⟩) | (refine zll ?_; (conv => whnf); refine ⟨_, c4, ?_⟩) | (refine zll ?_; (conv => whnf); refine ⟨_, c5, ?_⟩) | (refine zll ?_; (conv => whnf); refine ⟨_, c6, ?_⟩) | (refine zll ?_; (conv => whnf); refine ⟨_, PCx_pre (c7) ?_, ?_⟩; focus ((repeat' first | (with_reducible first | exact ⟨⟩ | exact rfl | exact lr _) | ((conv => whnf); with_reducible first | apply And.intro | exact ⟨⟩) | exact rfl | exact fun h => h | assumption | exact lr _); done)) | ((with_reducible apply And.intro); focus (first | rfl | exact znb rfl | omega | (simp only [zlc, zln, zlm, zla]; omega))))
  all_goals (repeat' first | (with_reducible first | exact ⟨⟩ | exact rfl | exact lr _) | ((conv => whnf); with_reducible first | apply And.intro | exact ⟨⟩) | exact rfl | exact fun h => h | exact lr _); (all_goals try (conv => whnf))
end Go.Proofs.YtgblabmhgdiicaaGreat.Tb
