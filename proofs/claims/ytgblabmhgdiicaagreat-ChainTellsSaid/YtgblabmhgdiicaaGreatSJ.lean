/-
  Contracts of functions of the program and of the document, each for every input that its premises name.
-/
import Derived.Test.YtgblabmhgdiicaaGreatSI
set_option linter.unusedSectionVars false
set_option maxRecDepth 100000
set_option maxHeartbeats 4000000
set_option linter.unusedVariables false
set_option linter.unusedSimpArgs false
open Go Go.AX Go.Sort
namespace Go.Proofs.YtgblabmhgdiicaaGreat.Tb
theorem fn_uSort : FnOk Tryz.prog 27 Tryz.f27 := ⟨Tryz.func27, by kernel_rfl, by kernel_rfl, by kernel_rfl⟩
theorem uSort_g (l : List Int) (h : l.length < 4611686018427387904) :
    GCx Tryz.prog 27 [.slw 1 0] [(1, .arr 22 0 1 (l.map uRow))] (.pv (.tup [])) [(1, .arr 22 0 1 ((l.mergeSort (fun x y => decide (x ≤ y))).map uRow))] := by
  have e1 : l.map uRow = uA l.toArray := rfl
  have e2 : (l.mergeSort (fun x y => decide (x ≤ y))).map uRow = uA (pdq ltInt l.toArray 0 l.toArray.size (bitsLen l.toArray.size) true true) := by
    rw [uA, sortInt_eq]
  have hk : bitsLen l.length ≤ 62 := (bitsLen_le_iff l.length 62).2 (by omega)
  have c := uPdq_g l.length l.toArray 0 l.length (bitsLen l.length) (by omega) (by omega) (by simp) (by simpa using h) (by omega) (.inl rfl)
  have cL := uLen_c l.length (by omega)
  have wn : IntKind.u64.wrap (l.length : Int) = (l.length : Int) := wrapU (by omega) (by omega)
  rw [e1, e2]
  have es : l.toArray.size = l.length := by simp
  rw [es]
  have en : ((uA l.toArray).length : Int) = (l.length : Int) := by rw [uA_len, es]
  clear e1 e2
  refine GC_of_VC tabOk (draw_ok mixed tabOk) fn_uSort rfl ?_
  repeat' ((conv => whnf); first | with_reducible refine zol ?_ | ((with_reducible refine fk (fun hc => ?_) fun hc => ?_) <;> first | exact absurd hc (by decide) | (exfalso; simp only [*, reduceCtorEq] at hc; done) | skip) | rewrite [en] | rewrite [wn] | (refine zll ?_; (conv => whnf); refine ⟨_, cL, ?_⟩) | (refine zlr ?_; (conv => whnf); refine ⟨_, _, GCx_pre (c) ?_, ?_⟩; focus ((repeat' first | (with_reducible first | exact ⟨⟩ | exact rfl | exact lr _) | ((conv => whnf); with_reducible first | apply And.intro | exact ⟨⟩) | exact rfl | exact fun h => h | assumption | exact lr _); done)) | ((with_reducible apply And.intro); focus (first | rfl | exact znb rfl | omega | (simp only [zlc, zln, zlm, zla]; omega))))
  refine ⟨_, _, ⟨rfl, rfl⟩, ?_⟩
  repeat' first | (with_reducible first | exact ⟨⟩ | exact rfl | exact lr _) | ((conv => whnf); with_reducible first | apply And.intro | exact ⟨⟩) | exact rfl | exact fun h => h | exact lr _
  all_goals try (conv => whnf)
end Go.Proofs.YtgblabmhgdiicaaGreat.Tb
