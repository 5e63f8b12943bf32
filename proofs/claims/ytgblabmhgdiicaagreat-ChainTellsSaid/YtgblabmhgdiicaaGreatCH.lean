/-
  Contracts of functions of the program and of the document, each for every input that its premises name.
-/
import Derived.Test.YtgblabmhgdiicaaGreatCG
import Derived.Test.YtgblabmhgdiicaaGreatAe
set_option linter.unusedSectionVars false
set_option maxRecDepth 100000
set_option maxHeartbeats 4000000
set_option linter.unusedVariables false
set_option linter.unusedSimpArgs false
open Go Go.AX
namespace Go.Proofs.YtgblabmhgdiicaaGreat.Tb
theorem fn_cHas : FnOk Tryz.prog 45 Tryz.f45 := ⟨Tryz.func45, by kernel_rfl, by kernel_rfl, by kernel_rfl⟩
theorem cHas_c (p : Pn) (n : Int) (h : PnB p) : PCx Tryz.prog 45 [.agg p.c, ii n] (bl (hasC p n)) := by
  refine PC.le ?_
  obtain ⟨X, hX⟩ : ∃ X, X = hasC p n := ⟨_, rfl⟩
  rw [← hX]
  unfold hasC at hX
  have eH : ((List.map Ch.c p.channels).length : Int) = (p.channels.length : Int) := by rw [List.length_map]
  have e1 : decide (n ≤ ((List.map Ch.c p.channels).length : Int)) = decide (n ≤ (p.channels.length : Int)) := by rw [List.length_map]
  rw [← e1] at hX
  clear eH e1
  refine PC_of_VC tabOk (draw_ok mixed tabOk) fn_cHas rfl ?_
  repeat' ((conv => whnf); first | with_reducible refine zol ?_ | ((with_reducible refine fk (fun hc => ?_) fun hc => ?_) <;> first | exact absurd hc (by decide) | (exfalso; simp only [*, reduceCtorEq] at hc; done) | skip) | (refine zll ?_; (conv => whnf); refine ⟨_, pMay_c p h, ?_⟩) | ((with_reducible apply And.intro); focus (first | rfl | exact znb rfl | omega | (simp only [zlc, zln, zlm, zla]; omega))))
  all_goals
    simp only [*, Bool.true_and, Bool.false_and, Bool.and_true, Bool.and_false, Bool.false_eq_true, ↓reduceIte] at hX
    subst hX
    repeat' first | (with_reducible first | exact ⟨⟩ | exact rfl | exact lr _) | ((conv => whnf); with_reducible first | apply And.intro | exact ⟨⟩) | exact rfl | exact fun h => h | exact lr _
    all_goals try (conv => whnf)
theorem fn_cLeds : FnOk Tryz.prog 49 Tryz.f49 := ⟨Tryz.func49, by kernel_rfl, by kernel_rfl, by kernel_rfl⟩
theorem cLeds_c (p : Pn) (n : Int) : PCx Tryz.prog 49 [.agg p.c, ii n] (.fn (.func 75) [] [.eptr p.c 0, .eptr [ii n] 0]) := by
  refine PC.le ?_
  refine PC_of_VC tabOk (draw_ok mixed tabOk) fn_cLeds rfl ?_
  repeat' ((conv => whnf); first | with_reducible refine zol ?_ | ((with_reducible refine fk (fun hc => ?_) fun hc => ?_) <;> first | exact absurd hc (by decide) | (exfalso; simp only [*, reduceCtorEq] at hc; done) | skip) | ((with_reducible apply And.intro); focus (first | rfl | exact znb rfl | omega | (simp only [zlc, zln, zlm, zla]; omega))))
  repeat' first | (with_reducible first | exact ⟨⟩ | exact rfl | exact lr _) | ((conv => whnf); with_reducible first | apply And.intro | exact ⟨⟩) | exact rfl | exact fun h => h | exact lr _
  all_goals try (conv => whnf)
theorem fn_cSpots : FnOk Tryz.prog 26 Tryz.f26 := ⟨Tryz.func26, by kernel_rfl, by kernel_rfl, by kernel_rfl⟩
theorem cSpots_c (p : Pn) (n sure : Int) : PCx Tryz.prog 26 [.agg p.c, ii n, uu sure] (.fn (.func 53) [] [.eptr p.c 0, .eptr [ii n] 0, .eptr [uu sure] 0]) := by
  refine PC.le ?_
  refine PC_of_VC tabOk (draw_ok mixed tabOk) fn_cSpots rfl ?_
  repeat' ((conv => whnf); first | with_reducible refine zol ?_ | ((with_reducible refine fk (fun hc => ?_) fun hc => ?_) <;> first | exact absurd hc (by decide) | (exfalso; simp only [*, reduceCtorEq] at hc; done) | skip) | ((with_reducible apply And.intro); focus (first | rfl | exact znb rfl | omega | (simp only [zlc, zln, zlm, zla]; omega))))
  repeat' first | (with_reducible first | exact ⟨⟩ | exact rfl | exact lr _) | ((conv => whnf); with_reducible first | apply And.intro | exact ⟨⟩) | exact rfl | exact fun h => h | exact lr _
  all_goals try (conv => whnf)
theorem fn_leds1 : FnOk Tryz.prog 75 Tryz.f75 := ⟨Tryz.func75, by kernel_rfl, by kernel_rfl, by kernel_rfl⟩
theorem leds1_s (p : Pn) (n : Int) (h : PnB p) (hh : hasP p n = true) : SeqC Tryz.prog 75 [.eptr p.c 0, .eptr [ii n] 0] ((ledsC p (chP p n).first (chP p n).ledgers).map fun y => [uu y.1, .agg y.2.c]) := by
  refine SeqC_of_VC tabOk (draw_ok mixed tabOk) fn_leds1 rfl rfl (fun P0 => ?_)
  have hb := h.channels
  obtain ⟨i, hi, en, ec⟩ := hasP_ix hh
  rw [ec]
  have eI : IntKind.i64.wrap (n - 1) = ((i : Nat) : Int) := by rw [wrapI (by omega) (by omega)]; omega
  clear ec hh en
  have hcb := h.ch _ (List.getElem_mem hi)
  have hr := rowK Ch.c p.channels i hi
  obtain ⟨x, hx⟩ : ∃ x, x = p.channels[i] := ⟨_, rfl⟩
  rw [← hx] at hcb hr ⊢
  clear hx
  have hbl := hcb.ledgers
  have eN : ((List.map uRow x.ledgers).length : Int) = (x.ledgers.length : Int) := by rw [List.length_map]
  repeat' ((conv => whnf); first | with_reducible refine zol ?_ | ((with_reducible refine fk (fun hc => ?_) fun hc => ?_) <;> first | exact absurd hc (by decide) | (exfalso; simp only [*, reduceCtorEq] at hc; done) | skip) | ((rewrite [eI])) | ((refine ⟨_, hr, ?_⟩)) | ((with_reducible apply And.intro); focus (first | rfl | exact znb rfl | omega | (simp only [zlc, zln, zlm, zla]; omega))))
  refine ⟨{k : Nat // k ≤ x.ledgers.length}, fun ⟨k, _⟩ => ⟨[(0, .pv (.fn (.yield P0) [] [])), (1, .pv (.eptr p.c 0)), (4, .pv (uu (atK p x.first x.ledgers k))), (22, .pv (slU x.ledgers)), (23, .pv (ii x.ledgers.length)), (24, .pv (ii k))], 1000000000, [(999, .tr (Tryz.prog, P0) 0 ((ledsC p (atK p x.first x.ledgers k) (x.ledgers.drop k)).map fun y => [uu y.1, .agg y.2.c]) (some false))]⟩, fun ⟨k, _⟩ => x.ledgers.length - k, ⟨⟨0, by simp⟩, ent_of ?_⟩, ?_⟩
  · repeat' first
      | fail
      | with_reducible exact True.intro
      | with_reducible exact rfl
      | with_reducible exact leRs_refl _
      | ((conv => whnf); with_reducible apply And.intro)
      | ((conv => whnf); with_reducible exact True.intro)
      | exact rfl
      | exact fun h => h
      | exact leRs_refl _
    all_goals try (conv => whnf)
    all_goals first | exact eN | simp [atK_zero]
  rintro ⟨k, hk⟩
  by_cases hlt : k < x.ledgers.length
  · have d0 : decide ((k : Int) < (x.ledgers.length : Int)) = true := by simp only [zdt]; omega
    have eW : IntKind.i64.wrap ((k : Int) + 1) = ((k + 1 : Nat) : Int) := by rw [wrapI (by omega) (by omega)]; omega
    have hr2 := rowK uRow x.ledgers k hlt
    have cF := pFind_c p x.ledgers[k] h
    have hst := ledsC_drop p x.first x.ledgers k hlt
    repeat' ((conv => whnf); first | with_reducible refine zol ?_ | ((with_reducible refine fk (fun hc => ?_) fun hc => ?_) <;> first | exact absurd hc (by decide) | (exfalso; simp only [*, reduceCtorEq] at hc; done) | skip) | ((rewrite [hst])) | ((refine ⟨_, hr2, ?_⟩)) | (refine zll ?_; (conv => whnf); refine ⟨_, cF, ?_⟩) | ((refine ⟨_, _, rfl, leQs_refl _, ?_⟩)) | ((with_reducible apply And.intro); focus (first | rfl | exact znb rfl | omega | (simp only [zlc, zln, zlm, zla]; omega))))
    · refine ⟨trivial, ⟨k + 1, hlt⟩, dec_lt hlt, ent_of ?_⟩
      repeat' first | (with_reducible first | exact ⟨⟩ | exact rfl | exact lr _) | ((conv => whnf); with_reducible first | apply And.intro | exact ⟨⟩) | exact rfl | exact fun h => h | exact lr _
      all_goals try (conv => whnf)
      all_goals first
        | exact eW
        | (rw [atK_succ p _ _ k hlt]; rfl)
  · have hke : k = x.ledgers.length := by omega
    subst hke
    have d0 : decide ((x.ledgers.length : Int) < (x.ledgers.length : Int)) = false := by simp
    have hst : x.ledgers.drop x.ledgers.length = [] := List.drop_length
    repeat' ((conv => whnf); first | with_reducible refine zol ?_ | ((with_reducible refine fk (fun hc => ?_) fun hc => ?_) <;> first | exact absurd hc (by decide) | (exfalso; simp only [*, reduceCtorEq] at hc; done) | skip) | ((rewrite [hst])) | ((with_reducible apply And.intro); focus (first | rfl | exact znb rfl | omega | (simp only [zlc, zln, zlm, zla]; omega))))
    repeat' first | (with_reducible first | exact ⟨⟩ | exact rfl | exact lr _) | ((conv => whnf); with_reducible first | apply And.intro | exact ⟨⟩) | exact rfl | exact fun h => h | exact lr _
    all_goals try (conv => whnf)
end Go.Proofs.YtgblabmhgdiicaaGreat.Tb
