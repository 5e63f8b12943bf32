/-
  Contracts of functions of the program and of the document, each for every input that its premises name.
-/
import Derived.Test.YtgblabmhgdiicaaGreatCE
set_option linter.unusedSectionVars false
set_option maxRecDepth 100000
set_option maxHeartbeats 4000000
set_option linter.unusedVariables false
set_option linter.unusedSimpArgs false
open Go Go.AX
namespace Go.Proofs.YtgblabmhgdiicaaGreat.Tb
theorem fn_pChan : FnOk Tryz.prog 38 Tryz.f38 := ⟨Tryz.func38, by kernel_rfl, by kernel_rfl, by kernel_rfl⟩
theorem pChan_c (p : Pn) (n : Int) (h : PnB p) (hh : hasP p n = true) : PCx Tryz.prog 38 [.agg p.c, ii n] (bl (chanOk p (chP p n))) := by
  refine PC.le ?_
  have cE := pEnd_c p n h
  have cO := pOpen_c p n h
  unfold endP at cE
  unfold openP at cO
  rw [if_pos hh] at cE cO
  have hb := h.channels
  obtain ⟨i, hi, en, ec⟩ := hasP_ix hh
  rw [ec] at cE cO ⊢
  have eI : IntKind.i64.wrap (n - 1) = ((i : Nat) : Int) := by rw [wrapI (by omega) (by omega)]; omega
  clear ec hh en
  have hcb := h.ch _ (List.getElem_mem hi)
  have hr := rowK Ch.c p.channels i hi
  obtain ⟨x, hx⟩ : ∃ x, x = p.channels[i] := ⟨_, rfl⟩
  rw [← hx] at hcb hr cE cO ⊢
  clear hx
  obtain ⟨X, hX⟩ : ∃ X, X = chanOk p x := ⟨_, rfl⟩
  rw [← hX]
  have cR : PCx Tryz.prog 64 [slU x.ledgers, .fn (.func 65) [] []] (bl (riseZ x.ledgers)) := riseU_c x.ledgers _ [] [] (fun y => y) fun y _ => chan1_c y
  have cC : PCx Tryz.prog 68 [slK x.cursors, .fn (.func 69) [] []] (bl (riseZ (x.cursors.map (·.sub)))) := by
    rw [riseZ_map]
    exact riseCursor_c x.cursors _ [] [] (·.sub) fun y _ => chan2_c y
  have cA := allCursor_c x.cursors 71 [] [] cursOk fun y _ => chan3_c y
  have cS := pSeen_c x hcb.seen
  unfold chanOk mostC at hX
  rw [leGt (x.ledgers.length : Int) 8] at hX
  obtain ⟨R, hR⟩ : ∃ R, R = (seenC x && (decide ((x.cursors.length : Int) ≤ 3) && (riseZ (x.cursors.map (·.sub)) && x.cursors.all cursOk))) := ⟨_, rfl⟩
  rw [← hR] at hX
  obtain ⟨L, hL⟩ : ∃ L, L = ledsOk p x.ledgers := ⟨_, rfl⟩
  rw [← hL] at hX
  have eA : IntKind.u64.wrap (endC p x + 8) = addU (endC p x) 8 := rfl
  have eN : ((List.map uRow x.ledgers).length : Int) = (x.ledgers.length : Int) := by rw [List.length_map]
  have eM : ((List.map Cu.c x.cursors).length : Int) = (x.cursors.length : Int) := by rw [List.length_map]
  obtain ⟨M, hM⟩ : ∃ M, M = (if (openC p x).isSome then addU (endC p x) 8 else endC p x) := ⟨_, rfl⟩
  rw [← hM] at hX
  refine PC_of_VC tabOk (draw_ok mixed tabOk) fn_pChan rfl ?_
  repeat' ((conv => whnf); first | with_reducible refine zor ?_ | ((with_reducible refine fk (fun hc => ?_) fun hc => ?_) <;> first | exact absurd hc (by decide) | (exfalso; simp only [*, reduceCtorEq] at hc; done) | skip) | ((rewrite [eI])) | ((refine ⟨_, hr, ?_⟩)) | (refine zll ?_; (conv => whnf); refine ⟨_, cE, ?_⟩) | ((with_reducible apply And.intro); focus (first | rfl | exact znb rfl | omega | (simp only [zlc, zln, zlm, zla]; omega))))
  refine Or.inr ⟨Unit, fun _ => ⟨[(2, .ptr 1002 0), (5, .ptr 1005 0), (6, .pv (uu (endC p x))), (7, .pv (uu M))], 1000000000, [(1002, .var (p.c.map .pv)), (1005, .var (x.c.map .pv))]⟩, ?_, fun _ => ?_⟩
  · cases ho : (openC p x).isSome with
    | true =>
      rw [ho] at cO
      rw [ho, if_pos rfl] at hM
      subst hM
      repeat' ((conv => whnf); first | with_reducible refine zor ?_ | ((with_reducible refine fk (fun hc => ?_) fun hc => ?_) <;> first | exact absurd hc (by decide) | (exfalso; simp only [*, reduceCtorEq] at hc; done) | skip) | (refine zll ?_; (conv => whnf); refine ⟨_, cO, ?_⟩) | ((with_reducible apply And.intro); focus (first | rfl | exact znb rfl | omega | (simp only [zlc, zln, zlm, zla]; omega))))
      refine ⟨(), ent_of ?_⟩
      repeat' first | (with_reducible first | exact ⟨⟩ | exact rfl | exact lr _) | ((conv => whnf); with_reducible first | apply And.intro | exact ⟨⟩) | exact rfl | exact fun h => h | exact lr _
      all_goals try (conv => whnf)
    | false =>
      rw [ho] at cO
      rw [ho, if_neg (by decide)] at hM
      subst hM
      repeat' ((conv => whnf); first | with_reducible refine zor ?_ | ((with_reducible refine fk (fun hc => ?_) fun hc => ?_) <;> first | exact absurd hc (by decide) | (exfalso; simp only [*, reduceCtorEq] at hc; done) | skip) | (refine zll ?_; (conv => whnf); refine ⟨_, cO, ?_⟩) | ((with_reducible apply And.intro); focus (first | rfl | exact znb rfl | omega | (simp only [zlc, zln, zlm, zla]; omega))))
      refine ⟨(), ent_of ?_⟩
      repeat' first | (with_reducible first | exact ⟨⟩ | exact rfl | exact lr _) | ((conv => whnf); with_reducible first | apply And.intro | exact ⟨⟩) | exact rfl | exact fun h => h | exact lr _
      all_goals try (conv => whnf)
  clear hM cE cO eI hr
  repeat' ((conv => whnf); first | with_reducible refine zol ?_ | ((with_reducible refine fk (fun hc => ?_) fun hc => ?_) <;> first | exact absurd hc (by decide) | (exfalso; simp only [*, reduceCtorEq, Bool.not_true, Bool.not_false] at hc; done) | simp only [Bool.not_eq_true', Bool.not_eq_false'] at hc | skip) | rewrite [eA] | rewrite [eN] | (refine zll ?_; (conv => whnf); refine ⟨_, PCx_pre (countsP3_c x.epoch x.renewed x.first) ?_, ?_⟩; focus ((repeat' first | (with_reducible first | exact ⟨⟩ | exact rfl | exact lr _) | ((conv => whnf); with_reducible first | apply And.intro | exact ⟨⟩) | exact rfl | exact fun h => h | assumption | exact lr _); done)) | (refine zll ?_; (conv => whnf); refine ⟨_, PCx_pre (countsP1_c (addU (endC p x) 8)) ?_, ?_⟩; focus ((repeat' first | (with_reducible first | exact ⟨⟩ | exact rfl | exact lr _) | ((conv => whnf); with_reducible first | apply And.intro | exact ⟨⟩) | exact rfl | exact fun h => h | assumption | exact lr _); done)) | (refine zll ?_; (conv => whnf); refine ⟨_, owned_c x, ?_⟩) | (refine zll ?_; (conv => whnf); refine ⟨_, cR, ?_⟩) | (refine zll ?_; (conv => whnf); refine ⟨_, fromU_c _ _ _, ?_⟩) | ((with_reducible apply And.intro); focus (first | rfl | exact znb rfl | omega | (simp only [zlc, zln, zlm, zla]; omega))))
  all_goals try (focus (simp only [List.length_map] at *; simp only [*, Bool.true_and, Bool.false_and, Bool.and_true, Bool.and_false, Bool.not_true, Bool.not_false, Bool.false_eq_true, ↓reduceIte] at hX; subst hX; (repeat' first | (with_reducible first | exact ⟨⟩ | exact rfl | exact lr _) | ((conv => whnf); with_reducible first | apply And.intro | exact ⟨⟩) | exact rfl | exact fun h => h | exact lr _); (all_goals try (conv => whnf)); done))
  simp only [List.length_map] at *
  simp only [*, Bool.true_and, Bool.false_and, Bool.and_true, Bool.and_false, Bool.not_true, Bool.not_false, Bool.false_eq_true, ↓reduceIte] at hX
  rw [← hL] at hX
  rw [← hR] at hX
  have hn := hcb.ledgers
  refine ⟨{k : Nat // k ≤ x.ledgers.length ∧ ∀ j (hj : j < x.ledgers.length), j < k → (findP p x.ledgers[j]).isSome = true ∧ ((findL p x.ledgers[j]).closed = 0 → j + 1 = x.ledgers.length)}, fun ⟨k, _⟩ => ⟨[(2, .ptr 1002 0), (5, .ptr 1005 0), (76, .pv (slU x.ledgers)), (77, .pv (ii x.ledgers.length)), (78, .pv (ii k))], 1000000000, [(1002, .var (p.c.map .pv)), (1005, .var (x.c.map .pv))]⟩, fun ⟨k, _⟩ => x.ledgers.length - k, ⟨⟨0, by simp⟩, ent_of ?_⟩, ?_⟩
  · repeat' first
      | fail
      | with_reducible exact True.intro
      | with_reducible exact rfl
      | with_reducible exact leRs_refl _
      | ((conv => whnf); with_reducible apply And.intro)
      | ((conv => whnf); with_reducible exact True.intro)
      | exact rfl
      | exact fun h => h
      | exact leRs_refl _
    all_goals try (conv => whnf)
  rintro ⟨k, hk, hbk⟩
  by_cases hlt : k < x.ledgers.length
  · have d0 : decide ((k : Int) < (x.ledgers.length : Int)) = true := by simp only [zdt]; omega
    have eW : IntKind.i64.wrap ((k : Int) + 1) = ((k + 1 : Nat) : Int) := by rw [wrapI (by omega) (by omega)]; omega
    have hr := rowK uRow x.ledgers k hlt
    have hiff := ledsOk_iff p x.ledgers
    have cF := pFind_c p x.ledgers[k] h
    have hbad : ¬ ((findP p x.ledgers[k]).isSome = true ∧ ((findL p x.ledgers[k]).closed = 0 → k + 1 = x.ledgers.length)) → X = false := by
      intro hne
      rw [hX]
      cases hLv : L with
      | false => rfl
      | true => exact absurd ((hiff.1 (hL.symm.trans hLv)) k hlt) hne
    have hgood : ((findP p x.ledgers[k]).isSome = true ∧ ((findL p x.ledgers[k]).closed = 0 → k + 1 = x.ledgers.length)) → ∀ j (hj : j < x.ledgers.length), j < k + 1 → (findP p x.ledgers[j]).isSome = true ∧ ((findL p x.ledgers[j]).closed = 0 → j + 1 = x.ledgers.length) := by
      intro hne j hj hjk
      rcases Nat.lt_succ_iff_lt_or_eq.1 hjk with hj' | rfl
      · exact hbk j hj hj'
      · exact hne
    clear hiff cR cC cA cS
    obtain ⟨id, hid⟩ : ∃ id, id = x.ledgers[k] := ⟨_, rfl⟩
    rw [← hid] at hbad hgood cF hr
    clear hid
    obtain ⟨f, hf⟩ : ∃ f, f = findL p id := ⟨_, rfl⟩
    rw [← hf] at hbad hgood cF
    clear hf
    cases hs : (findP p id).isSome with
    | false =>
      rw [hs] at cF
      have hXf := hbad (by rw [hs]; rintro ⟨h, _⟩; cases h)
      clear hs hbad hgood hX
      subst hXf
      repeat' ((conv => whnf); first | with_reducible refine zol ?_ | ((with_reducible refine fk (fun hc => ?_) fun hc => ?_) <;> first | exact absurd hc (by decide) | (exfalso; simp only [*, reduceCtorEq, Bool.not_true, Bool.not_false] at hc; done) | skip) | ((refine ⟨_, hr, ?_⟩)) | (refine zll ?_; (conv => whnf); refine ⟨_, cF, ?_⟩) | ((with_reducible apply And.intro); focus (first | rfl | exact znb rfl | omega | (simp only [zlc, zln, zlm, zla]; omega))))
      repeat' first | (with_reducible first | exact ⟨⟩ | exact rfl | exact lr _) | ((conv => whnf); with_reducible first | apply And.intro | exact ⟨⟩) | exact rfl | exact fun h => h | exact lr _
      all_goals try (conv => whnf)
    | true =>
      rw [hs] at cF
      have eN2 : ((List.map uRow x.ledgers).length : Int) = (x.ledgers.length : Int) := by rw [List.length_map]
      cases hc0 : (f.closed == 0) with
      | false =>
        have hg := hgood ⟨hs, fun e => by rw [e] at hc0; cases hc0⟩
        clear hs hbad hgood
        repeat' ((conv => whnf); first | with_reducible refine zol ?_ | ((with_reducible refine fk (fun hc => ?_) fun hc => ?_) <;> first | exact absurd hc (by decide) | (exfalso; simp only [*, reduceCtorEq, Bool.not_true, Bool.not_false] at hc; done) | skip) | ((refine ⟨_, hr, ?_⟩)) | (refine zll ?_; (conv => whnf); refine ⟨_, cF, ?_⟩) | ((with_reducible apply And.intro); focus (first | rfl | exact znb rfl | omega | (simp only [zlc, zln, zlm, zla]; omega))))
        refine ⟨⟨k + 1, hlt, hg⟩, dec_lt hlt, ent_of ?_⟩
        repeat' first | (with_reducible first | exact ⟨⟩ | exact rfl | exact lr _) | ((conv => whnf); with_reducible first | apply And.intro | exact ⟨⟩) | exact rfl | exact fun h => h | exact lr _
        all_goals try (conv => whnf)
        all_goals exact eW
      | true =>
        by_cases hl : k + 1 < x.ledgers.length
        · have hXf := hbad (by rintro ⟨_, h⟩; have := h (by simpa using hc0); omega)
          have d1 : decide (((k + 1 : Nat) : Int) < (x.ledgers.length : Int)) = true := by simp only [zdt]; omega
          clear hs hbad hgood hX
          subst hXf
          repeat' ((conv => whnf); first | with_reducible refine zol ?_ | ((with_reducible refine fk (fun hc => ?_) fun hc => ?_) <;> first | exact absurd hc (by decide) | (exfalso; simp only [*, reduceCtorEq, Bool.not_true, Bool.not_false] at hc; done) | skip) | rewrite [eW] | rewrite [eN2] | ((refine ⟨_, hr, ?_⟩)) | (refine zll ?_; (conv => whnf); refine ⟨_, cF, ?_⟩) | ((with_reducible apply And.intro); focus (first | rfl | exact znb rfl | omega | (simp only [zlc, zln, zlm, zla]; omega))))
          repeat' first | (with_reducible first | exact ⟨⟩ | exact rfl | exact lr _) | ((conv => whnf); with_reducible first | apply And.intro | exact ⟨⟩) | exact rfl | exact fun h => h | exact lr _
          all_goals try (conv => whnf)
        · have hg := hgood ⟨hs, fun _ => by omega⟩
          have d1 : decide (((k + 1 : Nat) : Int) < (x.ledgers.length : Int)) = false := by simp only [zdf]; omega
          clear hs hbad hgood
          repeat' ((conv => whnf); first | with_reducible refine zol ?_ | ((with_reducible refine fk (fun hc => ?_) fun hc => ?_) <;> first | exact absurd hc (by decide) | (exfalso; simp only [*, reduceCtorEq, Bool.not_true, Bool.not_false] at hc; done) | skip) | rewrite [eW] | rewrite [eN2] | ((refine ⟨_, hr, ?_⟩)) | (refine zll ?_; (conv => whnf); refine ⟨_, cF, ?_⟩) | ((with_reducible apply And.intro); focus (first | rfl | exact znb rfl | omega | (simp only [zlc, zln, zlm, zla]; omega))))
          refine ⟨⟨k + 1, hlt, hg⟩, dec_lt hlt, ent_of ?_⟩
          repeat' first | (with_reducible first | exact ⟨⟩ | exact rfl | exact lr _) | ((conv => whnf); with_reducible first | apply And.intro | exact ⟨⟩) | exact rfl | exact fun h => h | exact lr _
          all_goals try (conv => whnf)
  · have hke : k = x.ledgers.length := by omega
    subst hke
    have d0 : decide ((x.ledgers.length : Int) < (x.ledgers.length : Int)) = false := by simp
    have hLt : L = true := by rw [hL, ledsOk_iff]; exact fun i hi => hbk i hi hi
    rw [hLt, Bool.true_and, hR] at hX
    have eM2 : ((List.map Cu.c x.cursors).length : Int) = (x.cursors.length : Int) := by rw [List.length_map]
    clear hR hL hLt cR
    repeat' ((conv => whnf); first | with_reducible refine zol ?_ | ((with_reducible refine fk (fun hc => ?_) fun hc => ?_) <;> first | exact absurd hc (by decide) | (exfalso; simp only [*, reduceCtorEq] at hc; done) | skip) | rewrite [eM2] | (refine zll ?_; (conv => whnf); refine ⟨_, cS, ?_⟩) | (refine zll ?_; (conv => whnf); refine ⟨_, cC, ?_⟩) | (refine zll ?_; (conv => whnf); refine ⟨_, cA, ?_⟩) | ((with_reducible apply And.intro); focus (first | rfl | exact znb rfl | omega | (simp only [zlc, zln, zlm, zla]; omega))))
    all_goals
      simp only [List.length_map] at *
      simp only [*, Bool.true_and, Bool.false_and, Bool.and_true, Bool.and_false, Bool.false_eq_true, ↓reduceIte] at hX
      subst hX
      repeat' first | (with_reducible first | exact ⟨⟩ | exact rfl | exact lr _) | ((conv => whnf); with_reducible first | apply And.intro | exact ⟨⟩) | exact rfl | exact fun h => h | exact lr _
      all_goals try (conv => whnf)
end Go.Proofs.YtgblabmhgdiicaaGreat.Tb
