/-
  Contracts of functions of the program and of the document, each for every input that its premises name.
-/
import Derived.Test.YtgblabmhgdiicaaGreatCF
import Derived.Test.YtgblabmhgdiicaaGreatSJ
import Derived.Test.YtgblabmhgdiicaaGreatAe
set_option linter.unusedSectionVars false
set_option maxRecDepth 100000
set_option maxHeartbeats 4000000
set_option linter.unusedVariables false
set_option linter.unusedSimpArgs false
open Go Go.AX
namespace Go.Proofs.YtgblabmhgdiicaaGreat.Tb
theorem fn_equalU : FnOk Tryz.prog 36 Tryz.f36 := ⟨Tryz.func36, by kernel_rfl, by kernel_rfl, by kernel_rfl⟩
theorem equalU_c (a b : List Int) : PCx Tryz.prog 36 [slU a, slU b] (bl (decide (a = b))) := by
  refine PC.le (PC_bd fn_equalU fun hbd => ?_)
  have hba : a.length ≤ 9223372036854775807 := by have := hbd.1; simpa [bdP, slU] using this
  have ea : ((List.map uRow a).length : Int) = (a.length : Int) := by rw [List.length_map]
  have eb : ((List.map uRow b).length : Int) = (b.length : Int) := by rw [List.length_map]
  by_cases hl : a.length = b.length
  case neg =>
    have d0 : ((a.length : Int) != (b.length : Int)) = true := by simp; omega
    have e : decide (a = b) = false := by simp only [zdf]; intro e; subst e; exact hl rfl
    rw [e]
    refine PC_of_VC tabOk (draw_ok mixed tabOk) fn_equalU rfl ?_
    repeat' ((conv => whnf); first | with_reducible refine zol ?_ | ((with_reducible refine fk (fun hc => ?_) fun hc => ?_) <;> first | exact absurd hc (by decide) | (exfalso; simp only [*, reduceCtorEq] at hc; done) | skip) | rewrite [ea] | rewrite [eb] | ((with_reducible apply And.intro); focus (first | rfl | exact znb rfl | omega | (simp only [zlc, zln, zlm, zla]; omega))))
    repeat' first | (with_reducible first | exact ⟨⟩ | exact rfl | exact lr _) | ((conv => whnf); with_reducible first | apply And.intro | exact ⟨⟩) | exact rfl | exact fun h => h | exact lr _
    all_goals try (conv => whnf)
  have d0 : ((a.length : Int) != (b.length : Int)) = false := by simp; omega
  have hlh : Hd (a.length = b.length) := ⟨hl⟩
  clear hl
  refine PC_of_VC tabOk (draw_ok mixed tabOk) fn_equalU rfl ?_
  repeat' ((conv => whnf); first | with_reducible refine zol ?_ | ((with_reducible refine fk (fun hc => ?_) fun hc => ?_) <;> first | exact absurd hc (by decide) | (exfalso; simp only [*, reduceCtorEq] at hc; done) | skip) | rewrite [ea] | rewrite [eb] | ((with_reducible apply And.intro); focus (first | rfl | exact znb rfl | omega | (simp only [zlc, zln, zlm, zla]; omega))))
  refine ⟨{k : Nat // k ≤ a.length ∧ ∀ j (hj : j < a.length), j < k → a[j] = b[j]'(by have := hlh.out; omega)}, fun ⟨k, _⟩ => ⟨[(0, .pv (slU a)), (1, .pv (slU b)), (12, .pv (ii a.length)), (13, .pv (ii k))], 1000000000, []⟩, fun ⟨k, _⟩ => a.length - k, ⟨⟨0, by simp⟩, ent_of ?_⟩, ?_⟩
  · repeat' first
      | fail
      | with_reducible exact True.intro
      | with_reducible exact rfl
      | with_reducible exact leRs_refl _
      | ((conv => whnf); with_reducible apply And.intro)
      | ((conv => whnf); with_reducible exact True.intro)
      | exact rfl
      | exact fun h => h
      | exact leRs_refl _
    all_goals try (conv => whnf)
  rintro ⟨k, hk, hn⟩
  by_cases hlt : k < a.length
  · have d1 : decide ((k : Int) < (a.length : Int)) = true := by simp only [zdt]; omega
    have eW : IntKind.i64.wrap ((k : Int) + 1) = ((k + 1 : Nat) : Int) := by rw [wrapI (by omega) (by omega)]; omega
    have r1 := rowK uRow a k hlt
    have r2 := rowK uRow b k (by have := hlh.out; omega)
    cases hq : (a[k] != b[k]'(by have := hlh.out; omega)) with
    | true =>
      have e : decide (a = b) = false := by
        simp only [zdf]; intro e; subst e; simp at hq
      rw [e]
      repeat' ((conv => whnf); first | with_reducible refine zol ?_ | ((with_reducible refine fk (fun hc => ?_) fun hc => ?_) <;> first | exact absurd hc (by decide) | (exfalso; simp only [*, reduceCtorEq] at hc; done) | skip) | ((refine ⟨_, r1, ?_⟩)) | ((refine ⟨_, r2, ?_⟩)) | ((with_reducible apply And.intro); focus (first | rfl | exact znb rfl | omega | (simp only [zlc, zln, zlm, zla]; omega))))
      repeat' first | (with_reducible first | exact ⟨⟩ | exact rfl | exact lr _) | ((conv => whnf); with_reducible first | apply And.intro | exact ⟨⟩) | exact rfl | exact fun h => h | exact lr _
      all_goals try (conv => whnf)
    | false =>
      repeat' ((conv => whnf); first | with_reducible refine zol ?_ | ((with_reducible refine fk (fun hc => ?_) fun hc => ?_) <;> first | exact absurd hc (by decide) | (exfalso; simp only [*, reduceCtorEq] at hc; done) | skip) | ((refine ⟨_, r1, ?_⟩)) | ((refine ⟨_, r2, ?_⟩)) | ((with_reducible apply And.intro); focus (first | rfl | exact znb rfl | omega | (simp only [zlc, zln, zlm, zla]; omega))))
      refine ⟨⟨k + 1, hlt, step_lt hn fun _ => by simpa using hq⟩, dec_lt hlt, ent_of ?_⟩
      repeat' first | (with_reducible first | exact ⟨⟩ | exact rfl | exact lr _) | ((conv => whnf); with_reducible first | apply And.intro | exact ⟨⟩) | exact rfl | exact fun h => h | exact lr _
      all_goals try (conv => whnf)
      all_goals exact eW
  · have d1 : decide ((k : Int) < (a.length : Int)) = false := by simp only [zdf]; omega
    have e : decide (a = b) = true := by
      simp only [zdt]
      exact List.ext_getElem hlh.out fun j h1 h2 => hn j h1 (by omega)
    rw [e]
    repeat' ((conv => whnf); first | with_reducible refine zol ?_ | ((with_reducible refine fk (fun hc => ?_) fun hc => ?_) <;> first | exact absurd hc (by decide) | (exfalso; simp only [*, reduceCtorEq] at hc; done) | skip) | ((with_reducible apply And.intro); focus (first | rfl | exact znb rfl | omega | (simp only [zlc, zln, zlm, zla]; omega))))
    repeat' first | (with_reducible first | exact ⟨⟩ | exact rfl | exact lr _) | ((conv => whnf); with_reducible first | apply And.intro | exact ⟨⟩) | exact rfl | exact fun h => h | exact lr _
    all_goals try (conv => whnf)
theorem fn_may1 : FnOk Tryz.prog 32 Tryz.f32 := ⟨Tryz.func32, by kernel_rfl, by kernel_rfl, by kernel_rfl⟩
theorem may1_c (p : Pn) (x : Lg) (h : x.ok) : PCx Tryz.prog 32 ([] ++ ([.agg x.c] ++ [.eptr p.c 0])) (bl (mayLg x && decide (x.id < p.next))) := by
  refine PC.le ?_
  refine PC_of_VC tabOk (draw_ok mixed tabOk) fn_may1 rfl ?_
  repeat' ((conv => whnf); first | with_reducible refine zol ?_ | ((with_reducible refine fk (fun hc => ?_) fun hc => ?_) <;> first | exact absurd hc (by decide) | (exfalso; simp only [*, reduceCtorEq] at hc; done) | skip) | (refine zll ?_; (conv => whnf); refine ⟨_, mayLedger_c x h, ?_⟩) | ((with_reducible apply And.intro); focus (first | rfl | exact znb rfl | omega | (simp only [zlc, zln, zlm, zla]; omega))))
  all_goals
    repeat' first | (with_reducible first | exact ⟨⟩ | exact rfl | exact lr _) | ((conv => whnf); with_reducible first | apply And.intro | exact ⟨⟩) | exact rfl | exact fun h => h | exact lr _
    all_goals try (conv => whnf)
    simp only [*, Bool.true_and, Bool.false_and]
theorem fn_pMay : FnOk Tryz.prog 9 Tryz.f9 := ⟨Tryz.func9, by kernel_rfl, by kernel_rfl, by kernel_rfl⟩
theorem pMay_c (p : Pn) (h : PnB p) : PCx Tryz.prog 9 [.agg p.c] (bl (mayPn p)) := by
  refine PC.le ?_
  have hb := h.channels
  have hnm := h.named
  obtain ⟨X, hX⟩ : ∃ X, X = mayPn p := ⟨_, rfl⟩
  rw [← hX]
  have cS : GCx Tryz.prog 27 [.slw 1 0] [(1, .arr 22 0 1 ((namedP p).map uRow))] (.pv (.tup [])) [(1, .arr 22 0 1 ((sortU (namedP p)).map uRow))] := uSort_g (namedP p) (by omega)
  have cR : PCx Tryz.prog 34 [slLg p.ledgers, .fn (.func 35) [] []] (bl (riseZ (idsP p))) := by
    unfold idsP
    rw [riseZ_map]
    exact riseLedger_c p.ledgers _ [] [] (·.id) fun y _ => may2_c y
  have cA := allLedger_c p.ledgers 32 [] [.eptr p.c 0] (fun l => mayLg l && decide (l.id < p.next)) fun y hy => may1_c p y (h.lg y hy).ok
  have cW : PCx Tryz.prog 39 [slA p.past, .fn (.func 40) [] []] (bl (riseZ (p.past.map (·.who)))) := by
    rw [riseZ_map]
    exact risePast_c p.past _ [] [] (·.who) fun y _ => may3_c y
  have cP := allPast_c p.past 42 [] [] pastOk fun y _ => pPast_c y
  have cE := equalU_c (sortU (namedP p)) (idsP p)
  have cI := pIds_c p h.ledgers
  unfold mayPn at hX
  obtain ⟨C, hC⟩ : ∃ C, C = p.channels.all (chanOk p) := ⟨_, rfl⟩
  rw [← hC] at hX
  have eH : ((List.map Ch.c p.channels).length : Int) = (p.channels.length : Int) := by rw [List.length_map]
  refine PC_of_VC tabOk (draw_ok mixed tabOk) fn_pMay rfl ?_
  repeat' ((conv => whnf); first | with_reducible refine zor ?_ | with_reducible refine zoc ?_ | with_reducible refine zos ?_ | ((with_reducible refine fk (fun hc => ?_) fun hc => ?_) <;> first | exact absurd hc (by decide) | (exfalso; simp only [*, reduceCtorEq] at hc; done) | skip) | ((with_reducible apply And.intro); focus (first | rfl | exact znb rfl | omega | (simp only [zlc, zln, zlm, zla]; omega))))
  refine ⟨{k : Nat // k ≤ p.channels.length}, fun ⟨k, _⟩ => ⟨[(1, .ptr 1002 0), (3, .slw 1003 0), (8, .pv (slH p.channels)), (9, .pv (ii p.channels.length)), (10, .pv (ii k))], 1000000000, [(1002, .var (p.c.map .pv)), (1003, .arr 22 0 1 (((p.channels.take k).flatMap (·.ledgers)).map uRow))]⟩, fun ⟨k, _⟩ => p.channels.length - k, ⟨⟨0, by simp⟩, ent_of ?_⟩, ?_⟩
  · repeat' first
      | fail
      | with_reducible exact True.intro
      | with_reducible exact rfl
      | with_reducible exact leRs_refl _
      | ((conv => whnf); with_reducible apply And.intro)
      | ((conv => whnf); with_reducible exact True.intro)
      | exact rfl
      | exact fun h => h
      | exact leRs_refl _
    all_goals try (conv => whnf)
    all_goals first | exact eH | simp
  rintro ⟨k, hk⟩
  by_cases hlt : k < p.channels.length
  · have d0 : decide ((k : Int) < (p.channels.length : Int)) = true := by simp only [zdt]; omega
    have eW : IntKind.i64.wrap ((k : Int) + 1) = ((k + 1 : Nat) : Int) := by rw [wrapI (by omega) (by omega)]; omega
    have hr := rowK Ch.c p.channels k hlt
    have hle := flat_take_le (fun c : Ch => c.ledgers) p.channels k hlt
    unfold namedP at hnm
    repeat' ((conv => whnf); first | with_reducible refine zol ?_ | ((with_reducible refine fk (fun hc => ?_) fun hc => ?_) <;> first | exact absurd hc (by decide) | (exfalso; simp only [*, reduceCtorEq] at hc; done) | skip) | ((refine ⟨_, hr, ?_⟩)) | (((with_reducible apply And.intro); focus (simp only [List.length_map] at *; omega))) | ((with_reducible apply And.intro); focus (first | rfl | exact znb rfl | omega | (simp only [zlc, zln, zlm, zla]; omega))))
    refine ⟨⟨k + 1, hlt⟩, dec_lt hlt, ent_of ?_⟩
    repeat' first | (with_reducible first | exact ⟨⟩ | exact rfl | exact lr _) | ((conv => whnf); with_reducible first | apply And.intro | exact ⟨⟩) | exact rfl | exact fun h => h | exact lr _
    all_goals try (conv => whnf)
    all_goals first
      | exact eW
      | (rw [flat_take _ _ _ hlt, List.map_append]; exact leRs_refl _)
  have hke : k = p.channels.length := by omega
  subst hke
  have d0 : decide ((p.channels.length : Int) < (p.channels.length : Int)) = false := by simp
  have eT : ((p.channels.take p.channels.length).flatMap (·.ledgers)).map uRow = (namedP p).map uRow := by rw [List.take_length]; rfl
  repeat' ((conv => whnf); first | with_reducible refine zol ?_ | ((with_reducible refine fk (fun hc => ?_) fun hc => ?_) <;> first | exact absurd hc (by decide) | (exfalso; simp only [*, reduceCtorEq, Bool.not_true, Bool.not_false] at hc; done) | simp only [Bool.not_eq_true', Bool.not_eq_false'] at hc | skip) | rewrite [eT] | rewrite [eH] | (refine zlr ?_; (conv => whnf); refine ⟨_, _, GCx_pre (cS) ?_, ?_⟩; focus ((repeat' first | (with_reducible first | exact ⟨⟩ | exact rfl | exact lr _) | ((conv => whnf); with_reducible first | apply And.intro | exact ⟨⟩) | exact rfl | exact fun h => h | assumption | exact lr _); done)) | (refine zll ?_; (conv => whnf); refine ⟨_, PCx_pre (countsP1_c p.version) ?_, ?_⟩; focus ((repeat' first | (with_reducible first | exact ⟨⟩ | exact rfl | exact lr _) | ((conv => whnf); with_reducible first | apply And.intro | exact ⟨⟩) | exact rfl | exact fun h => h | assumption | exact lr _); done)) | (refine zll ?_; (conv => whnf); refine ⟨_, fromU_c _ _ _, ?_⟩) | (refine zll ?_; (conv => whnf); refine ⟨_, fromI_c _ _ _, ?_⟩) | (refine zll ?_; (conv => whnf); refine ⟨_, cA, ?_⟩) | (refine zll ?_; (conv => whnf); refine ⟨_, cR, ?_⟩) | (refine zll ?_; (conv => whnf); refine ⟨_, cI, ?_⟩) | (refine zll ?_; (conv => whnf); refine ⟨_, cE, ?_⟩) | ((with_reducible apply And.intro); focus (first | rfl | exact znb rfl | omega | (simp only [zlc, zln, zlm, zla]; omega))))
  all_goals try (focus (simp only [*, Bool.true_and, Bool.false_and, Bool.and_true, Bool.and_false, Bool.not_true, Bool.not_false, Bool.false_eq_true, ↓reduceIte] at hX; subst hX; (repeat' first | (with_reducible first | exact ⟨⟩ | exact rfl | exact lr _) | ((conv => whnf); with_reducible first | apply And.intro | exact ⟨⟩) | exact rfl | exact fun h => h | exact lr _); (all_goals try (conv => whnf)); done))
  simp only [*, Bool.true_and, Bool.false_and, Bool.and_true, Bool.and_false, Bool.not_true, Bool.not_false, Bool.false_eq_true, ↓reduceIte] at hX
  rw [← hC] at hX
  clear cS cR cA cE cI
  refine ⟨{k : Nat // k ≤ p.channels.length ∧ ∀ j (hj : j < p.channels.length), j < k → chanOk p p.channels[j] = true}, fun ⟨k, _⟩ => ⟨[(1, .ptr 1002 0), (61, .pv (ii p.channels.length)), (62, .pv (ii k))], 1000000000, [(1002, .rov p.c)]⟩, fun ⟨k, _⟩ => p.channels.length - k, ⟨⟨0, by simp⟩, ent_frz [1002] ?_⟩, ?_⟩
  · repeat' first
      | fail
      | with_reducible exact True.intro
      | with_reducible exact rfl
      | with_reducible exact leRs_refl _
      | ((conv => whnf); with_reducible apply And.intro)
      | ((conv => whnf); with_reducible exact True.intro)
      | exact rfl
      | exact fun h => h
      | exact leRs_refl _
    all_goals try (conv => whnf)
    all_goals trace_state
  rintro ⟨k, hk, hbk⟩
  by_cases hlt : k < p.channels.length
  · have d0 : decide ((k : Int) < (p.channels.length : Int)) = true := by simp only [zdt]; omega
    have eW : IntKind.i64.wrap ((k : Int) + 1) = ((k + 1 : Nat) : Int) := by rw [wrapI (by omega) (by omega)]; omega
    obtain ⟨q1, q2⟩ := chP_ix hlt
    have cK := pChan_c p ((k + 1 : Nat) : Int) h q1
    rw [q2] at cK
    clear q1 q2
    cases hq : chanOk p p.channels[k] with
    | true =>
      rw [hq] at cK
      have hg : ∀ j (hj : j < p.channels.length), j < k + 1 → chanOk p p.channels[j] = true := step_lt hbk fun _ => hq
      clear hq
      repeat' ((conv => whnf); first | with_reducible refine zol ?_ | ((with_reducible refine fk (fun hc => ?_) fun hc => ?_) <;> first | exact absurd hc (by decide) | (exfalso; simp only [*, reduceCtorEq, Bool.not_true, Bool.not_false] at hc; done) | skip) | rewrite [eW] | (refine zll ?_; (conv => whnf); refine ⟨_, cK, ?_⟩) | ((with_reducible apply And.intro); focus (first | rfl | exact znb rfl | omega | (simp only [zlc, zln, zlm, zla]; omega))))
      refine ⟨⟨k + 1, hlt, hg⟩, dec_lt hlt, ent_of ?_⟩
      repeat' first | (with_reducible first | exact ⟨⟩ | exact rfl | exact lr _) | ((conv => whnf); with_reducible first | apply And.intro | exact ⟨⟩) | exact rfl | exact fun h => h | exact lr _
      all_goals try (conv => whnf)
    | false =>
      rw [hq] at cK
      have hCf : C = false := by
        rw [hC]
        simp only [List.all_eq_false]
        exact ⟨_, List.getElem_mem hlt, by rw [hq]; decide⟩
      rw [hCf, Bool.false_and] at hX
      clear hq hC hCf
      subst hX
      repeat' ((conv => whnf); first | with_reducible refine zol ?_ | ((with_reducible refine fk (fun hc => ?_) fun hc => ?_) <;> first | exact absurd hc (by decide) | (exfalso; simp only [*, reduceCtorEq, Bool.not_true, Bool.not_false] at hc; done) | skip) | rewrite [eW] | (refine zll ?_; (conv => whnf); refine ⟨_, cK, ?_⟩) | ((with_reducible apply And.intro); focus (first | rfl | exact znb rfl | omega | (simp only [zlc, zln, zlm, zla]; omega))))
      repeat' first | (with_reducible first | exact ⟨⟩ | exact rfl | exact lr _) | ((conv => whnf); with_reducible first | apply And.intro | exact ⟨⟩) | exact rfl | exact fun h => h | exact lr _
      all_goals try (conv => whnf)
  · have hke : k = p.channels.length := by omega
    subst hke
    have d0 : decide ((p.channels.length : Int) < (p.channels.length : Int)) = false := by simp
    have hCt : C = true := by
      rw [hC, List.all_eq_true]
      exact all_of hbk
    rw [hCt, Bool.true_and] at hX
    clear hC hCt
    repeat' ((conv => whnf); first | with_reducible refine zol ?_ | ((with_reducible refine fk (fun hc => ?_) fun hc => ?_) <;> first | exact absurd hc (by decide) | (exfalso; simp only [*, reduceCtorEq] at hc; done) | skip) | (refine zll ?_; (conv => whnf); refine ⟨_, cW, ?_⟩) | (refine zll ?_; (conv => whnf); refine ⟨_, cP, ?_⟩) | ((with_reducible apply And.intro); focus (first | rfl | exact znb rfl | omega | (simp only [zlc, zln, zlm, zla]; omega))))
    all_goals
      simp only [*, Bool.true_and, Bool.false_and, Bool.and_true, Bool.and_false, Bool.false_eq_true, ↓reduceIte] at hX
      subst hX
      repeat' first | (with_reducible first | exact ⟨⟩ | exact rfl | exact lr _) | ((conv => whnf); with_reducible first | apply And.intro | exact ⟨⟩) | exact rfl | exact fun h => h | exact lr _
      all_goals try (conv => whnf)
end Go.Proofs.YtgblabmhgdiicaaGreat.Tb
