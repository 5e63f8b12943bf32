/-
  Contracts of functions of the program and of the document, each for every input that its premises name.
-/
import Derived.Test.YtgblabmhgdiicaaGreatCV
import Derived.Test.YtgblabmhgdiicaaGreatCM
import Derived.Test.YtgblabmhgdiicaaGreatAe
set_option linter.unusedSectionVars false
set_option maxRecDepth 100000
set_option maxHeartbeats 4000000
set_option linter.unusedVariables false
set_option linter.unusedSimpArgs false
open Go Go.AX
namespace Go.Proofs.YtgblabmhgdiicaaGreat.Tb
structure PnJ (p : Pn) : Prop where
  i : PnI p
  r : lgsR p
theorem PnJ.ok {p : Pn} (h : PnJ p) : PnOk p := ⟨h.i.b, h.r, fun c hc => (h.i.ch c hc).2.1⟩
theorem idsOf (p : Pn) (k : Nat) (h : k < p.ledgers.length) : (idsP p).take (k + 1) = (idsP p).take k ++ [p.ledgers[k].id] := by
  unfold idsP
  rw [List.take_succ_eq_append_getElem (by rw [List.length_map]; exact h), List.getElem_map]
theorem fn_cKeep : FnOk Tryz.prog 21 Tryz.f21 := ⟨Tryz.func21, by kernel_rfl, by kernel_rfl, by kernel_rfl⟩
theorem cKeep_c (p : Pn) (h : PnB p) : PCx Tryz.prog 21 [.agg p.c] (slU (keepC p)) := by
  refine PC.le ?_
  have cM := pMay_c p h
  have hb := h.ledgers
  unfold keepC
  cases hm : mayPn p with
  | false =>
    rw [hm] at cM
    rw [if_neg (by decide)]
    clear hm
    refine PC_of_VC tabOk (draw_ok mixed tabOk) fn_cKeep rfl ?_
    repeat' ((conv => whnf); first | with_reducible refine zol ?_ | ((with_reducible refine fk (fun hc => ?_) fun hc => ?_) <;> first | exact absurd hc (by decide) | (exfalso; simp only [*, reduceCtorEq, Bool.not_true, Bool.not_false] at hc; done) | skip) | (refine zll ?_; (conv => whnf); refine ⟨_, cM, ?_⟩) | ((with_reducible apply And.intro); focus (first | rfl | exact znb rfl | omega | (simp only [zlc, zln, zlm, zla]; omega))))
    repeat' first | (with_reducible first | exact ⟨⟩ | exact rfl | exact lr _) | ((conv => whnf); with_reducible first | apply And.intro | exact ⟨⟩) | exact rfl | exact fun h => h | exact lr _
    all_goals try (conv => whnf)
  | true =>
    rw [hm] at cM
    rw [if_pos rfl]
    clear hm
    have eN : ((List.map Lg.c p.ledgers).length : Int) = (p.ledgers.length : Int) := by rw [List.length_map]
    refine PC_of_VC tabOk (draw_ok mixed tabOk) fn_cKeep rfl ?_
    repeat' ((conv => whnf); first | with_reducible refine zol ?_ | ((with_reducible refine fk (fun hc => ?_) fun hc => ?_) <;> first | exact absurd hc (by decide) | (exfalso; simp only [*, reduceCtorEq, Bool.not_true, Bool.not_false] at hc; done) | skip) | (refine zll ?_; (conv => whnf); refine ⟨_, cM, ?_⟩) | ((with_reducible apply And.intro); focus (first | rfl | exact znb rfl | omega | (simp only [zlc, zln, zlm, zla]; omega))))
    refine ⟨{k : Nat // k ≤ p.ledgers.length}, fun ⟨k, _⟩ => ⟨[(3, .slw 1003 0), (10, .pv (slLg p.ledgers)), (11, .pv (ii p.ledgers.length)), (12, .pv (ii k))], 1000000000, [(1003, .arr 22 0 1 (((idsP p).take k).map uRow))]⟩, fun ⟨k, _⟩ => p.ledgers.length - k, ⟨⟨0, by simp⟩, ent_of ?_⟩, ?_⟩
    · repeat' first
        | fail
        | with_reducible exact True.intro
        | with_reducible exact rfl
        | with_reducible exact leRs_refl _
        | ((conv => whnf); with_reducible apply And.intro)
        | ((conv => whnf); with_reducible exact True.intro)
        | exact rfl
        | exact fun h => h
        | exact leRs_refl _
      all_goals try (conv => whnf)
      all_goals first | exact eN | simp
    rintro ⟨k, hk⟩
    by_cases hlt : k < p.ledgers.length
    · have d0 : decide ((k : Int) < (p.ledgers.length : Int)) = true := by simp only [zdt]; omega
      have eW : IntKind.i64.wrap ((k : Int) + 1) = ((k + 1 : Nat) : Int) := by rw [wrapI (by omega) (by omega)]; omega
      have r1 := rowK Lg.c p.ledgers k hlt
      have ht := idsOf p k hlt
      repeat' ((conv => whnf); first | with_reducible refine zol ?_ | ((with_reducible refine fk (fun hc => ?_) fun hc => ?_) <;> first | exact absurd hc (by decide) | (exfalso; simp only [*, reduceCtorEq, Bool.not_true, Bool.not_false] at hc; done) | skip) | ((refine ⟨_, r1, ?_⟩)) | (((with_reducible apply And.intro); focus (simp only [List.length_map, List.length_take, List.length_cons, List.length_nil]; omega))) | ((with_reducible apply And.intro); focus (first | rfl | exact znb rfl | omega | (simp only [zlc, zln, zlm, zla]; omega))))
      refine ⟨⟨k + 1, hlt⟩, dec_lt hlt, ent_of ?_⟩
      repeat' first | (with_reducible first | exact ⟨⟩ | exact rfl | exact lr _) | ((conv => whnf); with_reducible first | apply And.intro | exact ⟨⟩) | exact rfl | exact fun h => h | exact lr _
      all_goals try (conv => whnf)
      all_goals first
        | exact eW
        | (rw [ht, List.map_append]; exact leRs_refl _)
    · have hke : k = p.ledgers.length := by omega
      subst hke
      have d0 : decide ((p.ledgers.length : Int) < (p.ledgers.length : Int)) = false := by simp
      have ht : (idsP p).take p.ledgers.length = idsP p := by rw [← List.length_map (f := fun x : Lg => x.id)]; exact List.take_length
      repeat' ((conv => whnf); first | with_reducible refine zol ?_ | ((with_reducible refine fk (fun hc => ?_) fun hc => ?_) <;> first | exact absurd hc (by decide) | (exfalso; simp only [*, reduceCtorEq, Bool.not_true, Bool.not_false] at hc; done) | skip) | ((with_reducible apply And.intro); focus (first | rfl | exact znb rfl | omega | (simp only [zlc, zln, zlm, zla]; omega))))
      repeat' first | (with_reducible first | exact ⟨⟩ | exact rfl | exact lr _) | ((conv => whnf); with_reducible first | apply And.intro | exact ⟨⟩) | exact rfl | exact fun h => h | exact lr _
      all_goals try (conv => whnf)
      all_goals (rw [ht]; exact leRs_refl _)
theorem fn_r20Keep : FnOk Tryz.prog 22 Tryz.f22 := ⟨Tryz.func22, by kernel_rfl, by kernel_rfl, by kernel_rfl⟩
theorem r20Keep_c (p : Pn) (h : PnI p) : PCx Tryz.prog 22 [.agg p.c] (slU (keepC p)) := by
  refine PC.le ?_
  have cM := r07May_c p h
  have hb := h.b.ledgers
  have eN : ((List.map Lg.c p.ledgers).length : Int) = (p.ledgers.length : Int) := by rw [List.length_map]
  unfold keepC
  cases hm : mayPn p with
  | false =>
    rw [hm] at cM
    rw [if_neg (by decide)]
    clear hm
    refine PC_of_VC tabOk (draw_ok mixed tabOk) fn_r20Keep rfl ?_
    repeat' ((conv => whnf); first | with_reducible refine zol ?_ | ((with_reducible refine fk (fun hc => ?_) fun hc => ?_) <;> first | exact absurd hc (by decide) | (exfalso; simp only [*, reduceCtorEq] at hc; done) | skip) | ((with_reducible apply And.intro); focus (first | rfl | exact znb rfl | omega | (simp only [zlc, zln, zlm, zla]; omega))))
    refine ⟨Unit, fun _ => ⟨[(1, .ptr 1002 0), (3, .slw 1003 0), (4, .pv (ii 0))], 1000000000, [(1002, .var (p.c.map .pv)), (1003, .arr 22 0 1 [])]⟩, fun _ => 0, ⟨(), ent_of ?_⟩, ?_⟩
    · repeat' first
        | fail
        | with_reducible exact True.intro
        | with_reducible exact rfl
        | with_reducible exact leRs_refl _
        | ((conv => whnf); with_reducible apply And.intro)
        | ((conv => whnf); with_reducible exact True.intro)
        | exact rfl
        | exact fun h => h
        | exact leRs_refl _
      all_goals try (conv => whnf)
    rintro ⟨⟩
    cases d0 : decide ((0 : Int) < (p.ledgers.length : Int)) with
    | true =>
      repeat' ((conv => whnf); first | with_reducible refine zol ?_ | ((with_reducible refine fk (fun hc => ?_) fun hc => ?_) <;> first | exact absurd hc (by decide) | (exfalso; simp only [*, reduceCtorEq, Bool.not_true, Bool.not_false] at hc; done) | skip) | rewrite [eN] | (refine zll ?_; (conv => whnf); refine ⟨_, cM, ?_⟩) | ((with_reducible apply And.intro); focus (first | rfl | exact znb rfl | omega | (simp only [zlc, zln, zlm, zla]; omega))))
      repeat' first | (with_reducible first | exact ⟨⟩ | exact rfl | exact lr _) | ((conv => whnf); with_reducible first | apply And.intro | exact ⟨⟩) | exact rfl | exact fun h => h | exact lr _
      all_goals try (conv => whnf)
    | false =>
      repeat' ((conv => whnf); first | with_reducible refine zol ?_ | ((with_reducible refine fk (fun hc => ?_) fun hc => ?_) <;> first | exact absurd hc (by decide) | (exfalso; simp only [*, reduceCtorEq, Bool.not_true, Bool.not_false] at hc; done) | skip) | rewrite [eN] | (refine zll ?_; (conv => whnf); refine ⟨_, cM, ?_⟩) | ((with_reducible apply And.intro); focus (first | rfl | exact znb rfl | omega | (simp only [zlc, zln, zlm, zla]; omega))))
      repeat' first | (with_reducible first | exact ⟨⟩ | exact rfl | exact lr _) | ((conv => whnf); with_reducible first | apply And.intro | exact ⟨⟩) | exact rfl | exact fun h => h | exact lr _
      all_goals try (conv => whnf)
  | true =>
    rw [hm] at cM
    rw [if_pos rfl]
    clear hm
    refine PC_of_VC tabOk (draw_ok mixed tabOk) fn_r20Keep rfl ?_
    repeat' ((conv => whnf); first | with_reducible refine zol ?_ | ((with_reducible refine fk (fun hc => ?_) fun hc => ?_) <;> first | exact absurd hc (by decide) | (exfalso; simp only [*, reduceCtorEq] at hc; done) | skip) | ((with_reducible apply And.intro); focus (first | rfl | exact znb rfl | omega | (simp only [zlc, zln, zlm, zla]; omega))))
    refine ⟨{k : Nat // k ≤ p.ledgers.length}, fun ⟨k, _⟩ => ⟨[(1, .ptr 1002 0), (3, .slw 1003 0), (4, .pv (ii k))], 1000000000, [(1002, .var (p.c.map .pv)), (1003, .arr 22 0 1 (((idsP p).take k).map uRow))]⟩, fun ⟨k, _⟩ => p.ledgers.length - k, ⟨⟨0, by simp⟩, ent_of ?_⟩, ?_⟩
    · repeat' first
        | fail
        | with_reducible exact True.intro
        | with_reducible exact rfl
        | with_reducible exact leRs_refl _
        | ((conv => whnf); with_reducible apply And.intro)
        | ((conv => whnf); with_reducible exact True.intro)
        | exact rfl
        | exact fun h => h
        | exact leRs_refl _
      all_goals try (conv => whnf)
      all_goals simp
    rintro ⟨k, hk⟩
    by_cases hlt : k < p.ledgers.length
    · have d0 : decide ((k : Int) < (p.ledgers.length : Int)) = true := by simp only [zdt]; omega
      have eW : IntKind.i64.wrap ((k : Int) + 1) = ((k + 1 : Nat) : Int) := by rw [wrapI (by omega) (by omega)]; omega
      have r1 := rowK Lg.c p.ledgers k hlt
      have ht := idsOf p k hlt
      repeat' ((conv => whnf); first | with_reducible refine zol ?_ | ((with_reducible refine fk (fun hc => ?_) fun hc => ?_) <;> first | exact absurd hc (by decide) | (exfalso; simp only [*, reduceCtorEq, Bool.not_true, Bool.not_false] at hc; done) | skip) | rewrite [eN] | (refine zll ?_; (conv => whnf); refine ⟨_, cM, ?_⟩) | ((refine ⟨_, r1, ?_⟩)) | (((with_reducible apply And.intro); focus (simp only [List.length_map, List.length_take, List.length_cons, List.length_nil]; omega))) | ((with_reducible apply And.intro); focus (first | rfl | exact znb rfl | omega | (simp only [zlc, zln, zlm, zla]; omega))))
      refine ⟨⟨k + 1, hlt⟩, dec_lt hlt, ent_of ?_⟩
      repeat' first | (with_reducible first | exact ⟨⟩ | exact rfl | exact lr _) | ((conv => whnf); with_reducible first | apply And.intro | exact ⟨⟩) | exact rfl | exact fun h => h | exact lr _
      all_goals try (conv => whnf)
      all_goals first
        | exact eW
        | (rw [ht, List.map_append]; exact leRs_refl _)
    · have hke : k = p.ledgers.length := by omega
      subst hke
      have d0 : decide ((p.ledgers.length : Int) < (p.ledgers.length : Int)) = false := by simp
      have ht : (idsP p).take p.ledgers.length = idsP p := by rw [← List.length_map (f := fun x : Lg => x.id)]; exact List.take_length
      repeat' ((conv => whnf); first | with_reducible refine zol ?_ | ((with_reducible refine fk (fun hc => ?_) fun hc => ?_) <;> first | exact absurd hc (by decide) | (exfalso; simp only [*, reduceCtorEq, Bool.not_true, Bool.not_false] at hc; done) | skip) | rewrite [eN] | ((with_reducible apply And.intro); focus (first | rfl | exact znb rfl | omega | (simp only [zlc, zln, zlm, zla]; omega))))
      repeat' first | (with_reducible first | exact ⟨⟩ | exact rfl | exact lr _) | ((conv => whnf); with_reducible first | apply And.intro | exact ⟨⟩) | exact rfl | exact fun h => h | exact lr _
      all_goals try (conv => whnf)
      all_goals (rw [ht]; exact leRs_refl _)
theorem fn_r20Has : FnOk Tryz.prog 47 Tryz.f47 := ⟨Tryz.func47, by kernel_rfl, by kernel_rfl, by kernel_rfl⟩
theorem r20Has_c (p : Pn) (n : Int) (h : PnI p) : PCx Tryz.prog 47 [.agg p.c, ii n] (bl (hasC p n)) := by
  refine PC.le ?_
  have cM := r07May_c p h
  have eH : ((List.map Ch.c p.channels).length : Int) = (p.channels.length : Int) := by rw [List.length_map]
  obtain ⟨X, hX⟩ : ∃ X, X = hasC p n := ⟨_, rfl⟩
  rw [← hX]
  unfold hasC at hX
  refine PC_of_VC tabOk (draw_ok mixed tabOk) fn_r20Has rfl ?_
  repeat' ((conv => whnf); first | with_reducible refine zol ?_ | ((with_reducible refine fk (fun hc => ?_) fun hc => ?_) <;> first | exact absurd hc (by decide) | (exfalso; simp only [*, reduceCtorEq, Bool.not_true, Bool.not_false] at hc; done) | skip) | rewrite [eH] | (refine zll ?_; (conv => whnf); refine ⟨_, cM, ?_⟩) | ((with_reducible apply And.intro); focus (first | rfl | exact znb rfl | omega | (simp only [zlc, zln, zlm, zla]; omega))))
  all_goals
    (try simp only [List.length_map] at *)
    simp only [*, Bool.true_and, Bool.false_and, Bool.and_true, Bool.and_false, Bool.false_eq_true, ↓reduceIte] at hX
    subst hX
    repeat' first | (with_reducible first | exact ⟨⟩ | exact rfl | exact lr _) | ((conv => whnf); with_reducible first | apply And.intro | exact ⟨⟩) | exact rfl | exact fun h => h | exact lr _
    all_goals try (conv => whnf)
end Go.Proofs.YtgblabmhgdiicaaGreat.Tb
