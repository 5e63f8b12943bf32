/-
  Contracts of functions of the program and of the document, each for every input that its premises name.
-/
import Derived.Test.YtgblabmhgdiicaaGreatCQ
set_option linter.unusedSectionVars false
set_option maxRecDepth 100000
set_option maxHeartbeats 4000000
set_option linter.unusedVariables false
set_option linter.unusedSimpArgs false
open Go Go.AX
namespace Go.Proofs.YtgblabmhgdiicaaGreat.Tb
def fixP (p : Pn) (id : Int) : Int := ixP (fun l => l.id == id) p.ledgers
theorem fn_r07Find : FnOk Tryz.prog 48 Tryz.f48 := ⟨Tryz.func48, by kernel_rfl, by kernel_rfl, by kernel_rfl⟩
theorem r07Find_c (p : Pn) (id : Int) (h : p.ledgers.length ≤ 1000000) : PCx Tryz.prog 48 [.agg p.c, uu id] (ii (fixP p id)) := by
  refine PC.le ?_
  have eN : ((List.map Lg.c p.ledgers).length : Int) = (p.ledgers.length : Int) := by rw [List.length_map]
  refine PC_of_VC tabOk (draw_ok mixed tabOk) fn_r07Find rfl ?_
  repeat' ((conv => whnf); first | with_reducible refine zol ?_ | ((with_reducible refine fk (fun hc => ?_) fun hc => ?_) <;> first | exact absurd hc (by decide) | (exfalso; simp only [*, reduceCtorEq] at hc; done) | skip) | ((with_reducible apply And.intro); focus (first | rfl | exact znb rfl | omega | (simp only [zlc, zln, zlm, zla]; omega))))
  refine ⟨{k : Nat // k ≤ p.ledgers.length ∧ ∀ j (hj : j < p.ledgers.length), j < k → (p.ledgers[j].id == id) = false}, fun ⟨k, _⟩ => ⟨[(1, .pv (uu id)), (2, .ptr 1002 0), (5, .pv (ii k))], 1000000000, [(1002, .var (p.c.map .pv))]⟩, fun ⟨k, _⟩ => p.ledgers.length - k, ⟨⟨0, by simp⟩, ent_of ?_⟩, ?_⟩
  · repeat' first
      | fail
      | with_reducible exact True.intro
      | with_reducible exact rfl
      | with_reducible exact leRs_refl _
      | ((conv => whnf); with_reducible apply And.intro)
      | ((conv => whnf); with_reducible exact True.intro)
      | exact rfl
      | exact fun h => h
      | exact leRs_refl _
    all_goals try (conv => whnf)
  rintro ⟨k, hk, hn⟩
  by_cases hlt : k < p.ledgers.length
  · have d0 : decide ((k : Int) < (p.ledgers.length : Int)) = true := by simp only [zdt]; omega
    have eW : IntKind.i64.wrap ((k : Int) + 1) = ((k + 1 : Nat) : Int) := by rw [wrapI (by omega) (by omega)]; omega
    have r1 := rowK Lg.c p.ledgers k hlt
    cases hq : (p.ledgers[k].id == id) with
    | true =>
      have e : fixP p id = (k : Int) := ixP_at _ hlt hn hq
      rw [e]
      clear e
      repeat' ((conv => whnf); first | with_reducible refine zol ?_ | ((with_reducible refine fk (fun hc => ?_) fun hc => ?_) <;> first | exact absurd hc (by decide) | (exfalso; simp only [*, reduceCtorEq, Bool.not_true, Bool.not_false] at hc; done) | skip) | rewrite [eN] | ((refine ⟨_, r1, ?_⟩)) | ((with_reducible apply And.intro); focus (first | rfl | exact znb rfl | omega | (simp only [zlc, zln, zlm, zla]; omega))))
      repeat' first | (with_reducible first | exact ⟨⟩ | exact rfl | exact lr _) | ((conv => whnf); with_reducible first | apply And.intro | exact ⟨⟩) | exact rfl | exact fun h => h | exact lr _
      all_goals try (conv => whnf)
    | false =>
      have hg : ∀ j (hj : j < p.ledgers.length), j < k + 1 → (p.ledgers[j].id == id) = false := step_lt hn fun _ => hq
      repeat' ((conv => whnf); first | with_reducible refine zol ?_ | ((with_reducible refine fk (fun hc => ?_) fun hc => ?_) <;> first | exact absurd hc (by decide) | (exfalso; simp only [*, reduceCtorEq, Bool.not_true, Bool.not_false] at hc; done) | skip) | rewrite [eN] | ((refine ⟨_, r1, ?_⟩)) | ((with_reducible apply And.intro); focus (first | rfl | exact znb rfl | omega | (simp only [zlc, zln, zlm, zla]; omega))))
      refine ⟨⟨k + 1, hlt, hg⟩, dec_lt hlt, ent_of ?_⟩
      repeat' first | (with_reducible first | exact ⟨⟩ | exact rfl | exact lr _) | ((conv => whnf); with_reducible first | apply And.intro | exact ⟨⟩) | exact rfl | exact fun h => h | exact lr _
      all_goals try (conv => whnf)
      all_goals exact eW
  · have hke : k = p.ledgers.length := by omega
    subst hke
    have d0 : decide ((p.ledgers.length : Int) < (p.ledgers.length : Int)) = false := by simp
    have e : fixP p id = -1 := ixP_none _ (all_of hn)
    rw [e]
    clear e
    repeat' ((conv => whnf); first | with_reducible refine zol ?_ | ((with_reducible refine fk (fun hc => ?_) fun hc => ?_) <;> first | exact absurd hc (by decide) | (exfalso; simp only [*, reduceCtorEq, Bool.not_true, Bool.not_false] at hc; done) | skip) | rewrite [eN] | ((with_reducible apply And.intro); focus (first | rfl | exact znb rfl | omega | (simp only [zlc, zln, zlm, zla]; omega))))
    repeat' first | (with_reducible first | exact ⟨⟩ | exact rfl | exact lr _) | ((conv => whnf); with_reducible first | apply And.intro | exact ⟨⟩) | exact rfl | exact fun h => h | exact lr _
    all_goals try (conv => whnf)
theorem fixP_cases (p : Pn) (id : Int) : (fixP p id = -1 ∧ findP p id = none) ∨ ∃ k, ∃ hk : k < p.ledgers.length, fixP p id = (k : Nat) ∧ findP p id = some p.ledgers[k] := findP_ix p id
theorem fn_r07End : FnOk Tryz.prog 113 Tryz.f113 := ⟨Tryz.func113, by kernel_rfl, by kernel_rfl, by kernel_rfl⟩
theorem r07End_c (p : Pn) (n : Int) (h : PnB p) (hh : hasP p n = true) (h0 : 0 ≤ (chP p n).first ∧ (chP p n).first ≤ 18446744073709551615) : PCx Tryz.prog 113 [.agg p.c, ii n] (uu (endC p (chP p n))) := by
  refine PC.le ?_
  have hb := h.channels
  have hbl := h.ledgers
  obtain ⟨i, hi, en, ec⟩ := hasP_ix hh
  rw [ec] at h0 ⊢
  have eI : IntKind.i64.wrap (n - 1) = ((i : Nat) : Int) := by rw [wrapI (by omega) (by omega)]; omega
  have eH : ((List.map Ch.c p.channels).length : Int) = (p.channels.length : Int) := by rw [List.length_map]
  have d1 : decide (n < 1) = false := by simp only [zdf]; omega
  have d2 : decide (n > (p.channels.length : Int)) = false := by simp only [zdf]; omega
  clear ec hh en
  have hcb := (h.ch _ (List.getElem_mem hi)).ledgers
  have hr := rowK Ch.c p.channels i hi
  obtain ⟨x, hx⟩ : ∃ x, x = p.channels[i] := ⟨_, rfl⟩
  rw [← hx] at hcb hr h0 ⊢
  clear hx
  have eN : ((List.map uRow x.ledgers).length : Int) = (x.ledgers.length : Int) := by rw [List.length_map]
  refine PC_of_VC tabOk (draw_ok mixed tabOk) fn_r07End rfl ?_
  repeat' ((conv => whnf); first | with_reducible refine zol ?_ | ((with_reducible refine fk (fun hc => ?_) fun hc => ?_) <;> first | exact absurd hc (by decide) | (exfalso; simp only [*, reduceCtorEq, Bool.not_true, Bool.not_false] at hc; done) | skip) | rewrite [eH] | ((rewrite [eI])) | ((refine ⟨_, hr, ?_⟩)) | ((with_reducible apply And.intro); focus (first | rfl | exact znb rfl | omega | (simp only [zlc, zln, zlm, zla]; omega))))
  refine ⟨{k : Nat // k ≤ x.ledgers.length}, fun ⟨k, _⟩ => ⟨[(2, .ptr 1002 0), (5, .ptr 1005 0), (6, .pv (uu (atK p x.first x.ledgers k))), (7, .pv (ii k))], 1000000000, [(1002, .var (p.c.map .pv)), (1005, .var (x.c.map .pv))]⟩, fun ⟨k, _⟩ => x.ledgers.length - k, ⟨⟨0, by simp⟩, ent_of ?_⟩, ?_⟩
  · repeat' first
      | fail
      | with_reducible exact True.intro
      | with_reducible exact rfl
      | with_reducible exact leRs_refl _
      | ((conv => whnf); with_reducible apply And.intro)
      | ((conv => whnf); with_reducible exact True.intro)
      | exact rfl
      | exact fun h => h
      | exact leRs_refl _
    all_goals try (conv => whnf)
  clear d1 d2 eI hr
  rintro ⟨k, hk⟩
  by_cases hlt : k < x.ledgers.length
  · have d0 : decide ((k : Int) < (x.ledgers.length : Int)) = true := by simp only [zdt]; omega
    have eW : IntKind.i64.wrap ((k : Int) + 1) = ((k + 1 : Nat) : Int) := by rw [wrapI (by omega) (by omega)]; omega
    have r1 := rowK uRow x.ledgers k hlt
    have cF := r07Find_c p x.ledgers[k] hbl
    have hA := atK_succ p x.first x.ledgers k hlt
    rcases fixP_cases p x.ledgers[k] with ⟨e1, e2⟩ | ⟨j, hj, e1, e2⟩
    · rw [e1] at cF
      have hz : (findL p x.ledgers[k]).last = 0 := by unfold findL; rw [e2]; rfl
      rw [hz] at hA
      have hw : atK p x.first x.ledgers (k + 1) = atK p x.first x.ledgers k := by
        rw [hA]
        have : 0 ≤ atK p x.first x.ledgers k ∧ atK p x.first x.ledgers k ≤ 18446744073709551615 := by
          cases k with
          | zero => rw [atK_zero]; exact h0
          | succ k =>
            rw [atK_succ p x.first x.ledgers k (by omega)]
            unfold addU
            simp [IntKind.wrap, IntKind.bits, IntKind.signed]
            omega
        rw [addU_id (by omega)]
        omega
      have hwh : Hd (atK p x.first x.ledgers (k + 1) = atK p x.first x.ledgers k) := ⟨hw⟩
      clear e1 e2 hA hz hw
      repeat' ((conv => whnf); first | with_reducible refine zol ?_ | ((with_reducible refine fk (fun hc => ?_) fun hc => ?_) <;> first | exact absurd hc (by decide) | (exfalso; simp only [*, reduceCtorEq, Bool.not_true, Bool.not_false] at hc; done) | skip) | rewrite [eN] | ((refine ⟨_, r1, ?_⟩)) | (refine zll ?_; (conv => whnf); refine ⟨_, cF, ?_⟩) | ((with_reducible apply And.intro); focus (first | rfl | exact znb rfl | omega | (simp only [zlc, zln, zlm, zla]; omega))))
      refine ⟨⟨k + 1, hlt⟩, dec_lt hlt, ent_of ?_⟩
      repeat' first | (with_reducible first | exact ⟨⟩ | exact rfl | exact lr _) | ((conv => whnf); with_reducible first | apply And.intro | exact ⟨⟩) | exact rfl | exact fun h => h | exact lr _
      all_goals try (conv => whnf)
      all_goals first
        | exact eW
        | exact hwh.out.symm
    · rw [e1] at cF
      have hz : findL p x.ledgers[k] = p.ledgers[j] := by unfold findL; rw [e2]; rfl
      rw [hz] at hA
      have hAh : Hd (addU (atK p x.first x.ledgers k) p.ledgers[j].last = atK p x.first x.ledgers (k + 1)) := ⟨hA.symm⟩
      have r2 := rowK Lg.c p.ledgers j hj
      have d3 : decide ((j : Int) ≥ 0) = true := by simp only [zdt]; omega
      clear e1 e2 hA hz
      repeat' ((conv => whnf); first | with_reducible refine zol ?_ | ((with_reducible refine fk (fun hc => ?_) fun hc => ?_) <;> first | exact absurd hc (by decide) | (exfalso; simp only [*, reduceCtorEq, Bool.not_true, Bool.not_false] at hc; done) | skip) | rewrite [eN] | ((refine ⟨_, r1, ?_⟩)) | (refine zll ?_; (conv => whnf); refine ⟨_, cF, ?_⟩) | ((refine ⟨_, r2, ?_⟩)) | ((with_reducible apply And.intro); focus (first | rfl | exact znb rfl | omega | (simp only [zlc, zln, zlm, zla]; omega))))
      refine ⟨⟨k + 1, hlt⟩, dec_lt hlt, ent_of ?_⟩
      repeat' first | (with_reducible first | exact ⟨⟩ | exact rfl | exact lr _) | ((conv => whnf); with_reducible first | apply And.intro | exact ⟨⟩) | exact rfl | exact fun h => h | exact lr _
      all_goals try (conv => whnf)
      all_goals first
        | exact eW
        | exact hAh.out
  · have hke : k = x.ledgers.length := by omega
    subst hke
    have d0 : decide ((x.ledgers.length : Int) < (x.ledgers.length : Int)) = false := by simp
    have e : atK p x.first x.ledgers x.ledgers.length = endC p x := by unfold atK; rw [List.take_length]; rfl
    repeat' ((conv => whnf); first | with_reducible refine zol ?_ | ((with_reducible refine fk (fun hc => ?_) fun hc => ?_) <;> first | exact absurd hc (by decide) | (exfalso; simp only [*, reduceCtorEq, Bool.not_true, Bool.not_false] at hc; done) | skip) | rewrite [eN] | ((with_reducible apply And.intro); focus (first | rfl | exact znb rfl | omega | (simp only [zlc, zln, zlm, zla]; omega))))
    repeat' first | (with_reducible first | exact ⟨⟩ | exact rfl | exact lr _) | ((conv => whnf); with_reducible first | apply And.intro | exact ⟨⟩) | exact rfl | exact fun h => h | exact lr _
    all_goals try (conv => whnf)
    all_goals exact e
theorem fn_r07Open : FnOk Tryz.prog 114 Tryz.f114 := ⟨Tryz.func114, by kernel_rfl, by kernel_rfl, by kernel_rfl⟩
def fixO (p : Pn) (c : Ch) : Int := match c.ledgers.getLast? with
  | none => -1
  | some id => if fixP p id < 0 then -1 else if (findL p id).closed == 0 then fixP p id else -1
theorem fixO_ge (p : Pn) (c : Ch) : decide (fixO p c ≥ 0) = (openC p c).isSome := by
  rw [Bool.eq_iff_iff, decide_eq_true_eq]
  unfold fixO openC
  cases c.ledgers.getLast? with
  | none => simp
  | some id =>
    simp only
    rcases fixP_cases p id with ⟨e1, e2⟩ | ⟨j, hj, e1, e2⟩
    · simp [e1, e2]
    · rw [e1, e2, if_neg (by omega)]
      simp only [findL, e2, Option.getD_some]
      by_cases h : (p.ledgers[j].closed == 0) = true
      · rw [if_pos h, if_pos h]; simp
      · rw [if_neg h, if_neg h]; simp
theorem r07Open_c (p : Pn) (n : Int) (h : PnB p) (hh : hasP p n = true) : PCx Tryz.prog 114 [.agg p.c, ii n] (ii (fixO p (chP p n))) := by
  refine PC.le ?_
  have hb := h.channels
  have hbl := h.ledgers
  obtain ⟨i, hi, en, ec⟩ := hasP_ix hh
  rw [ec]
  have eI : IntKind.i64.wrap (n - 1) = ((i : Nat) : Int) := by rw [wrapI (by omega) (by omega)]; omega
  have eH : ((List.map Ch.c p.channels).length : Int) = (p.channels.length : Int) := by rw [List.length_map]
  have d1 : decide (n < 1) = false := by simp only [zdf]; omega
  have d2 : decide (n > (p.channels.length : Int)) = false := by simp only [zdf]; omega
  clear ec hh en
  have hcb := (h.ch _ (List.getElem_mem hi)).ledgers
  have hr := rowK Ch.c p.channels i hi
  obtain ⟨x, hx⟩ : ∃ x, x = p.channels[i] := ⟨_, rfl⟩
  rw [← hx] at hcb hr ⊢
  clear hx
  have eN : ((List.map uRow x.ledgers).length : Int) = (x.ledgers.length : Int) := by rw [List.length_map]
  unfold fixO
  rcases Nat.eq_zero_or_pos x.ledgers.length with h0 | h0
  · have e0 : x.ledgers = [] := List.eq_nil_of_length_eq_zero h0
    have e1 : x.ledgers.getLast? = none := by rw [e0]; rfl
    rw [e1]
    have d0 : ((x.ledgers.length : Int) == 0) = true := by rw [h0]; rfl
    clear h0 e0 e1
    refine PC_of_VC tabOk (draw_ok mixed tabOk) fn_r07Open rfl ?_
    repeat' ((conv => whnf); first | with_reducible refine zol ?_ | ((with_reducible refine fk (fun hc => ?_) fun hc => ?_) <;> first | exact absurd hc (by decide) | (exfalso; simp only [*, reduceCtorEq, Bool.not_true, Bool.not_false] at hc; done) | skip) | rewrite [eH] | rewrite [eN] | ((rewrite [eI])) | ((refine ⟨_, hr, ?_⟩)) | ((with_reducible apply And.intro); focus (first | rfl | exact znb rfl | omega | (simp only [zlc, zln, zlm, zla]; omega))))
    repeat' first | (with_reducible first | exact ⟨⟩ | exact rfl | exact lr _) | ((conv => whnf); with_reducible first | apply And.intro | exact ⟨⟩) | exact rfl | exact fun h => h | exact lr _
    all_goals try (conv => whnf)
  · rw [getLast?_get _ h0]
    have d0 : ((x.ledgers.length : Int) == 0) = false := by simp; intro e; rw [e] at h0; simp at h0
    have eL : IntKind.i64.wrap ((x.ledgers.length : Int) - 1) = ((x.ledgers.length - 1 : Nat) : Int) := by rw [wrapI (by omega) (by omega)]; omega
    have hlt : x.ledgers.length - 1 < x.ledgers.length := by omega
    have hr2 := rowK uRow x.ledgers _ hlt
    obtain ⟨id, hid⟩ : ∃ id, id = x.ledgers[x.ledgers.length - 1] := ⟨_, rfl⟩
    rw [← hid] at hr2 ⊢
    clear hid
    have cF := r07Find_c p id hbl
    simp only
    rcases fixP_cases p id with ⟨e1, e2⟩ | ⟨j, hj, e1, e2⟩
    · rw [e1] at cF ⊢
      rw [if_pos (by decide)]
      clear e1 e2
      refine PC_of_VC tabOk (draw_ok mixed tabOk) fn_r07Open rfl ?_
      repeat' ((conv => whnf); first | with_reducible refine zol ?_ | ((with_reducible refine fk (fun hc => ?_) fun hc => ?_) <;> first | exact absurd hc (by decide) | (exfalso; simp only [*, reduceCtorEq, Bool.not_true, Bool.not_false] at hc; done) | skip) | rewrite [eH] | rewrite [eN] | ((rewrite [eI])) | ((rewrite [eL])) | ((refine ⟨_, hr, ?_⟩)) | ((refine ⟨_, hr2, ?_⟩)) | (refine zll ?_; (conv => whnf); refine ⟨_, cF, ?_⟩) | ((with_reducible apply And.intro); focus (first | rfl | exact znb rfl | omega | (simp only [zlc, zln, zlm, zla]; omega))))
      repeat' first | (with_reducible first | exact ⟨⟩ | exact rfl | exact lr _) | ((conv => whnf); with_reducible first | apply And.intro | exact ⟨⟩) | exact rfl | exact fun h => h | exact lr _
      all_goals try (conv => whnf)
    · have hz : findL p id = p.ledgers[j] := by unfold findL; rw [e2]; rfl
      rw [e1] at cF ⊢
      rw [if_neg (by omega), hz]
      have r2 := rowK Lg.c p.ledgers j hj
      have d3 : decide ((j : Int) < 0) = false := by simp only [zdf]; omega
      clear e1 e2 hz
      obtain ⟨l, hl⟩ : ∃ l, l = p.ledgers[j] := ⟨_, rfl⟩
      rw [← hl] at r2 ⊢
      clear hl
      cases hcl : (l.closed == 0) with
      | true =>
        have hcl2 : (l.closed != 0) = false := by simp [bne, hcl]
        rw [if_pos rfl]
        refine PC_of_VC tabOk (draw_ok mixed tabOk) fn_r07Open rfl ?_
        repeat' ((conv => whnf); first | with_reducible refine zol ?_ | ((with_reducible refine fk (fun hc => ?_) fun hc => ?_) <;> first | exact absurd hc (by decide) | (exfalso; simp only [*, reduceCtorEq, Bool.not_true, Bool.not_false] at hc; done) | skip) | rewrite [eH] | rewrite [eN] | ((rewrite [eI])) | ((rewrite [eL])) | ((refine ⟨_, hr, ?_⟩)) | ((refine ⟨_, hr2, ?_⟩)) | (refine zll ?_; (conv => whnf); refine ⟨_, cF, ?_⟩) | ((refine ⟨_, r2, ?_⟩)) | ((with_reducible apply And.intro); focus (first | rfl | exact znb rfl | omega | (simp only [zlc, zln, zlm, zla]; omega))))
        repeat' first | (with_reducible first | exact ⟨⟩ | exact rfl | exact lr _) | ((conv => whnf); with_reducible first | apply And.intro | exact ⟨⟩) | exact rfl | exact fun h => h | exact lr _
        all_goals try (conv => whnf)
      | false =>
        have hcl2 : (l.closed != 0) = true := by simp [bne, hcl]
        rw [if_neg (by decide)]
        refine PC_of_VC tabOk (draw_ok mixed tabOk) fn_r07Open rfl ?_
        repeat' ((conv => whnf); first | with_reducible refine zol ?_ | ((with_reducible refine fk (fun hc => ?_) fun hc => ?_) <;> first | exact absurd hc (by decide) | (exfalso; simp only [*, reduceCtorEq, Bool.not_true, Bool.not_false] at hc; done) | skip) | rewrite [eH] | rewrite [eN] | ((rewrite [eI])) | ((rewrite [eL])) | ((refine ⟨_, hr, ?_⟩)) | ((refine ⟨_, hr2, ?_⟩)) | (refine zll ?_; (conv => whnf); refine ⟨_, cF, ?_⟩) | ((refine ⟨_, r2, ?_⟩)) | ((with_reducible apply And.intro); focus (first | rfl | exact znb rfl | omega | (simp only [zlc, zln, zlm, zla]; omega))))
        repeat' first | (with_reducible first | exact ⟨⟩ | exact rfl | exact lr _) | ((conv => whnf); with_reducible first | apply And.intro | exact ⟨⟩) | exact rfl | exact fun h => h | exact lr _
        all_goals try (conv => whnf)
end Go.Proofs.YtgblabmhgdiicaaGreat.Tb
