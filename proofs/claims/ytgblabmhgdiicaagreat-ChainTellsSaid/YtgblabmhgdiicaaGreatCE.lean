/-
  Contracts of functions of the program and of the document, each for every input that its premises name.
-/
import Derived.Test.YtgblabmhgdiicaaGreatCD
set_option linter.unusedSectionVars false
set_option maxRecDepth 100000
set_option maxHeartbeats 4000000
set_option linter.unusedVariables false
set_option linter.unusedSimpArgs false
open Go Go.AX
namespace Go.Proofs.YtgblabmhgdiicaaGreat.Tb
theorem fn_pOpen : FnOk Tryz.prog 62 Tryz.f62 := ⟨Tryz.func62, by kernel_rfl, by kernel_rfl, by kernel_rfl⟩
theorem pOpen_c (p : Pn) (n : Int) (h : PnB p) : PCx Tryz.prog 62 [.agg p.c, ii n] (.tup [.agg ((openP p n).getD lg0).c, bl (openP p n).isSome]) := by
  refine PC.le ?_
  unfold openP
  cases hh : hasP p n with
  | false =>
    rw [if_neg (by decide)]
    have c := pHas_c p n
    rw [hh] at c
    refine PC_of_VC tabOk (draw_ok mixed tabOk) fn_pOpen rfl ?_
    repeat' ((conv => whnf); first | with_reducible refine zol ?_ | ((with_reducible refine fk (fun hc => ?_) fun hc => ?_) <;> first | exact absurd hc (by decide) | (exfalso; simp only [*, reduceCtorEq] at hc; done) | skip) | (refine zll ?_; (conv => whnf); refine ⟨_, c, ?_⟩) | ((with_reducible apply And.intro); focus (first | rfl | exact znb rfl | omega | (simp only [zlc, zln, zlm, zla]; omega))))
    repeat' first | (with_reducible first | exact ⟨⟩ | exact rfl | exact lr _) | ((conv => whnf); with_reducible first | apply And.intro | exact ⟨⟩) | exact rfl | exact fun h => h | exact lr _
    all_goals try (conv => whnf)
  | true =>
    rw [if_pos rfl]
    have c := pHas_c p n
    rw [hh] at c
    simp only [hasP, Bool.and_eq_true, decide_eq_true_eq] at hh
    have hb := h.channels
    obtain ⟨i, hi, rfl⟩ : ∃ i : Nat, i < p.channels.length ∧ n = ((i + 1 : Nat) : Int) := ⟨(n - 1).toNat, by omega, by omega⟩
    have eI : IntKind.i64.wrap (((i + 1 : Nat) : Int) - 1) = ((i : Nat) : Int) := by rw [wrapI (by omega) (by omega)]; omega
    have ec : chP p ((i + 1 : Nat) : Int) = p.channels[i] := by
      unfold chP
      rw [show (((i + 1 : Nat) : Int) - 1).toNat = i from by omega, getElem!_pos p.channels i hi]
    rw [ec]
    clear ec hh
    have hcb := (h.ch _ (List.getElem_mem hi)).ledgers
    have hr := rowK Ch.c p.channels i hi
    obtain ⟨x, hx⟩ : ∃ x, x = p.channels[i] := ⟨_, rfl⟩
    rw [← hx] at hcb hr ⊢
    clear hx
    unfold openC
    rcases Nat.eq_zero_or_pos x.ledgers.length with h0 | h0
    · have e0 : x.ledgers = [] := List.eq_nil_of_length_eq_zero h0
      rw [e0]
      have d0 : (((List.map uRow x.ledgers).length : Int) == 0) = true := by rw [List.length_map, h0]; rfl
      clear h0 e0
      refine PC_of_VC tabOk (draw_ok mixed tabOk) fn_pOpen rfl ?_
      repeat' ((conv => whnf); first | with_reducible refine zol ?_ | ((with_reducible refine fk (fun hc => ?_) fun hc => ?_) <;> first | exact absurd hc (by decide) | (exfalso; simp only [*, reduceCtorEq] at hc; done) | skip) | (refine zll ?_; (conv => whnf); refine ⟨_, c, ?_⟩) | ((rewrite [eI])) | ((refine ⟨_, hr, ?_⟩)) | ((with_reducible apply And.intro); focus (first | rfl | exact znb rfl | omega | (simp only [zlc, zln, zlm, zla]; omega))))
      repeat' first | (with_reducible first | exact ⟨⟩ | exact rfl | exact lr _) | ((conv => whnf); with_reducible first | apply And.intro | exact ⟨⟩) | exact rfl | exact fun h => h | exact lr _
      all_goals try (conv => whnf)
    · rw [getLast?_get _ h0]
      have d0 : (((List.map uRow x.ledgers).length : Int) == 0) = false := by rw [List.length_map]; simp; intro e; rw [e] at h0; simp at h0
      have eL : IntKind.i64.wrap (((List.map uRow x.ledgers).length : Int) - 1) = ((x.ledgers.length - 1 : Nat) : Int) := by rw [List.length_map, wrapI (by omega) (by omega)]; omega
      have hlt : x.ledgers.length - 1 < x.ledgers.length := by omega
      have hr2 := rowK uRow x.ledgers _ hlt
      obtain ⟨id, hid⟩ : ∃ id, id = x.ledgers[x.ledgers.length - 1] := ⟨_, rfl⟩
      rw [← hid] at hr2 ⊢
      clear hid
      have cF := pFind_c p id h
      unfold findL at cF
      simp only
      cases hf : findP p id with
      | none =>
        rw [hf] at cF
        clear hf
        refine PC_of_VC tabOk (draw_ok mixed tabOk) fn_pOpen rfl ?_
        repeat' ((conv => whnf); first | with_reducible refine zol ?_ | ((with_reducible refine fk (fun hc => ?_) fun hc => ?_) <;> first | exact absurd hc (by decide) | (exfalso; simp only [*, reduceCtorEq] at hc; done) | skip) | (refine zll ?_; (conv => whnf); refine ⟨_, c, ?_⟩) | ((rewrite [eI])) | ((rewrite [eL])) | ((refine ⟨_, hr, ?_⟩)) | ((refine ⟨_, hr2, ?_⟩)) | (((with_reducible apply And.intro); focus omega)) | (refine zll ?_; (conv => whnf); refine ⟨_, cF, ?_⟩) | ((with_reducible apply And.intro); focus (first | rfl | exact znb rfl | omega | (simp only [zlc, zln, zlm, zla]; omega))))
        repeat' first | (with_reducible first | exact ⟨⟩ | exact rfl | exact lr _) | ((conv => whnf); with_reducible first | apply And.intro | exact ⟨⟩) | exact rfl | exact fun h => h | exact lr _
        all_goals try (conv => whnf)
      | some l =>
        rw [hf] at cF
        clear hf
        simp only [Option.isSome_some, Option.getD_some] at cF ⊢
        cases hcl : (l.closed == 0) with
        | true =>
          have hcl2 : (l.closed != 0) = false := by simp [bne, hcl]
          refine PC_of_VC tabOk (draw_ok mixed tabOk) fn_pOpen rfl ?_
          repeat' ((conv => whnf); first | with_reducible refine zol ?_ | ((with_reducible refine fk (fun hc => ?_) fun hc => ?_) <;> first | exact absurd hc (by decide) | (exfalso; simp only [*, reduceCtorEq] at hc; done) | skip) | (refine zll ?_; (conv => whnf); refine ⟨_, c, ?_⟩) | ((rewrite [eI])) | ((rewrite [eL])) | ((refine ⟨_, hr, ?_⟩)) | ((refine ⟨_, hr2, ?_⟩)) | (((with_reducible apply And.intro); focus omega)) | (refine zll ?_; (conv => whnf); refine ⟨_, cF, ?_⟩) | ((with_reducible apply And.intro); focus (first | rfl | exact znb rfl | omega | (simp only [zlc, zln, zlm, zla]; omega))))
          repeat' first | (with_reducible first | exact ⟨⟩ | exact rfl | exact lr _) | ((conv => whnf); with_reducible first | apply And.intro | exact ⟨⟩) | exact rfl | exact fun h => h | exact lr _
          all_goals try (conv => whnf)
          all_goals exact fun h => h
        | false =>
          have hcl2 : (l.closed != 0) = true := by simp [bne, hcl]
          refine PC_of_VC tabOk (draw_ok mixed tabOk) fn_pOpen rfl ?_
          repeat' ((conv => whnf); first | with_reducible refine zol ?_ | ((with_reducible refine fk (fun hc => ?_) fun hc => ?_) <;> first | exact absurd hc (by decide) | (exfalso; simp only [*, reduceCtorEq] at hc; done) | skip) | (refine zll ?_; (conv => whnf); refine ⟨_, c, ?_⟩) | ((rewrite [eI])) | ((rewrite [eL])) | ((refine ⟨_, hr, ?_⟩)) | ((refine ⟨_, hr2, ?_⟩)) | (((with_reducible apply And.intro); focus omega)) | (refine zll ?_; (conv => whnf); refine ⟨_, cF, ?_⟩) | ((with_reducible apply And.intro); focus (first | rfl | exact znb rfl | omega | (simp only [zlc, zln, zlm, zla]; omega))))
          repeat' first | (with_reducible first | exact ⟨⟩ | exact rfl | exact lr _) | ((conv => whnf); with_reducible first | apply And.intro | exact ⟨⟩) | exact rfl | exact fun h => h | exact lr _
          all_goals try (conv => whnf)
          all_goals exact fun h => h
theorem fn_pPast : FnOk Tryz.prog 42 Tryz.f42 := ⟨Tryz.func42, by kernel_rfl, by kernel_rfl, by kernel_rfl⟩
theorem pPast_c (x : Pa) : PCx Tryz.prog 42 ([] ++ ([.agg x.c] ++ [])) (bl (pastOk x)) := by
  refine PC.le ?_
  obtain ⟨X, hX⟩ : ∃ X, X = pastOk x := ⟨_, rfl⟩
  rw [← hX]
  unfold pastOk at hX
  refine PC_of_VC tabOk (draw_ok mixed tabOk) fn_pPast rfl ?_
  repeat' ((conv => whnf); first | with_reducible refine zol ?_ | ((with_reducible refine fk (fun hc => ?_) fun hc => ?_) <;> first | exact absurd hc (by decide) | (exfalso; simp only [*, reduceCtorEq] at hc; done) | skip) | (refine zll ?_; (conv => whnf); refine ⟨_, fromI_c _ _ _, ?_⟩) | (refine zll ?_; (conv => whnf); refine ⟨_, fromU_c _ _ _, ?_⟩) | (refine zll ?_; (conv => whnf); refine ⟨_, fromE_c _ _ _, ?_⟩) | (refine zll ?_; (conv => whnf); refine ⟨_, PCx_pre (countsP3_c x.out.epoch x.out.at_ x.out.ledger) ?_, ?_⟩; focus ((repeat' first | (with_reducible first | exact ⟨⟩ | exact rfl | exact lr _) | ((conv => whnf); with_reducible first | apply And.intro | exact ⟨⟩) | exact rfl | exact fun h => h | assumption | exact lr _); done)) | ((with_reducible apply And.intro); focus (first | rfl | exact znb rfl | omega | (simp only [zlc, zln, zlm, zla]; omega))))
  all_goals
    simp only [*, Bool.true_and, Bool.false_and, Bool.and_true, Bool.false_eq_true, ↓reduceIte] at hX
    subst hX
    repeat' first | (with_reducible first | exact ⟨⟩ | exact rfl | exact lr _) | ((conv => whnf); with_reducible first | apply And.intro | exact ⟨⟩) | exact rfl | exact fun h => h | exact lr _
    all_goals try (conv => whnf)
theorem fn_may3 : FnOk Tryz.prog 40 Tryz.f40 := ⟨Tryz.func40, by kernel_rfl, by kernel_rfl, by kernel_rfl⟩
theorem may3_c (x : Pa) : PCx Tryz.prog 40 ([] ++ ([.agg x.c] ++ [])) (ii x.who) := by
  refine PC.le ?_
  refine PC_of_VC tabOk (draw_ok mixed tabOk) fn_may3 rfl ?_
  repeat' ((conv => whnf); first | with_reducible refine zol ?_ | ((with_reducible refine fk (fun hc => ?_) fun hc => ?_) <;> first | exact absurd hc (by decide) | (exfalso; simp only [*, reduceCtorEq] at hc; done) | skip) | ((with_reducible apply And.intro); focus (first | rfl | exact znb rfl | omega | (simp only [zlc, zln, zlm, zla]; omega))))
  repeat' first | (with_reducible first | exact ⟨⟩ | exact rfl | exact lr _) | ((conv => whnf); with_reducible first | apply And.intro | exact ⟨⟩) | exact rfl | exact fun h => h | exact lr _
  all_goals try (conv => whnf)
theorem fn_may2 : FnOk Tryz.prog 35 Tryz.f35 := ⟨Tryz.func35, by kernel_rfl, by kernel_rfl, by kernel_rfl⟩
theorem may2_c (x : Lg) : PCx Tryz.prog 35 ([] ++ ([.agg x.c] ++ [])) (uu x.id) := by
  refine PC.le ?_
  refine PC_of_VC tabOk (draw_ok mixed tabOk) fn_may2 rfl ?_
  repeat' ((conv => whnf); first | with_reducible refine zol ?_ | ((with_reducible refine fk (fun hc => ?_) fun hc => ?_) <;> first | exact absurd hc (by decide) | (exfalso; simp only [*, reduceCtorEq] at hc; done) | skip) | ((with_reducible apply And.intro); focus (first | rfl | exact znb rfl | omega | (simp only [zlc, zln, zlm, zla]; omega))))
  repeat' first | (with_reducible first | exact ⟨⟩ | exact rfl | exact lr _) | ((conv => whnf); with_reducible first | apply And.intro | exact ⟨⟩) | exact rfl | exact fun h => h | exact lr _
  all_goals try (conv => whnf)
theorem fn_seen2 : FnOk Tryz.prog 104 Tryz.f104 := ⟨Tryz.func104, by kernel_rfl, by kernel_rfl, by kernel_rfl⟩
theorem seen2_c (x : Mk) : PCx Tryz.prog 104 ([] ++ ([.agg x.c] ++ [])) (ii x.producer) := by
  refine PC.le ?_
  refine PC_of_VC tabOk (draw_ok mixed tabOk) fn_seen2 rfl ?_
  repeat' ((conv => whnf); first | with_reducible refine zol ?_ | ((with_reducible refine fk (fun hc => ?_) fun hc => ?_) <;> first | exact absurd hc (by decide) | (exfalso; simp only [*, reduceCtorEq] at hc; done) | skip) | ((with_reducible apply And.intro); focus (first | rfl | exact znb rfl | omega | (simp only [zlc, zln, zlm, zla]; omega))))
  repeat' first | (with_reducible first | exact ⟨⟩ | exact rfl | exact lr _) | ((conv => whnf); with_reducible first | apply And.intro | exact ⟨⟩) | exact rfl | exact fun h => h | exact lr _
  all_goals try (conv => whnf)
theorem fn_seen3 : FnOk Tryz.prog 106 Tryz.f106 := ⟨Tryz.func106, by kernel_rfl, by kernel_rfl, by kernel_rfl⟩
theorem seen3_c (x : Mk) : PCx Tryz.prog 106 ([] ++ ([.agg x.c] ++ [])) (uu x.offset) := by
  refine PC.le ?_
  refine PC_of_VC tabOk (draw_ok mixed tabOk) fn_seen3 rfl ?_
  repeat' ((conv => whnf); first | with_reducible refine zol ?_ | ((with_reducible refine fk (fun hc => ?_) fun hc => ?_) <;> first | exact absurd hc (by decide) | (exfalso; simp only [*, reduceCtorEq] at hc; done) | skip) | ((with_reducible apply And.intro); focus (first | rfl | exact znb rfl | omega | (simp only [zlc, zln, zlm, zla]; omega))))
  repeat' first | (with_reducible first | exact ⟨⟩ | exact rfl | exact lr _) | ((conv => whnf); with_reducible first | apply And.intro | exact ⟨⟩) | exact rfl | exact fun h => h | exact lr _
  all_goals try (conv => whnf)
theorem fn_chan1 : FnOk Tryz.prog 65 Tryz.f65 := ⟨Tryz.func65, by kernel_rfl, by kernel_rfl, by kernel_rfl⟩
theorem chan1_c (x : Int) : PCx Tryz.prog 65 ([] ++ ([uu x] ++ [])) (uu x) := by
  refine PC.le ?_
  refine PC_of_VC tabOk (draw_ok mixed tabOk) fn_chan1 rfl ?_
  repeat' ((conv => whnf); first | with_reducible refine zol ?_ | ((with_reducible refine fk (fun hc => ?_) fun hc => ?_) <;> first | exact absurd hc (by decide) | (exfalso; simp only [*, reduceCtorEq] at hc; done) | skip) | ((with_reducible apply And.intro); focus (first | rfl | exact znb rfl | omega | (simp only [zlc, zln, zlm, zla]; omega))))
  repeat' first | (with_reducible first | exact ⟨⟩ | exact rfl | exact lr _) | ((conv => whnf); with_reducible first | apply And.intro | exact ⟨⟩) | exact rfl | exact fun h => h | exact lr _
  all_goals try (conv => whnf)
theorem fn_chan2 : FnOk Tryz.prog 69 Tryz.f69 := ⟨Tryz.func69, by kernel_rfl, by kernel_rfl, by kernel_rfl⟩
theorem chan2_c (x : Cu) : PCx Tryz.prog 69 ([] ++ ([.agg x.c] ++ [])) (ii x.sub) := by
  refine PC.le ?_
  refine PC_of_VC tabOk (draw_ok mixed tabOk) fn_chan2 rfl ?_
  repeat' ((conv => whnf); first | with_reducible refine zol ?_ | ((with_reducible refine fk (fun hc => ?_) fun hc => ?_) <;> first | exact absurd hc (by decide) | (exfalso; simp only [*, reduceCtorEq] at hc; done) | skip) | ((with_reducible apply And.intro); focus (first | rfl | exact znb rfl | omega | (simp only [zlc, zln, zlm, zla]; omega))))
  repeat' first | (with_reducible first | exact ⟨⟩ | exact rfl | exact lr _) | ((conv => whnf); with_reducible first | apply And.intro | exact ⟨⟩) | exact rfl | exact fun h => h | exact lr _
  all_goals try (conv => whnf)
theorem fn_chan3 : FnOk Tryz.prog 71 Tryz.f71 := ⟨Tryz.func71, by kernel_rfl, by kernel_rfl, by kernel_rfl⟩
theorem chan3_c (x : Cu) : PCx Tryz.prog 71 ([] ++ ([.agg x.c] ++ [])) (bl (cursOk x)) := by
  refine PC.le ?_
  obtain ⟨X, hX⟩ : ∃ X, X = cursOk x := ⟨_, rfl⟩
  rw [← hX]
  unfold cursOk at hX
  refine PC_of_VC tabOk (draw_ok mixed tabOk) fn_chan3 rfl ?_
  repeat' ((conv => whnf); first | with_reducible refine zol ?_ | ((with_reducible refine fk (fun hc => ?_) fun hc => ?_) <;> first | exact absurd hc (by decide) | (exfalso; simp only [*, reduceCtorEq] at hc; done) | skip) | (refine zll ?_; (conv => whnf); refine ⟨_, fromI_c _ _ _, ?_⟩) | (refine zll ?_; (conv => whnf); refine ⟨_, PCx_pre (countsP1_c x.at_) ?_, ?_⟩; focus ((repeat' first | (with_reducible first | exact ⟨⟩ | exact rfl | exact lr _) | ((conv => whnf); with_reducible first | apply And.intro | exact ⟨⟩) | exact rfl | exact fun h => h | assumption | exact lr _); done)) | ((with_reducible apply And.intro); focus (first | rfl | exact znb rfl | omega | (simp only [zlc, zln, zlm, zla]; omega))))
  all_goals
    simp only [*, Bool.true_and, Bool.false_and, Bool.and_true, Bool.false_eq_true, ↓reduceIte] at hX
    subst hX
    repeat' first | (with_reducible first | exact ⟨⟩ | exact rfl | exact lr _) | ((conv => whnf); with_reducible first | apply And.intro | exact ⟨⟩) | exact rfl | exact fun h => h | exact lr _
    all_goals try (conv => whnf)
theorem fn_seen4 : FnOk Tryz.prog 108 Tryz.f108 := ⟨Tryz.func108, by kernel_rfl, by kernel_rfl, by kernel_rfl⟩
theorem seen4_c (c : Ch) (x : Mk) : PCx Tryz.prog 108 ([] ++ ([.agg x.c] ++ [.eptr c.c 0])) (bl (markOk c x)) := by
  refine PC.le ?_
  obtain ⟨X, hX⟩ : ∃ X, X = markOk c x := ⟨_, rfl⟩
  rw [← hX]
  unfold markOk at hX
  refine PC_of_VC tabOk (draw_ok mixed tabOk) fn_seen4 rfl ?_
  repeat' ((conv => whnf); first | with_reducible refine zol ?_ | ((with_reducible refine fk (fun hc => ?_) fun hc => ?_) <;> first | exact absurd hc (by decide) | (exfalso; simp only [*, reduceCtorEq] at hc; done) | skip) | (refine zll ?_; (conv => whnf); refine ⟨_, fromI_c _ _ _, ?_⟩) | (refine zll ?_; (conv => whnf); refine ⟨_, fromU_c _ _ _, ?_⟩) | ((with_reducible apply And.intro); focus (first | rfl | exact znb rfl | omega | (simp only [zlc, zln, zlm, zla]; omega))))
  all_goals
    simp only [*, Bool.true_and, Bool.false_and, Bool.and_true, Bool.false_eq_true, ↓reduceIte] at hX
    subst hX
    repeat' first | (with_reducible first | exact ⟨⟩ | exact rfl | exact lr _) | ((conv => whnf); with_reducible first | apply And.intro | exact ⟨⟩) | exact rfl | exact fun h => h | exact lr _
    all_goals try (conv => whnf)
theorem fn_pSeen : FnOk Tryz.prog 67 Tryz.f67 := ⟨Tryz.func67, by kernel_rfl, by kernel_rfl, by kernel_rfl⟩
theorem pSeen_c (c : Ch) (h : c.seen.length ≤ 1000000) : PCx Tryz.prog 67 [.agg c.c] (bl (seenC c)) := by
  refine PC.le ?_
  obtain ⟨X, hX⟩ : ∃ X, X = seenC c := ⟨_, rfl⟩
  rw [← hX]
  unfold seenC at hX
  rw [← sortBy_rise, riseZ_map] at hX
  refine PC_of_VC tabOk (draw_ok mixed tabOk) fn_pSeen rfl ?_
  repeat' ((conv => whnf); first | with_reducible refine zol ?_ | ((with_reducible refine fk (fun hc => ?_) fun hc => ?_) <;> first | exact absurd hc (by decide) | (exfalso; simp only [*, reduceCtorEq] at hc; done) | skip) | (refine zlr ?_; (conv => whnf); refine ⟨_, _, cloneMark_g _ (by omega), ?_⟩) | (refine zlr ?_; (conv => whnf); refine ⟨_, _, sortMark_g _ (by omega), ?_⟩) | (refine zll ?_; (conv => whnf); refine ⟨_, riseMark_c _ _ _ _ (·.producer) fun x _ => seen2_c x, ?_⟩) | (refine zll ?_; (conv => whnf); refine ⟨_, riseMarkU_c (sortBy Mk.offset c.seen) _ _ _ (·.offset) fun x _ => seen3_c x, ?_⟩) | (refine zll ?_; (conv => whnf); refine ⟨_, allMark_c _ _ _ _ (markOk c) fun x _ => seen4_c c x, ?_⟩) | ((with_reducible apply And.intro); focus (first | rfl | exact znb rfl | omega | (simp only [zlc, zln, zlm, zla]; omega))))
  all_goals
    simp only [List.length_map] at *
    simp only [*, Bool.true_and, Bool.false_and, Bool.and_true, Bool.false_eq_true, ↓reduceIte] at hX
    subst hX
    repeat' first | (with_reducible first | exact ⟨⟩ | exact rfl | exact lr _) | ((conv => whnf); with_reducible first | apply And.intro | exact ⟨⟩) | exact rfl | exact fun h => h | exact lr _
    all_goals try (conv => whnf)
end Go.Proofs.YtgblabmhgdiicaaGreat.Tb
