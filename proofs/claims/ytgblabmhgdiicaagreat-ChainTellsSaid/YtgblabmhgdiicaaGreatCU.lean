/-
  Contracts of functions of the program and of the document, each for every input that its premises name.
-/
import Derived.Test.YtgblabmhgdiicaaGreatCT
set_option linter.unusedSectionVars false
set_option maxRecDepth 100000
set_option maxHeartbeats 4000000
set_option linter.unusedVariables false
set_option linter.unusedSimpArgs false
open Go Go.AX
namespace Go.Proofs.YtgblabmhgdiicaaGreat.Tb
theorem fn_r07Chan : FnOk Tryz.prog 77 Tryz.f77 := ⟨Tryz.func77, by kernel_rfl, by kernel_rfl, by kernel_rfl⟩
theorem r07Chan_c (p : Pn) (n : Int) (h : PnB p) (hh : hasP p n = true) (hr0 : 0 ≤ (chP p n).epoch ∧ (0 ≤ (chP p n).first ∧ (chP p n).first ≤ 18446744073709551615)) : PCx Tryz.prog 77 [.agg p.c, ii n] (bl (chanOk p (chP p n))) := by
  refine PC.le ?_
  have hb := h.channels
  have hbl := h.ledgers
  have cE := r07End_c p n h hh hr0.2
  have cO := r07Open_c p n h hh
  obtain ⟨i, hi, en, ec⟩ := hasP_ix hh
  rw [ec] at cE cO hr0 ⊢
  have eI : IntKind.i64.wrap (n - 1) = ((i : Nat) : Int) := by rw [wrapI (by omega) (by omega)]; omega
  clear ec hh en
  have hcb := h.ch _ (List.getElem_mem hi)
  have hr := rowK Ch.c p.channels i hi
  obtain ⟨x, hx⟩ : ∃ x, x = p.channels[i] := ⟨_, rfl⟩
  rw [← hx] at hcb hr cE cO hr0 ⊢
  clear hx
  have n1 := hcb.ledgers
  have n2 := hcb.seen
  have n3 := hcb.cursors
  obtain ⟨hr1, hr2, hr3⟩ := hr0
  have eN : ((List.map uRow x.ledgers).length : Int) = (x.ledgers.length : Int) := by rw [List.length_map]
  have eM : ((List.map Mk.c x.seen).length : Int) = (x.seen.length : Int) := by rw [List.length_map]
  have eC : ((List.map Cu.c x.cursors).length : Int) = (x.cursors.length : Int) := by rw [List.length_map]
  have hiff0 := chanOk_iff p x
  obtain ⟨X, hX⟩ : ∃ X, X = chanOk p x := ⟨_, rfl⟩
  rw [← hX] at hiff0 ⊢
  clear hX
  have hiff : X = true ↔ ChF p x := hiff0
  clear hiff0
  refine PC_of_VC tabOk (draw_ok mixed tabOk) fn_r07Chan rfl ?_
  repeat' ((conv => whnf); first | with_reducible refine zor ?_ | ((with_reducible refine fk (fun hc => ?_) fun hc => ?_) <;> first | exact absurd hc (by decide) | (exfalso; simp only [*, reduceCtorEq] at hc; done) | skip) | ((rewrite [eI])) | ((refine ⟨_, hr, ?_⟩)) | ((with_reducible apply And.intro); focus (first | rfl | exact znb rfl | omega | (simp only [zlc, zln, zlm, zla]; omega))))
  refine Or.inr ⟨PLift (Hd (x.epoch ≤ 4611686018427387903 ∧ x.renewed ≤ 4611686018427387903 ∧ x.first ≤ 4611686018427387903 ∧ x.ledgers.length ≤ 8 ∧ x.cursors.length ≤ 3)), fun _ => ⟨[(1, .pv (ii n)), (2, .ptr 1002 0), (5, .ptr 1005 0)], 1000000000, [(1002, .var (p.c.map .pv)), (1005, .var (x.c.map .pv))]⟩, ?_, fun ⟨G1⟩ => ?_⟩
  · repeat' ((conv => whnf)
             first
             | with_reducible refine zol ?_
             | ((with_reducible refine fk (fun hc => ?_) fun hc => ?_) <;> first | exact absurd hc (by decide) | (exfalso; simp only [*, reduceCtorEq, Bool.not_true, Bool.not_false] at hc; done) | simp only [Bool.not_eq_true', Bool.not_eq_false'] at hc | skip)
             | rewrite [eN]
             | rewrite [eC]
             | ((with_reducible apply And.intro); focus (first | rfl | exact znb rfl | omega | (simp only [zlc, zln, zlm, zla]; omega))))
    all_goals first
      | (have hXf : X = false := bool_of hiff (fun F => by have a1 := F.e1; have a2 := F.e2; have a3 := F.e3; have a4 := F.len; have a5 := F.k0; simp only [decide_eq_true_eq, decide_eq_false_iff_not, Bool.not_eq_true', Bool.not_eq_false', beq_iff_eq, bne_iff_ne, ne_eq, bne_eq_false_iff_eq, beq_eq_false_iff_ne, List.length_map, Classical.not_not] at *; omega); clear hiff; subst hXf; (repeat' first | (with_reducible first | exact ⟨⟩ | exact rfl | exact lr _) | ((conv => whnf); with_reducible first | apply And.intro | exact ⟨⟩) | exact rfl | exact fun h => h | exact lr _); (all_goals try (conv => whnf)); done)
      | (refine ⟨⟨⟨by simp only [decide_eq_true_eq, decide_eq_false_iff_not, Bool.not_eq_true', Bool.not_eq_false', beq_iff_eq, bne_iff_ne, ne_eq, bne_eq_false_iff_eq, beq_eq_false_iff_ne, List.length_map, Classical.not_not] at *; omega⟩⟩, ent_of ?_⟩; (repeat' first | (with_reducible first | exact ⟨⟩ | exact rfl | exact lr _) | ((conv => whnf); with_reducible first | apply And.intro | exact ⟨⟩) | exact rfl | exact fun h => h | exact lr _); (all_goals try (conv => whnf)); done)
  refine Or.inr ⟨PLift (Hd (x.epoch = 0 → x.owner = 0 ∧ x.inc = 0 ∧ x.ledgers.length = 0)), fun _ => ⟨[(1, .pv (ii n)), (2, .ptr 1002 0), (5, .ptr 1005 0)], 1000000000, [(1002, .var (p.c.map .pv)), (1005, .var (x.c.map .pv))]⟩, ?_, fun ⟨G2⟩ => ?_⟩
  · repeat' ((conv => whnf)
             first
             | with_reducible refine zol ?_
             | ((with_reducible refine fk (fun hc => ?_) fun hc => ?_) <;> first | exact absurd hc (by decide) | (exfalso; simp only [*, reduceCtorEq, Bool.not_true, Bool.not_false] at hc; done) | simp only [Bool.not_eq_true', Bool.not_eq_false'] at hc | skip)
             | rewrite [eN]
             | ((with_reducible apply And.intro); focus (first | rfl | exact znb rfl | omega | (simp only [zlc, zln, zlm, zla]; omega))))
    all_goals first
      | (have hXf : X = false := bool_of hiff (fun F => by have a1 := F.o0; simp only [decide_eq_true_eq, decide_eq_false_iff_not, Bool.not_eq_true', Bool.not_eq_false', beq_iff_eq, bne_iff_ne, ne_eq, bne_eq_false_iff_eq, beq_eq_false_iff_ne, List.length_map, Classical.not_not] at *; omega); clear hiff; subst hXf; (repeat' first | (with_reducible first | exact ⟨⟩ | exact rfl | exact lr _) | ((conv => whnf); with_reducible first | apply And.intro | exact ⟨⟩) | exact rfl | exact fun h => h | exact lr _); (all_goals try (conv => whnf)); done)
      | (refine ⟨⟨⟨by simp only [decide_eq_true_eq, decide_eq_false_iff_not, Bool.not_eq_true', Bool.not_eq_false', beq_iff_eq, bne_iff_ne, ne_eq, bne_eq_false_iff_eq, beq_eq_false_iff_ne, List.length_map, Classical.not_not] at *; omega⟩⟩, ent_of ?_⟩; (repeat' first | (with_reducible first | exact ⟨⟩ | exact rfl | exact lr _) | ((conv => whnf); with_reducible first | apply And.intro | exact ⟨⟩) | exact rfl | exact fun h => h | exact lr _); (all_goals try (conv => whnf)); done)
  refine Or.inr ⟨PLift (Hd (x.epoch ≠ 0 → 1 ≤ x.owner ∧ x.owner ≤ 15 ∧ 1 ≤ x.inc ∧ x.inc ≤ 4611686018427387903)), fun _ => ⟨[(1, .pv (ii n)), (2, .ptr 1002 0), (5, .ptr 1005 0)], 1000000000, [(1002, .var (p.c.map .pv)), (1005, .var (x.c.map .pv))]⟩, ?_, fun ⟨G3⟩ => ?_⟩
  · repeat' ((conv => whnf)
             first
             | with_reducible refine zol ?_
             | ((with_reducible refine fk (fun hc => ?_) fun hc => ?_) <;> first | exact absurd hc (by decide) | (exfalso; simp only [*, reduceCtorEq, Bool.not_true, Bool.not_false] at hc; done) | simp only [Bool.not_eq_true', Bool.not_eq_false'] at hc | skip)
             | rewrite [eN]
             | ((with_reducible apply And.intro); focus (first | rfl | exact znb rfl | omega | (simp only [zlc, zln, zlm, zla]; omega))))
    all_goals first
      | (have hXf : X = false := bool_of hiff (fun F => by have a1 := F.o1; simp only [decide_eq_true_eq, decide_eq_false_iff_not, Bool.not_eq_true', Bool.not_eq_false', beq_iff_eq, bne_iff_ne, ne_eq, bne_eq_false_iff_eq, beq_eq_false_iff_ne, List.length_map, Classical.not_not] at *; omega); clear hiff; subst hXf; (repeat' first | (with_reducible first | exact ⟨⟩ | exact rfl | exact lr _) | ((conv => whnf); with_reducible first | apply And.intro | exact ⟨⟩) | exact rfl | exact fun h => h | exact lr _); (all_goals try (conv => whnf)); done)
      | (refine ⟨⟨⟨by simp only [decide_eq_true_eq, decide_eq_false_iff_not, Bool.not_eq_true', Bool.not_eq_false', beq_iff_eq, bne_iff_ne, ne_eq, bne_eq_false_iff_eq, beq_eq_false_iff_ne, List.length_map, Classical.not_not] at *; omega⟩⟩, ent_of ?_⟩; (repeat' first | (with_reducible first | exact ⟨⟩ | exact rfl | exact lr _) | ((conv => whnf); with_reducible first | apply And.intro | exact ⟨⟩) | exact rfl | exact fun h => h | exact lr _); (all_goals try (conv => whnf)); done)
  refine Or.inr ⟨PLift (Hd (∀ i (hi : i < x.ledgers.length), (findP p x.ledgers[i]).isSome = true ∧ ((findL p x.ledgers[i]).closed = 0 → i + 1 = x.ledgers.length)) ∧ Hd (∀ i (h : i + 1 < x.ledgers.length), x.ledgers[i] < x.ledgers[i + 1])), fun _ => ⟨[(1, .pv (ii n)), (2, .ptr 1002 0), (5, .ptr 1005 0)], 1000000000, [(1002, .var (p.c.map .pv)), (1005, .var (x.c.map .pv))]⟩, ?_, fun ⟨G4, G5⟩ => ?_⟩
  · repeat' ((conv => whnf)
             first
             | with_reducible refine zol ?_
             | ((with_reducible refine fk (fun hc => ?_) fun hc => ?_) <;> first | exact absurd hc (by decide) | (exfalso; simp only [*, reduceCtorEq, Bool.not_true, Bool.not_false] at hc; done) | skip)
             | ((with_reducible apply And.intro); focus (first | rfl | exact znb rfl | omega | (simp only [zlc, zln, zlm, zla]; omega))))
    refine ⟨{k : Nat // k ≤ x.ledgers.length ∧ (∀ j (hj : j < x.ledgers.length), j < k → (findP p x.ledgers[j]).isSome = true ∧ ((findL p x.ledgers[j]).closed = 0 → j + 1 = x.ledgers.length)) ∧ ∀ j (hj : j + 1 < x.ledgers.length), j + 1 < k → x.ledgers[j] < x.ledgers[j + 1]}, fun ⟨k, _⟩ => ⟨[(1, .pv (ii n)), (2, .ptr 1002 0), (5, .ptr 1005 0), (6, .pv (ii k))], 1000000000, [(1002, .var (p.c.map .pv)), (1005, .var (x.c.map .pv))]⟩, fun ⟨k, _⟩ => x.ledgers.length - k, ⟨⟨0, by simp⟩, ent_of ?_⟩, ?_⟩
    · repeat' first
        | fail
        | with_reducible exact True.intro
        | with_reducible exact rfl
        | with_reducible exact leRs_refl _
        | ((conv => whnf); with_reducible apply And.intro)
        | ((conv => whnf); with_reducible exact True.intro)
        | exact rfl
        | exact fun h => h
        | exact leRs_refl _
      all_goals try (conv => whnf)
    rintro ⟨k, hk, hq1, hq2⟩
    by_cases hlt : k < x.ledgers.length
    · have d0 : decide ((k : Int) < (x.ledgers.length : Int)) = true := by simp only [zdt]; omega
      have eW : IntKind.i64.wrap ((k : Int) + 1) = ((k + 1 : Nat) : Int) := by rw [wrapI (by omega) (by omega)]; omega
      have r1 := rowK uRow x.ledgers k hlt
      have cF := r07Find_c p x.ledgers[k] hbl
      have hb1 : (findP p x.ledgers[k]).isSome = false → X = false := fun e => bool_of hiff fun F => by rw [(F.leds k hlt).1] at e; cases e
      have hb2 : ∀ m (hm : m + 1 = k), ¬ x.ledgers[m]'(by omega) < x.ledgers[k] → X = false := fun m hm e => bool_of hiff fun F => by subst hm; exact e (F.rise m hlt)
      have hb3 : k + 1 < x.ledgers.length → (findL p x.ledgers[k]).closed = 0 → X = false := fun h1 h2 => bool_of hiff fun F => by have := (F.leds k hlt).2 h2; omega
      have hgd : (findP p x.ledgers[k]).isSome = true → (∀ m (hm : m + 1 = k), x.ledgers[m]'(by omega) < x.ledgers[k]) → (k + 1 < x.ledgers.length → (findL p x.ledgers[k]).closed ≠ 0) →
          (∀ j (hj : j < x.ledgers.length), j < k + 1 → (findP p x.ledgers[j]).isSome = true ∧ ((findL p x.ledgers[j]).closed = 0 → j + 1 = x.ledgers.length)) ∧ ∀ j (hj : j + 1 < x.ledgers.length), j + 1 < k + 1 → x.ledgers[j] < x.ledgers[j + 1] := by
        intro h1 h2 h3
        refine ⟨fun j hj hjk => ?_, fun j hj hjk => ?_⟩
        · rcases Nat.lt_succ_iff_lt_or_eq.1 hjk with hj' | rfl
          · exact hq1 j hj hj'
          · exact ⟨h1, fun e => (Nat.lt_or_ge (j + 1) x.ledgers.length).elim (fun hl => absurd e (h3 hl)) (fun hl => by omega)⟩
        · rcases Nat.lt_succ_iff_lt_or_eq.1 hjk with hj' | rfl
          · exact hq2 j hj hj'
          · exact h2 j rfl
      clear cE cO
      rcases fixP_cases p x.ledgers[k] with ⟨e1, e2⟩ | ⟨j, hj, e1, e2⟩
      · rw [e1] at cF
        have hXf := hb1 (by rw [e2]; rfl)
        clear hb1 hb2 hb3 hgd hiff e1 e2
        subst hXf
        repeat' ((conv => whnf); first | with_reducible refine zol ?_ | ((with_reducible refine fk (fun hc => ?_) fun hc => ?_) <;> first | exact absurd hc (by decide) | (exfalso; simp only [*, reduceCtorEq, Bool.not_true, Bool.not_false] at hc; done) | skip) | rewrite [eN] | ((refine ⟨_, r1, ?_⟩)) | (refine zll ?_; (conv => whnf); refine ⟨_, cF, ?_⟩) | ((with_reducible apply And.intro); focus (first | rfl | exact znb rfl | omega | (simp only [zlc, zln, zlm, zla]; omega))))
        repeat' first | (with_reducible first | exact ⟨⟩ | exact rfl | exact lr _) | ((conv => whnf); with_reducible first | apply And.intro | exact ⟨⟩) | exact rfl | exact fun h => h | exact lr _
        all_goals try (conv => whnf)
      · have hz : findL p x.ledgers[k] = p.ledgers[j] := by unfold findL; rw [e2]; rfl
        rw [e1] at cF
        rw [hz] at hb3 hgd
        rw [e2] at hgd
        have r2 := rowK Lg.c p.ledgers j hj
        have d3 : decide ((j : Int) < 0) = false := by simp only [zdf]; omega
        clear hb1 e1 e2 hz
        obtain ⟨l, hl⟩ : ∃ l, l = p.ledgers[j] := ⟨_, rfl⟩
        rw [← hl] at r2 hb3 hgd
        clear hl
        have hgd := hgd rfl
        rcases Nat.eq_zero_or_pos k with hk0 | hk0
        · have d4 : decide ((k : Int) > 0) = false := by simp only [zdf]; omega
          have hgd := hgd (fun m hm => by omega)
          clear hb2 hk0
          cases d5 : decide (((k + 1 : Nat) : Int) < (x.ledgers.length : Int)) with
          | true =>
            have hlt2 : k + 1 < x.ledgers.length := by simp only [zdt] at d5; omega
            cases d6 : (l.closed == 0) with
            | true =>
              have hXf := hb3 hlt2 (by simpa using d6)
              clear hb3 hgd hiff hlt2
              subst hXf
              repeat' ((conv => whnf); first | with_reducible refine zol ?_ | ((with_reducible refine fk (fun hc => ?_) fun hc => ?_) <;> first | exact absurd hc (by decide) | (exfalso; simp only [*, reduceCtorEq, Bool.not_true, Bool.not_false] at hc; done) | skip) | rewrite [eW] | rewrite [eN] | ((refine ⟨_, r1, ?_⟩)) | (refine zll ?_; (conv => whnf); refine ⟨_, cF, ?_⟩) | ((refine ⟨_, r2, ?_⟩)) | ((with_reducible apply And.intro); focus (first | rfl | exact znb rfl | omega | (simp only [zlc, zln, zlm, zla]; omega))))
              repeat' first | (with_reducible first | exact ⟨⟩ | exact rfl | exact lr _) | ((conv => whnf); with_reducible first | apply And.intro | exact ⟨⟩) | exact rfl | exact fun h => h | exact lr _
              all_goals try (conv => whnf)
            | false =>
              have hg := hgd fun _ => by simpa using d6
              clear hb3 hgd hlt2
              repeat' ((conv => whnf); first | with_reducible refine zol ?_ | ((with_reducible refine fk (fun hc => ?_) fun hc => ?_) <;> first | exact absurd hc (by decide) | (exfalso; simp only [*, reduceCtorEq, Bool.not_true, Bool.not_false] at hc; done) | skip) | rewrite [eW] | rewrite [eN] | ((refine ⟨_, r1, ?_⟩)) | (refine zll ?_; (conv => whnf); refine ⟨_, cF, ?_⟩) | ((refine ⟨_, r2, ?_⟩)) | ((with_reducible apply And.intro); focus (first | rfl | exact znb rfl | omega | (simp only [zlc, zln, zlm, zla]; omega))))
              refine ⟨⟨k + 1, hlt, hg.1, hg.2⟩, dec_lt hlt, ent_of ?_⟩
              repeat' first | (with_reducible first | exact ⟨⟩ | exact rfl | exact lr _) | ((conv => whnf); with_reducible first | apply And.intro | exact ⟨⟩) | exact rfl | exact fun h => h | exact lr _
              all_goals try (conv => whnf)
          | false =>
            have hg := hgd fun h1 => by simp only [zdf] at d5; omega
            clear hb3 hgd
            repeat' ((conv => whnf); first | with_reducible refine zol ?_ | ((with_reducible refine fk (fun hc => ?_) fun hc => ?_) <;> first | exact absurd hc (by decide) | (exfalso; simp only [*, reduceCtorEq, Bool.not_true, Bool.not_false] at hc; done) | skip) | rewrite [eW] | rewrite [eN] | ((refine ⟨_, r1, ?_⟩)) | (refine zll ?_; (conv => whnf); refine ⟨_, cF, ?_⟩) | ((refine ⟨_, r2, ?_⟩)) | ((with_reducible apply And.intro); focus (first | rfl | exact znb rfl | omega | (simp only [zlc, zln, zlm, zla]; omega))))
            refine ⟨⟨k + 1, hlt, hg.1, hg.2⟩, dec_lt hlt, ent_of ?_⟩
            repeat' first | (with_reducible first | exact ⟨⟩ | exact rfl | exact lr _) | ((conv => whnf); with_reducible first | apply And.intro | exact ⟨⟩) | exact rfl | exact fun h => h | exact lr _
            all_goals try (conv => whnf)
        · have d4 : decide ((k : Int) > 0) = true := by simp only [zdt]; omega
          obtain ⟨m, rfl⟩ : ∃ m, k = m + 1 := ⟨k - 1, by omega⟩
          have eV : IntKind.i64.wrap (((m + 1 : Nat) : Int) - 1) = (m : Int) := by rw [wrapI (by omega) (by omega)]; omega
          have r0 := rowK uRow x.ledgers m (by omega)
          have hb2 := hb2 m rfl
          clear hk0
          cases d7 : decide (x.ledgers[m + 1] ≤ x.ledgers[m]'(by omega)) with
          | true =>
            have hXf := hb2 (by simp only [zdt] at d7; omega)
            clear hb2 hb3 hgd hiff
            subst hXf
            repeat' ((conv => whnf); first | with_reducible refine zol ?_ | ((with_reducible refine fk (fun hc => ?_) fun hc => ?_) <;> first | exact absurd hc (by decide) | (exfalso; simp only [*, reduceCtorEq, Bool.not_true, Bool.not_false] at hc; done) | skip) | rewrite [eV] | rewrite [eN] | ((refine ⟨_, r1, ?_⟩)) | ((refine ⟨by omega, _, r0, ?_⟩)) | ((refine ⟨_, r0, ?_⟩)) | (refine zll ?_; (conv => whnf); refine ⟨_, cF, ?_⟩) | ((refine ⟨_, r2, ?_⟩)) | ((with_reducible apply And.intro); focus (first | rfl | exact znb rfl | omega | (simp only [zlc, zln, zlm, zla]; omega))))
            repeat' first | (with_reducible first | exact ⟨⟩ | exact rfl | exact lr _) | ((conv => whnf); with_reducible first | apply And.intro | exact ⟨⟩) | exact rfl | exact fun h => h | exact lr _
            all_goals try (conv => whnf)
          | false =>
            have hgd := hgd (fun q hq => by obtain rfl : q = m := by omega
                                            simp only [zdf] at d7; omega)
            clear hb2
            cases d5 : decide (((m + 1 + 1 : Nat) : Int) < (x.ledgers.length : Int)) with
            | true =>
              have hlt2 : m + 1 + 1 < x.ledgers.length := by simp only [zdt] at d5; omega
              cases d6 : (l.closed == 0) with
              | true =>
                have hXf := hb3 hlt2 (by simpa using d6)
                clear hb3 hgd hiff hlt2
                subst hXf
                repeat' ((conv => whnf); first | with_reducible refine zol ?_ | ((with_reducible refine fk (fun hc => ?_) fun hc => ?_) <;> first | exact absurd hc (by decide) | (exfalso; simp only [*, reduceCtorEq, Bool.not_true, Bool.not_false] at hc; done) | skip) | rewrite [eW] | rewrite [eV] | rewrite [eN] | ((refine ⟨_, r1, ?_⟩)) | ((refine ⟨by omega, _, r0, ?_⟩)) | ((refine ⟨_, r0, ?_⟩)) | (refine zll ?_; (conv => whnf); refine ⟨_, cF, ?_⟩) | ((refine ⟨_, r2, ?_⟩)) | ((with_reducible apply And.intro); focus (first | rfl | exact znb rfl | omega | (simp only [zlc, zln, zlm, zla]; omega))))
                repeat' first | (with_reducible first | exact ⟨⟩ | exact rfl | exact lr _) | ((conv => whnf); with_reducible first | apply And.intro | exact ⟨⟩) | exact rfl | exact fun h => h | exact lr _
                all_goals try (conv => whnf)
              | false =>
                have hg := hgd fun _ => by simpa using d6
                clear hb3 hgd hlt2
                repeat' ((conv => whnf); first | with_reducible refine zol ?_ | ((with_reducible refine fk (fun hc => ?_) fun hc => ?_) <;> first | exact absurd hc (by decide) | (exfalso; simp only [*, reduceCtorEq, Bool.not_true, Bool.not_false] at hc; done) | skip) | rewrite [eW] | rewrite [eV] | rewrite [eN] | ((refine ⟨_, r1, ?_⟩)) | ((refine ⟨by omega, _, r0, ?_⟩)) | ((refine ⟨_, r0, ?_⟩)) | (refine zll ?_; (conv => whnf); refine ⟨_, cF, ?_⟩) | ((refine ⟨_, r2, ?_⟩)) | ((with_reducible apply And.intro); focus (first | rfl | exact znb rfl | omega | (simp only [zlc, zln, zlm, zla]; omega))))
                refine ⟨⟨m + 1 + 1, hlt, hg.1, hg.2⟩, dec_lt hlt, ent_of ?_⟩
                repeat' first | (with_reducible first | exact ⟨⟩ | exact rfl | exact lr _) | ((conv => whnf); with_reducible first | apply And.intro | exact ⟨⟩) | exact rfl | exact fun h => h | exact lr _
                all_goals try (conv => whnf)
            | false =>
              have hg := hgd fun h1 => by simp only [zdf] at d5; omega
              clear hb3 hgd
              repeat' ((conv => whnf); first | with_reducible refine zol ?_ | ((with_reducible refine fk (fun hc => ?_) fun hc => ?_) <;> first | exact absurd hc (by decide) | (exfalso; simp only [*, reduceCtorEq, Bool.not_true, Bool.not_false] at hc; done) | skip) | rewrite [eW] | rewrite [eV] | rewrite [eN] | ((refine ⟨_, r1, ?_⟩)) | ((refine ⟨by omega, _, r0, ?_⟩)) | ((refine ⟨_, r0, ?_⟩)) | (refine zll ?_; (conv => whnf); refine ⟨_, cF, ?_⟩) | ((refine ⟨_, r2, ?_⟩)) | ((with_reducible apply And.intro); focus (first | rfl | exact znb rfl | omega | (simp only [zlc, zln, zlm, zla]; omega))))
              refine ⟨⟨m + 1 + 1, hlt, hg.1, hg.2⟩, dec_lt hlt, ent_of ?_⟩
              repeat' first | (with_reducible first | exact ⟨⟩ | exact rfl | exact lr _) | ((conv => whnf); with_reducible first | apply And.intro | exact ⟨⟩) | exact rfl | exact fun h => h | exact lr _
              all_goals try (conv => whnf)
    have hke : k = x.ledgers.length := by omega
    subst hke
    have d0 : decide ((x.ledgers.length : Int) < (x.ledgers.length : Int)) = false := by simp
    repeat' ((conv => whnf); first | with_reducible refine zol ?_ | ((with_reducible refine fk (fun hc => ?_) fun hc => ?_) <;> first | exact absurd hc (by decide) | (exfalso; simp only [*, reduceCtorEq, Bool.not_true, Bool.not_false] at hc; done) | skip) | rewrite [eN] | ((with_reducible apply And.intro); focus (first | rfl | exact znb rfl | omega | (simp only [zlc, zln, zlm, zla]; omega))))
    refine ⟨⟨⟨fun i hi => hq1 i hi hi⟩, ⟨fun i hi => hq2 i hi hi⟩⟩, ent_of ?_⟩
    repeat' first | (with_reducible first | exact ⟨⟩ | exact rfl | exact lr _) | ((conv => whnf); with_reducible first | apply And.intro | exact ⟨⟩) | exact rfl | exact fun h => h | exact lr _
    all_goals try (conv => whnf)
  obtain ⟨m, hm⟩ : ∃ m, m = mostC p x := ⟨_, rfl⟩
  have hmh : Hd (m = mostC p x) := ⟨hm⟩
  repeat' ((conv => whnf); first | with_reducible refine zor ?_ | ((with_reducible refine fk (fun hc => ?_) fun hc => ?_) <;> first | exact absurd hc (by decide) | (exfalso; simp only [*, reduceCtorEq] at hc; done) | skip) | (refine zll ?_; (conv => whnf); refine ⟨_, cE, ?_⟩) | ((with_reducible apply And.intro); focus (first | rfl | exact znb rfl | omega | (simp only [zlc, zln, zlm, zla]; omega))))
  refine Or.inr ⟨Unit, fun _ => ⟨[(1, .pv (ii n)), (2, .ptr 1002 0), (5, .ptr 1005 0), (8, .pv (uu (endC p x))), (9, .pv (uu m))], 1000000000, [(1002, .var (p.c.map .pv)), (1005, .var (x.c.map .pv))]⟩, ?_, fun _ => ?_⟩
  · have eO := fixO_ge p x
    unfold mostC at hm
    cases ho : (openC p x).isSome with
    | true =>
      rw [ho] at eO
      rw [ho, if_pos rfl] at hm
      clear ho
      subst hm
      repeat' ((conv => whnf); first | with_reducible refine zol ?_ | ((with_reducible refine fk (fun hc => ?_) fun hc => ?_) <;> first | exact absurd hc (by decide) | (exfalso; simp only [*, reduceCtorEq, Bool.not_true, Bool.not_false] at hc; done) | skip) | (refine zll ?_; (conv => whnf); refine ⟨_, cO, ?_⟩) | ((with_reducible apply And.intro); focus (first | rfl | exact znb rfl | omega | (simp only [zlc, zln, zlm, zla]; omega))))
      refine ⟨(), ent_of ?_⟩
      repeat' first | (with_reducible first | exact ⟨⟩ | exact rfl | exact lr _) | ((conv => whnf); with_reducible first | apply And.intro | exact ⟨⟩) | exact rfl | exact fun h => h | exact lr _
      all_goals try (conv => whnf)
    | false =>
      rw [ho] at eO
      rw [ho, if_neg (by decide)] at hm
      clear ho
      subst hm
      repeat' ((conv => whnf); first | with_reducible refine zol ?_ | ((with_reducible refine fk (fun hc => ?_) fun hc => ?_) <;> first | exact absurd hc (by decide) | (exfalso; simp only [*, reduceCtorEq, Bool.not_true, Bool.not_false] at hc; done) | skip) | (refine zll ?_; (conv => whnf); refine ⟨_, cO, ?_⟩) | ((with_reducible apply And.intro); focus (first | rfl | exact znb rfl | omega | (simp only [zlc, zln, zlm, zla]; omega))))
      refine ⟨(), ent_of ?_⟩
      repeat' first | (with_reducible first | exact ⟨⟩ | exact rfl | exact lr _) | ((conv => whnf); with_reducible first | apply And.intro | exact ⟨⟩) | exact rfl | exact fun h => h | exact lr _
      all_goals try (conv => whnf)
  have eA : IntKind.u64.wrap (endC p x + 8) = addU (endC p x) 8 := rfl
  clear hm cE cO
  refine Or.inr ⟨PLift (Hd (x.first ≤ x.trim ∧ x.trim ≤ m ∧ addU (endC p x) 8 ≤ 4611686018427387903)), fun _ => ⟨[(1, .pv (ii n)), (2, .ptr 1002 0), (5, .ptr 1005 0)], 1000000000, [(1002, .var (p.c.map .pv)), (1005, .var (x.c.map .pv))]⟩, ?_, fun ⟨G6⟩ => ?_⟩
  · repeat' ((conv => whnf)
             first
             | with_reducible refine zol ?_
             | ((with_reducible refine fk (fun hc => ?_) fun hc => ?_) <;> first | exact absurd hc (by decide) | (exfalso; simp only [*, reduceCtorEq, Bool.not_true, Bool.not_false] at hc; done) | simp only [Bool.not_eq_true', Bool.not_eq_false'] at hc | skip)
             | rewrite [eA]
             | ((with_reducible apply And.intro); focus (first | rfl | exact znb rfl | omega | (simp only [zlc, zln, zlm, zla]; omega))))
    all_goals first
      | (have hXf : X = false := bool_of hiff (fun F => by have a1 := F.t1; have a2 := F.t2; have a3 := F.t3; rw [← hmh.out] at a2; simp only [decide_eq_true_eq, decide_eq_false_iff_not, Bool.not_eq_true', Bool.not_eq_false', beq_iff_eq, bne_iff_ne, ne_eq, bne_eq_false_iff_eq, beq_eq_false_iff_ne, List.length_map, Classical.not_not] at *; omega); clear hiff; subst hXf; (repeat' first | (with_reducible first | exact ⟨⟩ | exact rfl | exact lr _) | ((conv => whnf); with_reducible first | apply And.intro | exact ⟨⟩) | exact rfl | exact fun h => h | exact lr _); (all_goals try (conv => whnf)); done)
      | (refine ⟨⟨⟨by simp only [decide_eq_true_eq, decide_eq_false_iff_not, Bool.not_eq_true', Bool.not_eq_false', beq_iff_eq, bne_iff_ne, ne_eq, bne_eq_false_iff_eq, beq_eq_false_iff_ne, List.length_map, Classical.not_not] at *; omega⟩⟩, ent_of ?_⟩; (repeat' first | (with_reducible first | exact ⟨⟩ | exact rfl | exact lr _) | ((conv => whnf); with_reducible first | apply And.intro | exact ⟨⟩) | exact rfl | exact fun h => h | exact lr _); (all_goals try (conv => whnf)); done)
  clear eA
  obtain ⟨Y, hY⟩ : ∃ Y : Bool, Y = true ↔ MkF x.seen := by
    by_cases hq : MkF x.seen
    · exact ⟨true, by simp [hq]⟩
    · exact ⟨false, by simp [hq]⟩
  have cK := r07Marks_c x.seen Y hY
  cases Y with
  | false =>
    have hXf : X = false := bool_of hiff fun F => by
      have : MkF x.seen := ⟨F.s0, F.s1, fun i hi => by have a1 := F.s2 i hi; have a2 := F.s3 i hi; have a3 := F.e3; omega⟩
      exact absurd (hY.2 this) (by decide)
    clear hiff hY
    subst hXf
    repeat' ((conv => whnf); first | with_reducible refine zol ?_ | ((with_reducible refine fk (fun hc => ?_) fun hc => ?_) <;> first | exact absurd hc (by decide) | (exfalso; simp only [*, reduceCtorEq, Bool.not_true, Bool.not_false] at hc; done) | skip) | (refine zll ?_; (conv => whnf); refine ⟨_, cK, ?_⟩) | ((with_reducible apply And.intro); focus (first | rfl | exact znb rfl | omega | (simp only [zlc, zln, zlm, zla]; omega))))
    repeat' first | (with_reducible first | exact ⟨⟩ | exact rfl | exact lr _) | ((conv => whnf); with_reducible first | apply And.intro | exact ⟨⟩) | exact rfl | exact fun h => h | exact lr _
    all_goals try (conv => whnf)
  | true =>
  have G7 : Hd (MkF x.seen) := ⟨hY.1 rfl⟩
  clear hY
  repeat' ((conv => whnf); first | with_reducible refine zor ?_ | with_reducible refine zoc ?_ | with_reducible refine zos ?_ | ((with_reducible refine fk (fun hc => ?_) fun hc => ?_) <;> first | exact absurd hc (by decide) | (exfalso; simp only [*, reduceCtorEq, Bool.not_true, Bool.not_false] at hc; done) | skip) | (refine zll ?_; (conv => whnf); refine ⟨_, cK, ?_⟩) | ((with_reducible apply And.intro); focus (first | rfl | exact znb rfl | omega | (simp only [zlc, zln, zlm, zla]; omega))))
  refine ⟨{k : Nat // k ≤ x.seen.length ∧ ∀ j (hj : j < x.seen.length), j < k → x.seen[j].offset < x.first}, fun ⟨k, _⟩ => ⟨[(5, .ptr 1005 0), (10, .pv (ii k))], 1000000000, [(1005, .var (x.c.map .pv))]⟩, fun ⟨k, _⟩ => x.seen.length - k, ⟨⟨0, by simp⟩, ent_of ?_⟩, ?_⟩
  · repeat' first
      | fail
      | with_reducible exact True.intro
      | with_reducible exact rfl
      | with_reducible exact leRs_refl _
      | ((conv => whnf); with_reducible apply And.intro)
      | ((conv => whnf); with_reducible exact True.intro)
      | exact rfl
      | exact fun h => h
      | exact leRs_refl _
    all_goals try (conv => whnf)
  rintro ⟨k, hk, hq⟩
  by_cases hlt : k < x.seen.length
  · have d0 : decide ((k : Int) < (x.seen.length : Int)) = true := by simp only [zdt]; omega
    have eW : IntKind.i64.wrap ((k : Int) + 1) = ((k + 1 : Nat) : Int) := by rw [wrapI (by omega) (by omega)]; omega
    have r1 := rowK Mk.c x.seen k hlt
    cases d1 : decide (x.seen[k].offset ≥ x.first) with
    | true =>
      have hXf : X = false := bool_of hiff fun F => by have := F.s3 k hlt; simp only [zdt] at d1; omega
      clear hiff
      subst hXf
      repeat' ((conv => whnf); first | with_reducible refine zol ?_ | ((with_reducible refine fk (fun hc => ?_) fun hc => ?_) <;> first | exact absurd hc (by decide) | (exfalso; simp only [*, reduceCtorEq, Bool.not_true, Bool.not_false] at hc; done) | skip) | rewrite [eM] | ((refine ⟨_, r1, ?_⟩)) | ((with_reducible apply And.intro); focus (first | rfl | exact znb rfl | omega | (simp only [zlc, zln, zlm, zla]; omega))))
      repeat' first | (with_reducible first | exact ⟨⟩ | exact rfl | exact lr _) | ((conv => whnf); with_reducible first | apply And.intro | exact ⟨⟩) | exact rfl | exact fun h => h | exact lr _
      all_goals try (conv => whnf)
    | false =>
      have hg : ∀ j (hj : j < x.seen.length), j < k + 1 → x.seen[j].offset < x.first := step_lt hq fun _ => by simp only [zdf] at d1; omega
      repeat' ((conv => whnf); first | with_reducible refine zol ?_ | ((with_reducible refine fk (fun hc => ?_) fun hc => ?_) <;> first | exact absurd hc (by decide) | (exfalso; simp only [*, reduceCtorEq, Bool.not_true, Bool.not_false] at hc; done) | skip) | rewrite [eM] | ((refine ⟨_, r1, ?_⟩)) | ((with_reducible apply And.intro); focus (first | rfl | exact znb rfl | omega | (simp only [zlc, zln, zlm, zla]; omega))))
      refine ⟨⟨k + 1, hlt, hg⟩, dec_lt hlt, ent_of ?_⟩
      repeat' first | (with_reducible first | exact ⟨⟩ | exact rfl | exact lr _) | ((conv => whnf); with_reducible first | apply And.intro | exact ⟨⟩) | exact rfl | exact fun h => h | exact lr _
      all_goals try (conv => whnf)
      all_goals exact eW
  have hke : k = x.seen.length := by omega
  subst hke
  have d0 : decide ((x.seen.length : Int) < (x.seen.length : Int)) = false := by simp
  have G8 : Hd (∀ i (hi : i < x.seen.length), x.seen[i].offset < x.first) := ⟨fun i hi => hq i hi hi⟩
  repeat' ((conv => whnf); first | with_reducible refine zor ?_ | with_reducible refine zoc ?_ | with_reducible refine zos ?_ | ((with_reducible refine fk (fun hc => ?_) fun hc => ?_) <;> first | exact absurd hc (by decide) | (exfalso; simp only [*, reduceCtorEq, Bool.not_true, Bool.not_false] at hc; done) | skip) | rewrite [eM] | ((with_reducible apply And.intro); focus (first | rfl | exact znb rfl | omega | (simp only [zlc, zln, zlm, zla]; omega))))
  clear d0
  refine ⟨{k : Nat // k ≤ x.cursors.length ∧ (∀ j (hj : j < x.cursors.length), j < k → 1 ≤ x.cursors[j].sub ∧ x.cursors[j].sub ≤ 3 ∧ x.cursors[j].at_ ≤ 4611686018427387903) ∧ ∀ j (hj : j + 1 < x.cursors.length), j + 1 < k → x.cursors[j].sub < x.cursors[j + 1].sub}, fun ⟨k, _⟩ => ⟨[(5, .ptr 1005 0), (11, .pv (ii k))], 1000000000, [(1005, .var (x.c.map .pv))]⟩, fun ⟨k, _⟩ => x.cursors.length - k, ⟨⟨0, by simp⟩, ent_of ?_⟩, ?_⟩
  · repeat' first
      | fail
      | with_reducible exact True.intro
      | with_reducible exact rfl
      | with_reducible exact leRs_refl _
      | ((conv => whnf); with_reducible apply And.intro)
      | ((conv => whnf); with_reducible exact True.intro)
      | exact rfl
      | exact fun h => h
      | exact leRs_refl _
    all_goals try (conv => whnf)
  rintro ⟨k, hk, hq1, hq2⟩
  by_cases hlt : k < x.cursors.length
  case neg =>
    have hke : k = x.cursors.length := by omega
    subst hke
    have d0 : decide ((x.cursors.length : Int) < (x.cursors.length : Int)) = false := by simp
    have hXt : X = true := hiff.2 (by
      obtain ⟨g1, g2, g3, g4, g5⟩ := G1.out
      obtain ⟨g6, g7, g8⟩ := G6.out
      have g9 := G7.out
      exact ⟨g1, g2, g3, G2.out, G3.out, g4, G5.out, G4.out, g6, by rw [← hmh.out]; exact g7, g8, g9.s0, g9.s1, fun i hi => by have := g9.s2 i hi; omega, G8.out, g5, fun i hi => hq1 i hi hi, fun i hi => hq2 i hi hi⟩)
    clear hiff
    subst hXt
    repeat' ((conv => whnf); first | with_reducible refine zol ?_ | ((with_reducible refine fk (fun hc => ?_) fun hc => ?_) <;> first | exact absurd hc (by decide) | (exfalso; simp only [*, reduceCtorEq, Bool.not_true, Bool.not_false] at hc; done) | skip) | rewrite [eC] | ((with_reducible apply And.intro); focus (first | rfl | exact znb rfl | omega | (simp only [zlc, zln, zlm, zla]; omega))))
    repeat' first | (with_reducible first | exact ⟨⟩ | exact rfl | exact lr _) | ((conv => whnf); with_reducible first | apply And.intro | exact ⟨⟩) | exact rfl | exact fun h => h | exact lr _
    all_goals try (conv => whnf)
  have d0 : decide ((k : Int) < (x.cursors.length : Int)) = true := by simp only [zdt]; omega
  have eW : IntKind.i64.wrap ((k : Int) + 1) = ((k + 1 : Nat) : Int) := by rw [wrapI (by omega) (by omega)]; omega
  have r1 := rowK Cu.c x.cursors k hlt
  have hb1 : ¬ (1 ≤ x.cursors[k].sub ∧ x.cursors[k].sub ≤ 3 ∧ x.cursors[k].at_ ≤ 4611686018427387903) → X = false := fun e => bool_of hiff fun F => e (F.k1 k hlt)
  have hb2 : ∀ m (hm : m + 1 = k), ¬ (x.cursors[m]'(by omega)).sub < x.cursors[k].sub → X = false := fun m hm e => bool_of hiff fun F => by subst hm; exact e (F.k2 m hlt)
  have hgd : (1 ≤ x.cursors[k].sub ∧ x.cursors[k].sub ≤ 3 ∧ x.cursors[k].at_ ≤ 4611686018427387903) → (∀ m (hm : m + 1 = k), (x.cursors[m]'(by omega)).sub < x.cursors[k].sub) →
      (∀ j (hj : j < x.cursors.length), j < k + 1 → 1 ≤ x.cursors[j].sub ∧ x.cursors[j].sub ≤ 3 ∧ x.cursors[j].at_ ≤ 4611686018427387903) ∧ ∀ j (hj : j + 1 < x.cursors.length), j + 1 < k + 1 → x.cursors[j].sub < x.cursors[j + 1].sub := by
    intro h1 h2
    refine ⟨fun j hj hjk => ?_, fun j hj hjk => ?_⟩
    · rcases Nat.lt_succ_iff_lt_or_eq.1 hjk with hj' | rfl
      · exact hq1 j hj hj'
      · exact h1
    · rcases Nat.lt_succ_iff_lt_or_eq.1 hjk with hj' | rfl
      · exact hq2 j hj hj'
      · exact h2 j rfl
  rcases Nat.eq_zero_or_pos k with hk0 | hk0
  · have d4 : decide ((k : Int) > 0) = false := by simp only [zdf]; omega
    have hgd := fun h1 => hgd h1 (fun m hm => by omega)
    clear hb2 hk0
    repeat' ((conv => whnf); first | with_reducible refine zol ?_ | ((with_reducible refine fk (fun hc => ?_) fun hc => ?_) <;> first | exact absurd hc (by decide) | (exfalso; simp only [*, reduceCtorEq, Bool.not_true, Bool.not_false] at hc; done) | simp only [Bool.not_eq_true', Bool.not_eq_false'] at hc | skip) | rewrite [eC] | ((refine ⟨_, r1, ?_⟩)) | ((with_reducible apply And.intro); focus (first | rfl | exact znb rfl | omega | (simp only [zlc, zln, zlm, zla]; omega))))
    all_goals first
      | (have hXf := hb1 (by simp only [decide_eq_true_eq, decide_eq_false_iff_not, Bool.not_eq_true', Bool.not_eq_false', beq_iff_eq, bne_iff_ne, ne_eq, bne_eq_false_iff_eq, beq_eq_false_iff_ne, List.length_map, Classical.not_not] at *; omega); clear hb1 hgd hiff; subst hXf; (repeat' first | (with_reducible first | exact ⟨⟩ | exact rfl | exact lr _) | ((conv => whnf); with_reducible first | apply And.intro | exact ⟨⟩) | exact rfl | exact fun h => h | exact lr _); (all_goals try (conv => whnf)); done)
      | (have hg := hgd (by simp only [decide_eq_true_eq, decide_eq_false_iff_not, Bool.not_eq_true', Bool.not_eq_false', beq_iff_eq, bne_iff_ne, ne_eq, bne_eq_false_iff_eq, beq_eq_false_iff_ne, List.length_map, Classical.not_not] at *; omega)
         refine ⟨⟨k + 1, hlt, hg.1, hg.2⟩, dec_lt hlt, ent_of ?_⟩
         (repeat' first | (with_reducible first | exact ⟨⟩ | exact rfl | exact lr _) | ((conv => whnf); with_reducible first | apply And.intro | exact ⟨⟩) | exact rfl | exact fun h => h | exact lr _); (all_goals try (conv => whnf))
         all_goals exact eW)
  · have d4 : decide ((k : Int) > 0) = true := by simp only [zdt]; omega
    obtain ⟨q, rfl⟩ : ∃ q, k = q + 1 := ⟨k - 1, by omega⟩
    have eV : IntKind.i64.wrap (((q + 1 : Nat) : Int) - 1) = (q : Int) := by rw [wrapI (by omega) (by omega)]; omega
    have r0 := rowK Cu.c x.cursors q (by omega)
    have hb2 := hb2 q rfl
    have hgd := fun h1 (h2 : (x.cursors[q]'(by omega)).sub < x.cursors[q + 1].sub) => hgd h1 (fun m hm => by
      obtain rfl : m = q := by omega
      exact h2)
    repeat' ((conv => whnf); first | with_reducible refine zol ?_ | ((with_reducible refine fk (fun hc => ?_) fun hc => ?_) <;> first | exact absurd hc (by decide) | (exfalso; simp only [*, reduceCtorEq, Bool.not_true, Bool.not_false] at hc; done) | simp only [Bool.not_eq_true', Bool.not_eq_false'] at hc | skip) | rewrite [eC] | rewrite [eV] | ((refine ⟨_, r1, ?_⟩)) | ((refine ⟨by omega, _, r0, ?_⟩)) | ((refine ⟨_, r0, ?_⟩)) | ((with_reducible apply And.intro); focus (first | rfl | exact znb rfl | omega | (simp only [zlc, zln, zlm, zla]; omega))))
    all_goals first
      | (have hXf := hb1 (by simp only [decide_eq_true_eq, decide_eq_false_iff_not, Bool.not_eq_true', Bool.not_eq_false', beq_iff_eq, bne_iff_ne, ne_eq, bne_eq_false_iff_eq, beq_eq_false_iff_ne, List.length_map, Classical.not_not] at *; omega); clear hb1 hb2 hgd hiff; subst hXf; (repeat' first | (with_reducible first | exact ⟨⟩ | exact rfl | exact lr _) | ((conv => whnf); with_reducible first | apply And.intro | exact ⟨⟩) | exact rfl | exact fun h => h | exact lr _); (all_goals try (conv => whnf)); done)
      | (have hXf := hb2 (by simp only [decide_eq_true_eq, decide_eq_false_iff_not, Bool.not_eq_true', Bool.not_eq_false', beq_iff_eq, bne_iff_ne, ne_eq, bne_eq_false_iff_eq, beq_eq_false_iff_ne, List.length_map, Classical.not_not] at *; omega); clear hb1 hb2 hgd hiff; subst hXf; (repeat' first | (with_reducible first | exact ⟨⟩ | exact rfl | exact lr _) | ((conv => whnf); with_reducible first | apply And.intro | exact ⟨⟩) | exact rfl | exact fun h => h | exact lr _); (all_goals try (conv => whnf)); done)
      | (have hg := hgd (by simp only [decide_eq_true_eq, decide_eq_false_iff_not, Bool.not_eq_true', Bool.not_eq_false', beq_iff_eq, bne_iff_ne, ne_eq, bne_eq_false_iff_eq, beq_eq_false_iff_ne, List.length_map, Classical.not_not] at *; omega) (by simp only [decide_eq_true_eq, decide_eq_false_iff_not, Bool.not_eq_true', Bool.not_eq_false', beq_iff_eq, bne_iff_ne, ne_eq, bne_eq_false_iff_eq, beq_eq_false_iff_ne, List.length_map, Classical.not_not] at *; omega)
         refine ⟨⟨q + 1 + 1, hlt, hg.1, hg.2⟩, dec_lt hlt, ent_of ?_⟩
         (repeat' first | (with_reducible first | exact ⟨⟩ | exact rfl | exact lr _) | ((conv => whnf); with_reducible first | apply And.intro | exact ⟨⟩) | exact rfl | exact fun h => h | exact lr _); (all_goals try (conv => whnf))
         all_goals exact eW)
end Go.Proofs.YtgblabmhgdiicaaGreat.Tb
