/-
  Contracts of functions of the program and of the document, each for every input that its premises name.
-/
import Derived.Test.YtgblabmhgdiicaaGreatCU
set_option linter.unusedSectionVars false
set_option maxRecDepth 100000
set_option maxHeartbeats 4000000
set_option linter.unusedVariables false
set_option linter.unusedSimpArgs false
open Go Go.AX
namespace Go.Proofs.YtgblabmhgdiicaaGreat.Tb
structure PnI (p : Pn) : Prop where
  b : PnB p
  ch : ∀ c ∈ p.channels, 0 ≤ c.epoch ∧ (0 ≤ c.first ∧ c.first ≤ 18446744073709551615)
  lg : ∀ l ∈ p.ledgers, -9223372036854775808 ≤ l.closed ∧ l.closed ≤ 9223372036854775807 ∧ 0 ≤ l.last
theorem fn_r07May : FnOk Tryz.prog 50 Tryz.f50 := ⟨Tryz.func50, by kernel_rfl, by kernel_rfl, by kernel_rfl⟩
theorem r07May_c (p : Pn) (h : PnI p) : PCx Tryz.prog 50 [.agg p.c] (bl (mayPn p)) := by
  refine PC.le ?_
  have hb := h.b.channels
  have hbl := h.b.ledgers
  have hbp := h.b.past
  have hbn := h.b.named
  have eH : ((List.map Ch.c p.channels).length : Int) = (p.channels.length : Int) := by rw [List.length_map]
  have eL : ((List.map Lg.c p.ledgers).length : Int) = (p.ledgers.length : Int) := by rw [List.length_map]
  have eP : ((List.map Pa.c p.past).length : Int) = (p.past.length : Int) := by rw [List.length_map]
  have hiff0 := mayPn_iff p
  obtain ⟨X, hX⟩ : ∃ X, X = mayPn p := ⟨_, rfl⟩
  rw [← hX] at hiff0 ⊢
  clear hX
  have hiff : X = true ↔ MyF p := hiff0
  clear hiff0
  refine PC_of_VC tabOk (draw_ok mixed tabOk) fn_r07May rfl ?_
  repeat' ((conv => whnf); first | with_reducible refine zor ?_ | ((with_reducible refine fk (fun hc => ?_) fun hc => ?_) <;> first | exact absurd hc (by decide) | (exfalso; simp only [*, reduceCtorEq] at hc; done) | skip) | ((with_reducible apply And.intro); focus (first | rfl | exact znb rfl | omega | (simp only [zlc, zln, zlm, zla]; omega))))
  refine Or.inr ⟨PLift (Hd (p.version ≤ 4611686018427387903 ∧ 1 ≤ p.next ∧ p.next ≤ 4611686018427387904 ∧ 1 ≤ p.channels.length ∧ p.channels.length ≤ 3 ∧ p.ledgers.length ≤ 24)), fun _ => ⟨[(1, .ptr 1002 0)], 1000000000, [(1002, .var (p.c.map .pv))]⟩, ?_, fun ⟨G1⟩ => ?_⟩
  · repeat' ((conv => whnf)
             first
             | with_reducible refine zol ?_
             | ((with_reducible refine fk (fun hc => ?_) fun hc => ?_) <;> first | exact absurd hc (by decide) | (exfalso; simp only [*, reduceCtorEq, Bool.not_true, Bool.not_false] at hc; done) | simp only [Bool.not_eq_true', Bool.not_eq_false'] at hc | skip)
             | rewrite [eH]
             | rewrite [eL]
             | ((with_reducible apply And.intro); focus (first | rfl | exact znb rfl | omega | (simp only [zlc, zln, zlm, zla]; omega))))
    all_goals first
      | (have hXf : X = false := bool_of hiff (fun F => by have a1 := F.v; have a2 := F.n1; have a3 := F.n2; have a4 := F.c1; have a5 := F.c2; have a6 := F.l24; simp only [decide_eq_true_eq, decide_eq_false_iff_not, Bool.not_eq_true', Bool.not_eq_false', beq_iff_eq, bne_iff_ne, ne_eq, bne_eq_false_iff_eq, beq_eq_false_iff_ne, List.length_map, Classical.not_not] at *; omega); clear hiff; subst hXf; (repeat' first | (with_reducible first | exact ⟨⟩ | exact rfl | exact lr _) | ((conv => whnf); with_reducible first | apply And.intro | exact ⟨⟩) | exact rfl | exact fun h => h | exact lr _); (all_goals try (conv => whnf)); done)
      | (refine ⟨⟨⟨by simp only [decide_eq_true_eq, decide_eq_false_iff_not, Bool.not_eq_true', Bool.not_eq_false', beq_iff_eq, bne_iff_ne, ne_eq, bne_eq_false_iff_eq, beq_eq_false_iff_ne, List.length_map, Classical.not_not] at *; omega⟩⟩, ent_of ?_⟩; (repeat' first | (with_reducible first | exact ⟨⟩ | exact rfl | exact lr _) | ((conv => whnf); with_reducible first | apply And.intro | exact ⟨⟩) | exact rfl | exact fun h => h | exact lr _); (all_goals try (conv => whnf)); done)
  refine Or.inr ⟨PLift (Hd (∀ i (hi : i < p.ledgers.length), (mayLg p.ledgers[i] = true ∧ p.ledgers[i].id < p.next) ∧ (namedP p).count p.ledgers[i].id = 1) ∧ Hd (∀ i (h : i + 1 < p.ledgers.length), p.ledgers[i].id < p.ledgers[i + 1].id)), fun _ => ⟨[(1, .ptr 1002 0)], 1000000000, [(1002, .var (p.c.map .pv))]⟩, ?_, fun ⟨G2, G3⟩ => ?_⟩
  · repeat' ((conv => whnf)
             first
             | with_reducible refine zol ?_
             | ((with_reducible refine fk (fun hc => ?_) fun hc => ?_) <;> first | exact absurd hc (by decide) | (exfalso; simp only [*, reduceCtorEq, Bool.not_true, Bool.not_false] at hc; done) | skip)
             | ((with_reducible apply And.intro); focus (first | rfl | exact znb rfl | omega | (simp only [zlc, zln, zlm, zla]; omega))))
    refine ⟨{k : Nat // k ≤ p.ledgers.length ∧ (∀ j (hj : j < p.ledgers.length), j < k → (mayLg p.ledgers[j] = true ∧ p.ledgers[j].id < p.next) ∧ (namedP p).count p.ledgers[j].id = 1) ∧ ∀ j (hj : j + 1 < p.ledgers.length), j + 1 < k → p.ledgers[j].id < p.ledgers[j + 1].id}, fun ⟨k, _⟩ => ⟨[(1, .ptr 1002 0), (3, .pv (ii k))], 1000000000, [(1002, .var (p.c.map .pv))]⟩, fun ⟨k, _⟩ => p.ledgers.length - k, ⟨⟨0, by simp⟩, ent_of ?_⟩, ?_⟩
    · repeat' first
        | fail
        | with_reducible exact True.intro
        | with_reducible exact rfl
        | with_reducible exact leRs_refl _
        | ((conv => whnf); with_reducible apply And.intro)
        | ((conv => whnf); with_reducible exact True.intro)
        | exact rfl
        | exact fun h => h
        | exact leRs_refl _
      all_goals try (conv => whnf)
    rintro ⟨k, hk, hq1, hq2⟩
    by_cases hlt : k < p.ledgers.length
    case neg =>
      have hke : k = p.ledgers.length := by omega
      subst hke
      have d0 : decide ((p.ledgers.length : Int) < (p.ledgers.length : Int)) = false := by simp
      repeat' ((conv => whnf); first | with_reducible refine zol ?_ | ((with_reducible refine fk (fun hc => ?_) fun hc => ?_) <;> first | exact absurd hc (by decide) | (exfalso; simp only [*, reduceCtorEq, Bool.not_true, Bool.not_false] at hc; done) | skip) | rewrite [eL] | ((with_reducible apply And.intro); focus (first | rfl | exact znb rfl | omega | (simp only [zlc, zln, zlm, zla]; omega))))
      refine ⟨⟨⟨fun i hi => hq1 i hi hi⟩, ⟨fun i hi => hq2 i hi hi⟩⟩, ent_of ?_⟩
      repeat' first | (with_reducible first | exact ⟨⟩ | exact rfl | exact lr _) | ((conv => whnf); with_reducible first | apply And.intro | exact ⟨⟩) | exact rfl | exact fun h => h | exact lr _
      all_goals try (conv => whnf)
    have d0 : decide ((k : Int) < (p.ledgers.length : Int)) = true := by simp only [zdt]; omega
    have eW : IntKind.i64.wrap ((k : Int) + 1) = ((k + 1 : Nat) : Int) := by rw [wrapI (by omega) (by omega)]; omega
    have r1 := rowK Lg.c p.ledgers k hlt
    have cY := r07Ledger_c p.ledgers[k] (h.lg _ (List.getElem_mem hlt))
    have hb1 : ¬ (mayLg p.ledgers[k] = true ∧ p.ledgers[k].id < p.next) → X = false := fun e => bool_of hiff fun F => e (F.lg k hlt)
    have hb2 : ∀ m (hm : m + 1 = k), ¬ (p.ledgers[m]'(by omega)).id < p.ledgers[k].id → X = false := fun m hm e => bool_of hiff fun F => by subst hm; exact e (F.rise m hlt)
    have hb3 : ¬ (namedP p).count p.ledgers[k].id = 1 → X = false := fun e => bool_of hiff fun F => e (F.one k hlt)
    have hgd : (mayLg p.ledgers[k] = true ∧ p.ledgers[k].id < p.next) → (namedP p).count p.ledgers[k].id = 1 → (∀ m (hm : m + 1 = k), (p.ledgers[m]'(by omega)).id < p.ledgers[k].id) →
        (∀ j (hj : j < p.ledgers.length), j < k + 1 → (mayLg p.ledgers[j] = true ∧ p.ledgers[j].id < p.next) ∧ (namedP p).count p.ledgers[j].id = 1) ∧ ∀ j (hj : j + 1 < p.ledgers.length), j + 1 < k + 1 → p.ledgers[j].id < p.ledgers[j + 1].id := by
      intro h1 h2 h3
      refine ⟨fun j hj hjk => ?_, fun j hj hjk => ?_⟩
      · rcases Nat.lt_succ_iff_lt_or_eq.1 hjk with hj' | rfl
        · exact hq1 j hj hj'
        · exact ⟨h1, h2⟩
      · rcases Nat.lt_succ_iff_lt_or_eq.1 hjk with hj' | rfl
        · exact hq2 j hj hj'
        · exact h3 j rfl
    obtain ⟨Q, hQ⟩ : ∃ Q : Prop, Q = ∀ m (hm : m + 1 = k), (p.ledgers[m]'(by omega)).id < p.ledgers[k].id := ⟨_, rfl⟩
    have hb2h : Hd (¬ Q → X = false) := ⟨fun hn => Classical.byContradiction fun hx => hn (by
      rw [hQ]
      intro m hm
      exact Classical.byContradiction fun hy => hx (hb2 m hm hy))⟩
    rw [← hQ] at hgd
    obtain ⟨l, hl⟩ : ∃ l, l = p.ledgers[k] := ⟨_, rfl⟩
    have hQh : Hd (Q ↔ ∀ m (hm : m + 1 = k), (p.ledgers[m]'(by omega)).id < l.id) := ⟨by rw [hQ, hl]⟩
    rw [← hl] at r1 cY hb1 hb3 hgd
    clear hb2 hQ hl
    repeat' ((conv => whnf); first | with_reducible refine zor ?_ | with_reducible refine zoc ?_ | with_reducible refine zos ?_ | ((with_reducible refine fk (fun hc => ?_) fun hc => ?_) <;> first | exact absurd hc (by decide) | (exfalso; simp only [*, reduceCtorEq, Bool.not_true, Bool.not_false] at hc; done) | skip) | rewrite [eL] | ((with_reducible apply And.intro); focus (first | rfl | exact znb rfl | omega | (simp only [zlc, zln, zlm, zla]; omega))))
    refine Or.inl ?_
    repeat' ((conv => whnf); first | with_reducible refine zor ?_ | ((with_reducible refine fk (fun hc => ?_) fun hc => ?_) <;> first | exact absurd hc (by decide) | (exfalso; simp only [*, reduceCtorEq] at hc; done) | skip) | ((refine ⟨_, r1, ?_⟩)) | ((with_reducible apply And.intro); focus (first | rfl | exact znb rfl | omega | (simp only [zlc, zln, zlm, zla]; omega))))
    refine Or.inr ⟨PLift (Hd (mayLg l = true ∧ l.id < p.next) ∧ Hd Q), fun _ => ⟨[(1, .ptr 1002 0), (3, .pv (ii k)), (4, .ptr 1004 0)], 1000000000, [(1002, .var (p.c.map .pv)), (1004, .var (l.c.map .pv))]⟩, ?_, fun ⟨G4, G5⟩ => ?_⟩
    · cases hm : mayLg l with
      | false =>
        rw [hm] at cY
        have hXf := hb1 (by rw [hm]; rintro ⟨a, _⟩; cases a)
        clear hb1 hb2h hb3 hgd hiff hm
        subst hXf
        repeat' ((conv => whnf); first | with_reducible refine zol ?_ | ((with_reducible refine fk (fun hc => ?_) fun hc => ?_) <;> first | exact absurd hc (by decide) | (exfalso; simp only [*, reduceCtorEq, Bool.not_true, Bool.not_false] at hc; done) | skip) | (refine zll ?_; (conv => whnf); refine ⟨_, cY, ?_⟩) | ((with_reducible apply And.intro); focus (first | rfl | exact znb rfl | omega | (simp only [zlc, zln, zlm, zla]; omega))))
        repeat' first | (with_reducible first | exact ⟨⟩ | exact rfl | exact lr _) | ((conv => whnf); with_reducible first | apply And.intro | exact ⟨⟩) | exact rfl | exact fun h => h | exact lr _
        all_goals try (conv => whnf)
      | true =>
      rw [hm] at cY
      cases d1 : decide (l.id ≥ p.next) with
      | true =>
        have hXf := hb1 (by simp only [zdt] at d1; omega)
        clear hb1 hb2h hb3 hgd hiff hm
        subst hXf
        repeat' ((conv => whnf); first | with_reducible refine zol ?_ | ((with_reducible refine fk (fun hc => ?_) fun hc => ?_) <;> first | exact absurd hc (by decide) | (exfalso; simp only [*, reduceCtorEq, Bool.not_true, Bool.not_false] at hc; done) | skip) | (refine zll ?_; (conv => whnf); refine ⟨_, cY, ?_⟩) | ((with_reducible apply And.intro); focus (first | rfl | exact znb rfl | omega | (simp only [zlc, zln, zlm, zla]; omega))))
        repeat' first | (with_reducible first | exact ⟨⟩ | exact rfl | exact lr _) | ((conv => whnf); with_reducible first | apply And.intro | exact ⟨⟩) | exact rfl | exact fun h => h | exact lr _
        all_goals try (conv => whnf)
      | false =>
      have G4 : Hd (true = true ∧ l.id < p.next) := ⟨rfl, by simp only [zdf] at d1; omega⟩
      clear hm
      rcases Nat.eq_zero_or_pos k with hk0 | hk0
      · have d4 : decide ((k : Int) > 0) = false := by simp only [zdf]; omega
        have G5 : Hd Q := ⟨hQh.out.2 fun m hm => by omega⟩
        clear hk0
        repeat' ((conv => whnf); first | with_reducible refine zol ?_ | ((with_reducible refine fk (fun hc => ?_) fun hc => ?_) <;> first | exact absurd hc (by decide) | (exfalso; simp only [*, reduceCtorEq, Bool.not_true, Bool.not_false] at hc; done) | skip) | (refine zll ?_; (conv => whnf); refine ⟨_, cY, ?_⟩) | ((with_reducible apply And.intro); focus (first | rfl | exact znb rfl | omega | (simp only [zlc, zln, zlm, zla]; omega))))
        refine ⟨⟨G4, G5⟩, ent_of ?_⟩
        repeat' first | (with_reducible first | exact ⟨⟩ | exact rfl | exact lr _) | ((conv => whnf); with_reducible first | apply And.intro | exact ⟨⟩) | exact rfl | exact fun h => h | exact lr _
        all_goals try (conv => whnf)
      · have d4 : decide ((k : Int) > 0) = true := by simp only [zdt]; omega
        obtain ⟨m, rfl⟩ : ∃ m, k = m + 1 := ⟨k - 1, by omega⟩
        have eV : IntKind.i64.wrap (((m + 1 : Nat) : Int) - 1) = (m : Int) := by rw [wrapI (by omega) (by omega)]; omega
        have r0 := rowK Lg.c p.ledgers m (by omega)
        clear hk0
        cases d7 : decide (l.id ≤ (p.ledgers[m]'(by omega)).id) with
        | true =>
          have hXf := hb2h.out (fun hq => by have := hQh.out.1 hq m rfl; simp only [zdt] at d7; omega)
          clear hb1 hb2h hb3 hgd hiff
          subst hXf
          repeat' ((conv => whnf); first | with_reducible refine zol ?_ | ((with_reducible refine fk (fun hc => ?_) fun hc => ?_) <;> first | exact absurd hc (by decide) | (exfalso; simp only [*, reduceCtorEq, Bool.not_true, Bool.not_false] at hc; done) | skip) | (refine zll ?_; (conv => whnf); refine ⟨_, cY, ?_⟩) | rewrite [eV] | ((refine ⟨by omega, _, r0, ?_⟩)) | ((refine ⟨_, r0, ?_⟩)) | ((with_reducible apply And.intro); focus (first | rfl | exact znb rfl | omega | (simp only [zlc, zln, zlm, zla]; omega))))
          repeat' first | (with_reducible first | exact ⟨⟩ | exact rfl | exact lr _) | ((conv => whnf); with_reducible first | apply And.intro | exact ⟨⟩) | exact rfl | exact fun h => h | exact lr _
          all_goals try (conv => whnf)
        | false =>
          have G5 : Hd Q := ⟨hQh.out.2 fun q hq => by obtain rfl : q = m := by omega
                                                      simp only [zdf] at d7; omega⟩
          repeat' ((conv => whnf); first | with_reducible refine zol ?_ | ((with_reducible refine fk (fun hc => ?_) fun hc => ?_) <;> first | exact absurd hc (by decide) | (exfalso; simp only [*, reduceCtorEq, Bool.not_true, Bool.not_false] at hc; done) | skip) | (refine zll ?_; (conv => whnf); refine ⟨_, cY, ?_⟩) | rewrite [eV] | ((refine ⟨by omega, _, r0, ?_⟩)) | ((refine ⟨_, r0, ?_⟩)) | ((with_reducible apply And.intro); focus (first | rfl | exact znb rfl | omega | (simp only [zlc, zln, zlm, zla]; omega))))
          refine ⟨⟨G4, G5⟩, ent_of ?_⟩
          repeat' first | (with_reducible first | exact ⟨⟩ | exact rfl | exact lr _) | ((conv => whnf); with_reducible first | apply And.intro | exact ⟨⟩) | exact rfl | exact fun h => h | exact lr _
          all_goals try (conv => whnf)
    clear cY hb1 hb2h hQh
    obtain ⟨N, hN⟩ : ∃ N, N = (namedP p).count l.id := ⟨_, rfl⟩
    rw [← hN] at hb3 hgd
    have hNh : Hd (N = (namedP p).count l.id) := ⟨hN⟩
    clear hN
    repeat' ((conv => whnf); first | with_reducible refine zor ?_ | ((with_reducible refine fk (fun hc => ?_) fun hc => ?_) <;> first | exact absurd hc (by decide) | (exfalso; simp only [*, reduceCtorEq] at hc; done) | skip) | ((with_reducible apply And.intro); focus (first | rfl | exact znb rfl | omega | (simp only [zlc, zln, zlm, zla]; omega))))
    refine Or.inr ⟨Unit, fun _ => ⟨[(1, .ptr 1002 0), (3, .pv (ii k)), (5, .pv (ii N))], 1000000000, [(1002, .var (p.c.map .pv))]⟩, ?_, fun _ => ?_⟩
    · clear hb3 hgd
      repeat' ((conv => whnf); first | with_reducible refine zol ?_ | ((with_reducible refine fk (fun hc => ?_) fun hc => ?_) <;> first | exact absurd hc (by decide) | (exfalso; simp only [*, reduceCtorEq, Bool.not_true, Bool.not_false] at hc; done) | skip) | ((with_reducible apply And.intro); focus (first | rfl | exact znb rfl | omega | (simp only [zlc, zln, zlm, zla]; omega))))
      refine ⟨{a : Nat // a ≤ p.channels.length}, fun ⟨a, _⟩ => ⟨[(1, .ptr 1002 0), (3, .pv (ii k)), (4, .ptr 1004 0), (5, .pv (ii (((p.channels.take a).flatMap (·.ledgers)).count l.id : Nat))), (6, .pv (ii a))], 1000000000, [(1002, .var (p.c.map .pv)), (1004, .var (l.c.map .pv))]⟩, fun ⟨a, _⟩ => p.channels.length - a, ⟨⟨0, by simp⟩, ent_of ?_⟩, ?_⟩
      · repeat' first
          | fail
          | with_reducible exact True.intro
          | with_reducible exact rfl
          | with_reducible exact leRs_refl _
          | ((conv => whnf); with_reducible apply And.intro)
          | ((conv => whnf); with_reducible exact True.intro)
          | exact rfl
          | exact fun h => h
          | exact leRs_refl _
        all_goals try (conv => whnf)
      rintro ⟨a, ha⟩
      by_cases hla : a < p.channels.length
      case neg =>
        have hae : a = p.channels.length := by omega
        subst hae
        have d1 : decide ((p.channels.length : Int) < (p.channels.length : Int)) = false := by simp
        repeat' ((conv => whnf); first | with_reducible refine zol ?_ | ((with_reducible refine fk (fun hc => ?_) fun hc => ?_) <;> first | exact absurd hc (by decide) | (exfalso; simp only [*, reduceCtorEq, Bool.not_true, Bool.not_false] at hc; done) | skip) | rewrite [eH] | ((with_reducible apply And.intro); focus (first | rfl | exact znb rfl | omega | (simp only [zlc, zln, zlm, zla]; omega))))
        refine ⟨(), ent_of ?_⟩
        repeat' first | (with_reducible first | exact ⟨⟩ | exact rfl | exact lr _) | ((conv => whnf); with_reducible first | apply And.intro | exact ⟨⟩) | exact rfl | exact fun h => h | exact lr _
        all_goals try (conv => whnf)
        all_goals (rw [List.take_length, hNh.out]; rfl)
      have d1 : decide ((a : Int) < (p.channels.length : Int)) = true := by simp only [zdt]; omega
      have eA : IntKind.i64.wrap ((a : Int) + 1) = ((a + 1 : Nat) : Int) := by rw [wrapI (by omega) (by omega)]; omega
      have r2 := rowK Ch.c p.channels a hla
      have hbd := fun j => count_bd (a := l.id) hla j
      have hcf := count_flat (a := l.id) hla
      obtain ⟨F, hF⟩ : ∃ F, F = ((p.channels.take a).flatMap (·.ledgers)).count l.id := ⟨_, rfl⟩
      rw [← hF] at hcf
      simp only [← hF] at hbd
      have hFh : Hd (F = ((p.channels.take a).flatMap (·.ledgers)).count l.id) := ⟨hF⟩
      have hcb := (h.b.ch _ (List.getElem_mem hla)).ledgers
      obtain ⟨c, hc0⟩ : ∃ c, c = p.channels[a] := ⟨_, rfl⟩
      rw [← hc0] at r2 hcf hcb
      simp only [← hc0] at hbd
      have hcfh : Hd (((p.channels.take (a + 1)).flatMap (·.ledgers)).count l.id = F + c.ledgers.count l.id) := ⟨hcf⟩
      have eN : ((List.map uRow c.ledgers).length : Int) = (c.ledgers.length : Int) := by rw [List.length_map]
      clear hF hc0 hcf
      repeat' ((conv => whnf); first | with_reducible refine zol ?_ | ((with_reducible refine fk (fun hc => ?_) fun hc => ?_) <;> first | exact absurd hc (by decide) | (exfalso; simp only [*, reduceCtorEq, Bool.not_true, Bool.not_false] at hc; done) | skip) | rewrite [eH] | ((with_reducible apply And.intro); focus (first | rfl | exact znb rfl | omega | (simp only [zlc, zln, zlm, zla]; omega))))
      refine ⟨{j : Nat // j ≤ c.ledgers.length}, fun ⟨j, _⟩ => ⟨[(1, .ptr 1002 0), (3, .pv (ii k)), (4, .ptr 1004 0), (5, .pv (ii ((F + (c.ledgers.take j).count l.id : Nat) : Int))), (6, .pv (ii a)), (7, .pv (ii j))], 1000000000, [(1002, .var (p.c.map .pv)), (1004, .var (l.c.map .pv))]⟩, fun ⟨j, _⟩ => c.ledgers.length - j, ⟨⟨0, by simp⟩, ent_of ?_⟩, ?_⟩
      · repeat' first
          | fail
          | with_reducible exact True.intro
          | with_reducible exact rfl
          | with_reducible exact leRs_refl _
          | ((conv => whnf); with_reducible apply And.intro)
          | ((conv => whnf); with_reducible exact True.intro)
          | exact rfl
          | exact fun h => h
          | exact leRs_refl _
        all_goals try (conv => whnf)
        all_goals (rw [← hFh.out]; simp)
      rintro ⟨j, hj⟩
      by_cases hlj : j < c.ledgers.length
      case neg =>
        have hje : j = c.ledgers.length := by omega
        subst hje
        have d2 : decide ((c.ledgers.length : Int) < (c.ledgers.length : Int)) = false := by simp
        repeat' ((conv => whnf); first | with_reducible refine zol ?_ | ((with_reducible refine fk (fun hc => ?_) fun hc => ?_) <;> first | exact absurd hc (by decide) | (exfalso; simp only [*, reduceCtorEq, Bool.not_true, Bool.not_false] at hc; done) | skip) | rewrite [eN] | ((refine ⟨_, r2, ?_⟩)) | ((with_reducible apply And.intro); focus (first | rfl | exact znb rfl | omega | (simp only [zlc, zln, zlm, zla]; omega))))
        refine ⟨⟨a + 1, hla⟩, dec_lt hla, ent_of ?_⟩
        repeat' first | (with_reducible first | exact ⟨⟩ | exact rfl | exact lr _) | ((conv => whnf); with_reducible first | apply And.intro | exact ⟨⟩) | exact rfl | exact fun h => h | exact lr _
        all_goals try (conv => whnf)
        all_goals first
          | exact eA
          | (rw [hcfh.out, List.take_length])
      have d2 : decide ((j : Int) < (c.ledgers.length : Int)) = true := by simp only [zdt]; omega
      have eJ : IntKind.i64.wrap ((j : Int) + 1) = ((j + 1 : Nat) : Int) := by rw [wrapI (by omega) (by omega)]; omega
      have r3 := rowK uRow c.ledgers j hlj
      have hct := count_take (a := l.id) hlj
      have hbj := hbd j
      obtain ⟨T, hT⟩ : ∃ T, T = (c.ledgers.take j).count l.id := ⟨_, rfl⟩
      rw [← hT] at hct hbj
      have hTh : Hd (T = (c.ledgers.take j).count l.id) := ⟨hT⟩
      have eT : IntKind.i64.wrap (((F + T : Nat) : Int) + 1) = ((F + (T + 1) : Nat) : Int) := by rw [wrapI (by omega) (by omega)]; omega
      cases d3 : (c.ledgers[j] == l.id) with
      | true =>
        rw [d3, if_pos rfl] at hct
        have hcth : Hd ((c.ledgers.take (j + 1)).count l.id = T + 1) := ⟨hct⟩
        clear hct hT hbd
        repeat' ((conv => whnf); first | with_reducible refine zol ?_ | ((with_reducible refine fk (fun hc => ?_) fun hc => ?_) <;> first | exact absurd hc (by decide) | (exfalso; simp only [*, reduceCtorEq, Bool.not_true, Bool.not_false] at hc; done) | skip) | rewrite [eN] | ((refine ⟨_, r2, ?_⟩)) | ((refine ⟨_, r3, ?_⟩)) | ((with_reducible apply And.intro); focus (first | rfl | exact znb rfl | omega | (simp only [zlc, zln, zlm, zla]; omega))))
        refine ⟨⟨j + 1, hlj⟩, dec_lt hlj, ent_of ?_⟩
        repeat' first | (with_reducible first | exact ⟨⟩ | exact rfl | exact lr _) | ((conv => whnf); with_reducible first | apply And.intro | exact ⟨⟩) | exact rfl | exact fun h => h | exact lr _
        all_goals try (conv => whnf)
        all_goals first
          | exact eJ
          | (rw [← hTh.out, hcth.out]; exact eT)
      | false =>
        rw [d3, if_neg (by decide)] at hct
        have hcth : Hd ((c.ledgers.take (j + 1)).count l.id = T + 0) := ⟨hct⟩
        clear hct hT hbd
        repeat' ((conv => whnf); first | with_reducible refine zol ?_ | ((with_reducible refine fk (fun hc => ?_) fun hc => ?_) <;> first | exact absurd hc (by decide) | (exfalso; simp only [*, reduceCtorEq, Bool.not_true, Bool.not_false] at hc; done) | skip) | rewrite [eN] | ((refine ⟨_, r2, ?_⟩)) | ((refine ⟨_, r3, ?_⟩)) | ((with_reducible apply And.intro); focus (first | rfl | exact znb rfl | omega | (simp only [zlc, zln, zlm, zla]; omega))))
        refine ⟨⟨j + 1, hlj⟩, dec_lt hlj, ent_of ?_⟩
        repeat' first | (with_reducible first | exact ⟨⟩ | exact rfl | exact lr _) | ((conv => whnf); with_reducible first | apply And.intro | exact ⟨⟩) | exact rfl | exact fun h => h | exact lr _
        all_goals try (conv => whnf)
        all_goals first
          | exact eJ
          | (rw [← hTh.out, hcth.out]; rfl)
    by_cases hN1 : N = 1
    · have d1 : ((N : Int) != 1) = false := by rw [hN1]; rfl
      have hg := hgd G4.out hN1 G5.out
      clear hN1 hb3 hgd
      repeat' ((conv => whnf); first | with_reducible refine zol ?_ | ((with_reducible refine fk (fun hc => ?_) fun hc => ?_) <;> first | exact absurd hc (by decide) | (exfalso; simp only [*, reduceCtorEq, Bool.not_true, Bool.not_false] at hc; done) | skip) | ((with_reducible apply And.intro); focus (first | rfl | exact znb rfl | omega | (simp only [zlc, zln, zlm, zla]; omega))))
      refine ⟨⟨k + 1, hlt, hg.1, hg.2⟩, dec_lt hlt, ent_of ?_⟩
      repeat' first | (with_reducible first | exact ⟨⟩ | exact rfl | exact lr _) | ((conv => whnf); with_reducible first | apply And.intro | exact ⟨⟩) | exact rfl | exact fun h => h | exact lr _
      all_goals try (conv => whnf)
      all_goals exact eW
    · have d1 : ((N : Int) != 1) = true := by simp; omega
      have hXf := hb3 hN1
      clear hN1 hb3 hgd hiff
      subst hXf
      repeat' ((conv => whnf); first | with_reducible refine zol ?_ | ((with_reducible refine fk (fun hc => ?_) fun hc => ?_) <;> first | exact absurd hc (by decide) | (exfalso; simp only [*, reduceCtorEq, Bool.not_true, Bool.not_false] at hc; done) | skip) | ((with_reducible apply And.intro); focus (first | rfl | exact znb rfl | omega | (simp only [zlc, zln, zlm, zla]; omega))))
      repeat' first | (with_reducible first | exact ⟨⟩ | exact rfl | exact lr _) | ((conv => whnf); with_reducible first | apply And.intro | exact ⟨⟩) | exact rfl | exact fun h => h | exact lr _
      all_goals try (conv => whnf)
  refine Or.inr ⟨PLift (Hd (∀ i (hi : i < p.channels.length), chanOk p p.channels[i] = true)), fun _ => ⟨[(1, .ptr 1002 0)], 1000000000, [(1002, .var (p.c.map .pv))]⟩, ?_, fun ⟨G4⟩ => ?_⟩
  · repeat' ((conv => whnf)
             first
             | with_reducible refine zol ?_
             | ((with_reducible refine fk (fun hc => ?_) fun hc => ?_) <;> first | exact absurd hc (by decide) | (exfalso; simp only [*, reduceCtorEq, Bool.not_true, Bool.not_false] at hc; done) | skip)
             | ((with_reducible apply And.intro); focus (first | rfl | exact znb rfl | omega | (simp only [zlc, zln, zlm, zla]; omega))))
    refine ⟨{k : Nat // k ≤ p.channels.length ∧ ∀ j (hj : j < p.channels.length), j < k → chanOk p p.channels[j] = true}, fun ⟨k, _⟩ => ⟨[(1, .ptr 1002 0), (8, .pv (ii ((k + 1 : Nat) : Int)))], 1000000000, [(1002, .var (p.c.map .pv))]⟩, fun ⟨k, _⟩ => p.channels.length - k, ⟨⟨0, by simp⟩, ent_of ?_⟩, ?_⟩
    · repeat' first
        | fail
        | with_reducible exact True.intro
        | with_reducible exact rfl
        | with_reducible exact leRs_refl _
        | ((conv => whnf); with_reducible apply And.intro)
        | ((conv => whnf); with_reducible exact True.intro)
        | exact rfl
        | exact fun h => h
        | exact leRs_refl _
      all_goals try (conv => whnf)
    rintro ⟨k, hk, hq⟩
    by_cases hlt : k < p.channels.length
    case neg =>
      have hke : k = p.channels.length := by omega
      subst hke
      have d0 : decide (((p.channels.length + 1 : Nat) : Int) ≤ (p.channels.length : Int)) = false := by simp only [zdf]; omega
      repeat' ((conv => whnf); first | with_reducible refine zol ?_ | ((with_reducible refine fk (fun hc => ?_) fun hc => ?_) <;> first | exact absurd hc (by decide) | (exfalso; simp only [*, reduceCtorEq, Bool.not_true, Bool.not_false] at hc; done) | skip) | rewrite [eH] | ((with_reducible apply And.intro); focus (first | rfl | exact znb rfl | omega | (simp only [zlc, zln, zlm, zla]; omega))))
      refine ⟨⟨⟨fun i hi => hq i hi hi⟩⟩, ent_of ?_⟩
      repeat' first | (with_reducible first | exact ⟨⟩ | exact rfl | exact lr _) | ((conv => whnf); with_reducible first | apply And.intro | exact ⟨⟩) | exact rfl | exact fun h => h | exact lr _
      all_goals try (conv => whnf)
    have d0 : decide (((k + 1 : Nat) : Int) ≤ (p.channels.length : Int)) = true := by simp only [zdt]; omega
    have eW : IntKind.i64.wrap (((k + 1 : Nat) : Int) + 1) = ((k + 1 + 1 : Nat) : Int) := by rw [wrapI (by omega) (by omega)]; omega
    obtain ⟨q1, q2⟩ := chP_ix hlt
    have cK := r07Chan_c p ((k + 1 : Nat) : Int) h.b q1 (by rw [q2]; exact h.ch _ (List.getElem_mem hlt))
    rw [q2] at cK
    clear q1 q2
    cases hz : chanOk p p.channels[k] with
    | true =>
      rw [hz] at cK
      have hg : ∀ j (hj : j < p.channels.length), j < k + 1 → chanOk p p.channels[j] = true := step_lt hq fun _ => hz
      clear hz
      repeat' ((conv => whnf); first | with_reducible refine zol ?_ | ((with_reducible refine fk (fun hc => ?_) fun hc => ?_) <;> first | exact absurd hc (by decide) | (exfalso; simp only [*, reduceCtorEq, Bool.not_true, Bool.not_false] at hc; done) | skip) | rewrite [eH] | (refine zll ?_; (conv => whnf); refine ⟨_, cK, ?_⟩) | ((with_reducible apply And.intro); focus (first | rfl | exact znb rfl | omega | (simp only [zlc, zln, zlm, zla]; omega))))
      refine ⟨⟨k + 1, hlt, hg⟩, dec_lt hlt, ent_of ?_⟩
      repeat' first | (with_reducible first | exact ⟨⟩ | exact rfl | exact lr _) | ((conv => whnf); with_reducible first | apply And.intro | exact ⟨⟩) | exact rfl | exact fun h => h | exact lr _
      all_goals try (conv => whnf)
      all_goals exact eW
    | false =>
      rw [hz] at cK
      have hXf : X = false := bool_of hiff fun F => by have := F.ch k hlt; rw [hz] at this; cases this
      clear hz hiff
      subst hXf
      repeat' ((conv => whnf); first | with_reducible refine zol ?_ | ((with_reducible refine fk (fun hc => ?_) fun hc => ?_) <;> first | exact absurd hc (by decide) | (exfalso; simp only [*, reduceCtorEq, Bool.not_true, Bool.not_false] at hc; done) | skip) | rewrite [eH] | (refine zll ?_; (conv => whnf); refine ⟨_, cK, ?_⟩) | ((with_reducible apply And.intro); focus (first | rfl | exact znb rfl | omega | (simp only [zlc, zln, zlm, zla]; omega))))
      repeat' first | (with_reducible first | exact ⟨⟩ | exact rfl | exact lr _) | ((conv => whnf); with_reducible first | apply And.intro | exact ⟨⟩) | exact rfl | exact fun h => h | exact lr _
      all_goals try (conv => whnf)
  repeat' ((conv => whnf); first | with_reducible refine zol ?_ | ((with_reducible refine fk (fun hc => ?_) fun hc => ?_) <;> first | exact absurd hc (by decide) | (exfalso; simp only [*, reduceCtorEq, Bool.not_true, Bool.not_false] at hc; done) | skip) | ((with_reducible apply And.intro); focus (first | rfl | exact znb rfl | omega | (simp only [zlc, zln, zlm, zla]; omega))))
  refine ⟨{k : Nat // k ≤ p.past.length ∧ (∀ j (hj : j < p.past.length), j < k → pastOk p.past[j] = true) ∧ ∀ j (hj : j + 1 < p.past.length), j + 1 < k → p.past[j].who < p.past[j + 1].who}, fun ⟨k, _⟩ => ⟨[(1, .ptr 1002 0), (9, .pv (ii k))], 1000000000, [(1002, .var (p.c.map .pv))]⟩, fun ⟨k, _⟩ => p.past.length - k, ⟨⟨0, by simp⟩, ent_of ?_⟩, ?_⟩
  · repeat' first
      | fail
      | with_reducible exact True.intro
      | with_reducible exact rfl
      | with_reducible exact leRs_refl _
      | ((conv => whnf); with_reducible apply And.intro)
      | ((conv => whnf); with_reducible exact True.intro)
      | exact rfl
      | exact fun h => h
      | exact leRs_refl _
    all_goals try (conv => whnf)
  rintro ⟨k, hk, hq1, hq2⟩
  by_cases hlt : k < p.past.length
  case neg =>
    have hke : k = p.past.length := by omega
    subst hke
    have d0 : decide ((p.past.length : Int) < (p.past.length : Int)) = false := by simp
    have hXt : X = true := hiff.2 (by
      obtain ⟨g1, g2, g3, g4, g5, g6⟩ := G1.out
      exact ⟨g1, g2, g3, g4, g5, g6, fun i hi => (G2.out i hi).1, G3.out, fun i hi => (G2.out i hi).2, G4.out, fun i hi => hq1 i hi hi, fun i hi => hq2 i hi hi⟩)
    clear hiff
    subst hXt
    repeat' ((conv => whnf); first | with_reducible refine zol ?_ | ((with_reducible refine fk (fun hc => ?_) fun hc => ?_) <;> first | exact absurd hc (by decide) | (exfalso; simp only [*, reduceCtorEq, Bool.not_true, Bool.not_false] at hc; done) | skip) | rewrite [eP] | ((with_reducible apply And.intro); focus (first | rfl | exact znb rfl | omega | (simp only [zlc, zln, zlm, zla]; omega))))
    repeat' first | (with_reducible first | exact ⟨⟩ | exact rfl | exact lr _) | ((conv => whnf); with_reducible first | apply And.intro | exact ⟨⟩) | exact rfl | exact fun h => h | exact lr _
    all_goals try (conv => whnf)
  have d0 : decide ((k : Int) < (p.past.length : Int)) = true := by simp only [zdt]; omega
  have eW : IntKind.i64.wrap ((k : Int) + 1) = ((k + 1 : Nat) : Int) := by rw [wrapI (by omega) (by omega)]; omega
  have r1 := rowK Pa.c p.past k hlt
  have hb1 : ¬ pastOk p.past[k] = true → X = false := fun e => bool_of hiff fun F => e (F.p1 k hlt)
  have hb2 : ∀ m (hm : m + 1 = k), ¬ (p.past[m]'(by omega)).who < p.past[k].who → X = false := fun m hm e => bool_of hiff fun F => by subst hm; exact e (F.p2 m hlt)
  have hgd : pastOk p.past[k] = true → (∀ m (hm : m + 1 = k), (p.past[m]'(by omega)).who < p.past[k].who) →
      (∀ j (hj : j < p.past.length), j < k + 1 → pastOk p.past[j] = true) ∧ ∀ j (hj : j + 1 < p.past.length), j + 1 < k + 1 → p.past[j].who < p.past[j + 1].who := by
    intro h1 h2
    refine ⟨fun j hj hjk => ?_, fun j hj hjk => ?_⟩
    · rcases Nat.lt_succ_iff_lt_or_eq.1 hjk with hj' | rfl
      · exact hq1 j hj hj'
      · exact h1
    · rcases Nat.lt_succ_iff_lt_or_eq.1 hjk with hj' | rfl
      · exact hq2 j hj hj'
      · exact h2 j rfl
  rw [pastOk_iff] at hb1 hgd
  rcases Nat.eq_zero_or_pos k with hk0 | hk0
  · have d4 : decide ((k : Int) > 0) = false := by simp only [zdf]; omega
    have hgd := fun h1 => hgd h1 (fun m hm => by omega)
    clear hb2 hk0
    repeat' ((conv => whnf); first | with_reducible refine zol ?_ | ((with_reducible refine fk (fun hc => ?_) fun hc => ?_) <;> first | exact absurd hc (by decide) | (exfalso; simp only [*, reduceCtorEq, Bool.not_true, Bool.not_false] at hc; done) | simp only [Bool.not_eq_true', Bool.not_eq_false'] at hc | skip) | rewrite [eP] | ((refine ⟨_, r1, ?_⟩)) | ((with_reducible apply And.intro); focus (first | rfl | exact znb rfl | omega | (simp only [zlc, zln, zlm, zla]; omega))))
    all_goals first
      | (have hXf := hb1 (by simp only [decide_eq_true_eq, decide_eq_false_iff_not, Bool.not_eq_true', Bool.not_eq_false', beq_iff_eq, bne_iff_ne, ne_eq, bne_eq_false_iff_eq, beq_eq_false_iff_ne, List.length_map, Classical.not_not] at *; omega); clear hb1 hgd hiff; subst hXf; (repeat' first | (with_reducible first | exact ⟨⟩ | exact rfl | exact lr _) | ((conv => whnf); with_reducible first | apply And.intro | exact ⟨⟩) | exact rfl | exact fun h => h | exact lr _); (all_goals try (conv => whnf)); done)
      | (have hg := hgd (by simp only [decide_eq_true_eq, decide_eq_false_iff_not, Bool.not_eq_true', Bool.not_eq_false', beq_iff_eq, bne_iff_ne, ne_eq, bne_eq_false_iff_eq, beq_eq_false_iff_ne, List.length_map, Classical.not_not] at *; omega)
         refine ⟨⟨k + 1, hlt, hg.1, hg.2⟩, dec_lt hlt, ent_of ?_⟩
         (repeat' first | (with_reducible first | exact ⟨⟩ | exact rfl | exact lr _) | ((conv => whnf); with_reducible first | apply And.intro | exact ⟨⟩) | exact rfl | exact fun h => h | exact lr _); (all_goals try (conv => whnf))
         all_goals exact eW)
  · have d4 : decide ((k : Int) > 0) = true := by simp only [zdt]; omega
    obtain ⟨q, rfl⟩ : ∃ q, k = q + 1 := ⟨k - 1, by omega⟩
    have eV : IntKind.i64.wrap (((q + 1 : Nat) : Int) - 1) = (q : Int) := by rw [wrapI (by omega) (by omega)]; omega
    have r0 := rowK Pa.c p.past q (by omega)
    have hb2 := hb2 q rfl
    have hgd := fun h1 (h2 : (p.past[q]'(by omega)).who < p.past[q + 1].who) => hgd h1 (fun m hm => by
      obtain rfl : m = q := by omega
      exact h2)
    repeat' ((conv => whnf); first | with_reducible refine zol ?_ | ((with_reducible refine fk (fun hc => ?_) fun hc => ?_) <;> first | exact absurd hc (by decide) | (exfalso; simp only [*, reduceCtorEq, Bool.not_true, Bool.not_false] at hc; done) | simp only [Bool.not_eq_true', Bool.not_eq_false'] at hc | skip) | rewrite [eP] | rewrite [eV] | ((refine ⟨_, r1, ?_⟩)) | ((refine ⟨by omega, _, r0, ?_⟩)) | ((refine ⟨_, r0, ?_⟩)) | ((with_reducible apply And.intro); focus (first | rfl | exact znb rfl | omega | (simp only [zlc, zln, zlm, zla]; omega))))
    all_goals first
      | (have hXf := hb1 (by simp only [decide_eq_true_eq, decide_eq_false_iff_not, Bool.not_eq_true', Bool.not_eq_false', beq_iff_eq, bne_iff_ne, ne_eq, bne_eq_false_iff_eq, beq_eq_false_iff_ne, List.length_map, Classical.not_not] at *; omega); clear hb1 hb2 hgd hiff; subst hXf; (repeat' first | (with_reducible first | exact ⟨⟩ | exact rfl | exact lr _) | ((conv => whnf); with_reducible first | apply And.intro | exact ⟨⟩) | exact rfl | exact fun h => h | exact lr _); (all_goals try (conv => whnf)); done)
      | (have hXf := hb2 (by simp only [decide_eq_true_eq, decide_eq_false_iff_not, Bool.not_eq_true', Bool.not_eq_false', beq_iff_eq, bne_iff_ne, ne_eq, bne_eq_false_iff_eq, beq_eq_false_iff_ne, List.length_map, Classical.not_not] at *; omega); clear hb1 hb2 hgd hiff; subst hXf; (repeat' first | (with_reducible first | exact ⟨⟩ | exact rfl | exact lr _) | ((conv => whnf); with_reducible first | apply And.intro | exact ⟨⟩) | exact rfl | exact fun h => h | exact lr _); (all_goals try (conv => whnf)); done)
      | (have hg := hgd (by simp only [decide_eq_true_eq, decide_eq_false_iff_not, Bool.not_eq_true', Bool.not_eq_false', beq_iff_eq, bne_iff_ne, ne_eq, bne_eq_false_iff_eq, beq_eq_false_iff_ne, List.length_map, Classical.not_not] at *; omega) (by simp only [decide_eq_true_eq, decide_eq_false_iff_not, Bool.not_eq_true', Bool.not_eq_false', beq_iff_eq, bne_iff_ne, ne_eq, bne_eq_false_iff_eq, beq_eq_false_iff_ne, List.length_map, Classical.not_not] at *; omega)
         refine ⟨⟨q + 1 + 1, hlt, hg.1, hg.2⟩, dec_lt hlt, ent_of ?_⟩
         (repeat' first | (with_reducible first | exact ⟨⟩ | exact rfl | exact lr _) | ((conv => whnf); with_reducible first | apply And.intro | exact ⟨⟩) | exact rfl | exact fun h => h | exact lr _); (all_goals try (conv => whnf))
         all_goals exact eW)
end Go.Proofs.YtgblabmhgdiicaaGreat.Tb
