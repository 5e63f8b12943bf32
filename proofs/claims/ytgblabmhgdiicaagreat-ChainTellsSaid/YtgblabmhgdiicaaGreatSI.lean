/-
  Contracts of functions of the program and of the document, each for every input that its premises name.
-/
import Derived.Test.YtgblabmhgdiicaaGreatAe
import Derived.Test.YtgblabmhgdiicaaGreatSC
import Derived.Test.YtgblabmhgdiicaaGreatSD
import Derived.Test.YtgblabmhgdiicaaGreatSF
import Derived.Test.YtgblabmhgdiicaaGreatSG
import Derived.Test.YtgblabmhgdiicaaGreatSH
set_option linter.unusedSectionVars false
set_option maxRecDepth 100000
set_option maxHeartbeats 4000000
set_option linter.unusedVariables false
set_option linter.unusedSimpArgs false
open Go Go.AX Go.Sort
namespace Go.Proofs.YtgblabmhgdiicaaGreat.Tb
theorem fn_uPdq : FnOk Tryz.prog 54 Tryz.f54 := ⟨Tryz.func54, by kernel_rfl, by kernel_rfl, by kernel_rfl⟩
theorem uPdq_g : ∀ (n : Nat) (A : Array Int) (a b limit : Nat), b - a ≤ n → a ≤ b → b ≤ A.size → A.size < 4611686018427387904 → limit < 1000 → Below ltInt a b A →
    GCx Tryz.prog 54 [.slw 1 0, .pv (ii a), .pv (ii b), .pv (ii limit)] [(1, .arr 22 0 1 (uA A))] (.pv (.tup [])) [(1, .arr 22 0 1 (uA (pdq ltInt A a b limit true true)))] := by
  intro n
  induction n using Nat.strongRecOn with
  | ind n IH =>
  intro A a b limit hn hab hb hs hlim hB
  obtain ⟨X, hX⟩ : ∃ X, pdq ltInt A a b limit true true = X := ⟨_, rfl⟩
  rw [hX]
  refine GC_of_VC tabOk (draw_ok mixed tabOk) fn_uPdq rfl ?_
  repeat' ((conv => whnf); first | with_reducible refine zol ?_ | ((with_reducible refine fk (fun hc => ?_) fun hc => ?_) <;> first | exact absurd hc (by decide) | (exfalso; simp only [*, reduceCtorEq] at hc; done) | skip) | ((with_reducible apply And.intro); focus (first | rfl | exact znb rfl | omega | (simp only [zlc, zln, zlm, zla]; omega))))
  refine ⟨{p : Nat × Nat × Nat × Bool × Bool × Array Int // p.2.2.2.2.2.size = A.size ∧ pdq ltInt p.2.2.2.2.2 p.1 p.2.1 p.2.2.1 p.2.2.2.1 p.2.2.2.2.1 = X ∧ p.1 ≤ p.2.1 ∧ p.2.1 ≤ A.size ∧ p.2.1 - p.1 ≤ n ∧ p.2.2.1 < 1000 ∧ Below ltInt p.1 p.2.1 p.2.2.2.2.2}, fun ⟨(a, b, lim, wb, wp, D), _⟩ => ⟨[(0, .slw 1 0), (1, .pv (ii a)), (2, .pv (ii b)), (3, .pv (ii lim)), (8, .pv (bl wb)), (9, .pv (bl wp))], 1000000000, [(1, .arr 22 0 1 (uA D))]⟩, fun ⟨(a, b, _), _⟩ => b - a, ⟨⟨(a, b, limit, true, true, A), rfl, hX, hab, hb, hn, hlim, hB⟩, ent_of ?_⟩, ?_⟩
  · repeat' first
      | fail
      | with_reducible exact True.intro
      | with_reducible exact rfl
      | with_reducible exact leRs_refl _
      | ((conv => whnf); with_reducible apply And.intro)
      | ((conv => whnf); with_reducible exact True.intro)
      | exact rfl
      | exact fun h => h
      | exact leRs_refl _
    all_goals try (conv => whnf)
  clear hX hn hab hb hlim hB
  clear a b limit
  rintro ⟨⟨a, b, lim, wb, wp, D⟩, h1, h2, h3, h4, h5, h6, h7⟩
  simp only at h1 h2 h3 h4 h5 h6 h7
  have wl : IntKind.i64.wrap ((b : Int) - (a : Int)) = ((b - a : Nat) : Int) := by rw [wrapI (by omega) (by omega)]; omega
  by_cases h12 : b - a ≤ 12
  · have d0 : decide (((b - a : Nat) : Int) ≤ 12) = true := by simp only [zdt]; omega
    rw [pdq_small h12] at h2
    subst h2
    repeat' ((conv => whnf); first | with_reducible refine zol ?_ | ((with_reducible refine fk (fun hc => ?_) fun hc => ?_) <;> first | exact absurd hc (by decide) | (exfalso; simp only [*, reduceCtorEq] at hc; done) | skip) | rewrite [wl] | (refine zlr ?_; (conv => whnf); refine ⟨_, _, GCx_pre (uIns_g D a b h3 (by omega) (by omega)) ?_, ?_⟩; focus ((repeat' first | (with_reducible first | exact ⟨⟩ | exact rfl | exact lr _) | ((conv => whnf); with_reducible first | apply And.intro | exact ⟨⟩) | exact rfl | exact fun h => h | assumption | exact lr _); done)) | ((with_reducible apply And.intro); focus (first | rfl | exact znb rfl | omega | (simp only [zlc, zln, zlm, zla]; omega))))
    refine ⟨_, _, ⟨rfl, rfl⟩, ?_⟩
    repeat' first | (with_reducible first | exact ⟨⟩ | exact rfl | exact lr _) | ((conv => whnf); with_reducible first | apply And.intro | exact ⟨⟩) | exact rfl | exact fun h => h | exact lr _
    all_goals try (conv => whnf)
  have d0 : decide (((b - a : Nat) : Int) ≤ 12) = false := by simp only [zdf]; omega
  by_cases hl0 : lim = 0
  · have d1 : ((lim : Int) == 0) = true := by simp; omega
    rw [pdq_heap h12 hl0] at h2
    subst h2
    clear hl0
    repeat' ((conv => whnf); first | with_reducible refine zol ?_ | ((with_reducible refine fk (fun hc => ?_) fun hc => ?_) <;> first | exact absurd hc (by decide) | (exfalso; simp only [*, reduceCtorEq] at hc; done) | skip) | rewrite [wl] | (refine zlr ?_; (conv => whnf); refine ⟨_, _, GCx_pre (uHeap_g D a b (by omega) (by omega) (by omega)) ?_, ?_⟩; focus ((repeat' first | (with_reducible first | exact ⟨⟩ | exact rfl | exact lr _) | ((conv => whnf); with_reducible first | apply And.intro | exact ⟨⟩) | exact rfl | exact fun h => h | assumption | exact lr _); done)) | ((with_reducible apply And.intro); focus (first | rfl | exact znb rfl | omega | (simp only [zlc, zln, zlm, zla]; omega))))
    refine ⟨_, _, ⟨rfl, rfl⟩, ?_⟩
    repeat' first | (with_reducible first | exact ⟨⟩ | exact rfl | exact lr _) | ((conv => whnf); with_reducible first | apply And.intro | exact ⟨⟩) | exact rfl | exact fun h => h | exact lr _
    all_goals try (conv => whnf)
  have d1 : ((lim : Int) == 0) = false := by simp; omega
  obtain ⟨d1', lim', p, hh, d2', pv, hint, E, fin, R⟩ := rnd_all (wb := wb) (wp := wp) h12 hl0 (by omega) h7
  have hab : a < b := by omega
  have hle := R.le
  have hpa := R.pa
  have hpb := R.pb
  have hva := R.va
  have hvb := R.vb
  have hs1 := R.s1.trans h1
  have hs2 := R.s2.trans h1
  have hs3 := R.s3.trans h1
  have wm : IntKind.i64.wrap ((lim : Int) - 1) = ((lim - 1 : Nat) : Int) := by rw [wrapI (by omega) (by omega)]; omega
  repeat' ((conv => whnf); first | with_reducible refine zor ?_ | ((with_reducible refine fk (fun hc => ?_) fun hc => ?_) <;> first | exact absurd hc (by decide) | (exfalso; simp only [*, reduceCtorEq] at hc; done) | skip) | rewrite [wl] | ((with_reducible apply And.intro); focus (first | rfl | exact znb rfl | omega | (simp only [zlc, zln, zlm, zla]; omega))))
  refine Or.inl ?_
  repeat' ((conv => whnf); first | with_reducible refine zor ?_ | ((with_reducible refine fk (fun hc => ?_) fun hc => ?_) <;> first | exact absurd hc (by decide) | (exfalso; simp only [*, reduceCtorEq] at hc; done) | skip) | ((with_reducible apply And.intro); focus (first | rfl | exact znb rfl | omega | (simp only [zlc, zln, zlm, zla]; omega))))
  refine Or.inl ?_
  repeat' ((conv => whnf); first | with_reducible refine zor ?_ | ((with_reducible refine fk (fun hc => ?_) fun hc => ?_) <;> first | exact absurd hc (by decide) | (exfalso; simp only [*, reduceCtorEq] at hc; done) | skip) | ((with_reducible apply And.intro); focus (first | rfl | exact znb rfl | omega | (simp only [zlc, zln, zlm, zla]; omega))))
  refine Or.inr ⟨Unit, fun _ => ⟨[(0, .slw 1 0), (1, .pv (ii a)), (2, .pv (ii b)), (3, .pv (ii lim')), (8, .pv (bl wb)), (9, .pv (bl wp)), (10, .pv (ii ((b - a : Nat) : Int)))], 1000000000, [(1, .arr 22 0 1 (uA d1'))]⟩, ?_, fun _ => ?_⟩
  · cases wb with
    | true =>
      obtain ⟨e1, e2⟩ := R.bt rfl
      clear R
      subst e1 e2
      repeat' ((conv => whnf); first | with_reducible refine zor ?_ | ((with_reducible refine fk (fun hc => ?_) fun hc => ?_) <;> first | exact absurd hc (by decide) | (exfalso; simp only [*, reduceCtorEq] at hc; done) | skip) | ((with_reducible apply And.intro); focus (first | rfl | exact znb rfl | omega | (simp only [zlc, zln, zlm, zla]; omega))))
      refine ⟨(), ent_of ?_⟩
      repeat' first | (with_reducible first | exact ⟨⟩ | exact rfl | exact lr _) | ((conv => whnf); with_reducible first | apply And.intro | exact ⟨⟩) | exact rfl | exact fun h => h | exact lr _
      all_goals try (conv => whnf)
    | false =>
      obtain ⟨e1, e2⟩ := R.bf rfl
      clear R
      subst e1 e2
      repeat' ((conv => whnf); first | with_reducible refine zor ?_ | ((with_reducible refine fk (fun hc => ?_) fun hc => ?_) <;> first | exact absurd hc (by decide) | (exfalso; simp only [*, reduceCtorEq] at hc; done) | skip) | rewrite [wm] | (refine zlr ?_; (conv => whnf); refine ⟨_, _, GCx_pre (uBrk_g D a b hab (by omega) (by omega) (by omega)) ?_, ?_⟩; focus ((repeat' first | (with_reducible first | exact ⟨⟩ | exact rfl | exact lr _) | ((conv => whnf); with_reducible first | apply And.intro | exact ⟨⟩) | exact rfl | exact fun h => h | assumption | exact lr _); done)) | ((with_reducible apply And.intro); focus (first | rfl | exact znb rfl | omega | (simp only [zlc, zln, zlm, zla]; omega))))
      refine ⟨(), ent_of ?_⟩
      repeat' first | (with_reducible first | exact ⟨⟩ | exact rfl | exact lr _) | ((conv => whnf); with_reducible first | apply And.intro | exact ⟨⟩) | exact rfl | exact fun h => h | exact lr _
      all_goals try (conv => whnf)
  have cP := uPiv_g d1' a b hab (by omega) (by omega) (by omega) p hh R.c
  repeat' ((conv => whnf); first | with_reducible refine zor ?_ | ((with_reducible refine fk (fun hc => ?_) fun hc => ?_) <;> first | exact absurd hc (by decide) | (exfalso; simp only [*, reduceCtorEq] at hc; done) | skip) | (refine zlr ?_; (conv => whnf); refine ⟨_, _, GCx_pre (cP) ?_, ?_⟩; focus ((repeat' first | (with_reducible first | exact ⟨⟩ | exact rfl | exact lr _) | ((conv => whnf); with_reducible first | apply And.intro | exact ⟨⟩) | exact rfl | exact fun h => h | assumption | exact lr _); done)) | ((with_reducible apply And.intro); focus (first | rfl | exact znb rfl | omega | (simp only [zlc, zln, zlm, zla]; omega))))
  have wq : IntKind.i64.wrap (IntKind.i64.wrap ((b : Int) - 1) - IntKind.i64.wrap ((p : Int) - (a : Int))) = ((b - 1 - (p - a) : Nat) : Int) := by
    rw [wrapI (n := (b : Int) - 1) (by omega) (by omega), wrapI (n := (p : Int) - (a : Int)) (by omega) (by omega), wrapI (by omega) (by omega)]; omega
  refine Or.inr ⟨Unit, fun _ => ⟨[(0, .slw 1 0), (1, .pv (ii a)), (2, .pv (ii b)), (3, .pv (ii lim')), (8, .pv (bl wb)), (9, .pv (bl wp)), (10, .pv (ii ((b - a : Nat) : Int))), (11, .pv (ii pv)), (12, .pv (ii (hintN hint)))], 1000000000, [(1, .arr 22 0 1 (uA d2'))]⟩, ?_, fun _ => ?_⟩
  · rcases hintN_dec hh with h | h
    · obtain ⟨e1, e2, e3⟩ := R.hd h
      clear R cP
      subst e1 e2 e3 h
      have d3 : (hintN Hint.decreasing == 2) = true := rfl
      repeat' ((conv => whnf); first | with_reducible refine zor ?_ | ((with_reducible refine fk (fun hc => ?_) fun hc => ?_) <;> first | exact absurd hc (by decide) | (exfalso; simp only [*, reduceCtorEq] at hc; done) | skip) | rewrite [wq] | (refine zlr ?_; (conv => whnf); refine ⟨_, _, GCx_pre (uRev_g d1' a b hab (by omega) (by omega)) ?_, ?_⟩; focus ((repeat' first | (with_reducible first | exact ⟨⟩ | exact rfl | exact lr _) | ((conv => whnf); with_reducible first | apply And.intro | exact ⟨⟩) | exact rfl | exact fun h => h | assumption | exact lr _); done)) | ((with_reducible apply And.intro); focus (first | rfl | exact znb rfl | omega | (simp only [zlc, zln, zlm, zla]; omega))))
      refine ⟨(), ent_of ?_⟩
      repeat' first | (with_reducible first | exact ⟨⟩ | exact rfl | exact lr _) | ((conv => whnf); with_reducible first | apply And.intro | exact ⟨⟩) | exact rfl | exact fun h => h | exact lr _
      all_goals try (conv => whnf)
    · obtain ⟨e1, e2, e3⟩ := R.hn h
      clear R cP
      subst e1 e2 e3
      have d3 : (hintN hint == 2) = false := by cases hint <;> simp [hintN] at h ⊢
      repeat' ((conv => whnf); first | with_reducible refine zor ?_ | ((with_reducible refine fk (fun hc => ?_) fun hc => ?_) <;> first | exact absurd hc (by decide) | (exfalso; simp only [*, reduceCtorEq] at hc; done) | skip) | ((with_reducible apply And.intro); focus (first | rfl | exact znb rfl | omega | (simp only [zlc, zln, zlm, zla]; omega))))
      refine ⟨(), ent_of ?_⟩
      repeat' first | (with_reducible first | exact ⟨⟩ | exact rfl | exact lr _) | ((conv => whnf); with_reducible first | apply And.intro | exact ⟨⟩) | exact rfl | exact fun h => h | exact lr _
      all_goals try (conv => whnf)
  refine Or.inr ⟨PLift (fin = false), fun _ => ⟨[(0, .slw 1 0), (1, .pv (ii a)), (2, .pv (ii b)), (3, .pv (ii lim')), (8, .pv (bl wb)), (9, .pv (bl wp)), (10, .pv (ii ((b - a : Nat) : Int))), (11, .pv (ii pv))], 1000000000, [(1, .arr 22 0 1 (uA E))]⟩, ?_, fun ⟨hfin⟩ => ?_⟩
  · by_cases hy : wb = true ∧ wp = true ∧ hint = .increasing
    · obtain ⟨y1, y2, y3⟩ := hy
      have e := R.py y1 y2 y3
      have hdone := R.done
      clear R cP
      subst y1 y2 y3
      have d3 : (hintN Hint.increasing == 1) = true := rfl
      have cI := uPIns_g d2' a b hab (by omega) (by omega) E fin e
      cases fin with
      | true =>
        rw [hdone rfl] at h2
        subst h2
        repeat' ((conv => whnf); first | with_reducible refine zor ?_ | ((with_reducible refine fk (fun hc => ?_) fun hc => ?_) <;> first | exact absurd hc (by decide) | (exfalso; simp only [*, reduceCtorEq] at hc; done) | skip) | (refine zlr ?_; (conv => whnf); refine ⟨_, _, GCx_pre (cI) ?_, ?_⟩; focus ((repeat' first | (with_reducible first | exact ⟨⟩ | exact rfl | exact lr _) | ((conv => whnf); with_reducible first | apply And.intro | exact ⟨⟩) | exact rfl | exact fun h => h | assumption | exact lr _); done)) | ((with_reducible apply And.intro); focus (first | rfl | exact znb rfl | omega | (simp only [zlc, zln, zlm, zla]; omega))))
        refine ⟨_, _, ⟨rfl, rfl⟩, ?_⟩
        repeat' first | (with_reducible first | exact ⟨⟩ | exact rfl | exact lr _) | ((conv => whnf); with_reducible first | apply And.intro | exact ⟨⟩) | exact rfl | exact fun h => h | exact lr _
        all_goals try (conv => whnf)
      | false =>
        repeat' ((conv => whnf); first | with_reducible refine zor ?_ | ((with_reducible refine fk (fun hc => ?_) fun hc => ?_) <;> first | exact absurd hc (by decide) | (exfalso; simp only [*, reduceCtorEq] at hc; done) | skip) | (refine zlr ?_; (conv => whnf); refine ⟨_, _, GCx_pre (cI) ?_, ?_⟩; focus ((repeat' first | (with_reducible first | exact ⟨⟩ | exact rfl | exact lr _) | ((conv => whnf); with_reducible first | apply And.intro | exact ⟨⟩) | exact rfl | exact fun h => h | assumption | exact lr _); done)) | ((with_reducible apply And.intro); focus (first | rfl | exact znb rfl | omega | (simp only [zlc, zln, zlm, zla]; omega))))
        refine ⟨⟨rfl⟩, ent_of ?_⟩
        repeat' first | (with_reducible first | exact ⟨⟩ | exact rfl | exact lr _) | ((conv => whnf); with_reducible first | apply And.intro | exact ⟨⟩) | exact rfl | exact fun h => h | exact lr _
        all_goals try (conv => whnf)
    · obtain ⟨e1, e2⟩ := R.pn hy
      clear R cP
      subst e1 e2
      cases wb with
      | false =>
        repeat' ((conv => whnf); first | with_reducible refine zor ?_ | ((with_reducible refine fk (fun hc => ?_) fun hc => ?_) <;> first | exact absurd hc (by decide) | (exfalso; simp only [*, reduceCtorEq] at hc; done) | skip) | ((with_reducible apply And.intro); focus (first | rfl | exact znb rfl | omega | (simp only [zlc, zln, zlm, zla]; omega))))
        refine ⟨⟨rfl⟩, ent_of ?_⟩
        repeat' first | (with_reducible first | exact ⟨⟩ | exact rfl | exact lr _) | ((conv => whnf); with_reducible first | apply And.intro | exact ⟨⟩) | exact rfl | exact fun h => h | exact lr _
        all_goals try (conv => whnf)
      | true =>
        cases wp with
        | false =>
          repeat' ((conv => whnf); first | with_reducible refine zor ?_ | ((with_reducible refine fk (fun hc => ?_) fun hc => ?_) <;> first | exact absurd hc (by decide) | (exfalso; simp only [*, reduceCtorEq] at hc; done) | skip) | ((with_reducible apply And.intro); focus (first | rfl | exact znb rfl | omega | (simp only [zlc, zln, zlm, zla]; omega))))
          refine ⟨⟨rfl⟩, ent_of ?_⟩
          repeat' first | (with_reducible first | exact ⟨⟩ | exact rfl | exact lr _) | ((conv => whnf); with_reducible first | apply And.intro | exact ⟨⟩) | exact rfl | exact fun h => h | exact lr _
          all_goals try (conv => whnf)
        | true =>
          have d3 : (hintN hint == 1) = false := by cases hint <;> simp [hintN] at hy ⊢
          repeat' ((conv => whnf); first | with_reducible refine zor ?_ | ((with_reducible refine fk (fun hc => ?_) fun hc => ?_) <;> first | exact absurd hc (by decide) | (exfalso; simp only [*, reduceCtorEq] at hc; done) | skip) | ((with_reducible apply And.intro); focus (first | rfl | exact znb rfl | omega | (simp only [zlc, zln, zlm, zla]; omega))))
          refine ⟨⟨rfl⟩, ent_of ?_⟩
          repeat' first | (with_reducible first | exact ⟨⟩ | exact rfl | exact lr _) | ((conv => whnf); with_reducible first | apply And.intro | exact ⟨⟩) | exact rfl | exact fun h => h | exact lr _
          all_goals try (conv => whnf)
  clear cP wq wm d0 d1
  have wa : IntKind.i64.wrap ((a : Int) - 1) = ((a - 1 : Nat) : Int) ∨ a = 0 := by
    rcases Nat.eq_zero_or_pos a with h | h
    · exact .inr h
    · left; rw [wrapI (by omega) (by omega)]; omega
  refine Or.inr ⟨PLift (a = 0 ∨ ltInt E[a - 1]! E[pv]! = true), fun _ => ⟨[(0, .slw 1 0), (1, .pv (ii a)), (2, .pv (ii b)), (3, .pv (ii lim')), (8, .pv (bl wb)), (9, .pv (bl wp)), (10, .pv (ii ((b - a : Nat) : Int))), (11, .pv (ii pv))], 1000000000, [(1, .arr 22 0 1 (uA E))]⟩, ?_, fun ⟨hpart⟩ => ?_⟩
  · rcases wa with wa | ha0
    · by_cases ha0 : a = 0
      · have d0 : decide ((a : Int) > 0) = false := by simp only [zdf]; omega
        have hA : PLift (a = 0 ∨ ltInt E[a - 1]! E[pv]! = true) := ⟨.inl ha0⟩
        clear ha0
        repeat' ((conv => whnf); first | with_reducible refine zol ?_ | ((with_reducible refine fk (fun hc => ?_) fun hc => ?_) <;> first | exact absurd hc (by decide) | (exfalso; simp only [*, reduceCtorEq, Bool.not_true, Bool.not_false] at hc; done) | skip) | (rewrite [uA_st]) | (refine ⟨_, uA_rd _ _ (by first | omega | (simp only [Array.size_setIfInBounds, size_swp]; omega)), ?_⟩) | ((with_reducible apply And.intro); focus (simp only [List.length_set, uA_len, Array.size_setIfInBounds, size_swp]; omega)) | (refine zll ?_; (conv => whnf); refine ⟨_, uLess_c _ _, ?_⟩) | ((with_reducible apply And.intro); focus (first | rfl | exact znb rfl | omega | (simp only [zlc, zln, zlm, zla]; omega))))
        refine ⟨hA, ent_of ?_⟩
        repeat' first | (with_reducible first | exact ⟨⟩ | exact rfl | exact lr _) | ((conv => whnf); with_reducible first | apply And.intro | exact ⟨⟩) | exact rfl | exact fun h => h | exact lr _
        all_goals try (conv => whnf)
      have d0 : decide ((a : Int) > 0) = true := by simp only [zdt]; omega
      cases hl : decide (E[a - 1]! < E[pv]!) with
      | true =>
        repeat' ((conv => whnf); first | with_reducible refine zol ?_ | ((with_reducible refine fk (fun hc => ?_) fun hc => ?_) <;> first | exact absurd hc (by decide) | (exfalso; simp only [*, reduceCtorEq, Bool.not_true, Bool.not_false] at hc; done) | skip) | rewrite [wa] | (rewrite [uA_st]) | (refine ⟨_, uA_rd _ _ (by first | omega | (simp only [Array.size_setIfInBounds, size_swp]; omega)), ?_⟩) | ((with_reducible apply And.intro); focus (simp only [List.length_set, uA_len, Array.size_setIfInBounds, size_swp]; omega)) | (refine zll ?_; (conv => whnf); refine ⟨_, uLess_c _ _, ?_⟩) | ((with_reducible apply And.intro); focus (first | rfl | exact znb rfl | omega | (simp only [zlc, zln, zlm, zla]; omega))))
        refine ⟨⟨.inr hl⟩, ent_of ?_⟩
        repeat' first | (with_reducible first | exact ⟨⟩ | exact rfl | exact lr _) | ((conv => whnf); with_reducible first | apply And.intro | exact ⟨⟩) | exact rfl | exact fun h => h | exact lr _
        all_goals try (conv => whnf)
      | false =>
        obtain ⟨⟨mid, d4⟩, e⟩ : ∃ x, partitionEqual ltInt E a b pv = x := ⟨_, rfl⟩
        obtain ⟨m1, m2, m3, m4, m5⟩ := R.eq hfin (by omega) hl mid d4 e
        have cE := uPEq_g E a b pv hva hvb (by omega) (by omega) mid d4 e
        rw [m5] at h2
        clear R
        repeat' ((conv => whnf); first | with_reducible refine zol ?_ | ((with_reducible refine fk (fun hc => ?_) fun hc => ?_) <;> first | exact absurd hc (by decide) | (exfalso; simp only [*, reduceCtorEq, Bool.not_true, Bool.not_false] at hc; done) | skip) | rewrite [wa] | (rewrite [uA_st]) | (refine ⟨_, uA_rd _ _ (by first | omega | (simp only [Array.size_setIfInBounds, size_swp]; omega)), ?_⟩) | ((with_reducible apply And.intro); focus (simp only [List.length_set, uA_len, Array.size_setIfInBounds, size_swp]; omega)) | (refine zll ?_; (conv => whnf); refine ⟨_, uLess_c _ _, ?_⟩) | (refine zlr ?_; (conv => whnf); refine ⟨_, _, GCx_pre (cE) ?_, ?_⟩; focus ((repeat' first | (with_reducible first | exact ⟨⟩ | exact rfl | exact lr _) | ((conv => whnf); with_reducible first | apply And.intro | exact ⟨⟩) | exact rfl | exact fun h => h | assumption | exact lr _); done)) | ((with_reducible apply And.intro); focus (first | rfl | exact znb rfl | omega | (simp only [zlc, zln, zlm, zla]; omega))))
        refine ⟨⟨(mid, b, lim', wb, wp, d4), m3.trans h1, h2, m2, h4, by show b - mid ≤ n; omega, by show lim' < 1000; omega, m4⟩, (by show b - mid < b - a; omega), ent_of ?_⟩
        repeat' first | (with_reducible first | exact ⟨⟩ | exact rfl | exact lr _) | ((conv => whnf); with_reducible first | apply And.intro | exact ⟨⟩) | exact rfl | exact fun h => h | exact lr _
        all_goals try (conv => whnf)
    · have d0 : decide ((a : Int) > 0) = false := by simp only [zdf]; omega
      have hA : PLift (a = 0 ∨ ltInt E[a - 1]! E[pv]! = true) := ⟨.inl ha0⟩
      clear ha0
      repeat' ((conv => whnf); first | with_reducible refine zol ?_ | ((with_reducible refine fk (fun hc => ?_) fun hc => ?_) <;> first | exact absurd hc (by decide) | (exfalso; simp only [*, reduceCtorEq, Bool.not_true, Bool.not_false] at hc; done) | skip) | (rewrite [uA_st]) | (refine ⟨_, uA_rd _ _ (by first | omega | (simp only [Array.size_setIfInBounds, size_swp]; omega)), ?_⟩) | ((with_reducible apply And.intro); focus (simp only [List.length_set, uA_len, Array.size_setIfInBounds, size_swp]; omega)) | (refine zll ?_; (conv => whnf); refine ⟨_, uLess_c _ _, ?_⟩) | ((with_reducible apply And.intro); focus (first | rfl | exact znb rfl | omega | (simp only [zlc, zln, zlm, zla]; omega))))
      refine ⟨hA, ent_of ?_⟩
      repeat' first | (with_reducible first | exact ⟨⟩ | exact rfl | exact lr _) | ((conv => whnf); with_reducible first | apply And.intro | exact ⟨⟩) | exact rfl | exact fun h => h | exact lr _
      all_goals try (conv => whnf)
  clear wa
  obtain ⟨⟨mid, ap, d4⟩, e⟩ : ∃ x, partition ltInt E a b pv = x := ⟨_, rfl⟩
  obtain ⟨m1, m2, m3, m4, m5, m6, m7⟩ := R.pt hfin hpart mid ap d4 e
  have cE := uPart_g E a b pv hva hvb (by omega) (by omega) mid ap d4 e
  clear R e
  have w1 : IntKind.i64.wrap ((mid : Int) - (a : Int)) = ((mid - a : Nat) : Int) := by rw [wrapI (by omega) (by omega)]; omega
  have w2 : IntKind.i64.wrap ((b : Int) - (mid : Int)) = ((b - mid : Nat) : Int) := by rw [wrapI (by omega) (by omega)]; omega
  have w3 : IntKind.i64.wrap (Int.tdiv ((b - a : Nat) : Int) 8) = (((b - a) / 8 : Nat) : Int) := by rw [Int.tdiv_eq_ediv_of_nonneg (by omega), wrapI (by omega) (by omega)]; rfl
  have w4 : IntKind.i64.wrap ((mid : Int) + 1) = ((mid + 1 : Nat) : Int) := by rw [wrapI (by omega) (by omega)]; omega
  by_cases hlt : mid - a < b - mid
  · have d0 : decide (((mid - a : Nat) : Int) < ((b - mid : Nat) : Int)) = true := by simp only [zdt]; omega
    obtain ⟨q1, q2, q3⟩ := m6 hlt
    have w5 : decide (((mid - a : Nat) : Int) ≥ (((b - a) / 8 : Nat) : Int)) = decide (mid - a ≥ (b - a) / 8) := decide_eq_decide.2 (by omega)
    have cR := IH (mid - a) (by omega) d4 a mid lim' (Nat.le_refl _) m1 (by omega) (by omega) (by omega) m4
    rw [q3] at h2
    clear m6 m7 q3
    repeat' ((conv => whnf); first | with_reducible refine zol ?_ | ((with_reducible refine fk (fun hc => ?_) fun hc => ?_) <;> first | exact absurd hc (by decide) | (exfalso; simp only [*, reduceCtorEq] at hc; done) | skip) | rewrite [w1] | rewrite [w2] | rewrite [w3] | rewrite [w4] | rewrite [w5] | (refine zlr ?_; (conv => whnf); refine ⟨_, _, GCx_pre (cE) ?_, ?_⟩; focus ((repeat' first | (with_reducible first | exact ⟨⟩ | exact rfl | exact lr _) | ((conv => whnf); with_reducible first | apply And.intro | exact ⟨⟩) | exact rfl | exact fun h => h | assumption | exact lr _); done)) | (refine zlr ?_; (conv => whnf); refine ⟨_, _, GCx_pre (cR) ?_, ?_⟩; focus ((repeat' first | (with_reducible first | exact ⟨⟩ | exact rfl | exact lr _) | ((conv => whnf); with_reducible first | apply And.intro | exact ⟨⟩) | exact rfl | exact fun h => h | assumption | exact lr _); done)) | ((with_reducible apply And.intro); focus (first | rfl | exact znb rfl | omega | (simp only [zlc, zln, zlm, zla]; omega))))
    refine ⟨⟨(mid + 1, b, lim', decide (mid - a ≥ (b - a) / 8), ap, pdq ltInt d4 a mid lim' true true), q1.trans h1, h2, m2, h4, by show b - (mid + 1) ≤ n; omega, by show lim' < 1000; omega, q2⟩, (by show b - (mid + 1) < b - a; omega), ent_of ?_⟩
    repeat' first | (with_reducible first | exact ⟨⟩ | exact rfl | exact lr _) | ((conv => whnf); with_reducible first | apply And.intro | exact ⟨⟩) | exact rfl | exact fun h => h | exact lr _
    all_goals try (conv => whnf)
  · have d0 : decide (((mid - a : Nat) : Int) < ((b - mid : Nat) : Int)) = false := by simp only [zdf]; omega
    obtain ⟨q1, q2, q3⟩ := m7 hlt
    have w5 : decide (((b - mid : Nat) : Int) ≥ (((b - a) / 8 : Nat) : Int)) = decide (b - mid ≥ (b - a) / 8) := decide_eq_decide.2 (by omega)
    have cR := IH (b - (mid + 1)) (by omega) d4 (mid + 1) b lim' (Nat.le_refl _) m2 (by omega) (by omega) (by omega) m5
    rw [q3] at h2
    clear m6 m7 q3
    repeat' ((conv => whnf); first | with_reducible refine zol ?_ | ((with_reducible refine fk (fun hc => ?_) fun hc => ?_) <;> first | exact absurd hc (by decide) | (exfalso; simp only [*, reduceCtorEq] at hc; done) | skip) | rewrite [w1] | rewrite [w2] | rewrite [w3] | rewrite [w4] | rewrite [w5] | (refine zlr ?_; (conv => whnf); refine ⟨_, _, GCx_pre (cE) ?_, ?_⟩; focus ((repeat' first | (with_reducible first | exact ⟨⟩ | exact rfl | exact lr _) | ((conv => whnf); with_reducible first | apply And.intro | exact ⟨⟩) | exact rfl | exact fun h => h | assumption | exact lr _); done)) | (refine zlr ?_; (conv => whnf); refine ⟨_, _, GCx_pre (cR) ?_, ?_⟩; focus ((repeat' first | (with_reducible first | exact ⟨⟩ | exact rfl | exact lr _) | ((conv => whnf); with_reducible first | apply And.intro | exact ⟨⟩) | exact rfl | exact fun h => h | assumption | exact lr _); done)) | ((with_reducible apply And.intro); focus (first | rfl | exact znb rfl | omega | (simp only [zlc, zln, zlm, zla]; omega))))
    refine ⟨⟨(a, mid, lim', decide (b - mid ≥ (b - a) / 8), ap, pdq ltInt d4 (mid + 1) b lim' true true), q1.trans h1, h2, m1, by show mid ≤ A.size; omega, by show mid - a ≤ n; omega, by show lim' < 1000; omega, q2⟩, (by show mid - a < b - a; omega), ent_of ?_⟩
    repeat' first | (with_reducible first | exact ⟨⟩ | exact rfl | exact lr _) | ((conv => whnf); with_reducible first | apply And.intro | exact ⟨⟩) | exact rfl | exact fun h => h | exact lr _
    all_goals try (conv => whnf)
end Go.Proofs.YtgblabmhgdiicaaGreat.Tb
