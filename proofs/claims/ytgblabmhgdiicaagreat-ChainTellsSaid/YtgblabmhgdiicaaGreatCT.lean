/-
  Contracts of functions of the program and of the document, each for every input that its premises name.
-/
import Derived.Test.YtgblabmhgdiicaaGreatCR
set_option linter.unusedSectionVars false
set_option maxRecDepth 100000
set_option maxHeartbeats 4000000
set_option linter.unusedVariables false
set_option linter.unusedSimpArgs false
open Go Go.AX
namespace Go.Proofs.YtgblabmhgdiicaaGreat.Tb
structure MkF (l : List Mk) : Prop where
  s0 : l.length ≤ 6
  s1 : l.Pairwise fun a b => a.producer < b.producer ∧ a.offset ≠ b.offset
  s2 : ∀ i (hi : i < l.length), 1 ≤ l[i].producer ∧ l[i].producer ≤ 15 ∧ 1 ≤ l[i].seq ∧ l[i].seq ≤ 4611686018427387903 ∧ l[i].offset ≤ 4611686018427387903
theorem fn_r07Marks : FnOk Tryz.prog 115 Tryz.f115 := ⟨Tryz.func115, by kernel_rfl, by kernel_rfl, by kernel_rfl⟩
theorem r07Marks_c (l : List Mk) (X : Bool) (hiff : X = true ↔ MkF l) : PCx Tryz.prog 115 [slM l] (bl X) := by
  refine PC.le ?_
  have eN : ((List.map Mk.c l).length : Int) = (l.length : Int) := by rw [List.length_map]
  by_cases h6 : l.length ≤ 6
  case neg =>
    have d0 : decide ((l.length : Int) > 6) = true := by simp only [zdt]; omega
    have hXf : X = false := bool_of hiff fun F => h6 F.s0
    clear hiff
    subst hXf
    refine PC_of_VC tabOk (draw_ok mixed tabOk) fn_r07Marks rfl ?_
    repeat' ((conv => whnf); first | with_reducible refine zol ?_ | ((with_reducible refine fk (fun hc => ?_) fun hc => ?_) <;> first | exact absurd hc (by decide) | (exfalso; simp only [*, reduceCtorEq, Bool.not_true, Bool.not_false] at hc; done) | skip) | rewrite [eN] | ((with_reducible apply And.intro); focus (first | rfl | exact znb rfl | omega | (simp only [zlc, zln, zlm, zla]; omega))))
    repeat' first | (with_reducible first | exact ⟨⟩ | exact rfl | exact lr _) | ((conv => whnf); with_reducible first | apply And.intro | exact ⟨⟩) | exact rfl | exact fun h => h | exact lr _
    all_goals try (conv => whnf)
  have d0 : decide ((l.length : Int) > 6) = false := by simp only [zdf]; omega
  refine PC_of_VC tabOk (draw_ok mixed tabOk) fn_r07Marks rfl ?_
  repeat' ((conv => whnf); first | with_reducible refine zol ?_ | ((with_reducible refine fk (fun hc => ?_) fun hc => ?_) <;> first | exact absurd hc (by decide) | (exfalso; simp only [*, reduceCtorEq, Bool.not_true, Bool.not_false] at hc; done) | skip) | rewrite [eN] | ((with_reducible apply And.intro); focus (first | rfl | exact znb rfl | omega | (simp only [zlc, zln, zlm, zla]; omega))))
  refine ⟨{k : Nat // k ≤ l.length ∧ (l.take k).Pairwise (fun a b => a.producer < b.producer ∧ a.offset ≠ b.offset) ∧ ∀ j (hj : j < l.length), j < k → 1 ≤ l[j].producer ∧ l[j].producer ≤ 15 ∧ 1 ≤ l[j].seq ∧ l[j].seq ≤ 4611686018427387903 ∧ l[j].offset ≤ 4611686018427387903}, fun ⟨k, _⟩ => ⟨[(0, .pv (slM l)), (3, .pv (ii k))], 1000000000, []⟩, fun ⟨k, _⟩ => l.length - k, ⟨⟨0, by simp⟩, ent_of ?_⟩, ?_⟩
  · repeat' first
      | fail
      | with_reducible exact True.intro
      | with_reducible exact rfl
      | with_reducible exact leRs_refl _
      | ((conv => whnf); with_reducible apply And.intro)
      | ((conv => whnf); with_reducible exact True.intro)
      | exact rfl
      | exact fun h => h
      | exact leRs_refl _
    all_goals try (conv => whnf)
  rintro ⟨k, hk, hpw, hn⟩
  by_cases hlt : k < l.length
  case neg =>
    have hke : k = l.length := by omega
    subst hke
    have d1 : decide ((l.length : Int) < (l.length : Int)) = false := by simp
    have hXt : X = true := hiff.2 ⟨h6, by rw [List.take_length] at hpw; exact hpw, fun i hi => hn i hi hi⟩
    clear hiff
    subst hXt
    repeat' ((conv => whnf); first | with_reducible refine zol ?_ | ((with_reducible refine fk (fun hc => ?_) fun hc => ?_) <;> first | exact absurd hc (by decide) | (exfalso; simp only [*, reduceCtorEq, Bool.not_true, Bool.not_false] at hc; done) | skip) | rewrite [eN] | ((with_reducible apply And.intro); focus (first | rfl | exact znb rfl | omega | (simp only [zlc, zln, zlm, zla]; omega))))
    repeat' first | (with_reducible first | exact ⟨⟩ | exact rfl | exact lr _) | ((conv => whnf); with_reducible first | apply And.intro | exact ⟨⟩) | exact rfl | exact fun h => h | exact lr _
    all_goals try (conv => whnf)
  have d1 : decide ((k : Int) < (l.length : Int)) = true := by simp only [zdt]; omega
  have eW : IntKind.i64.wrap ((k : Int) + 1) = ((k + 1 : Nat) : Int) := by rw [wrapI (by omega) (by omega)]; omega
  have r1 := rowK Mk.c l k hlt
  by_cases hok : 1 ≤ l[k].producer ∧ l[k].producer ≤ 15 ∧ 1 ≤ l[k].seq ∧ l[k].seq ≤ 4611686018427387903 ∧ l[k].offset ≤ 4611686018427387903
  case neg =>
    have hXf : X = false := bool_of hiff fun F => hok (F.s2 k hlt)
    clear hiff
    subst hXf
    obtain ⟨x, hx⟩ : ∃ x, x = l[k] := ⟨_, rfl⟩
    rw [← hx] at hok r1
    clear hx
    have hoh : Hd (¬ (1 ≤ x.producer ∧ x.producer ≤ 15 ∧ 1 ≤ x.seq ∧ x.seq ≤ 4611686018427387903 ∧ x.offset ≤ 4611686018427387903)) := ⟨hok⟩
    clear hok
    repeat' ((conv => whnf); first | with_reducible refine zol ?_ | ((with_reducible refine fk (fun hc => ?_) fun hc => ?_) <;> first | exact absurd hc (by decide) | (exfalso; simp only [*, reduceCtorEq, Bool.not_true, Bool.not_false] at hc; done) | simp only [Bool.not_eq_true', Bool.not_eq_false'] at hc | skip) | rewrite [eN] | ((refine ⟨_, r1, ?_⟩)) | ((with_reducible apply And.intro); focus (first | rfl | exact znb rfl | omega | (simp only [zlc, zln, zlm, zla]; omega))))
    all_goals first
      | ((repeat' first | (with_reducible first | exact ⟨⟩ | exact rfl | exact lr _) | ((conv => whnf); with_reducible first | apply And.intro | exact ⟨⟩) | exact rfl | exact fun h => h | exact lr _); (all_goals try (conv => whnf)); done)
      | (exfalso; have := hoh.out; simp only [decide_eq_true_eq, decide_eq_false_iff_not, Bool.not_eq_true', Bool.not_eq_false', beq_iff_eq, bne_iff_ne, ne_eq, bne_eq_false_iff_eq, beq_eq_false_iff_ne, List.length_map, Classical.not_not] at *; omega)
  have hgood : ∀ j (hj : j < l.length), j < k + 1 → 1 ≤ l[j].producer ∧ l[j].producer ≤ 15 ∧ 1 ≤ l[j].seq ∧ l[j].seq ≤ 4611686018427387903 ∧ l[j].offset ≤ 4611686018427387903 := by
    intro j hj hjk
    rcases Nat.lt_succ_iff_lt_or_eq.1 hjk with hj' | rfl
    · exact hn j hj hj'
    · exact hok
  have f1 : decide (l[k].producer < 1) = false := by simp only [zdf]; omega
  have f2 : decide (l[k].producer > 15) = false := by simp only [zdf]; omega
  have f3 : decide (l[k].seq < 1) = false := by simp only [zdf]; omega
  have f4 : decide (l[k].seq > 4611686018427387903) = false := by simp only [zdf]; omega
  have f5 : decide (l[k].offset > 4611686018427387903) = false := by simp only [zdf]; omega
  clear hok
  repeat' ((conv => whnf); first | with_reducible refine zol ?_ | ((with_reducible refine fk (fun hc => ?_) fun hc => ?_) <;> first | exact absurd hc (by decide) | (exfalso; simp only [*, reduceCtorEq, Bool.not_true, Bool.not_false] at hc; done) | skip) | rewrite [eN] | ((refine ⟨_, r1, ?_⟩)) | ((with_reducible apply And.intro); focus (first | rfl | exact znb rfl | omega | (simp only [zlc, zln, zlm, zla]; omega))))
  refine ⟨{m : Nat // m ≤ k ∧ ∀ j (hj : j < l.length), j < m → l[j].producer < l[k].producer ∧ l[j].offset ≠ l[k].offset}, fun ⟨m, _⟩ => ⟨[(0, .pv (slM l)), (3, .pv (ii k)), (4, .ptr 1004 0), (5, .pv (ii m))], 1000000000, [(1004, .var (l[k].c.map .pv))]⟩, fun ⟨m, _⟩ => k - m, ⟨⟨0, by simp⟩, ent_of ?_⟩, ?_⟩
  · repeat' first
      | fail
      | with_reducible exact True.intro
      | with_reducible exact rfl
      | with_reducible exact leRs_refl _
      | ((conv => whnf); with_reducible apply And.intro)
      | ((conv => whnf); with_reducible exact True.intro)
      | exact rfl
      | exact fun h => h
      | exact leRs_refl _
    all_goals try (conv => whnf)
  clear f1 f2 f3 f4 f5
  rintro ⟨m, hm, hq⟩
  by_cases hmk : m < k
  · have d2 : decide ((m : Int) < (k : Int)) = true := by simp only [zdt]; omega
    have eV : IntKind.i64.wrap ((m : Int) + 1) = ((m + 1 : Nat) : Int) := by rw [wrapI (by omega) (by omega)]; omega
    have r2 := rowK Mk.c l m (by omega)
    have hml : m < l.length := by omega
    have hbad : ¬ (l[m].producer < l[k].producer ∧ l[m].offset ≠ l[k].offset) → X = false := fun h => bool_of hiff fun F => h (List.pairwise_iff_getElem.1 F.s1 m k hml hlt hmk)
    have hg2 : (l[m].producer < l[k].producer ∧ l[m].offset ≠ l[k].offset) → ∀ j (hj : j < l.length), j < m + 1 → l[j].producer < l[k].producer ∧ l[j].offset ≠ l[k].offset := by
      intro h j hj hjk
      rcases Nat.lt_succ_iff_lt_or_eq.1 hjk with hj' | rfl
      · exact hq j hj hj'
      · exact h
    cases b1 : decide (l[m].producer ≥ l[k].producer) with
    | true =>
      have hXf := hbad (by simp only [zdt] at b1; omega)
      clear hbad hg2 hiff
      subst hXf
      repeat' ((conv => whnf); first | with_reducible refine zol ?_ | ((with_reducible refine fk (fun hc => ?_) fun hc => ?_) <;> first | exact absurd hc (by decide) | (exfalso; simp only [*, reduceCtorEq, Bool.not_true, Bool.not_false] at hc; done) | skip) | ((refine ⟨_, r2, ?_⟩)) | ((with_reducible apply And.intro); focus (first | rfl | exact znb rfl | omega | (simp only [zlc, zln, zlm, zla]; omega))))
      repeat' first | (with_reducible first | exact ⟨⟩ | exact rfl | exact lr _) | ((conv => whnf); with_reducible first | apply And.intro | exact ⟨⟩) | exact rfl | exact fun h => h | exact lr _
      all_goals try (conv => whnf)
    | false =>
      cases b2 : (l[m].offset == l[k].offset) with
      | true =>
        have hXf := hbad (by simp only [beq_iff_eq] at b2; exact fun h => h.2 b2)
        clear hbad hg2 hiff
        subst hXf
        repeat' ((conv => whnf); first | with_reducible refine zol ?_ | ((with_reducible refine fk (fun hc => ?_) fun hc => ?_) <;> first | exact absurd hc (by decide) | (exfalso; simp only [*, reduceCtorEq, Bool.not_true, Bool.not_false] at hc; done) | skip) | ((refine ⟨_, r2, ?_⟩)) | ((with_reducible apply And.intro); focus (first | rfl | exact znb rfl | omega | (simp only [zlc, zln, zlm, zla]; omega))))
        repeat' first | (with_reducible first | exact ⟨⟩ | exact rfl | exact lr _) | ((conv => whnf); with_reducible first | apply And.intro | exact ⟨⟩) | exact rfl | exact fun h => h | exact lr _
        all_goals try (conv => whnf)
      | false =>
        have hg := hg2 (by simp only [zdf] at b1; simp only [beq_eq_false_iff_ne] at b2; exact ⟨by omega, b2⟩)
        clear hbad hg2
        repeat' ((conv => whnf); first | with_reducible refine zol ?_ | ((with_reducible refine fk (fun hc => ?_) fun hc => ?_) <;> first | exact absurd hc (by decide) | (exfalso; simp only [*, reduceCtorEq, Bool.not_true, Bool.not_false] at hc; done) | skip) | ((refine ⟨_, r2, ?_⟩)) | ((with_reducible apply And.intro); focus (first | rfl | exact znb rfl | omega | (simp only [zlc, zln, zlm, zla]; omega))))
        refine ⟨⟨m + 1, hmk, hg⟩, dec_lt hmk, ent_of ?_⟩
        repeat' first | (with_reducible first | exact ⟨⟩ | exact rfl | exact lr _) | ((conv => whnf); with_reducible first | apply And.intro | exact ⟨⟩) | exact rfl | exact fun h => h | exact lr _
        all_goals try (conv => whnf)
        all_goals exact eV
  · have hme : m = k := by omega
    subst hme
    have d2 : decide ((m : Int) < (m : Int)) = false := by simp
    have hpw2 := pair_take hlt hpw hq
    repeat' ((conv => whnf); first | with_reducible refine zol ?_ | ((with_reducible refine fk (fun hc => ?_) fun hc => ?_) <;> first | exact absurd hc (by decide) | (exfalso; simp only [*, reduceCtorEq, Bool.not_true, Bool.not_false] at hc; done) | skip) | ((with_reducible apply And.intro); focus (first | rfl | exact znb rfl | omega | (simp only [zlc, zln, zlm, zla]; omega))))
    refine ⟨⟨m + 1, hlt, hpw2, hgood⟩, dec_lt hlt, ent_of ?_⟩
    repeat' first | (with_reducible first | exact ⟨⟩ | exact rfl | exact lr _) | ((conv => whnf); with_reducible first | apply And.intro | exact ⟨⟩) | exact rfl | exact fun h => h | exact lr _
    all_goals try (conv => whnf)
    all_goals exact eW
end Go.Proofs.YtgblabmhgdiicaaGreat.Tb
