/-
  Contracts of functions of the program and of the document, each for every input that its premises name.
-/
import Derived.Test.YtpbjamihhkmgiaaR6F
import Derived.Test.YtpbjamihhkmgiaaR6T
import Derived.Test.YtpbjamihhkmgiaaAe
set_option linter.unusedSectionVars false
set_option maxRecDepth 100000
set_option maxHeartbeats 4000000
set_option linter.unusedVariables false
set_option linter.unusedSimpArgs false
open Go Go.AX
namespace Go.Proofs.Ytpbjamihhkmgiaa.Tb
section
variable (x : Rv) (now : Int) (known : List Pl) (h : x.big) (hw5 : x.l.w ≤ 5) (hf6 : x.frags.length ≤ 6) (hf5 : ∀ f ∈ x.frags, f.bookies.length ≤ 5) (hn9 : 0 ≤ x.n ∧ x.n ≤ 9) (hk : known.length ≤ 1000) (hnow : 0 ≤ now ∧ now ≤ 18446744073709551615) (hsi : 0 ≤ x.since ∧ x.since ≤ 18446744073709551615) (hbo : 0 ≤ x.born ∧ x.born ≤ 18446744073709551615)
include h hw5 hf6 hf5 hn9 hk hnow hsi hbo
theorem tickA_c (hp : x.phase = 1 ∨ x.phase = 2 ∨ x.phase = 4) :
    PCx Try.prog 7 [.agg x.c, uu now, slP known] (.tup [.agg (tickR x now known).1.c, slR (tickR x now known).2]) := by
  obtain ⟨hsm, hf, hff, h0, hn, hs, hw, ha, hset, hset2⟩ := h
  have p3 : (x.phase == 3) = false := by rcases hp with e | e | e <;> rw [e] <;> rfl
  have e0 : tick0 x now = x := by
    unfold tick0
    rw [if_neg (by rw [p3]; simp)]
  have e1 : tickR x now known = if (x.phase != 4 && goneR now x.since 3) = true then askR x now else (x, []) := by
    unfold tickR
    simp only [e0, p3, Bool.false_and, Bool.false_eq_true, ↓reduceIte]
  rw [e1]
  have hlb : (lastF x).bookies.length ≤ 1000000 := by have := hsm.f1.2 _ (lastF_mem h0); omega
  cases p4 : (x.phase != 4) with
  | false =>
    rw [if_neg (by simp)]
    exact tickK0_c x now known hsm hk hnow hsi p3 p4
  | true =>
  cases g2 : goneR now x.since 3 with
  | false =>
    rw [if_neg (by simp)]
    exact tickK1_c x now known hsm hk hnow hsi p3 p4 g2
  | true =>
    rw [if_pos (by simp)]
    rcases hp with e | e | e
    · have ea : askR x now = ({ x with since := now }, fencesQ x (lastF x).bookies) := by
        unfold askR
        rw [if_pos (by rw [e]; rfl)]
      rw [ea]
      exact tickK2_c x now known hsm hk hnow hsi p3 p4 g2 e h0 hsm.f1.1 hlb
    · have ea : askR x now = ({ x with since := now }, asksQ x (readsR x)) := by
        unfold askR
        rw [if_neg (by rw [e]; decide), if_pos (by rw [e]; rfl)]
      rw [ea]
      exact tickK3_c x now known hsm hk hnow hsi p3 p4 g2 e hf (by omega) (Nat.le_trans (hset x.n) (by decide))
    · rw [e] at p4
      exact absurd p4 (by decide)
theorem tickCF_c (p3 : (x.phase == 3) = true) (g1 : goneR now x.born 9 = false) :
    PCx Try.prog 7 [.agg x.c, uu now, slP known] (.tup [.agg (tickR x now known).1.c, slR (tickR x now known).2]) := by
  obtain ⟨hsm, hf, hff, h0, hn, hs, hw, ha, hset, hset2⟩ := h
  have hwr : (writesR x).length ≤ 1000 := hset2 x.n
  have hx3 : x.phase = 3 := by simpa using p3
  have e0' : tick0 x now = x := by
    unfold tick0
    rw [p3, g1]
    rfl
  obtain ⟨y, e0⟩ : ∃ y : Rv, tick0 x now = y := ⟨_, rfl⟩
  have hy : y = x := e0.symm.trans e0'
  have hyl : y.l = x.l := by rw [hy]
  have hyf : y.frags = x.frags := by rw [hy]
  have hyn : y.n = x.n := by rw [hy]
  have hyp : y.phase = 3 := by rw [hy]; exact hx3
  have hys : y.since = x.since := by rw [hy]
  have q1 : (y.phase == 1) = false := by rw [hyp]; rfl
  have q2 : (y.phase == 2) = false := by rw [hyp]; rfl
  have q3 : (y.phase == 3) = true := by rw [hyp]; rfl
  have q4 : (y.phase != 4) = true := by rw [hyp]; rfl
  have hs6 : ∀ n, (setOf x.l.frags x.l.w n).length ≤ 1000000 := fun n => Nat.le_trans (hset n) (by decide)
  have er : ∀ z : Rv, z.phase = 3 → askR z now = ({ z with since := now }, copiesQ z (writesR z)) := by
    intro z hz
    unfold askR
    rw [if_neg (by rw [hz]; decide), if_neg (by rw [hz]; decide), if_pos (by rw [hz]; rfl)]
  cases eb0 : decide ((y.bad.length : Int) > 0) with
  | false =>
    cases g2 : goneR now x.since 3 with
    | false =>
      have e1 : tickR x now known = (y, []) := by
        unfold tickR
        simp only [e0, q3, q4, eb0, hys, g2, Bool.and_false, Bool.false_eq_true, ↓reduceIte]
      rw [e1]
      rw [hy] at eb0 ⊢
      exact tickF1_c x now known hsm hk hnow hsi hbo hff hn hwr p3 g1 eb0 g2
    | true =>
      have e1 : tickR x now known = ({ y with since := now }, copiesQ y (writesR y)) := by
        unfold tickR
        simp only [e0, q3, q4, eb0, hys, g2, er y hyp, Bool.and_false, Bool.and_self, Bool.false_eq_true, ↓reduceIte]
      rw [e1]
      rw [hy] at eb0 ⊢
      exact tickF2_c x now known hsm hk hnow hsi hbo hff hn hwr p3 g1 eb0 g2
  | true =>
    have hfl' : y.frags.length ≤ 1000 := by rw [hyf]; omega
    have hfb' : ∀ f ∈ y.frags, f.bookies.length ≤ 1000 := by rw [hyf]; intro f hf; have := hf5 f hf; omega
    have hff' : frsOk y.frags := by rw [hyf]; exact hff
    have fin0 : renewR y known = ({ y with bad := [] }, false) → (∀ (a : Unit), GCx Try.prog 20 [.ptr 1 0, .pv (slP known)] [(1, .var (y.v (.pv (slP y.heard)) (.pv (slP y.none)) (.pv (slP y.has)) (.slw 2 0) (.slw 3 0) (.pv (.sc (.slice none 0 0))))), (2, .arr 49 0 2 (y.frags.map Fr.c)), (3, .arr 38 0 2 (y.bad.map Pl.c))] (.pv (bl false))
      [(1, .var (({ y with bad := [] } : Rv).v (.pv (slP y.heard)) (.pv (slP y.none)) (.pv (slP y.has)) (.slw 2 0) (.pv (slP [])) (.pv (.sc (.slice none 0 0))))), (2, .arr 49 0 2 (y.frags.map Fr.c)), (3, .roa 0 2 (y.bad.map Pl.c))]) →
      PCx Try.prog 7 [.agg x.c, uu now, slP known] (.tup [.agg (tickR x now known).1.c, slR (tickR x now known).2]) := by
      intro hr hren
      cases g2 : goneR now x.since 3 with
      | false =>
        have e1 : tickR x now known = ({ y with bad := [] }, []) := by
          unfold tickR
          simp only [e0, q3, eb0, hys, g2, hr, Bool.and_self, Bool.false_eq_true, ↓reduceIte]
        rw [e1]
        have hren := hren ()
        rw [hy] at eb0 hren ⊢
        exact tickF6_c x now known hsm hk hnow hsi hbo hff hn hwr p3 g1 eb0 g2 hren
      | true =>
        have e1 : tickR x now known = ({ y with bad := [], since := now }, copiesQ { y with bad := [] } (writesR { y with bad := [] })) := by
          unfold tickR
          simp only [e0, q3, eb0, hys, g2, hr, Bool.and_self, Bool.false_eq_true, ↓reduceIte]
          exact er _ hyp
        rw [e1]
        have hren := hren ()
        rw [hy] at eb0 hren ⊢
        exact tickF7_c x now known hsm hk hnow hsi hbo hff hn hwr p3 g1 eb0 g2 hren
    have fin1 : ∀ fr : List Fr, frsOk fr → renewR y known = ({ y with bad := [], frags := fr }, true) → (∀ (a : Unit), GCx Try.prog 20 [.ptr 1 0, .pv (slP known)] [(1, .var (y.v (.pv (slP y.heard)) (.pv (slP y.none)) (.pv (slP y.has)) (.slw 2 0) (.slw 3 0) (.pv (.sc (.slice none 0 0))))), (2, .arr 49 0 2 (y.frags.map Fr.c)), (3, .arr 38 0 2 (y.bad.map Pl.c))] (.pv (bl true))
      [(1, .var (({ y with bad := [], frags := fr } : Rv).v (.pv (slP y.heard)) (.pv (slP y.none)) (.pv (slP y.has)) (.slw 1001 0) (.pv (slP [])) (.pv (.sc (.slice none 0 0))))), (1001, .arr 49 0 2 (fr.map Fr.c)), (2, .roa 1 2 []), (3, .roa 0 2 (y.bad.map Pl.c))]) →
      PCx Try.prog 7 [.agg x.c, uu now, slP known] (.tup [.agg (tickR x now known).1.c, slR (tickR x now known).2]) := by
      intro fr hfr hr hren
      have e1 : tickR x now known = ((enoughR { y with bad := [], frags := fr, phase := 3, born := now, since := now } now).1, copiesQ { y with bad := [], frags := fr, phase := 3, born := now, since := now } (writesR { y with bad := [], frags := fr, phase := 3, born := now, since := now }) ++ (enoughR { y with bad := [], frags := fr, phase := 3, born := now, since := now } now).2) := by
        unfold tickR
        simp only [e0, q3, eb0, hr, Bool.and_self, ↓reduceIte]
      rw [e1]
      have hwf : (setOf fr x.l.w x.n).length ≤ 1000 := Nat.le_trans (setOf_le fr hw5 x.n) (by decide)
      have hren := hren ()
      rw [hy] at eb0 hren ⊢
      exact tickF3_c x now known hsm hk hnow hsi hbo hff hn hwr p3 g1 eb0 fr hfr hren hwf hf hs6
    have hfn5 : (renewN y known).1.bookies.length ≤ 5 := by
      refine renewP_le5 ?_ _ _ _ _
      unfold fragN
      cases hfa : fragAt y.frags y.n with
      | none => simp [fr0]
      | some f => exact hf5 f (by rw [← hyf]; exact (lastP_mem _ _ _ hfa).1)
    have hnew : Fr.ok ⟨y.n, (renewN y known).1.bookies⟩ := ⟨by show 0 ≤ y.n; rw [hyn]; omega, by show y.n ≤ _; rw [hyn]; omega, by show (renewN y known).1.bookies.length ≤ _; omega⟩
    cases h1 : (renewN y known).2 with
    | false =>
      refine fin0 ?_ fun _ => renewO_g y known hk hff' hfl' hfb' h1
      unfold renewR
      rw [h1, Bool.false_and, if_neg (by decide)]
    | true =>
    cases hc1 : ((fragN y).first == y.n && decide ((y.frags.length : Int) > 0)) with
    | true =>
      have hrest : restN y = y.frags.take (y.frags.length - 1) := by unfold restN; rw [if_pos hc1]
      refine fin1 (y.frags.take (y.frags.length - 1) ++ [(⟨y.n, (renewN y known).1.bookies⟩ : Fr)]) ?_ ?_ fun _ => renewC_g y known hk hff' hfl' hfb' h1 hc1 (by rw [hyf]; exact hf6)
      · intro f hfm
        rcases List.mem_append.1 hfm with hfm | hfm
        · exact hff' f (List.mem_of_mem_take hfm)
        · simp only [List.mem_singleton] at hfm
          subst hfm
          exact hnew
      · unfold renewR
        rw [if_pos, hrest]
        rw [h1, hrest, Bool.true_and, List.length_take, hyf]
        simp
        omega
    | false =>
    have hrest : restN y = y.frags := by unfold restN; rw [if_neg (by rw [hc1]; decide)]
    cases h6 : ((y.frags.length : Int) == 6) with
    | true =>
      refine fin0 ?_ fun _ => renewF_g y known hk hff' hfl' hfb' h1 hc1 h6
      unfold renewR
      rw [hrest, h6, if_neg (by simp)]
    | false =>
      refine fin1 (y.frags ++ [(⟨y.n, (renewN y known).1.bookies⟩ : Fr)]) ?_ ?_ fun _ => renewA_g y known hk hff' hfl' hfb' h1 hc1 h6
      · intro f hfm
        rcases List.mem_append.1 hfm with hfm | hfm
        · exact hff' f hfm
        · simp only [List.mem_singleton] at hfm
          subst hfm
          exact hnew
      · unfold renewR
        rw [hrest, h1, h6, if_pos (by decide)]
theorem tickCT_c (p3 : (x.phase == 3) = true) (g1 : goneR now x.born 9 = true) :
    PCx Try.prog 7 [.agg x.c, uu now, slP known] (.tup [.agg (tickR x now known).1.c, slR (tickR x now known).2]) := by
  obtain ⟨hsm, hf, hff, h0, hn, hs, hw, ha, hset, hset2⟩ := h
  have hwr : (writesR x).length ≤ 1000 := hset2 x.n
  have hx3 : x.phase = 3 := by simpa using p3
  have e0' : tick0 x now = ({ x with bad := addBad (fun p => !x.has.any (· == p)) x.bad (writesR x), born := now } : Rv) := by
    unfold tick0
    rw [p3, g1]
    rfl
  obtain ⟨y, e0⟩ : ∃ y : Rv, tick0 x now = y := ⟨_, rfl⟩
  have hy : y = ({ x with bad := addBad (fun p => !x.has.any (· == p)) x.bad (writesR x), born := now } : Rv) := e0.symm.trans e0'
  have hyl : y.l = x.l := by rw [hy]
  have hyf : y.frags = x.frags := by rw [hy]
  have hyn : y.n = x.n := by rw [hy]
  have hyp : y.phase = 3 := by rw [hy]; exact hx3
  have hys : y.since = x.since := by rw [hy]
  have q1 : (y.phase == 1) = false := by rw [hyp]; rfl
  have q2 : (y.phase == 2) = false := by rw [hyp]; rfl
  have q3 : (y.phase == 3) = true := by rw [hyp]; rfl
  have q4 : (y.phase != 4) = true := by rw [hyp]; rfl
  have hs6 : ∀ n, (setOf x.l.frags x.l.w n).length ≤ 1000000 := fun n => Nat.le_trans (hset n) (by decide)
  have er : ∀ z : Rv, z.phase = 3 → askR z now = ({ z with since := now }, copiesQ z (writesR z)) := by
    intro z hz
    unfold askR
    rw [if_neg (by rw [hz]; decide), if_neg (by rw [hz]; decide), if_pos (by rw [hz]; rfl)]
  cases eb0 : decide ((y.bad.length : Int) > 0) with
  | false =>
    cases g2 : goneR now x.since 3 with
    | false =>
      have e1 : tickR x now known = (y, []) := by
        unfold tickR
        simp only [e0, q3, q4, eb0, hys, g2, Bool.and_false, Bool.false_eq_true, ↓reduceIte]
      rw [e1]
      rw [hy] at eb0 ⊢
      exact tickT1_c x now known hsm hk hnow hsi hbo hff hn hwr p3 g1 eb0 g2
    | true =>
      have e1 : tickR x now known = ({ y with since := now }, copiesQ y (writesR y)) := by
        unfold tickR
        simp only [e0, q3, q4, eb0, hys, g2, er y hyp, Bool.and_false, Bool.and_self, Bool.false_eq_true, ↓reduceIte]
      rw [e1]
      rw [hy] at eb0 ⊢
      exact tickT2_c x now known hsm hk hnow hsi hbo hff hn hwr p3 g1 eb0 g2
  | true =>
    have hfl' : y.frags.length ≤ 1000 := by rw [hyf]; omega
    have hfb' : ∀ f ∈ y.frags, f.bookies.length ≤ 1000 := by rw [hyf]; intro f hf; have := hf5 f hf; omega
    have hff' : frsOk y.frags := by rw [hyf]; exact hff
    have fin0 : renewR y known = ({ y with bad := [] }, false) → (∀ (a : Unit), GCx Try.prog 20 [.ptr 1 0, .pv (slP known)] [(1, .var (y.v (.pv (slP y.heard)) (.pv (slP y.none)) (.pv (slP y.has)) (.slw 2 0) (.slw 3 0) (.pv (.sc (.slice none 0 0))))), (2, .arr 49 0 2 (y.frags.map Fr.c)), (3, .arr 38 0 2 (y.bad.map Pl.c))] (.pv (bl false))
      [(1, .var (({ y with bad := [] } : Rv).v (.pv (slP y.heard)) (.pv (slP y.none)) (.pv (slP y.has)) (.slw 2 0) (.pv (slP [])) (.pv (.sc (.slice none 0 0))))), (2, .arr 49 0 2 (y.frags.map Fr.c)), (3, .roa 0 2 (y.bad.map Pl.c))]) →
      PCx Try.prog 7 [.agg x.c, uu now, slP known] (.tup [.agg (tickR x now known).1.c, slR (tickR x now known).2]) := by
      intro hr hren
      cases g2 : goneR now x.since 3 with
      | false =>
        have e1 : tickR x now known = ({ y with bad := [] }, []) := by
          unfold tickR
          simp only [e0, q3, eb0, hys, g2, hr, Bool.and_self, Bool.false_eq_true, ↓reduceIte]
        rw [e1]
        have hren := hren ()
        rw [hy] at eb0 hren ⊢
        exact tickT6_c x now known hsm hk hnow hsi hbo hff hn hwr p3 g1 eb0 g2 hren
      | true =>
        have e1 : tickR x now known = ({ y with bad := [], since := now }, copiesQ { y with bad := [] } (writesR { y with bad := [] })) := by
          unfold tickR
          simp only [e0, q3, eb0, hys, g2, hr, Bool.and_self, Bool.false_eq_true, ↓reduceIte]
          exact er _ hyp
        rw [e1]
        have hren := hren ()
        rw [hy] at eb0 hren ⊢
        exact tickT7_c x now known hsm hk hnow hsi hbo hff hn hwr p3 g1 eb0 g2 hren
    have fin1 : ∀ fr : List Fr, frsOk fr → renewR y known = ({ y with bad := [], frags := fr }, true) → (∀ (a : Unit), GCx Try.prog 20 [.ptr 1 0, .pv (slP known)] [(1, .var (y.v (.pv (slP y.heard)) (.pv (slP y.none)) (.pv (slP y.has)) (.slw 2 0) (.slw 3 0) (.pv (.sc (.slice none 0 0))))), (2, .arr 49 0 2 (y.frags.map Fr.c)), (3, .arr 38 0 2 (y.bad.map Pl.c))] (.pv (bl true))
      [(1, .var (({ y with bad := [], frags := fr } : Rv).v (.pv (slP y.heard)) (.pv (slP y.none)) (.pv (slP y.has)) (.slw 1001 0) (.pv (slP [])) (.pv (.sc (.slice none 0 0))))), (1001, .arr 49 0 2 (fr.map Fr.c)), (2, .roa 1 2 []), (3, .roa 0 2 (y.bad.map Pl.c))]) →
      PCx Try.prog 7 [.agg x.c, uu now, slP known] (.tup [.agg (tickR x now known).1.c, slR (tickR x now known).2]) := by
      intro fr hfr hr hren
      have e1 : tickR x now known = ((enoughR { y with bad := [], frags := fr, phase := 3, born := now, since := now } now).1, copiesQ { y with bad := [], frags := fr, phase := 3, born := now, since := now } (writesR { y with bad := [], frags := fr, phase := 3, born := now, since := now }) ++ (enoughR { y with bad := [], frags := fr, phase := 3, born := now, since := now } now).2) := by
        unfold tickR
        simp only [e0, q3, eb0, hr, Bool.and_self, ↓reduceIte]
      rw [e1]
      have hwf : (setOf fr x.l.w x.n).length ≤ 1000 := Nat.le_trans (setOf_le fr hw5 x.n) (by decide)
      have hren := hren ()
      rw [hy] at eb0 hren ⊢
      exact tickT3_c x now known hsm hk hnow hsi hbo hff hn hwr p3 g1 eb0 fr hfr hren hwf hf hs6
    have hfn5 : (renewN y known).1.bookies.length ≤ 5 := by
      refine renewP_le5 ?_ _ _ _ _
      unfold fragN
      cases hfa : fragAt y.frags y.n with
      | none => simp [fr0]
      | some f => exact hf5 f (by rw [← hyf]; exact (lastP_mem _ _ _ hfa).1)
    have hnew : Fr.ok ⟨y.n, (renewN y known).1.bookies⟩ := ⟨by show 0 ≤ y.n; rw [hyn]; omega, by show y.n ≤ _; rw [hyn]; omega, by show (renewN y known).1.bookies.length ≤ _; omega⟩
    cases h1 : (renewN y known).2 with
    | false =>
      refine fin0 ?_ fun _ => renewO_g y known hk hff' hfl' hfb' h1
      unfold renewR
      rw [h1, Bool.false_and, if_neg (by decide)]
    | true =>
    cases hc1 : ((fragN y).first == y.n && decide ((y.frags.length : Int) > 0)) with
    | true =>
      have hrest : restN y = y.frags.take (y.frags.length - 1) := by unfold restN; rw [if_pos hc1]
      refine fin1 (y.frags.take (y.frags.length - 1) ++ [(⟨y.n, (renewN y known).1.bookies⟩ : Fr)]) ?_ ?_ fun _ => renewC_g y known hk hff' hfl' hfb' h1 hc1 (by rw [hyf]; exact hf6)
      · intro f hfm
        rcases List.mem_append.1 hfm with hfm | hfm
        · exact hff' f (List.mem_of_mem_take hfm)
        · simp only [List.mem_singleton] at hfm
          subst hfm
          exact hnew
      · unfold renewR
        rw [if_pos, hrest]
        rw [h1, hrest, Bool.true_and, List.length_take, hyf]
        simp
        omega
    | false =>
    have hrest : restN y = y.frags := by unfold restN; rw [if_neg (by rw [hc1]; decide)]
    cases h6 : ((y.frags.length : Int) == 6) with
    | true =>
      refine fin0 ?_ fun _ => renewF_g y known hk hff' hfl' hfb' h1 hc1 h6
      unfold renewR
      rw [hrest, h6, if_neg (by simp)]
    | false =>
      refine fin1 (y.frags ++ [(⟨y.n, (renewN y known).1.bookies⟩ : Fr)]) ?_ ?_ fun _ => renewA_g y known hk hff' hfl' hfb' h1 hc1 h6
      · intro f hfm
        rcases List.mem_append.1 hfm with hfm | hfm
        · exact hff' f hfm
        · simp only [List.mem_singleton] at hfm
          subst hfm
          exact hnew
      · unfold renewR
        rw [hrest, h1, h6, if_pos (by decide)]
end
theorem tick_c {l : Lg} {k : Nat} {x : Rv} (hmay : mayLg l = true) (h : RInv l k x) (hk : k ≤ 1000) {now : Int} (hnow : u64R now) (known : List Pl) (hkn : known.length ≤ 1000) :
    PCx Try.prog 7 [.agg x.c, uu now, slP known] (.tup [.agg (tickR x now known).1.c, slR (tickR x now known).2]) := by
  have hb := h.big hmay hk
  have hw5 : x.l.w ≤ 5 := by rw [h.hl]; exact (may_frag hmay).2.2.2.2.2
  have hf5 : ∀ f ∈ x.frags, f.bookies.length ≤ 5 := fun f hf => (h.fr f hf).2.2
  rcases h.ph with e | e | e | e
  · exact tickA_c x now known hb hw5 h.fl hf5 h.n0 hkn hnow h.bs.2 h.bs.1 (.inl e)
  · exact tickA_c x now known hb hw5 h.fl hf5 h.n0 hkn hnow h.bs.2 h.bs.1 (.inr (.inl e))
  · cases g1 : goneR now x.born 9 with
    | false => exact tickCF_c x now known hb hw5 h.fl hf5 h.n0 hkn hnow h.bs.2 h.bs.1 (by rw [e]; rfl) g1
    | true => exact tickCT_c x now known hb hw5 h.fl hf5 h.n0 hkn hnow h.bs.2 h.bs.1 (by rw [e]; rfl) g1
  · exact tickA_c x now known hb hw5 h.fl hf5 h.n0 hkn hnow h.bs.2 h.bs.1 (.inr (.inr e))
end Go.Proofs.Ytpbjamihhkmgiaa.Tb
