/-
  Contracts of functions of the program and of the document, each for every input that its premises name.
-/
import Derived.Test.YtpbjamihhkmgiaaRWa
import Derived.Test.YtpbjamihhkmgiaaRWb
import Derived.Test.YtpbjamihhkmgiaaRWc
import Derived.Test.YtpbjamihhkmgiaaAe
set_option linter.unusedSectionVars false
set_option maxRecDepth 100000
set_option maxHeartbeats 4000000
set_option linter.unusedVariables false
set_option linter.unusedSimpArgs false
open Go Go.AX
namespace Go.Proofs.Ytpbjamihhkmgiaa.Tb
theorem take_c (x : Rv) (now : Int) (r : Rs) (h : x.big) (hb : r.body.length ≤ 1000000) :
    PCx Try.prog 9 [.agg x.c, uu now, .agg r.c] (.tup [.agg (takeR x now r).1.c, slR (takeR x now r).2]) := by
  obtain ⟨hsm, hf, hff, h0, hn, hs, hw, ha, hset, hset2⟩ := h
  obtain ⟨⟨a1, a2⟩, ⟨a3, a4⟩, a5, a6, a7, a8, a9⟩ := id hsm
  have hss : ∀ n, (setOf x.l.frags x.l.w n).length ≤ 1000000 := fun n => Nat.le_trans (hset n) (by decide)
  have hwr : (writesR x).length ≤ 1000 := hset2 x.n
  have hlb : (lastF x).bookies.length ≤ 1000000 := by have := a2 _ (lastF_mem h0); omega
  cases g1 : (r.ledger != x.l.id) with
  | true =>
    rw [show takeR x now r = (x, []) by simp only [takeR, g1, Bool.true_or, ↓reduceIte]]
    exact takeM1_c x now r hsm g1
  | false =>
  cases g2 : (r.epoch != x.epoch) with
  | true =>
    rw [show takeR x now r = (x, []) by simp only [takeR, g1, g2, Bool.or_true, ↓reduceIte]]
    exact takeM2_c x now r hsm g1 g2
  | false =>
  cases k2 : (r.kind == 2) with
  | true =>
    have k3 := beq_other k2 (show (2 : Int) ≠ 3 by decide)
    have k1 := beq_other k2 (show (2 : Int) ≠ 1 by decide)
    cases k0 : (r.code == 0) with
    | false =>
      rw [show takeR x now r = (x, []) by simp only [takeR, g1, g2, k2, k3, k1, k0, Bool.or_self, Bool.true_and, Bool.false_and, Bool.false_eq_true, ↓reduceIte]]
      exact takeN1_c x now r hsm g1 g2 k2 k3 k1 k0
    | true =>
    cases kp : decide (x.phase < 4) with
    | false =>
      rw [show takeR x now r = (x, []) by simp only [takeR, g1, g2, k2, k3, k1, k0, kp, Bool.or_self, Bool.true_and, Bool.false_and, Bool.false_eq_true, ↓reduceIte]]
      exact takeN2_c x now r hsm g1 g2 k2 k3 k1 k0 kp
    | true =>
      rw [show takeR x now r = fencedR x now r by simp only [takeR, g1, g2, k2, k0, kp, Bool.or_self, Bool.and_self, Bool.false_eq_true, ↓reduceIte]]
      cases h1 : (lastF x).bookies.any (· == r.from_) with
      | false =>
        rw [fencedR_N0 h1]
        exact takeFN0_c x now r hsm g1 g2 k2 k0 kp h0 a1 h1
      | true =>
      cases h2 : x.heard.any (· == r.from_) with
      | true =>
        rw [fencedR_N1 h1 h2]
        exact takeFN1_c x now r hsm g1 g2 k2 k0 kp h0 a1 h1 h2
      | false =>
      cases p1 : (x.phase == 1) with
      | true =>
        have p2 := beq_other p1 (show (1 : Int) ≠ 2 by decide)
        cases h3 : coveredP (lastF x) x.l.w x.l.a (x.heard ++ [r.from_]) with
        | false =>
          rw [fencedR_D h1 h2 p1 p2 h3]
          exact takeFD_c x now r hsm g1 g2 k2 k0 kp h0 a1 a5 h1 h2 hlb hw ha p1 p2 h3
        | true =>
          rw [fencedR_E h1 h2 p1 h3]
          by_cases h8 : 8 < max (min (max x.sure r.sure) 8 + 1) (lastF x).first
          · rw [goOnR_end h8]
            exact takeFE_c x now r hsm g1 g2 k2 k0 kp h0 a1 a5 h1 h2 hlb hw ha p1 p2 h3 hs h8
          · exact takeFA_c x now r hsm g1 g2 k2 k0 kp h0 a1 a5 h1 h2 hlb hw ha p1 p2 h3 hs (by omega) hf hss
      | false =>
      cases p2 : (x.phase == 2) with
      | false =>
        rw [fencedR_B h1 h2 p1 p2]
        exact takeFB_c x now r hsm g1 g2 k2 k0 kp h0 a1 a5 h1 h2 p1 p2
      | true =>
      cases h3 : (readsR x).any (· == r.from_) with
      | false =>
        rw [fencedR_C h1 h2 p1 p2 h3]
        exact takeFC_c x now r hsm g1 g2 k2 k0 kp h0 a1 a5 h1 h2 hf hn p1 p2 h3
      | true =>
        rw [fencedR_G h1 h2 p1 p2 h3]
        exact takeFG_c x now r hsm g1 g2 k2 k0 kp h0 a1 a5 h1 h2 hf hn p1 p2 h3
  | false =>
  cases k3 : (r.kind == 3) with
  | true =>
    have k1 := beq_other k3 (show (3 : Int) ≠ 1 by decide)
    cases kn : (r.n == x.n) with
    | false =>
      rw [show takeR x now r = (x, []) by simp only [takeR, g1, g2, k2, k3, k1, kn, Bool.or_self, Bool.true_and, Bool.false_and, Bool.and_false, Bool.false_eq_true, ↓reduceIte]]
      exact takeN3_c x now r hsm g1 g2 k2 k3 k1 kn
    | true =>
      rw [show takeR x now r = gotR x now r by simp only [takeR, g1, g2, k2, k3, kn, Bool.or_self, Bool.and_self, Bool.false_and, Bool.false_eq_true, ↓reduceIte]]
      cases c1 : (x.phase == 2 && (r.code == 0 && (readsR x).any (· == r.from_))) with
      | true =>
        have e2 : gotR x now r = ((enoughR (copyingR x now r) now).1, copiesQ (copyingR x now r) (writesR (copyingR x now r)) ++ (enoughR (copyingR x now r) now).2) := by simp only [gotR, c1, ↓reduceIte]
        rw [e2]
        simp only [Bool.and_eq_true] at c1
        obtain ⟨p2, k0, h1⟩ := c1
        cases ha2 : ackedP (writesR (copyingR x now r)) x.l.a [r.from_] with
        | false =>
          have e3 : enoughR (copyingR x now r) now = (copyingR x now r, []) := by
            unfold enoughR
            exact if_neg (by show ¬ (ackedP (writesR (copyingR x now r)) x.l.a [r.from_] = true); rw [ha2]; decide)
          rw [e3, List.append_nil]
          exact takeGAN_c x now r hsm g1 g2 k2 k3 kn hf hff hn hb hwr p2 k0 h1 ha2
        | true =>
          have e3 : enoughR (copyingR x now r) now = goOnR (copyingR x now r) (x.n + 1) now := by
            unfold enoughR
            exact if_pos ha2
          rw [e3]
          by_cases h8 : 8 < x.n + 1
          · rw [goOnR_end h8, List.append_nil]
            exact takeGAE_c x now r hsm g1 g2 k2 k3 kn hf hff hn hb hwr p2 k0 h1 ha2 h8
          · exact takeGAA_c x now r hsm g1 g2 k2 k3 kn hf hff hn hb hwr p2 k0 h1 ha2 (by omega) hss
      | false =>
      cases c2 : (x.phase == 2 && (r.code == 3 && ((readsR x).any (· == r.from_) && (x.heard.any (· == r.from_) && !x.none.any (· == r.from_))))) with
      | true =>
        have e2 : gotR x now r = (if missingP (readsR x) x.l.w x.l.a (x.none ++ [r.from_]) then { x with none := x.none ++ [r.from_], phase := 4 } else { x with none := x.none ++ [r.from_] }, []) := by
          simp only [gotR, c1, c2, Bool.false_eq_true, ↓reduceIte]
        rw [e2]
        simp only [Bool.and_eq_true] at c2
        obtain ⟨p2, k3', h1, h2, h3⟩ := c2
        have k0 := beq_other k3' (show (3 : Int) ≠ 0 by decide)
        have h3 : x.none.any (· == r.from_) = false := by simpa using h3
        cases h4 : missingP (readsR x) x.l.w x.l.a (x.none ++ [r.from_]) with
        | false =>
          rw [if_neg (by decide)]
          exact takeGBN_c x now r hsm g1 g2 k2 k3 kn a6 hw ha hf hn p2 k0 k3' h1 h2 h3 h4
        | true =>
          rw [if_pos rfl]
          exact takeGBE_c x now r hsm g1 g2 k2 k3 kn a6 hw ha hf hn p2 k0 k3' h1 h2 h3 h4
      | false =>
      cases c3 : (x.phase == 3 && (r.code == 0 && decide (r.body = x.body))) with
      | false =>
        have e2 : gotR x now r = (x, []) := by simp only [gotR, c1, c2, c3, Bool.false_eq_true, ↓reduceIte]
        rw [e2]
        exact takeG0_c x now r hsm g1 g2 k2 k3 kn hf hn c1 c2 c3
      | true =>
        have e2 : gotR x now r = hasR' x now r.from_ := by simp only [gotR, c1, c2, c3, Bool.false_eq_true, ↓reduceIte]
        rw [e2]
        simp only [Bool.and_eq_true, decide_eq_true_eq] at c3
        obtain ⟨p3, k0, hbe⟩ := c3
        have p2 := beq_other p3 (show (3 : Int) ≠ 2 by decide)
        cases h : x.has.any (· == r.from_) with
        | true =>
          rw [hasR_0 h]
          exact takeGC0_c x now r hsm g1 g2 k2 k3 kn hf hn p2 p3 k0 hbe h
        | false =>
        cases ha2 : ackedP (writesR x) x.l.a (x.has ++ [r.from_]) with
        | false =>
          rw [hasR_N h ha2]
          exact takeGCN_c x now r hsm g1 g2 k2 k3 kn hf hn p2 p3 k0 hbe h a7 hff ha2
        | true =>
          rw [hasR_E h ha2]
          by_cases h8 : 8 < x.n + 1
          · rw [goOnR_end h8]
            exact takeGCE_c x now r hsm g1 g2 k2 k3 kn hf hn p2 p3 k0 hbe h a7 hff ha2 h8
          · exact takeGCA_c x now r hsm g1 g2 k2 k3 kn hf hn p2 p3 k0 hbe h a7 hff ha2 (by omega) hss
  | false =>
  cases k1 : (r.kind == 1) with
  | false =>
    rw [show takeR x now r = (x, []) by simp only [takeR, g1, g2, k2, k3, k1, Bool.or_self, Bool.false_and, Bool.false_eq_true, ↓reduceIte]]
    exact takeN6_c x now r hsm g1 g2 k2 k3 k1
  | true =>
  cases kn : (r.n == x.n) with
  | false =>
    rw [show takeR x now r = (x, []) by simp only [takeR, g1, g2, k2, k3, k1, kn, Bool.or_self, Bool.true_and, Bool.false_and, Bool.false_eq_true, ↓reduceIte]]
    exact takeN4_c x now r hsm g1 g2 k2 k3 k1 kn
  | true =>
  cases p3 : (x.phase == 3) with
  | false =>
    rw [show takeR x now r = (x, []) by simp only [takeR, g1, g2, k2, k3, k1, kn, p3, Bool.or_self, Bool.true_and, Bool.false_and, Bool.and_false, Bool.false_eq_true, ↓reduceIte]]
    exact takeN5_c x now r hsm g1 g2 k2 k3 k1 kn p3
  | true =>
    rw [show takeR x now r = addedR x now r by simp only [takeR, g1, g2, k2, k3, k1, kn, p3, Bool.or_self, Bool.and_self, Bool.false_and, Bool.false_eq_true, ↓reduceIte]]
    cases k0 : (r.code == 0) with
    | true =>
      rw [show addedR x now r = hasR' x now r.from_ by simp only [addedR, k0, ↓reduceIte]]
      cases h : x.has.any (· == r.from_) with
      | true =>
        rw [hasR_0 h]
        exact takeAA0_c x now r hsm g1 g2 k2 k3 k1 kn p3 k0 h
      | false =>
      cases ha2 : ackedP (writesR x) x.l.a (x.has ++ [r.from_]) with
      | false =>
        rw [hasR_N h ha2]
        exact takeAAN_c x now r hsm g1 g2 k2 k3 k1 kn p3 k0 h a7 hff hn ha2
      | true =>
        rw [hasR_E h ha2]
        by_cases h8 : 8 < x.n + 1
        · rw [goOnR_end h8]
          exact takeAAE_c x now r hsm g1 g2 k2 k3 k1 kn p3 k0 h a7 hff hn ha2 h8
        · exact takeAAA_c x now r hsm g1 g2 k2 k3 k1 kn p3 k0 h a7 hff hn ha2 (by omega) hf hss
    | false =>
    cases k2' : (r.code == 2) with
    | true =>
      rw [show addedR x now r = ({ x with bad := addBad (· == r.from_) x.bad (writesR x) }, []) by simp only [addedR, k0, k2', Bool.false_eq_true, ↓reduceIte]]
      exact takeAF_c x now r hsm g1 g2 k2 k3 k1 kn p3 k0 k2' hff hn a8 hwr
    | false =>
    cases k4 : (r.code == 4) with
    | true =>
      rw [show addedR x now r = ({ x with bad := addBad (fun y => y.node == r.from_.node && y.serial != r.from_.serial) x.bad (writesR x) }, []) by simp only [addedR, k0, k2', k4, Bool.false_eq_true, ↓reduceIte]]
      exact takeAS_c x now r hsm g1 g2 k2 k3 k1 kn p3 k0 k2' k4 hff hn a8 hwr
    | false =>
      rw [show addedR x now r = (x, []) by simp only [addedR, k0, k2', k4, Bool.false_eq_true, ↓reduceIte]]
      exact takeAN_c x now r hsm g1 g2 k2 k3 k1 kn p3 k0 k2' k4
end Go.Proofs.Ytpbjamihhkmgiaa.Tb
