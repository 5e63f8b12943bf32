/-
  Contracts of functions of the program and of the document, each for every input that its premises name.
-/
import Derived.Test.YtgblabmhgdiicaaGreatSB
import Derived.Test.YtgblabmhgdiicaaGreatSL
import Derived.Sort.Walk7
set_option linter.unusedSectionVars false
set_option maxRecDepth 100000
set_option maxHeartbeats 4000000
set_option linter.unusedVariables false
set_option linter.unusedSimpArgs false
open Go Go.AX Go.Sort
namespace Go.Proofs.YtgblabmhgdiicaaGreat.Tb
theorem fn_uLen64 : FnOk Tryz.prog 88 Tryz.f88 := ⟨Tryz.func88, by kernel_rfl, by kernel_rfl, by kernel_rfl⟩
theorem uLen64_c (x : Nat) (h1 : x < 18446744073709551616) : PCx Tryz.prog 88 [uu x] (ii (bitsLen x)) := by
  refine ⟨fn_uLen64.enters, fun F w cargs hF ha => ?_⟩
  simp only [repL, rep, uu] at ha
  obtain ⟨v, r, e1, rfl, rfl⟩ := ha
  have hc : cargs = #[.int .u64 x] := by rw [← Array.toList_inj, e1]
  subst hc
  refine (Go.Proofs.YtgblabmhgdiicaaGreat.uLen64_k x w (by omega) (by omega)).mono fun e w' ⟨he, hw⟩ => ?_
  subst hw
  rw [Int.toNat_natCast, bitLen_eq _ (by omega)] at he
  exact ⟨_, _, he, rfl, by simp only [rep], Evo.refl _ _⟩
theorem fn_uLen : FnOk Tryz.prog 55 Tryz.f55 := ⟨Tryz.func55, by kernel_rfl, by kernel_rfl, by kernel_rfl⟩
theorem uLen_c (x : Nat) (h1 : x < 18446744073709551616) : PCx Tryz.prog 55 [uu x] (ii (bitsLen x)) := by
  refine PC.le ?_
  refine PC_of_VC tabOk (draw_ok mixed tabOk) fn_uLen rfl ?_
  repeat' ((conv => whnf); first | with_reducible refine zol ?_ | ((with_reducible refine fk (fun hc => ?_) fun hc => ?_) <;> first | exact absurd hc (by decide) | (exfalso; simp only [*, reduceCtorEq] at hc; done) | skip) | (refine zll ?_; (conv => whnf); refine ⟨_, uLen64_c x h1, ?_⟩) | ((with_reducible apply And.intro); focus (first | rfl | exact znb rfl | omega | (simp only [zlc, zln, zlm, zla]; omega))))
  repeat' first | (with_reducible first | exact ⟨⟩ | exact rfl | exact lr _) | ((conv => whnf); with_reducible first | apply And.intro | exact ⟨⟩) | exact rfl | exact fun h => h | exact lr _
  all_goals try (conv => whnf)
theorem fn_uNp2 : FnOk Tryz.prog 117 Tryz.f117 := ⟨Tryz.func117, by kernel_rfl, by kernel_rfl, by kernel_rfl⟩
theorem uNp2_c (n : Nat) (hn : n < 4611686018427387904) : PCx Tryz.prog 117 [ii n] (uu ((1 <<< bitsLen n : Nat) : Int)) := by
  refine PC.le ?_
  have wn : IntKind.u64.wrap (n : Int) = (n : Int) := wrapU (by omega) (by omega)
  have hk : bitsLen n ≤ 62 := (bitsLen_le_iff n 62).2 (by omega)
  have hp := wrap_two_pow (bitsLen n) hk
  obtain ⟨M, hM⟩ : ∃ M : Nat, M = 1 <<< bitsLen n := ⟨_, rfl⟩
  rw [← hM] at hp ⊢
  have c := uLen_c n (by omega)
  obtain ⟨k, hk2⟩ : ∃ k : Nat, k = bitsLen n := ⟨_, rfl⟩
  rw [← hk2] at hp c hk
  have wp : IntKind.u64.wrap (1 * 2 ^ min (Int.toNat (k : Int)) IntKind.u64.bits) = (M : Int) := by
    rw [Int.toNat_natCast, show min k IntKind.u64.bits = k from Nat.min_eq_left (by show k ≤ 64; omega), Int.one_mul]
    exact hp
  have dk : decide ((k : Int) < 0) = false := by simp only [zdf]; omega
  refine PC_of_VC tabOk (draw_ok mixed tabOk) fn_uNp2 rfl ?_
  repeat' ((conv => whnf); first | with_reducible refine zol ?_ | ((with_reducible refine fk (fun hc => ?_) fun hc => ?_) <;> first | exact absurd hc (by decide) | (exfalso; simp only [*, reduceCtorEq] at hc; done) | skip) | rewrite [wn] | (refine zll ?_; (conv => whnf); refine ⟨_, c, ?_⟩) | ((with_reducible apply And.intro); focus (first | rfl | exact znb rfl | omega | (simp only [zlc, zln, zlm, zla]; omega))))
  repeat' first | (with_reducible first | exact ⟨⟩ | exact rfl | exact lr _) | ((conv => whnf); with_reducible first | apply And.intro | exact ⟨⟩) | exact rfl | exact fun h => h | exact lr _
  all_goals try (conv => whnf)
  all_goals exact wp
theorem fn_uNext : FnOk Tryz.prog 118 Tryz.f118 := ⟨Tryz.func118, by kernel_rfl, by kernel_rfl, by kernel_rfl⟩
theorem uNext_g (X : Nat) (hX : X < 18446744073709551616) :
    GCx Tryz.prog 118 [.ptr 1 0] [(1, .var [.pv (uu X)])] (.pv (uu (xorNextN X : Nat))) [(1, .var [.pv (uu (xorNextN X : Nat))])] := by
  obtain ⟨A, hA⟩ : ∃ A : Nat, A = X ^^^ (X * 8192 % 18446744073709551616) := ⟨_, rfl⟩
  obtain ⟨B, hB⟩ : ∃ B : Nat, B = A ^^^ (A / 128) := ⟨_, rfl⟩
  obtain ⟨C, hC⟩ : ∃ C : Nat, C = B ^^^ (B * 131072 % 18446744073709551616) := ⟨_, rfl⟩
  have lA : A < 18446744073709551616 := by rw [hA]; exact Nat.xor_lt_two_pow (n := 64) (by omega) (by omega)
  have lB : B < 18446744073709551616 := by rw [hB]; exact Nat.xor_lt_two_pow (n := 64) (by omega) (by omega)
  have e1 : IntKind.u64.wrap (((BitVec.ofInt IntKind.u64.bits (X : Int) ^^^ BitVec.ofInt IntKind.u64.bits (IntKind.u64.wrap ((X : Int) * 2 ^ min (Int.toNat 13) IntKind.u64.bits))).toNat : Nat) : Int) = (A : Int) := by
    have e : bits .xor .u64 (X : Int) (IntKind.u64.wrap ((X : Int) * 8192)) = (A : Int) := by
      rw [IntKind.wrap_u64, show ((X : Int) * 8192 % 18446744073709551616) = ((X * 8192 % 18446744073709551616 : Nat) : Int) by omega, bits_xor_u64_nat _ _ hX (by omega), hA]
    exact e
  have e2 : IntKind.u64.wrap (((BitVec.ofInt IntKind.u64.bits (A : Int) ^^^ BitVec.ofInt IntKind.u64.bits (Int.fdiv (A : Int) (2 ^ min (Int.toNat 7) IntKind.u64.bits))).toNat : Nat) : Int) = (B : Int) := by
    have e : bits .xor .u64 (A : Int) (Int.fdiv (A : Int) 128) = (B : Int) := by
      rw [Int.fdiv_eq_ediv_of_nonneg _ (by decide), show ((A : Int) / 128) = ((A / 128 : Nat) : Int) by omega, bits_xor_u64_nat _ _ lA (by omega), hB]
    exact e
  have e3 : IntKind.u64.wrap (((BitVec.ofInt IntKind.u64.bits (B : Int) ^^^ BitVec.ofInt IntKind.u64.bits (IntKind.u64.wrap ((B : Int) * 2 ^ min (Int.toNat 17) IntKind.u64.bits))).toNat : Nat) : Int) = (C : Int) := by
    have e : bits .xor .u64 (B : Int) (IntKind.u64.wrap ((B : Int) * 131072)) = (C : Int) := by
      rw [IntKind.wrap_u64, show ((B : Int) * 131072 % 18446744073709551616) = ((B * 131072 % 18446744073709551616 : Nat) : Int) by omega, bits_xor_u64_nat _ _ lB (by omega), hC]
    exact e
  have hv : xorNextN X = C := by unfold xorNextN; simp only []; rw [← hA, ← hB, ← hC]
  rw [hv]
  clear hA hB hC hv
  refine GC_of_VC tabOk (draw_ok mixed tabOk) fn_uNext rfl ?_
  repeat' ((conv => whnf); first | with_reducible refine zol ?_ | ((with_reducible refine fk (fun hc => ?_) fun hc => ?_) <;> first | exact absurd hc (by decide) | (exfalso; simp only [*, reduceCtorEq] at hc; done) | skip) | rewrite [e1] | rewrite [e2] | rewrite [e3] | ((with_reducible apply And.intro); focus (first | rfl | exact znb rfl | omega | (simp only [zlc, zln, zlm, zla]; omega))))
  refine ⟨_, _, ⟨rfl, rfl⟩, ?_⟩
  repeat' first | (with_reducible first | exact ⟨⟩ | exact rfl | exact lr _) | ((conv => whnf); with_reducible first | apply And.intro | exact ⟨⟩) | exact rfl | exact fun h => h | exact lr _
  all_goals try (conv => whnf)
end Go.Proofs.YtgblabmhgdiicaaGreat.Tb
