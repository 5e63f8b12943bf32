/-
  The law RecoveryTwice hands back true whatever it is called with, and leaves its arguments as they were: no condition.
-/
import Derived.Test.YtpbjamihhkmgiaaR10
import Derived.Test.YtpbjamihhkmgiaaFR
import Derived.Test.YtpbjamihhkmgiaaRows
import Derived.WalkKit
set_option linter.unusedSectionVars false
set_option maxRecDepth 100000
set_option linter.unusedVariables false
set_option linter.unusedSimpArgs false
open Go Go.AX Go.ChangeShapes Go.WideShapes Go.ChangeAt Go.RowKit
namespace Go.Proofs.Ytpbjamihhkmgiaa.Tb
theorem own : ownKnob Try.prog.godebug = none := by kernel_rfl
theorem step (H : Type) (enc : TypeId × Value → H) (W : World) (base : Nat) (args : Array Value) (ds gs : List (DataW H)) (before : List MemPlace)
    (hval : ∀ (j : Nat) t v, Try.f3.params[j]? = some t → args[j]? = some v → Value.okWide Try.prog W .any base t v)
    (hW : DataW.Whole enc Try.prog Try.f3.params.toList Rows.recoveryTwiceSpec.vars false W args.toList ds gs before) :
    Calls Try.prog 3 args W fun e W' => ∃ v, e = .returned v ∧ Rows.recoveryTwiceSpec.post enc Try.prog Try.f3 false true false false W args v W' := by
  have hW0 := hW
  obtain ⟨p, q, hA, hV, rfl, hz, hnd⟩ := hW
  rw [Try.params3] at hA hval
  obtain ⟨v0, vs0, d0, ds0, p0, q0, hargs, rfl, rfl, h0, r0⟩ := trodAll_cons hA
  obtain ⟨v1, vs1, d1, ds1, p1, q1, rfl, rfl, rfl, h1, r1⟩ := trodAll_cons r0
  obtain ⟨v2, vs2, d2, ds2, p2, q2, rfl, rfl, rfl, h2, r2⟩ := trodAll_cons r1
  obtain ⟨v3, vs3, d3, ds3, p3, q3, rfl, rfl, rfl, h3, r3⟩ := trodAll_cons r2
  obtain ⟨rfl, rfl, rfl⟩ := trodAll_nil r3
  obtain rfl : args = #[v0, v1, v2, v3] := by cases args; simp_all
  obtain ⟨rfl, rfl⟩ := trodVars_none hV
  obtain ⟨_, ⟨l, rfl, Hl⟩, a0⟩ := arg_agg Try.underlying25 (rdLg W) (hval 0 25 v0 rfl rfl) h0
  obtain ⟨_, ⟨epoch, e1, Hepoch⟩, a1⟩ := arg_one (rdU W) (okWide_notAgg (by rw [Try.underlying22]) (hval 1 22 v1 rfl rfl)) h1
  obtain ⟨_, ⟨now, e2, Hnow⟩, a2⟩ := arg_one (rdU W) (okWide_notAgg (by rw [Try.underlying22]) (hval 2 22 v2 rfl rfl)) h2
  obtain ⟨_, ⟨cs, e3, Hcs⟩, a3⟩ := arg_one (rdCrs W) (okWide_notAgg (by rw [Try.underlying26]) (hval 3 26 v3 rfl rfl)) h3
  simp only [List.cons.injEq, and_true] at e1 e2 e3
  subst e1 e2 e3
  exact post_law (by kernel_rfl) (by kernel_rfl) rfl Try.underlying4 rfl rfl hW0 (l16Twice_c l epoch now cs Hl.r Hnow Hcs)
    ⟨_, _, rfl, a0, _, _, rfl, a1, _, _, rfl, a2, _, _, rfl, a3, rfl⟩
theorem lifted (os : Os) (started : os.Started) (H : Type) (enc : TypeId × Value → H) :
    ReturnsInHanded {} Try.checked os 3 .any (Rows.recoveryTwiceSpec.pre6 enc Try.prog Try.f3 Rows.recoveryTwiceRow.domain false) (Rows.recoveryTwiceSpec.post enc Try.prog Try.f3 false true false false) := by
  refine returnsInHanded_of_change (C := Try.checked) own started (by kernel_rfl) Try.func3
    (ChangeSpec.witness6 (enc := enc) (C := Try.checked) false ⟨#[], #[.agg #[.int .u64 0, .int .i64 0, .int .i64 0, .slice none 0 0, .int .i64 0, .int .u64 0], .int .u64 0, .int .u64 0, .slice none 0 0], []⟩ 8 (by kernel_rfl) (by kernel_rfl) (by kernel_rfl) (by kernel_rfl)) ?_
  intro W base args ds gs before hval hW _ _
  exact step H enc W base args ds gs before hval hW
theorem over : Rows.recoveryTwiceRow.holds Try.pinned (OpenSpec.ofChange Rows.recoveryTwiceSpec) :=
  OpenClaim.holds_of_wide 3 Try.f3 rfl rfl rfl rfl rfl rfl rfl ⟨rfl, rfl, rfl, rfl, rfl⟩ rfl rfl rfl rfl rfl (by kernel_rfl) Try.func3 (by kernel_rfl)
    (of_decide_eq_true (by kernel_rfl)) (by unfold Func.isWrapper; rw [if_neg (of_decide_eq_false (by kernel_rfl))]; exact ⟨rfl, rfl⟩)
    (fun os started H enc _ => lifted os started H enc)
end Go.Proofs.Ytpbjamihhkmgiaa.Tb
namespace Go.Proofs.Ytpbjamihhkmgiaa
theorem recoveryTwice_holds : Rows.RecoveryTwiceSaid := Tb.over
end Go.Proofs.Ytpbjamihhkmgiaa
