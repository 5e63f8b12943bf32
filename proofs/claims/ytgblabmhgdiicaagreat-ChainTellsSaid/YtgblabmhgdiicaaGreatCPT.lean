/-
  The law ChainTells of layer 20 holds: of any plan and any channel the program tells what the document tells: how long it is, its spots, where an offset is, which offset an entry has, which ledgers are gone, which are kept.
-/
import Derived.Test.YtgblabmhgdiicaaGreatCP
import Derived.Test.YtgblabmhgdiicaaGreatFRK
import Derived.Test.YtgblabmhgdiicaaGreatRows
import Derived.WalkKit
set_option linter.unusedSectionVars false
set_option maxRecDepth 100000
set_option linter.unusedVariables false
set_option linter.unusedSimpArgs false
open Go Go.AX Go.ChangeShapes Go.WideShapes Go.ChangeAt Go.RowKit
namespace Go.Proofs.YtgblabmhgdiicaaGreat.Tb
theorem own : ownKnob Tryz.prog.godebug = none := by kernel_rfl
theorem step (H : Type) (enc : TypeId × Value → H) (W : World) (base : Nat) (args : Array Value) (ds gs : List (DataW H)) (before : List MemPlace)
    (hval : ∀ (j : Nat) t v, Tryz.f5.params[j]? = some t → args[j]? = some v → Value.okWide Tryz.prog W .any base t v)
    (hW : DataW.Whole enc Tryz.prog Tryz.f5.params.toList Rows.chainTellsSpec.vars false W args.toList ds gs before) :
    Calls Tryz.prog 5 args W fun e W' => ∃ v, e = .returned v ∧ Rows.chainTellsSpec.post enc Tryz.prog Tryz.f5 false true false false W args v W' := by
  have hW0 := hW
  obtain ⟨p, q, hA, hV, rfl, hz, hnd⟩ := hW
  rw [Tryz.params5] at hA hval
  obtain ⟨v0, vs0, d0, ds0, p0, q0, hargs, rfl, rfl, h0, r0⟩ := trodAll_cons hA
  obtain ⟨v1, vs1, d1, ds1, p1, q1, rfl, rfl, rfl, h1, r1⟩ := trodAll_cons r0
  obtain ⟨v2, vs2, d2, ds2, p2, q2, rfl, rfl, rfl, h2, r2⟩ := trodAll_cons r1
  obtain ⟨v3, vs3, d3, ds3, p3, q3, rfl, rfl, rfl, h3, r3⟩ := trodAll_cons r2
  obtain ⟨v4, vs4, d4, ds4, p4, q4, rfl, rfl, rfl, h4, r4⟩ := trodAll_cons r3
  obtain ⟨v5, vs5, d5, ds5, p5, q5, rfl, rfl, rfl, h5, r5⟩ := trodAll_cons r4
  obtain ⟨rfl, rfl, rfl⟩ := trodAll_nil r5
  obtain rfl : args = #[v0, v1, v2, v3, v4, v5] := by cases args; simp_all
  obtain ⟨rfl, rfl⟩ := trodVars_none hV
  obtain ⟨_, ⟨p, rfl, Hp⟩, a0⟩ := arg_agg Tryz.underlying27 (rdPn W) (hval 0 27 v0 rfl rfl) h0
  obtain ⟨_, ⟨n, e1, Hn⟩, a1⟩ := arg_one (rdI W) (okWide_notAgg (by rw [Tryz.underlying3]) (hval 1 3 v1 rfl rfl)) h1
  obtain ⟨_, ⟨sure, e2, Hsure⟩, a2⟩ := arg_one (rdU W) (okWide_notAgg (by rw [Tryz.underlying22]) (hval 2 22 v2 rfl rfl)) h2
  obtain ⟨_, ⟨off, e3, Hoff⟩, a3⟩ := arg_one (rdU W) (okWide_notAgg (by rw [Tryz.underlying22]) (hval 3 22 v3 rfl rfl)) h3
  obtain ⟨_, ⟨ledger, e4, Hledger⟩, a4⟩ := arg_one (rdU W) (okWide_notAgg (by rw [Tryz.underlying22]) (hval 4 22 v4 rfl rfl)) h4
  obtain ⟨_, ⟨k, e5, Hk⟩, a5⟩ := arg_one (rdU W) (okWide_notAgg (by rw [Tryz.underlying22]) (hval 5 22 v5 rfl rfl)) h5
  simp only [List.cons.injEq, and_true] at e1 e2 e3 e4 e5
  subst e1 e2 e3 e4 e5
  exact post_law (by kernel_rfl) (by kernel_rfl) rfl Tryz.underlying4 rfl rfl hW0 (l20tells_c p n sure off ledger k Hp Hsure Hoff Hledger Hk)
    ⟨_, _, rfl, a0, _, _, rfl, a1, _, _, rfl, a2, _, _, rfl, a3, _, _, rfl, a4, _, _, rfl, a5, rfl⟩
theorem lifted (os : Os) (started : os.Started) (H : Type) (enc : TypeId × Value → H) :
    ReturnsInHanded {} Tryz.checked os 5 .any (Rows.chainTellsSpec.pre6 enc Tryz.prog Tryz.f5 Rows.chainTellsRow.domain false) (Rows.chainTellsSpec.post enc Tryz.prog Tryz.f5 false true false false) := by
  refine returnsInHanded_of_change (C := Tryz.checked) own started (by kernel_rfl) Tryz.func5
    (ChangeSpec.witness6 (enc := enc) (C := Tryz.checked) false ⟨#[], #[.agg #[.int .u64 0, .int .u64 0, .slice none 0 0, .slice none 0 0, .slice none 0 0], .int .i64 0, .int .u64 0, .int .u64 0, .int .u64 0, .int .u64 0], []⟩ 8 (by kernel_rfl) (by kernel_rfl) (by kernel_rfl) (by kernel_rfl)) ?_
  intro W base args ds gs before hval hW _ _
  exact step H enc W base args ds gs before hval hW
theorem over : Rows.chainTellsRow.holds Tryz.pinned (OpenSpec.ofChange Rows.chainTellsSpec) :=
  OpenClaim.holds_of_wide 5 Tryz.f5 rfl rfl rfl rfl rfl rfl rfl ⟨rfl, rfl, rfl, rfl, rfl⟩ rfl rfl rfl rfl rfl (by kernel_rfl) Tryz.func5 (by kernel_rfl)
    (of_decide_eq_true (by kernel_rfl)) (by unfold Func.isWrapper; rw [if_neg (of_decide_eq_false (by kernel_rfl))]; exact ⟨rfl, rfl⟩)
    (fun os started H enc _ => lifted os started H enc)
end Go.Proofs.YtgblabmhgdiicaaGreat.Tb
namespace Go.Proofs.YtgblabmhgdiicaaGreat
theorem chainTells_holds : Rows.ChainTellsSaid := Tb.over
end Go.Proofs.YtgblabmhgdiicaaGreat
