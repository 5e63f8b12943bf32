/-
  The law ChainSure of layer 20 holds: who is sure of more has all the spots of who is sure of less, and others behind them.
-/
import Derived.Test.YtgblabmhgdiicaaGreatCO
import Derived.Test.YtgblabmhgdiicaaGreatFRK
import Derived.Test.YtgblabmhgdiicaaGreatRows
import Derived.WalkKit
set_option linter.unusedSectionVars false
set_option maxRecDepth 100000
set_option linter.unusedVariables false
set_option linter.unusedSimpArgs false
open Go Go.AX Go.ChangeShapes Go.WideShapes Go.ChangeAt Go.RowKit
namespace Go.Proofs.YtgblabmhgdiicaaGreat.Tb
theorem own : ownKnob Tryz.prog.godebug = none := by kernel_rfl
theorem step (H : Type) (enc : TypeId × Value → H) (W : World) (base : Nat) (args : Array Value) (ds gs : List (DataW H)) (before : List MemPlace)
    (hval : ∀ (j : Nat) t v, Tryz.f4.params[j]? = some t → args[j]? = some v → Value.okWide Tryz.prog W .any base t v)
    (hW : DataW.Whole enc Tryz.prog Tryz.f4.params.toList Rows.chainSureSpec.vars false W args.toList ds gs before) :
    Calls Tryz.prog 4 args W fun e W' => ∃ v, e = .returned v ∧ Rows.chainSureSpec.post enc Tryz.prog Tryz.f4 false true false false W args v W' := by
  have hW0 := hW
  obtain ⟨p, q, hA, hV, rfl, hz, hnd⟩ := hW
  rw [Tryz.params4] at hA hval
  obtain ⟨v0, vs0, d0, ds0, p0, q0, hargs, rfl, rfl, h0, r0⟩ := trodAll_cons hA
  obtain ⟨v1, vs1, d1, ds1, p1, q1, rfl, rfl, rfl, h1, r1⟩ := trodAll_cons r0
  obtain ⟨v2, vs2, d2, ds2, p2, q2, rfl, rfl, rfl, h2, r2⟩ := trodAll_cons r1
  obtain ⟨v3, vs3, d3, ds3, p3, q3, rfl, rfl, rfl, h3, r3⟩ := trodAll_cons r2
  obtain ⟨rfl, rfl, rfl⟩ := trodAll_nil r3
  obtain rfl : args = #[v0, v1, v2, v3] := by cases args; simp_all
  obtain ⟨rfl, rfl⟩ := trodVars_none hV
  obtain ⟨_, ⟨p, rfl, Hp⟩, a0⟩ := arg_agg Tryz.underlying27 (rdPn W) (hval 0 27 v0 rfl rfl) h0
  obtain ⟨_, ⟨n, e1, Hn⟩, a1⟩ := arg_one (rdI W) (okWide_notAgg (by rw [Tryz.underlying3]) (hval 1 3 v1 rfl rfl)) h1
  obtain ⟨_, ⟨sure, e2, Hsure⟩, a2⟩ := arg_one (rdU W) (okWide_notAgg (by rw [Tryz.underlying22]) (hval 2 22 v2 rfl rfl)) h2
  obtain ⟨_, ⟨more, e3, Hmore⟩, a3⟩ := arg_one (rdU W) (okWide_notAgg (by rw [Tryz.underlying22]) (hval 3 22 v3 rfl rfl)) h3
  simp only [List.cons.injEq, and_true] at e1 e2 e3
  subst e1 e2 e3
  exact post_law (by kernel_rfl) (by kernel_rfl) rfl Tryz.underlying4 rfl rfl hW0 (l20sure_c p n sure more (fun l hl => (Hp.2.2.2.1 l hl).2.2.2.2.1) (fun c hc => (Hp.2.2.1 c hc).2.2.2.2.1.1) Hsure.1 Hmore)
    ⟨_, _, rfl, a0, _, _, rfl, a1, _, _, rfl, a2, _, _, rfl, a3, rfl⟩
theorem lifted (os : Os) (started : os.Started) (H : Type) (enc : TypeId × Value → H) :
    ReturnsInHanded {} Tryz.checked os 4 .any (Rows.chainSureSpec.pre6 enc Tryz.prog Tryz.f4 Rows.chainSureRow.domain false) (Rows.chainSureSpec.post enc Tryz.prog Tryz.f4 false true false false) := by
  refine returnsInHanded_of_change (C := Tryz.checked) own started (by kernel_rfl) Tryz.func4
    (ChangeSpec.witness6 (enc := enc) (C := Tryz.checked) false ⟨#[], #[.agg #[.int .u64 0, .int .u64 0, .slice none 0 0, .slice none 0 0, .slice none 0 0], .int .i64 0, .int .u64 0, .int .u64 0], []⟩ 8 (by kernel_rfl) (by kernel_rfl) (by kernel_rfl) (by kernel_rfl)) ?_
  intro W base args ds gs before hval hW _ _
  exact step H enc W base args ds gs before hval hW
theorem over : Rows.chainSureRow.holds Tryz.pinned (OpenSpec.ofChange Rows.chainSureSpec) :=
  OpenClaim.holds_of_wide 4 Tryz.f4 rfl rfl rfl rfl rfl rfl rfl ⟨rfl, rfl, rfl, rfl, rfl⟩ rfl rfl rfl rfl rfl (by kernel_rfl) Tryz.func4 (by kernel_rfl)
    (of_decide_eq_true (by kernel_rfl)) (by unfold Func.isWrapper; rw [if_neg (of_decide_eq_false (by kernel_rfl))]; exact ⟨rfl, rfl⟩)
    (fun os started H enc _ => lifted os started H enc)
end Go.Proofs.YtgblabmhgdiicaaGreat.Tb
namespace Go.Proofs.YtgblabmhgdiicaaGreat
theorem chainSure_holds : Rows.ChainSureSaid := Tb.over
end Go.Proofs.YtgblabmhgdiicaaGreat
