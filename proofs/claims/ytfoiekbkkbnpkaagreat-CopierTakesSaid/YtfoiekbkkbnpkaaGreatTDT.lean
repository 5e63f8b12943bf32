/-
  For every two copiers, time and answer: what the program makes of the copier by the answer and by the tick, and whether the two are the same, are what the document says; and the copier, the answer stay as they were, whatever is written over what the program gave..
-/
import Derived.Test.YtfoiekbkkbnpkaaGreatBd
import Derived.Test.YtfoiekbkkbnpkaaGreatRows
import Derived.WalkKit
set_option linter.unusedSectionVars false
set_option linter.unusedVariables false
set_option linter.unusedSimpArgs false
set_option maxRecDepth 100000
section
open Go Go.Proofs.Tryz Go.AX Go.ChangeShapes Go.WideShapes Go.ChangeAt Go.RowKit
namespace Go.Proofs.YtfoiekbkkbnpkaaGreat.Tb
theorem WQ:ownKnob prog.godebug=none:=by kernel_rfl
theorem step (H:Type)(enc:TypeId×Value→H)(W:World)(base:Nat)(args:Array Value)(ds gs:List (DataW H))(before:List MemPlace)
  (hval:∀(j:Nat) t v,f3.params[j]? = some t→args[j]? = some v→Value.okWide prog W .any base t v)
  (hW:DataW.Whole enc prog f3.params.toList Rows.copierTakesSpec.vars false W args.toList ds gs before) :
  Calls prog 3 args W fun e W'=>∃v,e=.returned v∧Rows.copierTakesSpec.post enc prog f3 false true false false W args v W':=by
 have XR:=hW;obtain⟨p,q,hA,hV,rfl,hz,hnd⟩:=hW;rw[params3] at hA hval;obtain⟨v0,vs0,d0,ds0,p0,q0,hargs,rfl,rfl,h0,r0⟩:=trodAll_cons hA;obtain⟨v1,vs1,d1,ds1,p1,q1,rfl,rfl,rfl,h1,r1⟩:=trodAll_cons r0;obtain⟨v2,vs2,d2,ds2,p2,q2,rfl,rfl,rfl,h2,r2⟩:=trodAll_cons r1;obtain⟨v3,vs3,d3,ds3,p3,q3,rfl,rfl,rfl,h3,r3⟩:=trodAll_cons r2;obtain⟨rfl,rfl,rfl⟩:=trodAll_nil r3;obtain rfl:args = #[v0,v1,v2,v3]:=by cases args;simp_all
 obtain⟨rfl,rfl⟩:=trodVars_none hV;obtain⟨_,⟨c,rfl,Hc⟩,a0⟩:=CZ underlying31 (WR W) (hval 0 31 v0 rfl rfl) h0;obtain⟨_,⟨other,rfl,Uq⟩,a1⟩:=CZ underlying31 (WR W) (hval 1 31 v1 rfl rfl) h1;obtain⟨_,⟨now,e2,Y8⟩,a2⟩:=Qf (Mi W) (Am (by rw[underlying22]) (hval 2 22 v2 rfl rfl)) h2;obtain⟨_,⟨r,rfl,Hr⟩,a3⟩:=CZ underlying33 (Y9 W) (hval 3 33 v3 rfl rfl) h3;simp only[List.cons.injEq,and_true] at e2;subst e2;exact NG (by kernel_rfl) (by kernel_rfl) rfl underlying4 rfl rfl XR (Je c other now r Hc Uq Y8)
  ⟨_,_,rfl,a0,_,_,rfl,a1,_,_,rfl,a2,_,_,rfl,a3,rfl⟩
theorem lifted (os:Os)(started:os.Started)(H:Type)(enc:TypeId×Value→H) :
  ReturnsInHanded {} checked os 3 .any (Rows.copierTakesSpec.pre6 enc prog f3 Rows.copierTakesRow.domain false) (Rows.copierTakesSpec.post enc prog f3 false true false false):=by
 refine returnsInHanded_of_change (C:=checked) WQ started (by kernel_rfl) func3
  (ChangeSpec.witness6 (enc:=enc) (C:=checked) false ⟨#[],#[.agg #[.int .u64 0,.int .i64 0,.int .i64 0,.slice none 0 0,.int .i64 0,.int .u64 0,.int .i64 0,.int .u64 0,.int .i64 0,.int .u64 0,.int .i64 0,.int .u64 0,.slice none 0 0,.slice none 0 0,.int .u64 0,.int .u64 0],.agg #[.int .u64 0,.int .i64 0,.int .i64 0,.slice none 0 0,.int .i64 0,.int .u64 0,.int .i64 0,.int .u64 0,.int .i64 0,.int .u64 0,.int .i64 0,.int .u64 0,.slice none 0 0,.slice none 0 0,.int .u64 0,.int .u64 0],.int .u64 0,.agg #[.int .i64 0,.int .u64 0,.int .i64 0,.int .i64 0,.int .u64 0,.int .u64 0,.int .u64 0,.int .u64 0,.slice none 0 0]],[]⟩ 8 (by kernel_rfl) (by kernel_rfl) (by kernel_rfl) (by kernel_rfl)) ?_
 intro W base args ds gs before hval hW _ _;exact step H enc W base args ds gs before hval hW
theorem over:Rows.copierTakesRow.holds Tryz.pinned (OpenSpec.ofChange Rows.copierTakesSpec):=
 OpenClaim.holds_of_wide 3 f3 rfl rfl rfl rfl rfl rfl rfl ⟨rfl,rfl,rfl,rfl,rfl⟩ rfl rfl rfl rfl rfl (by kernel_rfl) func3 (by kernel_rfl)
  (of_decide_eq_true (by kernel_rfl)) (by unfold Func.isWrapper;rw[if_neg (of_decide_eq_false (by kernel_rfl))];exact⟨rfl,rfl⟩)
  (fun os started H enc _=>lifted os started H enc)
end Go.Proofs.YtfoiekbkkbnpkaaGreat.Tb
namespace Go.Proofs.YtfoiekbkkbnpkaaGreat
theorem copierTakes_holds:Rows.CopierTakesSaid:=Tb.over
end Go.Proofs.YtfoiekbkkbnpkaaGreat
end
