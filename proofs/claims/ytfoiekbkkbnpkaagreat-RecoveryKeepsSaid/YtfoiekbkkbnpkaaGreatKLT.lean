/-
  For every ledger, epoch and row of steps of an older owner, of recoveries, bookies and the plan: when a recovery is ended, what it tells keeps each entry that was answered, as it was sent, and what the writer is sure of..
-/
import Derived.Test.YtfoiekbkkbnpkaaGreatBg
import Derived.Test.YtfoiekbkkbnpkaaGreatRows
import Derived.WalkKit
set_option linter.unusedSectionVars false
set_option linter.unusedVariables false
set_option linter.unusedSimpArgs false
set_option maxRecDepth 100000
section
open Go Go.Proofs.Tryz Go.AX Go.ChangeShapes Go.WideShapes Go.ChangeAt Go.RowKit
namespace Go.Proofs.YtfoiekbkkbnpkaaGreat.Tb
theorem ahv:ownKnob prog.godebug=none:=by kernel_rfl
theorem step (H:Type)(enc:TypeId×Value→H)(W:World)(base:Nat)(args:Array Value)(ds gs:List (DataW H))(before:List MemPlace)
  (hval:∀(j:Nat) t v,f6.params[j]? = some t→args[j]? = some v→Value.okWide prog W .any base t v)
  (hW:DataW.Whole enc prog f6.params.toList Rows.recoveryKeepsSpec.vars false W args.toList ds gs before) :
  Calls prog 6 args W fun e W'=>∃v,e=.returned v∧Rows.recoveryKeepsSpec.post enc prog f6 false true false false W args v W':=by
 have hW0:=hW;obtain⟨p,q,hA,hV,rfl,hz,hnd⟩:=hW;rw[params6] at hA hval;obtain⟨v0,vs0,d0,ds0,p0,q0,hargs,rfl,rfl,h0,r0⟩:=trodAll_cons hA;obtain⟨v1,vs1,d1,ds1,p1,q1,rfl,rfl,rfl,h1,r1⟩:=trodAll_cons r0;obtain⟨v2,vs2,d2,ds2,p2,q2,rfl,rfl,rfl,h2,r2⟩:=trodAll_cons r1;obtain⟨rfl,rfl,rfl⟩:=trodAll_nil r2;obtain rfl:args = #[v0,v1,v2]:=by cases args;simp_all
 obtain⟨rfl,rfl⟩:=trodVars_none hV;obtain⟨_,⟨x,rfl,Hx⟩,a0⟩:=abz underlying25 (ajH W) (hval 0 25 v0 rfl rfl) h0;obtain⟨_,⟨au,e1,ajI⟩,a1⟩:=Ru (rdU W) (xg (by rw[underlying22]) (hval 1 22 v1 rfl rfl)) h1;obtain⟨_,⟨l,e2,Hl⟩,a2⟩:=Ru (afg W) (xg (by rw[underlying75]) (hval 2 75 v2 rfl rfl)) h2;simp only[List.cons.injEq,and_true] at e1 e2;subst e1 e2;exact XC (by kernel_rfl) (by kernel_rfl) rfl underlying4 rfl rfl hW0 (Qp x au l Hx.r)
  ⟨_,_,rfl,a0,_,_,rfl,a1,_,_,rfl,a2,rfl⟩
theorem lifted (os:Os)(started:os.Started)(H:Type)(enc:TypeId×Value→H) :
  ReturnsInHanded {} checked os 6 .any (Rows.recoveryKeepsSpec.pre6 enc prog f6 Rows.recoveryKeepsRow.domain false) (Rows.recoveryKeepsSpec.post enc prog f6 false true false false):=by
 refine returnsInHanded_of_change (C:=checked) ahv started (by kernel_rfl) func6
  (ChangeSpec.witness6 (enc:=enc) (C:=checked) false ⟨#[],#[.agg #[.int .u64 0,.int .i64 0,.int .i64 0,.slice none 0 0,.int .i64 0,.int .u64 0],.int .u64 0,.slice none 0 0],[]⟩ 8 (by kernel_rfl) (by kernel_rfl) (by kernel_rfl) (by kernel_rfl)) ?_
 intro W base args ds gs before hval hW _ _;exact step H enc W base args ds gs before hval hW
theorem over:Rows.recoveryKeepsRow.holds Tryz.pinned (OpenSpec.ofChange Rows.recoveryKeepsSpec):=
 OpenClaim.holds_of_wide 6 f6 rfl rfl rfl rfl rfl rfl rfl ⟨rfl,rfl,rfl,rfl,rfl⟩ rfl rfl rfl rfl rfl (by kernel_rfl) func6 (by kernel_rfl)
  (of_decide_eq_true (by kernel_rfl)) (by unfold Func.isWrapper;rw[if_neg (of_decide_eq_false (by kernel_rfl))];exact⟨rfl,rfl⟩)
  (fun os started H enc _=>lifted os started H enc)
end Go.Proofs.YtfoiekbkkbnpkaaGreat.Tb
namespace Go.Proofs.YtfoiekbkkbnpkaaGreat
theorem recoveryKeeps_holds:Rows.RecoveryKeepsSaid:=Tb.over
end Go.Proofs.YtfoiekbkkbnpkaaGreat
end
