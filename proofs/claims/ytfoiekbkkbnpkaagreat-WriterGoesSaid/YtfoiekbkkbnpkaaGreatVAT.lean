/-
  For every ledger, epoch, row of sends and known places: when those that are known answer all and the plan takes what it is asked for, all that was sent is sure within sixty rounds.
-/
import Derived.Test.YtfoiekbkkbnpkaaGreatBe
import Derived.Test.YtfoiekbkkbnpkaaGreatBd
import Derived.Test.YtfoiekbkkbnpkaaGreatRows
import Derived.WalkKit
set_option linter.unusedSectionVars false
set_option linter.unusedVariables false
set_option linter.unusedSimpArgs false
set_option maxRecDepth 100000
section
open Go Go.Proofs.Tryz Go.AX Go.ChangeShapes Go.WideShapes Go.ChangeAt Go.RowKit
namespace Go.Proofs.YtfoiekbkkbnpkaaGreat.Tb
theorem Uk:ownKnob prog.godebug=none:=by kernel_rfl
theorem step (H:Type)(enc:TypeId×Value→H)(W:World)(base:Nat)(args:Array Value)(ds gs:List (DataW H))(before:List MemPlace)
  (hval:∀(j:Nat) t v,f5.params[j]? = some t→args[j]? = some v→Value.okWide prog W .any base t v)
  (hW:DataW.Whole enc prog f5.params.toList Rows.writerGoesSpec.vars false W args.toList ds gs before) :
  Calls prog 5 args W fun e W'=>∃v,e=.returned v∧Rows.writerGoesSpec.post enc prog f5 false true false false W args v W':=by
 have Zu:=hW;obtain⟨p,q,hA,hV,rfl,hz,hnd⟩:=hW;rw[params5] at hA hval;obtain⟨v0,vs0,d0,ds0,p0,q0,hargs,rfl,rfl,h0,r0⟩:=trodAll_cons hA;obtain⟨v1,vs1,d1,ds1,p1,q1,rfl,rfl,rfl,h1,r1⟩:=trodAll_cons r0;obtain⟨v2,vs2,d2,ds2,p2,q2,rfl,rfl,rfl,h2,r2⟩:=trodAll_cons r1;obtain⟨v3,vs3,d3,ds3,p3,q3,rfl,rfl,rfl,h3,r3⟩:=trodAll_cons r2;obtain⟨rfl,rfl,rfl⟩:=trodAll_nil r3;obtain rfl:args = #[v0,v1,v2,v3]:=by cases args;simp_all
 obtain⟨rfl,rfl⟩:=trodVars_none hV;obtain⟨_,⟨x,rfl,Hx⟩,a0⟩:=M5 underlying25 (abC W) (hval 0 25 v0 rfl rfl) h0;obtain⟨_,⟨aX,e1,Zd⟩,a1⟩:=wN (ZJ W) (jk (by rw[underlying22]) (hval 1 22 v1 rfl rfl)) h1;obtain⟨_,⟨l,e2,Hl⟩,a2⟩:=wN (TY W) (jk (by rw[underlying44]) (hval 2 44 v2 rfl rfl)) h2;obtain⟨_,⟨known,e3,ae1⟩,a3⟩:=wN (TW W) (jk (by rw[underlying28]) (hval 3 28 v3 rfl rfl)) h3;simp only[List.cons.injEq,and_true] at e1 e2 e3;subst e1 e2 e3;exact IE (by kernel_rfl) (by kernel_rfl) rfl underlying4 rfl rfl Zu (P7 x aX l known Hx.r)
  ⟨_,_,rfl,a0,_,_,rfl,a1,_,_,rfl,a2,_,_,rfl,a3,rfl⟩
theorem lifted (os:Os)(started:os.Started)(H:Type)(enc:TypeId×Value→H) :
  ReturnsInHanded {} checked os 5 .any (Rows.writerGoesSpec.pre6 enc prog f5 Rows.writerGoesRow.domain false) (Rows.writerGoesSpec.post enc prog f5 false true false false):=by
 refine returnsInHanded_of_change (C:=checked) Uk started (by kernel_rfl) func5
  (ChangeSpec.witness6 (enc:=enc) (C:=checked) false ⟨#[],#[.agg #[.int .u64 0,.int .i64 0,.int .i64 0,.slice none 0 0,.int .i64 0,.int .u64 0],.int .u64 0,.slice none 0 0,.slice none 0 0],[]⟩ 8 (by kernel_rfl) (by kernel_rfl) (by kernel_rfl) (by kernel_rfl)) ?_
 intro W base args ds gs before hval hW _ _;exact step H enc W base args ds gs before hval hW
theorem over:Rows.writerGoesRow.holds Tryz.pinned (OpenSpec.ofChange Rows.writerGoesSpec):=
 OpenClaim.holds_of_wide 5 f5 rfl rfl rfl rfl rfl rfl rfl ⟨rfl,rfl,rfl,rfl,rfl⟩ rfl rfl rfl rfl rfl (by kernel_rfl) func5 (by kernel_rfl)
  (of_decide_eq_true (by kernel_rfl)) (by unfold Func.isWrapper;rw[if_neg (of_decide_eq_false (by kernel_rfl))];exact⟨rfl,rfl⟩)
  (fun os started H enc _=>lifted os started H enc)
end Go.Proofs.YtfoiekbkkbnpkaaGreat.Tb
namespace Go.Proofs.YtfoiekbkkbnpkaaGreat
theorem writerGoes_holds:Rows.WriterGoesSaid:=Tb.over
end Go.Proofs.YtfoiekbkkbnpkaaGreat
end
