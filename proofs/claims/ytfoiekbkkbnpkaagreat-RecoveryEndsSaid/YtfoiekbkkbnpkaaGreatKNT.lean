/-
  RecoveryEnds: whatever ledger, epoch, steps of an older owner, bits and known places: when somebody takes over, all that is on its way is lost, and the others and the known places answer at once, the recovery ends within the rounds; proved of the given program for every input, without any condition.
-/
import Derived.Test.YtfoiekbkkbnpkaaGreatBg
import Derived.Test.YtfoiekbkkbnpkaaGreatRows
import Derived.WalkKit
set_option linter.unusedSectionVars false
set_option linter.unusedVariables false
set_option linter.unusedSimpArgs false
set_option maxRecDepth 100000
section
open Go Go.Proofs.Tryz Go.AX Go.ChangeShapes Go.WideShapes Go.ChangeAt Go.RowKit
namespace Go.Proofs.YtfoiekbkkbnpkaaGreat.Tb
theorem aj4:ownKnob prog.godebug=none:=by kernel_rfl
theorem step (H:Type)(enc:TypeId×Value→H)(W:World)(base:Nat)(args:Array Value)(ds gs:List (DataW H))(before:List MemPlace)
  (G:∀(j:Nat) t v,f7.params[j]? = some t→args[j]? = some v→Value.okWide prog W .any base t v)
  (hW:DataW.Whole enc prog f7.params.toList Rows.recoveryEndsSpec.vars false W args.toList ds gs before) :
  Calls prog 7 args W fun e W'=>∃v,e=.returned v∧Rows.recoveryEndsSpec.post enc prog f7 false true false false W args v W':=by
 have K:=hW;obtain⟨p,q,hA,hV,rfl,hz,am⟩:=hW;rw[params7] at hA G;obtain⟨v0,ao,d0,af,p0,q0,Q,rfl,rfl,h0,r0⟩:=trodAll_cons hA;obtain⟨v1,ap,d1,ag,p1,q1,rfl,rfl,rfl,h1,r1⟩:=trodAll_cons r0;obtain⟨v2,aq,d2,ah,p2,q2,rfl,rfl,rfl,h2,r2⟩:=trodAll_cons r1;obtain⟨v3,ar,d3,ai,p3,q3,rfl,rfl,rfl,h3,r3⟩:=trodAll_cons r2;obtain⟨v4,aw,d4,al,p4,q4,rfl,rfl,rfl,h4,r4⟩:=trodAll_cons r3;obtain⟨rfl,rfl,rfl⟩:=trodAll_nil r4;obtain rfl:args = #[v0,v1,v2,v3,v4]:=by cases args;simp_all
 obtain⟨rfl,rfl⟩:=trodVars_none hV;obtain⟨_,⟨x,rfl,Hx⟩,a0⟩:=adi underlying25 (alZ W) (G 0 25 v0 rfl rfl) h0;obtain⟨_,⟨ak,S,aa⟩,a1⟩:=Ec (rdU W) (nM (by rw[underlying22]) (G 1 22 v1 rfl rfl)) h1;obtain⟨_,⟨l,V,Hl⟩,a2⟩:=Ec (ahu W) (nM (by rw[underlying75]) (G 2 75 v2 rfl rfl)) h2;obtain⟨_,⟨J,X,ae⟩,a3⟩:=Ec (rdI W) (nM (by rw[underlying3]) (G 3 3 v3 rfl rfl)) h3;obtain⟨_,⟨known,e4,ad⟩,a4⟩:=Ec (aaY W) (nM (by rw[underlying28]) (G 4 28 v4 rfl rfl)) h4;simp only[List.cons.injEq,and_true] at S V X e4;subst S V X e4;exact YE (by kernel_rfl) (by kernel_rfl) rfl underlying4 rfl rfl K (Wi x ak l J known Hx.r)
  ⟨_,_,rfl,a0,_,_,rfl,a1,_,_,rfl,a2,_,_,rfl,a3,_,_,rfl,a4,rfl⟩
theorem lifted (K:Os)(G:K.Started)(H:Type)(enc:TypeId×Value→H) :
  ReturnsInHanded {} checked K 7 .any (Rows.recoveryEndsSpec.pre6 enc prog f7 Rows.recoveryEndsRow.domain false) (Rows.recoveryEndsSpec.post enc prog f7 false true false false):=by
 refine returnsInHanded_of_change (C:=checked) aj4 G (by kernel_rfl) func7
  (ChangeSpec.witness6 (enc:=enc) (C:=checked) false ⟨#[],#[.agg #[.int .u64 0,.int .i64 0,.int .i64 0,.slice none 0 0,.int .i64 0,.int .u64 0],.int .u64 0,.slice none 0 0,.int .i64 0,.slice none 0 0],[]⟩ 8 (by kernel_rfl) (by kernel_rfl) (by kernel_rfl) (by kernel_rfl)) ?_
 intro W base args ds Q before J S _ _;exact step H enc W base args ds Q before J S
theorem over:Rows.recoveryEndsRow.holds Tryz.pinned (OpenSpec.ofChange Rows.recoveryEndsSpec):=
 OpenClaim.holds_of_wide 7 f7 rfl rfl rfl rfl rfl rfl rfl ⟨rfl,rfl,rfl,rfl,rfl⟩ rfl rfl rfl rfl rfl (by kernel_rfl) func7 (by kernel_rfl)
  (of_decide_eq_true (by kernel_rfl)) (by unfold Func.isWrapper;rw[if_neg (of_decide_eq_false (by kernel_rfl))];exact⟨rfl,rfl⟩)
  (fun K G H J _=>lifted K G H J)
end Go.Proofs.YtfoiekbkkbnpkaaGreat.Tb
namespace Go.Proofs.YtfoiekbkkbnpkaaGreat
theorem recoveryEnds_holds:Rows.RecoveryEndsSaid:=Tb.over
end Go.Proofs.YtfoiekbkkbnpkaaGreat
end
