/-
  For every row of operations: what Gone tells is what OpForget names.
-/
import Derived.Test.YtiagceoepkaeoaaGreatBi
import Derived.Test.YtiagceoepkaeoaaGreatBh
import Derived.Test.YtiagceoepkaeoaaGreatRows
import Derived.WalkKit
set_option linter.unusedSectionVars false
set_option linter.unusedVariables false
set_option linter.unusedSimpArgs false
set_option maxRecDepth 100000
section
open Go Go.Proofs.Tryz Go.AX Go.ChangeShapes Go.WideShapes Go.ChangeAt Go.RowKit
namespace Go.Proofs.YtiagceoepkaeoaaGreat.Tb
theorem ZW:ownKnob prog.godebug=none:=by kernel_rfl
theorem step (H:Type)(enc:TypeId×Value→H)(W:World)(base:Nat)(args:Array Value)(ds gs:List (DataW H))(before:List MemPlace)
  (hval:∀(j:Nat) t v,f9.params[j]? = some t→args[j]? = some v→Value.okWide prog W .any base t v)
  (hW:DataW.Whole enc prog f9.params.toList Rows.chainGoneSpec.vars false W args.toList ds gs before) :
  Calls prog 9 args W fun e W'=>∃v,e=.returned v∧Rows.chainGoneSpec.post enc prog f9 false true false false W args v W':=by
 have hW0:=hW;obtain⟨p,q,hA,hV,rfl,hz,hnd⟩:=hW;rw[params9] at hA hval;obtain⟨v0,vs0,d0,ds0,p0,q0,hargs,rfl,rfl,h0,r0⟩:=trodAll_cons hA;obtain⟨v1,vs1,d1,ds1,p1,q1,rfl,rfl,rfl,h1,r1⟩:=trodAll_cons r0;obtain⟨v2,vs2,d2,ds2,p2,q2,rfl,rfl,rfl,h2,r2⟩:=trodAll_cons r1;obtain⟨v3,vs3,d3,ds3,p3,q3,rfl,rfl,rfl,h3,r3⟩:=trodAll_cons r2;obtain⟨rfl,rfl,rfl⟩:=trodAll_nil r3;obtain rfl:args = #[v0,v1,v2,v3]:=by cases args;simp_all
 obtain⟨rfl,rfl⟩:=trodVars_none hV;obtain⟨_,⟨n,e0,Hn⟩,a0⟩:=nu (WV W) (fw (by rw[underlying3]) (hval 0 3 v0 rfl rfl)) h0;obtain⟨_,⟨l,e1,Hl⟩,a1⟩:=nu (ZX W) (fw (by rw[underlying22]) (hval 1 22 v1 rfl rfl)) h1;obtain⟨_,⟨ch,e2,Hch⟩,a2⟩:=nu (WV W) (fw (by rw[underlying3]) (hval 2 3 v2 rfl rfl)) h2;obtain⟨_,⟨sure,e3,ZY⟩,a3⟩:=nu (WA W) (fw (by rw[underlying23]) (hval 3 23 v3 rfl rfl)) h3;simp only[List.cons.injEq,and_true] at e0 e1 e2 e3;subst e0 e1 e2 e3;exact Nv (by kernel_rfl) (by kernel_rfl) rfl underlying4 rfl rfl hW0 (WB n l ch sure (fun x hx=>(Hl x hx).at_.1) ZY.1)
  ⟨_,_,rfl,a0,_,_,rfl,a1,_,_,rfl,a2,_,_,rfl,a3,rfl⟩
theorem lifted (os:Os)(started:os.Started)(H:Type)(enc:TypeId×Value→H) :
  ReturnsInHanded {} checked os 9 .any (Rows.chainGoneSpec.pre6 enc prog f9 Rows.chainGoneRow.domain false) (Rows.chainGoneSpec.post enc prog f9 false true false false):=by
 refine returnsInHanded_of_change (C:=checked) ZW started (by kernel_rfl) func9
  (ChangeSpec.witness6 (enc:=enc) (C:=checked) false ⟨#[],#[.int .i64 0,.slice none 0 0,.int .i64 0,.int .u64 0],[]⟩ 8 (by kernel_rfl) (by kernel_rfl) (by kernel_rfl) (by kernel_rfl)) ?_
 intro W base args ds gs before hval hW _ _;exact step H enc W base args ds gs before hval hW
theorem over:Rows.chainGoneRow.holds Tryz.pinned (OpenSpec.ofChange Rows.chainGoneSpec):=
 OpenClaim.holds_of_wide 9 f9 rfl rfl rfl rfl rfl rfl rfl ⟨rfl,rfl,rfl,rfl,rfl⟩ rfl rfl rfl rfl rfl (by kernel_rfl) func9 (by kernel_rfl)
  (of_decide_eq_true (by kernel_rfl)) (by unfold Func.isWrapper;rw[if_neg (of_decide_eq_false (by kernel_rfl))];exact⟨rfl,rfl⟩)
  (fun os started H enc _=>lifted os started H enc)
end Go.Proofs.YtiagceoepkaeoaaGreat.Tb
namespace Go.Proofs.YtiagceoepkaeoaaGreat
theorem chainGone_holds:Rows.ChainGoneSaid:=Tb.over
end Go.Proofs.YtiagceoepkaeoaaGreat
end
