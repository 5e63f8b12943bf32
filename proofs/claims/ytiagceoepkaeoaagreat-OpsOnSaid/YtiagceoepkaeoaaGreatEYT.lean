/-
  For every row of operations and more of them: what never falls, what stays, what does not come back.
-/
import Derived.Test.YtiagceoepkaeoaaGreatBn
import Derived.Test.YtiagceoepkaeoaaGreatBi
import Derived.Test.YtiagceoepkaeoaaGreatRows
import Derived.WalkKit
set_option linter.unusedSectionVars false
set_option linter.unusedVariables false
set_option linter.unusedSimpArgs false
set_option maxRecDepth 100000
section
open Go Go.Proofs.Tryz Go.AX Go.ChangeShapes Go.WideShapes Go.ChangeAt Go.RowKit
namespace Go.Proofs.YtiagceoepkaeoaaGreat.Tb
theorem Bl:ownKnob prog.godebug=none:=by kernel_rfl
theorem step (H:Type)(enc:TypeId×Value→H)(W:World)(base:Nat)(args:Array Value)(ds gs:List (DataW H))(before:List MemPlace)
  (hval:∀(j:Nat) t v,f3.params[j]? = some t→args[j]? = some v→Value.okWide prog W .any base t v)
  (hW:DataW.Whole enc prog f3.params.toList Rows.opsOnSpec.vars false W args.toList ds gs before) :
  Calls prog 3 args W fun e W'=>∃v,e=.returned v∧Rows.opsOnSpec.post enc prog f3 false true false false W args v W':=by
 have V6:=hW;obtain⟨p,q,hA,hV,rfl,hz,hnd⟩:=hW;rw[params3] at hA hval;obtain⟨v0,vs0,d0,ds0,p0,q0,hargs,rfl,rfl,h0,r0⟩:=trodAll_cons hA;obtain⟨v1,vs1,d1,ds1,p1,q1,rfl,rfl,rfl,h1,r1⟩:=trodAll_cons r0;obtain⟨v2,vs2,d2,ds2,p2,q2,rfl,rfl,rfl,h2,r2⟩:=trodAll_cons r1;obtain⟨rfl,rfl,rfl⟩:=trodAll_nil r2;obtain rfl:args = #[v0,v1,v2]:=by cases args;simp_all
 obtain⟨rfl,rfl⟩:=trodVars_none hV;obtain⟨_,⟨n,e0,Hn⟩,a0⟩:=kS (VT W) (dK (by rw[underlying3]) (hval 0 3 v0 rfl rfl)) h0;obtain⟨_,⟨l,e1,Hl⟩,a1⟩:=kS (GH W) (dK (by rw[underlying22]) (hval 1 22 v1 rfl rfl)) h1;obtain⟨_,⟨more,e2,Zo⟩,a2⟩:=kS (GH W) (dK (by rw[underlying22]) (hval 2 22 v2 rfl rfl)) h2;simp only[List.cons.injEq,and_true] at e0 e1 e2;subst e0 e1 e2;exact vO (by kernel_rfl) (by kernel_rfl) rfl underlying4 rfl rfl V6 (abT n l more (fun x hx=>(Hl x hx).at_.1) (fun x hx=>(Zo x hx).at_.1))
  ⟨_,_,rfl,a0,_,_,rfl,a1,_,_,rfl,a2,rfl⟩
theorem lifted (os:Os)(started:os.Started)(H:Type)(enc:TypeId×Value→H) :
  ReturnsInHanded {} checked os 3 .any (Rows.opsOnSpec.pre6 enc prog f3 Rows.opsOnRow.domain false) (Rows.opsOnSpec.post enc prog f3 false true false false):=by
 refine returnsInHanded_of_change (C:=checked) Bl started (by kernel_rfl) func3
  (ChangeSpec.witness6 (enc:=enc) (C:=checked) false ⟨#[],#[.int .i64 0,.slice none 0 0,.slice none 0 0],[]⟩ 8 (by kernel_rfl) (by kernel_rfl) (by kernel_rfl) (by kernel_rfl)) ?_
 intro W base args ds gs before hval hW _ _;exact step H enc W base args ds gs before hval hW
theorem over:Rows.opsOnRow.holds Tryz.pinned (OpenSpec.ofChange Rows.opsOnSpec):=
 OpenClaim.holds_of_wide 3 f3 rfl rfl rfl rfl rfl rfl rfl ⟨rfl,rfl,rfl,rfl,rfl⟩ rfl rfl rfl rfl rfl (by kernel_rfl) func3 (by kernel_rfl)
  (of_decide_eq_true (by kernel_rfl)) (by unfold Func.isWrapper;rw[if_neg (of_decide_eq_false (by kernel_rfl))];exact⟨rfl,rfl⟩)
  (fun os started H enc _=>lifted os started H enc)
end Go.Proofs.YtiagceoepkaeoaaGreat.Tb
namespace Go.Proofs.YtiagceoepkaeoaaGreat
theorem opsOn_holds:Rows.OpsOnSaid:=Tb.over
end Go.Proofs.YtiagceoepkaeoaaGreat
end
