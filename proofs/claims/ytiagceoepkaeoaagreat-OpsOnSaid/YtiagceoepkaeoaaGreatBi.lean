/-
  Contracts of functions of the program and of the document, each for every input that its premises name.
-/
import Derived.Test.YtiagceoepkaeoaaGreatAg
import Derived.Test.YtiagceoepkaeoaaGreatAf
import Derived.Test.YtiagceoepkaeoaaGreatProg
set_option linter.unusedSectionVars false
set_option linter.unusedVariables false
set_option linter.unusedSimpArgs false
set_option maxRecDepth 100000
section
open Go Go.Proofs.Tryz Go.AX
namespace Go.Proofs.YtiagceoepkaeoaaGreat.Tb
def plR (x:Pl):Prop:=KA x.node∧y8 x.dB
def frR (x:Fr):Prop:=y8 x.first∧∀p∈x.aI,plR p
def lgF (l:Lg):Prop:=y8 l.id∧KA l.w∧KA l.a∧KA l.closed∧y8 l.last∧∀f∈l.aA,frR f
theorem lgF.r {l:Lg}(h:lgF l):lgR l:=⟨h.1,h.2.1,h.2.2.1,h.2.2.2.1,h.2.2.2.2.1,fun f hf=>(h.2.2.2.2.2 f hf).1⟩
def mkR (x:Mk):Prop:=KA x.producer∧y8 x.seq∧y8 x.offset
section
variable (w:World)
theorem VT:Rd prog w 3 1 (fun row=>∃i,row=[ii i]∧KA i):=
 (Xt underlying3 (by kernel_rfl)).imp fun row _ ⟨i,e,h⟩=>⟨i,e,wf_i64 h⟩
theorem ZM:Rd prog w 23 1 (fun row=>∃i,row=[uu i]∧y8 i):=
 (Xt underlying23 (by kernel_rfl)).imp fun row _ ⟨i,e,h⟩=>⟨i,e,wf_u64 h⟩
theorem aeH:Rd prog w 36 2 (fun row=>∃x:Pl,row=x.c∧plR x):=
 (xB (sp:=[(1,_),(1,_)]) underlying36 (by kernel_rfl) ⟨rfl,VT w,rfl,ZM w,trivial⟩).imp fun row _ h=>by
  obtain⟨_,_,rfl,_,⟨i,rfl,hi⟩,_,_,rfl,_,⟨j,rfl,hj⟩,rfl⟩:=h;exact⟨⟨i,j⟩,rfl,hi,hj⟩
theorem ag2:Rd prog w 78 1 (fun row=>∃l:List Pl,row=[vP l]∧∀x∈l,plR x):=
 (Ag underlying78 (by kernel_rfl) (by decide) (aeH w)).imp fun row _ ⟨rows,e,h⟩=>by
  obtain⟨l,rfl,hl⟩:=Ai fun r hr=>(h r hr).2
  exact⟨l,e,hl⟩
theorem ajx:Rd prog w 80 2 (fun row=>∃x:Fr,row=x.c∧frR x):=
 (xB (sp:=[(1,_),(1,_)]) underlying80 (by kernel_rfl) ⟨rfl,ZM w,rfl,ag2 w,trivial⟩).imp fun row _ h=>by
  obtain⟨_,_,rfl,_,⟨i,rfl,hi⟩,_,_,rfl,_,⟨l,rfl,hl⟩,rfl⟩:=h;exact⟨⟨i,l⟩,rfl,hi,hl⟩
theorem ag3:Rd prog w 33 1 (fun row=>∃l:List Fr,row=[p8 l]∧∀x∈l,frR x):=
 (Ag underlying33 (by kernel_rfl) (by decide) (ajx w)).imp fun row _ ⟨rows,e,h⟩=>by
  obtain⟨l,rfl,hl⟩:=Ai fun r hr=>(h r hr).2
  exact⟨l,e,hl⟩
theorem ajy:Rd prog w 103 3 (fun row=>∃x:Mk,row=x.c∧mkR x):=
 (xB (sp:=[(1,_),(1,_),(1,_)]) underlying103 (by kernel_rfl) ⟨rfl,VT w,rfl,ZM w,rfl,ZM w,trivial⟩).imp fun row _ h=>by
  obtain⟨_,_,rfl,_,⟨i,rfl,hi⟩,_,_,rfl,_,⟨j,rfl,hj⟩,_,_,rfl,_,⟨k,rfl,hk⟩,rfl⟩:=h;exact⟨⟨i,j,k⟩,rfl,hi,hj,hk⟩
theorem ag4:Rd prog w 34 1 (fun row=>∃l:List Mk,row=[qp l]∧∀x∈l,mkR x):=
 (Ag underlying34 (by kernel_rfl) (by decide) (ajy w)).imp fun row _ ⟨rows,e,h⟩=>by
  obtain⟨l,rfl,hl⟩:=Ai fun r hr=>(h r hr).2
  exact⟨l,e,hl⟩
end
structure opR (x:aV):Prop where
 inc:y8 x.inc
 n:y8 x.n
 at_:y8 x.at_
section
variable (w:World)
theorem VU:Rd prog w 38 18 (fun row=>∃x:aV,row=x.c∧opR x):=
 (xB (sp:=[(1,_),(1,_),(1,_),(1,_),(1,_),(1,_),(1,_),(1,_),(1,_),(1,_),(1,_),(1,_),(1,_),(1,_),(2,_),(2,_)]) underlying38 (by kernel_rfl) ⟨rfl,VT w,rfl,ZM w,rfl,ZM w,rfl,VT w,rfl,VT w,rfl,ZM w,rfl,ZM w,rfl,ZM w,rfl,ZM w,rfl,VT w,rfl,VT w,rfl,VT w,rfl,ag3 w,rfl,ag4 w,rfl,aeH w,rfl,aeH w,trivial⟩).imp fun row _ h=>by
  obtain⟨_,_,rfl,_,⟨i1,rfl,h1⟩,_,_,rfl,_,⟨i2,rfl,h2⟩,_,_,rfl,_,⟨i3,rfl,h3⟩,_,_,rfl,_,⟨i4,rfl,h4⟩,_,_,rfl,_,⟨i5,rfl,h5⟩,_,_,rfl,_,⟨i6,rfl,h6⟩,_,_,rfl,_,⟨i7,rfl,h7⟩,_,_,rfl,_,⟨i8,rfl,h8⟩,_,_,rfl,_,⟨i9,rfl,h9⟩,_,_,rfl,_,⟨i10,rfl,h10⟩,_,_,rfl,_,⟨i11,rfl,h11⟩,_,_,rfl,_,⟨i12,rfl,h12⟩,_,_,rfl,_,⟨l1,rfl,k1⟩,_,_,rfl,_,⟨l2,rfl,k2⟩,_,_,rfl,_,⟨p1,rfl,q1⟩,_,_,rfl,_,⟨p2,rfl,q2⟩,rfl⟩:=h;exact⟨⟨i1,i2,i3,i4,i5,i6,i7,i8,i9,i10,i11,i12,l1,l2,p1,p2⟩,rfl,h2,h3,h8⟩
theorem GH:Rd prog w 22 1 (fun row=>∃l:List aV,row=[.sl false 18 (l.map aV.c)]∧∀x∈l,opR x):=
 (Ag underlying22 (by kernel_rfl) (by decide) (VU w)).imp fun row _ ⟨rows,e,h⟩=>by
  obtain⟨l,rfl,hl⟩:=Ai fun r hr=>(h r hr).2
  exact⟨l,e,hl⟩
end
end Go.Proofs.YtiagceoepkaeoaaGreat.Tb
end
