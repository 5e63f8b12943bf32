/-
  Contracts of functions of the program and of the document, each for every input that its premises name.
-/
import Derived.Test.YtiagceoepkaeoaaGreatBh
import Derived.Test.YtiagceoepkaeoaaGreatAh
set_option linter.unusedSectionVars false
set_option linter.unusedVariables false
set_option linter.unusedSimpArgs false
set_option maxRecDepth 100000
set_option maxHeartbeats 4000000
section
open Go Go.Proofs.Tryz Go.AX
namespace Go.Proofs.YtiagceoepkaeoaaGreat.Tb
theorem gL:Mg prog 4 f4:=bZ func4
theorem Oc.O3 (x:Oc):((x.code==x.code)&&((x.aY==x.aY)&&((x.at_==x.at_)&&((x.bA==x.bA)&&(x.owner==x.owner)))))=true:=by simp
theorem Rz (n:Int)(l:List aV)(x y:aV)(h0:∀z∈l,0≤z.at_)(hx0:0≤x.at_)(hy0:0≤y.at_):bE prog 4 [ii n,Tx l,.agg x.c,.agg y.c] (bl true):=by
 refine PC.le ?_;have cP:=wW n l h0;have cX:=lK x;have cY:=lK y;cases hp:yK n l with
 | none=>
   rw[hp] at cP;simp only[Option.getD_none,Option.isSome_none] at cP;clear hp;refine bN gL ?_;repeat' ((conv=>whnf);first|with_reducible apply aK|((with_reducible apply fk)<;>intro hc<;>try exact aM)|(apply aC;(conv=>whnf);refine⟨_,cP,?_⟩)|(apply aC;(conv=>whnf);refine⟨_,bF,?_⟩)|((with_reducible apply And.intro);exact aG)|fail)
   all_goals exact aL
 |some p=>
 rw[hp] at cP;simp only[Option.getD_some,Option.isSome_some] at cP;have hok:=wX hp h0;cases hlx:ja x with
 | true=>
   rw[hlx] at cX;clear hp hlx hok;refine bN gL ?_;repeat' ((conv=>whnf);first|with_reducible apply aK|((with_reducible apply fk)<;>intro hc<;>try exact aM)|(apply aC;(conv=>whnf);refine⟨_,cP,?_⟩)|(apply aC;(conv=>whnf);refine⟨_,cX,?_⟩)|(apply aC;(conv=>whnf);refine⟨_,bF,?_⟩)|((with_reducible apply And.intro);exact aG)|fail)
   all_goals exact aL
 |false=>
 cases hly:ja y with
 | true=>
   rw[hlx] at cX;rw[hly] at cY;clear hp hlx hok hly;refine bN gL ?_;repeat' ((conv=>whnf);first|with_reducible apply aK|((with_reducible apply fk)<;>intro hc<;>try exact aM)|(apply aC;(conv=>whnf);refine⟨_,cP,?_⟩)|(apply aC;(conv=>whnf);refine⟨_,cX,?_⟩)|(apply aC;(conv=>whnf);refine⟨_,cY,?_⟩)|(apply aC;(conv=>whnf);refine⟨_,bF,?_⟩)|((with_reducible apply And.intro);exact aG)|fail)
   all_goals exact aL
 |false=>
 have hBx:=um hlx;have hBy:=um hly;have hap:=@Nz p hok x y hx0 hy0;have a1:=iM hok hBx;have a2:=iM (gQ hok hx0) hBy;have a3:=iM hok hBy;have a4:=iM (gQ hok hy0) hBx;have O4:=(gQ (gQ hok hy0) hx0).Dc;rw[hlx] at cX;rw[hly] at cY;clear hp hlx hly hok hBx hBy;replace hap:=Hd.mk hap;have h60:IntKind.u64.wrap (1152921504606846976:Int)=1152921504606846976:=by decide
 cases b1:(x.who==y.who) with
 | true=>
   refine bN gL ?_;repeat' ((conv=>whnf);first|with_reducible apply aK|((with_reducible apply fk)<;>intro hc<;>try exact aM)|(apply aC;(conv=>whnf);refine⟨_,cP,?_⟩)|(apply aC;(conv=>whnf);refine⟨_,cX,?_⟩)|(apply aC;(conv=>whnf);refine⟨_,cY,?_⟩)|(apply aC;(conv=>whnf);refine⟨_,bF,?_⟩)|((with_reducible apply And.intro);exact aG)|fail)
   all_goals exact aL
 |false=>
 cases b2:(x.channel==y.channel) with
 | true=>
   refine bN gL ?_;repeat' ((conv=>whnf);first|with_reducible apply aK|((with_reducible apply fk)<;>intro hc<;>try exact aM)|(apply aC;(conv=>whnf);refine⟨_,cP,?_⟩)|(apply aC;(conv=>whnf);refine⟨_,cX,?_⟩)|(apply aC;(conv=>whnf);refine⟨_,cY,?_⟩)|(apply aC;(conv=>whnf);refine⟨_,bF,?_⟩)|((with_reducible apply And.intro);exact aG)|fail)
   all_goals exact aL
 |false=>
 cases b3:(x.kind==12) with
 | true=>
   refine bN gL ?_;repeat' ((conv=>whnf);first|with_reducible apply aK|((with_reducible apply fk)<;>intro hc<;>try exact aM)|(apply aC;(conv=>whnf);refine⟨_,cP,?_⟩)|(apply aC;(conv=>whnf);refine⟨_,cX,?_⟩)|(apply aC;(conv=>whnf);refine⟨_,cY,?_⟩)|(apply aC;(conv=>whnf);refine⟨_,bF,?_⟩)|((with_reducible apply And.intro);exact aG)|fail)
   all_goals exact aL
 |false=>
 cases b4:(y.kind==12) with
 | true=>
   refine bN gL ?_;repeat' ((conv=>whnf);first|with_reducible apply aK|((with_reducible apply fk)<;>intro hc<;>try exact aM)|(apply aC;(conv=>whnf);refine⟨_,cP,?_⟩)|(apply aC;(conv=>whnf);refine⟨_,cX,?_⟩)|(apply aC;(conv=>whnf);refine⟨_,cY,?_⟩)|(apply aC;(conv=>whnf);refine⟨_,bF,?_⟩)|((with_reducible apply And.intro);exact aG)|fail)
   all_goals exact aL
 |false=>
 cases b7:decide (p.version>1152921504606846976) with
 | true=>
   refine bN gL ?_;repeat' ((conv=>whnf);first|with_reducible apply aK|((with_reducible apply fk)<;>intro hc<;>try exact aM)|rewrite[h60]|(apply aC;(conv=>whnf);refine⟨_,cP,?_⟩)|(apply aC;(conv=>whnf);refine⟨_,cX,?_⟩)|(apply aC;(conv=>whnf);refine⟨_,cY,?_⟩)|(apply aC;(conv=>whnf);refine⟨_,bF,?_⟩)|((with_reducible apply And.intro);exact aG)|fail)
   all_goals exact aL
 |false=>
 cases b6:((x.kind==4)&&(y.kind==4)) with
 | true=>
   have b5:(x.kind==4)=true:=by revert b6;cases (x.kind==4)<;>simp
   have b8:(y.kind==4)=true:=by revert b6;rw[b5];simp
   clear b6;refine bN gL ?_;repeat' ((conv=>whnf);first|with_reducible apply aK|((with_reducible apply fk)<;>intro hc<;>try exact aM)|rewrite[h60]|(apply aC;(conv=>whnf);refine⟨_,cP,?_⟩)|(apply aC;(conv=>whnf);refine⟨_,cX,?_⟩)|(apply aC;(conv=>whnf);refine⟨_,cY,?_⟩)|(apply aC;(conv=>whnf);refine⟨_,bF,?_⟩)|((with_reducible apply And.intro);exact aG)|fail)
   all_goals exact aL
 |false=>
 have f:=hap.out (by simpa using b1) (by simpa using b2) (by simpa using b3) (by simpa using b4) (fun e=>by rw[e.1,e.2] at b6;cases b6) (by simpa using b7);obtain⟨f1,f2,f3⟩:=f;rw[f3,f2] at a2;rw[f1] at a4;have cS:=oV (aS (aS p y).1 x).1 (aS (aS p y).1 x).1 O4;rw[show decide ((aS (aS p y).1 x).1=(aS (aS p y).1 x).1)=true from by simp] at cS;clear hap f1 f2 f3 O4;generalize (aS (aS p y).1 x).1=q at *;generalize (aS p x).2=u at *;generalize (aS p y).2=v at *;generalize (aS p x).1=q1 at *;generalize (aS p y).1=q2 at *;have e1:=Oc.O3 u;have e2:=Oc.O3 v;have b9:(x.kind==4)=false∨((x.kind==4)=true∧(y.kind==4)=false):=by revert b6;cases (x.kind==4)<;>simp
 clear b6;rcases b9 with b9|⟨b9,b10⟩
 all_goals
  refine bN gL ?_;repeat' ((conv=>whnf);first|with_reducible apply aK|((with_reducible apply fk)<;>intro hc<;>try exact iK)|rewrite[h60]|(apply aC;(conv=>whnf);refine⟨_,cP,?_⟩)|(apply aC;(conv=>whnf);refine⟨_,cX,?_⟩)|(apply aC;(conv=>whnf);refine⟨_,cY,?_⟩)|(apply aC;(conv=>whnf);refine⟨_,a1,?_⟩)|(apply aC;(conv=>whnf);refine⟨_,a2,?_⟩)|(apply aC;(conv=>whnf);refine⟨_,a3,?_⟩)|(apply aC;(conv=>whnf);refine⟨_,a4,?_⟩)|(apply aC;(conv=>whnf);refine⟨_,cS,?_⟩)|(apply aC;(conv=>whnf);refine⟨_,bF,?_⟩)|((with_reducible apply And.intro);exact aG)|fail)
  all_goals exact aL
end Go.Proofs.YtiagceoepkaeoaaGreat.Tb
end
