/-
  Contracts of functions of the program and of the document, each for every input that its premises name.
-/
import Derived.Test.YtiagceoepkaeoaaGreatBb
import Derived.Test.YtiagceoepkaeoaaGreatAf
import Derived.Test.YtiagceoepkaeoaaGreatBc
set_option linter.unusedSectionVars false
set_option linter.unusedVariables false
set_option linter.unusedSimpArgs false
set_option maxRecDepth 100000
set_option maxHeartbeats 4000000
section
open Go Go.Proofs.Tryz Go.AX Go.Sort
namespace Go.Proofs.YtiagceoepkaeoaaGreat.Tb
theorem aas:aQ prog 153 f153:=bU func153
theorem ada (A:Array Int)(a b pivot:Nat)(h1:a≤pivot)(h2:pivot<b)(hb:b≤A.size)(hs:A.size<4611686018427387904)(p:Nat)(q:Bool)(E:Array Int)(e:partition ltInt A a b pivot=(p,q,E)) :
  dU prog 153 [.aB 1 0,.pv (ii a),.pv (ii b),.pv (ii pivot)] [(1,.arr 23 0 1 (uA A))] (.pv (.dn [ii p,bl q])) [(1,.arr 23 0 1 (uA E))]:=by
 unfold partition at e;have e0:IntKind.i64.wrap ((a:Int)+1)=((a+1:Nat):Int):=by rw[aJ (by omega) (by omega)];omega
 have e1:IntKind.i64.wrap ((b:Int)-1)=((b-1:Nat):Int):=by rw[aJ (by omega) (by omega)];omega
 obtain⟨D,hD⟩:∃D,swp A a pivot=D:=⟨_,rfl⟩;have hDs:D.size=A.size:=by rw[←hD,size_swp]
 rw[hD] at e;simp only at e;refine jy aas ?_;repeat' ((conv=>whnf);first|with_reducible apply rF|with_reducible apply Fs|with_reducible apply Fu|((with_reducible apply fk)<;>intro hc<;>try exact fO)|rewrite[e0]|rewrite[e1]|(rewrite[dA])|(refine⟨_,dz _ _ (by first|omega|exact gG),?_⟩)|((with_reducible apply And.intro);exact gG)|(apply aH;refine⟨_,bG _ _,?_⟩)|refine aC ?_|fail)
 obtain⟨I,hI⟩:∃x,scanUp (fun x=>ltInt x D[a]!) D (b-1) (a+1)=x:=⟨_,rfl⟩;have hIa:(a+1)≤I:=by rw[←hI];exact scanUp_ge _ _ _ _
 have hIb:I≤(b-1)+2:=by rw[←hI];exact nA _ _ _ _ _ (Nat.le_refl _) (by omega)
 refine Or.inr ⟨Unit,fun _=>⟨[(0,.aB 1 0),(1,.pv (ii a)),(10,.pv (ii I)),(11,.pv (ii ((b-1:Nat):Int)))],1000000000,[(1,.arr 23 0 1 (uA D))]⟩,?_,fun _=>?_⟩
 ·repeat' ((conv=>whnf);first|with_reducible apply rF|with_reducible apply Fs|with_reducible apply Fu|((with_reducible apply fk)<;>intro hc<;>try exact aK)|refine aC ?_|fail)
  refine⟨{x:Nat // scanUp (fun x=>ltInt x D[a]!) D (b-1) x=I∧a<x∧x≤(b-1)+2},fun⟨x,_⟩=>⟨[(0,.aB 1 0),(1,.pv (ii a)),(10,.pv (ii x)),(11,.pv (ii ((b-1:Nat):Int)))],1000000000,[(1,.arr 23 0 1 (uA D))]⟩,fun⟨x,_⟩=>(b-1)+2-x,⟨⟨(a+1),hI,by omega,by omega⟩,aj ?_⟩,?_⟩
  ·repeat' first|apply And.intro|exact ay|fail
   all_goals try (conv=>whnf)
   all_goals first|omega|(refine fA ?_;exact congrArg uA hD)
  rintro⟨x,g1,g2,g3⟩
  have wx:IntKind.i64.wrap ((x:Int)+1)=((x+1:Nat):Int):=by rw[aJ (by omega) (by omega)];omega
  by_cases hx:x≤(b-1)
  ·have d0:decide ((x:Int)≤((b-1:Nat):Int))=true:=by simp only[gQ];omega
   cases hl:decide (D[x]! < D[a]!) with
   | true=>
     rw[qQ hx (by simp[Aq,hl])] at g1;repeat' ((conv=>whnf);first|with_reducible apply aG|((with_reducible apply fk)<;>intro hc<;>try exact fO)|rewrite[wx]|(rewrite[dA])|(refine⟨_,dz _ _ (by first|omega|exact gG),?_⟩)|((with_reducible apply And.intro);exact gG)|(apply aH;refine⟨_,bG _ _,?_⟩)|refine aC ?_|fail)
     refine⟨⟨x+1,g1,by omega,by omega⟩,(by show (b-1)+2-(x+1)<(b-1)+2-x;omega),aj ?_⟩;all_goals exact ay
   | false=>
     rw[jq (.inr (by simp[Aq,hl]))] at g1;subst g1;repeat' ((conv=>whnf);first|with_reducible apply aG|((with_reducible apply fk)<;>intro hc<;>try exact fO)|(rewrite[dA])|(refine⟨_,dz _ _ (by first|omega|exact gG),?_⟩)|((with_reducible apply And.intro);exact gG)|(apply aH;refine⟨_,bG _ _,?_⟩)|refine aC ?_|fail)
     refine⟨(),aj ?_⟩;all_goals exact ay
  ·have d0:decide ((x:Int)≤((b-1:Nat):Int))=false:=by simp only[kQ];omega
   rw[jq (.inl hx)] at g1;subst g1;repeat' ((conv=>whnf);first|with_reducible apply aG|((with_reducible apply fk)<;>intro hc<;>try exact fO)|(rewrite[dA])|(refine⟨_,dz _ _ (by first|omega|exact gG),?_⟩)|((with_reducible apply And.intro);exact gG)|(apply aH;refine⟨_,bG _ _,?_⟩)|refine aC ?_|fail)
   refine⟨(),aj ?_⟩;all_goals exact ay
 rw[hI] at e;obtain⟨J,hJ⟩:∃x,scanDown (fun x=>!ltInt x D[a]!) D I (b-1)=x:=⟨_,rfl⟩;have hJa:J≤(b-1):=by rw[←hJ];exact scanDown_le _ _ _ _
 have hJb:a≤J:=by rw[←hJ];exact kR _ _ _ _ (by omega) _ (by omega)
 refine Or.inr ⟨Unit,fun _=>⟨[(0,.aB 1 0),(1,.pv (ii a)),(10,.pv (ii I)),(11,.pv (ii J))],1000000000,[(1,.arr 23 0 1 (uA D))]⟩,?_,fun _=>?_⟩
 ·repeat' ((conv=>whnf);first|with_reducible apply rF|with_reducible apply Fs|with_reducible apply Fu|((with_reducible apply fk)<;>intro hc<;>try exact aK)|refine aC ?_|fail)
  refine⟨{x:Nat // scanDown (fun x=>!ltInt x D[a]!) D I x=J∧a≤x∧x<D.size},fun⟨x,_⟩=>⟨[(0,.aB 1 0),(1,.pv (ii a)),(10,.pv (ii I)),(11,.pv (ii x))],1000000000,[(1,.arr 23 0 1 (uA D))]⟩,fun⟨x,_⟩=>x,⟨⟨(b-1),hJ,by omega,by omega⟩,aj ?_⟩,?_⟩
  ·all_goals exact ay
  rintro⟨x,g1,g2,g3⟩
  by_cases hx:I≤x
  ·obtain⟨y,rfl⟩:∃y,x=y+1:=⟨x-1,by omega⟩;have wy:IntKind.i64.wrap (((y+1:Nat):Int)-1)=(y:Int):=by rw[aJ (by omega) (by omega)];omega
   have d0:decide ((I:Int)≤((y+1:Nat):Int))=true:=by simp only[gQ];omega
   cases hl:decide (D[y+1]! < D[a]!) with
   | false=>
     rw[nV hx (by simp[Aq,hl])] at g1;repeat' ((conv=>whnf);first|with_reducible apply aG|((with_reducible apply fk)<;>intro hc<;>try exact fO)|rewrite[wy]|(rewrite[dA])|(refine⟨_,dz _ _ (by first|omega|exact gG),?_⟩)|((with_reducible apply And.intro);exact gG)|(apply aH;refine⟨_,bG _ _,?_⟩)|refine aC ?_|fail)
     refine⟨⟨y,g1,by omega,by omega⟩,Nat.lt_succ_self _,aj ?_⟩;all_goals exact ay
   | true=>
     rw[iq (.inr (by simp[Aq,hl]))] at g1;subst g1;repeat' ((conv=>whnf);first|with_reducible apply aG|((with_reducible apply fk)<;>intro hc<;>try exact fO)|(rewrite[dA])|(refine⟨_,dz _ _ (by first|omega|exact gG),?_⟩)|((with_reducible apply And.intro);exact gG)|(apply aH;refine⟨_,bG _ _,?_⟩)|refine aC ?_|fail)
     refine⟨(),aj ?_⟩;all_goals exact ay
  ·have d0:decide ((I:Int)≤(x:Int))=false:=by simp only[kQ];omega
   rw[iq (.inl hx)] at g1;subst g1;repeat' ((conv=>whnf);first|with_reducible apply aG|((with_reducible apply fk)<;>intro hc<;>try exact fO)|(rewrite[dA])|(refine⟨_,dz _ _ (by first|omega|exact gG),?_⟩)|((with_reducible apply And.intro);exact gG)|(apply aH;refine⟨_,bG _ _,?_⟩)|refine aC ?_|fail)
   refine⟨(),aj ?_⟩;all_goals exact ay
 rw[hJ] at e;clear hI hJ e0 e1;by_cases hIJ:I>J
 ·have d0:decide ((I:Int)>(J:Int))=true:=by simp only[gQ];omega
  rw[if_pos hIJ] at e;simp only[Prod.mk.injEq] at e;obtain⟨rfl,rfl,rfl⟩:=e;repeat' ((conv=>whnf);first|with_reducible apply aG|((with_reducible apply fk)<;>intro hc<;>try exact fO)|(rewrite[dA])|(refine⟨_,dz _ _ (by first|omega|exact gG),?_⟩)|((with_reducible apply And.intro);exact gG)|(apply aH;refine⟨_,bG _ _,?_⟩)|refine aC ?_|fail)
  refine⟨_,_,⟨rfl,rfl⟩,?_⟩;all_goals exact ay
 have d0:decide ((I:Int)>(J:Int))=false:=by simp only[kQ];omega
 rw[if_neg hIJ] at e;have wI:IntKind.i64.wrap ((I:Int)+1)=((I+1:Nat):Int):=by rw[aJ (by omega) (by omega)];omega
 have wJ:IntKind.i64.wrap ((J:Int)-1)=((J-1:Nat):Int):=by rw[aJ (by omega) (by omega)];omega
 obtain⟨⟨p',E'⟩,hr⟩:∃x,partLoop ltInt a (I+1) (J-1) (swp D I J)=x:=⟨_,rfl⟩;simp only[hr,Prod.mk.injEq] at e;obtain⟨rfl,rfl,rfl⟩:=e;repeat' ((conv=>whnf);first|with_reducible apply rF|with_reducible apply Fs|with_reducible apply Fu|((with_reducible apply fk)<;>intro hc<;>try exact fO)|rewrite[wI]|rewrite[wJ]|(rewrite[dA])|(refine⟨_,dz _ _ (by first|omega|exact gG),?_⟩)|((with_reducible apply And.intro);exact gG)|(apply aH;refine⟨_,bG _ _,?_⟩)|refine aC ?_|fail)
 refine Or.inl ?_;repeat' ((conv=>whnf);first|with_reducible apply rF|with_reducible apply Fs|with_reducible apply Fu|((with_reducible apply fk)<;>intro hc<;>try exact aK)|refine aC ?_|fail)
 refine⟨{x:Nat×Nat×Array Int // x.2.2.size=A.size∧partLoop ltInt a x.1 x.2.1 x.2.2=(p',E')∧a<x.1∧a≤x.2.1∧x.1≤x.2.1+2∧x.2.1<b},fun⟨(i,j,F),_⟩=>⟨[(0,.aB 1 0),(1,.pv (ii a)),(10,.pv (ii i)),(11,.pv (ii j))],1000000000,[(1,.arr 23 0 1 (uA F))]⟩,fun⟨(i,j,_),_⟩=>j+1-i+(if i≤j then 1 else 0),⟨⟨(I+1,J-1,swp D I J),by rw[size_swp];exact hDs,hr,by show a<I+1;omega,by show a≤J-1;omega,by show I+1≤J-1+2;omega,by show J-1<b;omega⟩,aj ?_⟩,?_⟩
 ·all_goals exact ay
 clear hr wI wJ d0 hIJ hDs hD;rintro⟨⟨i,j,F⟩,q1,q2,q3,q4,q5,q6⟩
 simp only at q1 q2 q3 q4 q5 q6;rw[partLoop_eq] at q2;clear hIa hIb hJa hJb;repeat' ((conv=>whnf);first|with_reducible apply rF|with_reducible apply Fs|with_reducible apply Fu|((with_reducible apply fk)<;>intro hc<;>try exact aK)|refine aC ?_|fail)
 obtain⟨K,hK⟩:∃x,scanUp (fun x=>ltInt x F[a]!) F j i=x:=⟨_,rfl⟩;have hKa:i≤K:=by rw[←hK];exact scanUp_ge _ _ _ _
 have hKb:K≤j+2:=by rw[←hK];exact nA _ _ _ _ _ (Nat.le_refl _) (by omega)
 refine Or.inr ⟨Unit,fun _=>⟨[(0,.aB 1 0),(1,.pv (ii a)),(10,.pv (ii K)),(11,.pv (ii j))],1000000000,[(1,.arr 23 0 1 (uA F))]⟩,?_,fun _=>?_⟩
 ·repeat' ((conv=>whnf);first|with_reducible apply rF|with_reducible apply Fs|with_reducible apply Fu|((with_reducible apply fk)<;>intro hc<;>try exact aK)|refine aC ?_|fail)
  refine⟨{x:Nat // scanUp (fun x=>ltInt x F[a]!) F j x=K∧a<x∧x≤j+2},fun⟨x,_⟩=>⟨[(0,.aB 1 0),(1,.pv (ii a)),(10,.pv (ii x)),(11,.pv (ii j))],1000000000,[(1,.arr 23 0 1 (uA F))]⟩,fun⟨x,_⟩=>j+2-x,⟨⟨i,hK,by omega,by omega⟩,aj ?_⟩,?_⟩
  ·repeat' first|apply And.intro|exact ay|fail
   all_goals try (conv=>whnf)
   all_goals first|omega|(refine fA ?_;exact congrArg uA hD)
  rintro⟨x,g1,g2,g3⟩
  have wx:IntKind.i64.wrap ((x:Int)+1)=((x+1:Nat):Int):=by rw[aJ (by omega) (by omega)];omega
  by_cases hx:x≤j
  ·have d0:decide ((x:Int)≤(j:Int))=true:=by simp only[gQ];omega
   cases hl:decide (F[x]! < F[a]!) with
   | true=>
     rw[qQ hx (by simp[Aq,hl])] at g1;repeat' ((conv=>whnf);first|with_reducible apply aG|((with_reducible apply fk)<;>intro hc<;>try exact fO)|rewrite[wx]|(rewrite[dA])|(refine⟨_,dz _ _ (by first|omega|exact gG),?_⟩)|((with_reducible apply And.intro);exact gG)|(apply aH;refine⟨_,bG _ _,?_⟩)|refine aC ?_|fail)
     refine⟨⟨x+1,g1,by omega,by omega⟩,(by show j+2-(x+1)<j+2-x;omega),aj ?_⟩;all_goals exact ay
   | false=>
     rw[jq (.inr (by simp[Aq,hl]))] at g1;subst g1;repeat' ((conv=>whnf);first|with_reducible apply aG|((with_reducible apply fk)<;>intro hc<;>try exact fO)|(rewrite[dA])|(refine⟨_,dz _ _ (by first|omega|exact gG),?_⟩)|((with_reducible apply And.intro);exact gG)|(apply aH;refine⟨_,bG _ _,?_⟩)|refine aC ?_|fail)
     refine⟨(),aj ?_⟩;all_goals exact ay
  ·have d0:decide ((x:Int)≤(j:Int))=false:=by simp only[kQ];omega
   rw[jq (.inl hx)] at g1;subst g1;repeat' ((conv=>whnf);first|with_reducible apply aG|((with_reducible apply fk)<;>intro hc<;>try exact fO)|(rewrite[dA])|(refine⟨_,dz _ _ (by first|omega|exact gG),?_⟩)|((with_reducible apply And.intro);exact gG)|(apply aH;refine⟨_,bG _ _,?_⟩)|refine aC ?_|fail)
   refine⟨(),aj ?_⟩;all_goals exact ay
 rw[hK] at q2;obtain⟨L,hL⟩:∃x,scanDown (fun x=>!ltInt x F[a]!) F K j=x:=⟨_,rfl⟩;have hLa:L≤j:=by rw[←hL];exact scanDown_le _ _ _ _
 have hLb:a≤L:=by rw[←hL];exact kR _ _ _ _ (by omega) _ (by omega)
 refine Or.inr ⟨Unit,fun _=>⟨[(0,.aB 1 0),(1,.pv (ii a)),(10,.pv (ii K)),(11,.pv (ii L))],1000000000,[(1,.arr 23 0 1 (uA F))]⟩,?_,fun _=>?_⟩
 ·repeat' ((conv=>whnf);first|with_reducible apply rF|with_reducible apply Fs|with_reducible apply Fu|((with_reducible apply fk)<;>intro hc<;>try exact aK)|refine aC ?_|fail)
  refine⟨{x:Nat // scanDown (fun x=>!ltInt x F[a]!) F K x=L∧a≤x∧x<F.size},fun⟨x,_⟩=>⟨[(0,.aB 1 0),(1,.pv (ii a)),(10,.pv (ii K)),(11,.pv (ii x))],1000000000,[(1,.arr 23 0 1 (uA F))]⟩,fun⟨x,_⟩=>x,⟨⟨j,hL,by omega,by omega⟩,aj ?_⟩,?_⟩
  ·all_goals exact ay
  rintro⟨x,g1,g2,g3⟩
  by_cases hx:K≤x
  ·obtain⟨y,rfl⟩:∃y,x=y+1:=⟨x-1,by omega⟩;have wy:IntKind.i64.wrap (((y+1:Nat):Int)-1)=(y:Int):=by rw[aJ (by omega) (by omega)];omega
   have d0:decide ((K:Int)≤((y+1:Nat):Int))=true:=by simp only[gQ];omega
   cases hl:decide (F[y+1]! < F[a]!) with
   | false=>
     rw[nV hx (by simp[Aq,hl])] at g1;repeat' ((conv=>whnf);first|with_reducible apply aG|((with_reducible apply fk)<;>intro hc<;>try exact fO)|rewrite[wy]|(rewrite[dA])|(refine⟨_,dz _ _ (by first|omega|exact gG),?_⟩)|((with_reducible apply And.intro);exact gG)|(apply aH;refine⟨_,bG _ _,?_⟩)|refine aC ?_|fail)
     refine⟨⟨y,g1,by omega,by omega⟩,Nat.lt_succ_self _,aj ?_⟩;all_goals exact ay
   | true=>
     rw[iq (.inr (by simp[Aq,hl]))] at g1;subst g1;repeat' ((conv=>whnf);first|with_reducible apply aG|((with_reducible apply fk)<;>intro hc<;>try exact fO)|(rewrite[dA])|(refine⟨_,dz _ _ (by first|omega|exact gG),?_⟩)|((with_reducible apply And.intro);exact gG)|(apply aH;refine⟨_,bG _ _,?_⟩)|refine aC ?_|fail)
     refine⟨(),aj ?_⟩;all_goals exact ay
  ·have d0:decide ((K:Int)≤(x:Int))=false:=by simp only[kQ];omega
   rw[iq (.inl hx)] at g1;subst g1;repeat' ((conv=>whnf);first|with_reducible apply aG|((with_reducible apply fk)<;>intro hc<;>try exact fO)|(rewrite[dA])|(refine⟨_,dz _ _ (by first|omega|exact gG),?_⟩)|((with_reducible apply And.intro);exact gG)|(apply aH;refine⟨_,bG _ _,?_⟩)|refine aC ?_|fail)
   refine⟨(),aj ?_⟩;all_goals exact ay
 rw[hL] at q2;by_cases hKL:K>L
 ·have d0:decide ((K:Int)>(L:Int))=true:=by simp only[gQ];omega
  rw[if_pos hKL] at q2;simp only[Prod.mk.injEq] at q2;obtain⟨rfl,rfl⟩:=q2;repeat' ((conv=>whnf);first|with_reducible apply aG|((with_reducible apply fk)<;>intro hc<;>try exact fO)|(rewrite[dA])|(refine⟨_,dz _ _ (by first|omega|exact gG),?_⟩)|((with_reducible apply And.intro);exact gG)|(apply aH;refine⟨_,bG _ _,?_⟩)|refine aC ?_|fail)
  refine⟨_,_,⟨rfl,rfl⟩,?_⟩;all_goals exact ay
 have d0:decide ((K:Int)>(L:Int))=false:=by simp only[kQ];omega
 rw[if_neg hKL] at q2;have wI:IntKind.i64.wrap ((K:Int)+1)=((K+1:Nat):Int):=by rw[aJ (by omega) (by omega)];omega
 have wJ:IntKind.i64.wrap ((L:Int)-1)=((L-1:Nat):Int):=by rw[aJ (by omega) (by omega)];omega
 repeat' ((conv=>whnf);first|with_reducible apply aG|((with_reducible apply fk)<;>intro hc<;>try exact fO)|rewrite[wI]|rewrite[wJ]|(rewrite[dA])|(refine⟨_,dz _ _ (by first|omega|exact gG),?_⟩)|((with_reducible apply And.intro);exact gG)|(apply aH;refine⟨_,bG _ _,?_⟩)|refine aC ?_|fail)
 refine⟨⟨(K+1,L-1,swp F K L),by rw[size_swp];exact q1,q2,by show a<K+1;omega,by show a≤L-1;omega,by show K+1≤L-1+2;omega,by show L-1<b;omega⟩,(by show (L-1)+1-(K+1)+(if K+1≤L-1 then 1 else 0)<j+1-i+(if i≤j then 1 else 0);split<;>split<;>omega),aj ?_⟩;all_goals exact ay
theorem adb:aQ prog 152 f152:=bU func152
theorem afR (A:Array Int)(a b pivot:Nat)(h1:a≤pivot)(h2:pivot<b)(hb:b≤A.size)(hs:A.size<4611686018427387904)(p:Nat)(E:Array Int)(e:partitionEqual ltInt A a b pivot=(p,E)) :
  dU prog 152 [.aB 1 0,.pv (ii a),.pv (ii b),.pv (ii pivot)] [(1,.arr 23 0 1 (uA A))] (.pv (ii p)) [(1,.arr 23 0 1 (uA E))]:=by
 unfold partitionEqual at e;have e0:IntKind.i64.wrap ((a:Int)+1)=((a+1:Nat):Int):=by rw[aJ (by omega) (by omega)];omega
 have e1:IntKind.i64.wrap ((b:Int)-1)=((b-1:Nat):Int):=by rw[aJ (by omega) (by omega)];omega
 refine jy adb ?_;repeat' ((conv=>whnf);first|with_reducible apply aG|((with_reducible apply fk)<;>intro hc<;>try exact fO)|rewrite[e0]|rewrite[e1]|(rewrite[dA])|(refine⟨_,dz _ _ (by first|omega|exact gG),?_⟩)|((with_reducible apply And.intro);exact gG)|(apply aH;refine⟨_,bG _ _,?_⟩)|refine aC ?_|fail)
 refine⟨{x:Nat×Nat×Array Int // x.2.2.size=A.size∧partEqLoop ltInt a x.1 x.2.1 x.2.2=(p,E)∧a<x.1∧a≤x.2.1∧x.1≤x.2.1+2∧x.2.1<b},fun⟨(i,j,F),_⟩=>⟨[(0,.aB 1 0),(1,.pv (ii a)),(9,.pv (ii i)),(10,.pv (ii j))],1000000000,[(1,.arr 23 0 1 (uA F))]⟩,fun⟨(i,j,_),_⟩=>j+1-i+(if i≤j then 1 else 0),⟨⟨(a+1,b-1,swp A a pivot),by rw[size_swp],e,by show a<a+1;omega,by show a≤b-1;omega,by show a+1≤b-1+2;omega,by show b-1<b;omega⟩,aj ?_⟩,?_⟩
 ·all_goals exact ay
 clear e e0 e1;rintro⟨⟨i,j,F⟩,q1,q2,q3,q4,q5,q6⟩
 simp only at q1 q2 q3 q4 q5 q6;rw[partEqLoop_eq] at q2;repeat' ((conv=>whnf);first|with_reducible apply rF|with_reducible apply Fs|with_reducible apply Fu|((with_reducible apply fk)<;>intro hc<;>try exact aK)|refine aC ?_|fail)
 obtain⟨K,hK⟩:∃x,scanUp (fun x=>!ltInt F[a]! x) F j i=x:=⟨_,rfl⟩;have hKa:i≤K:=by rw[←hK];exact scanUp_ge _ _ _ _
 have hKb:K≤j+2:=by rw[←hK];exact nA _ _ _ _ _ (Nat.le_refl _) (by omega)
 refine Or.inr ⟨Unit,fun _=>⟨[(0,.aB 1 0),(1,.pv (ii a)),(9,.pv (ii K)),(10,.pv (ii j))],1000000000,[(1,.arr 23 0 1 (uA F))]⟩,?_,fun _=>?_⟩
 ·repeat' ((conv=>whnf);first|with_reducible apply rF|with_reducible apply Fs|with_reducible apply Fu|((with_reducible apply fk)<;>intro hc<;>try exact aK)|refine aC ?_|fail)
  refine⟨{x:Nat // scanUp (fun x=>!ltInt F[a]! x) F j x=K∧a<x∧x≤j+2},fun⟨x,_⟩=>⟨[(0,.aB 1 0),(1,.pv (ii a)),(9,.pv (ii x)),(10,.pv (ii j))],1000000000,[(1,.arr 23 0 1 (uA F))]⟩,fun⟨x,_⟩=>j+2-x,⟨⟨i,hK,by omega,by omega⟩,aj ?_⟩,?_⟩
  ·repeat' first|apply And.intro|exact ay|fail
   all_goals try (conv=>whnf)
   all_goals first|omega|(refine fA ?_;exact congrArg uA hD)
  rintro⟨x,g1,g2,g3⟩
  have wx:IntKind.i64.wrap ((x:Int)+1)=((x+1:Nat):Int):=by rw[aJ (by omega) (by omega)];omega
  by_cases hx:x≤j
  ·have d0:decide ((x:Int)≤(j:Int))=true:=by simp only[gQ];omega
   cases hl:decide (F[a]! < F[x]!) with
   | false=>
     rw[qQ hx (by simp[Aq,hl])] at g1;repeat' ((conv=>whnf);first|with_reducible apply aG|((with_reducible apply fk)<;>intro hc<;>try exact fO)|rewrite[wx]|(rewrite[dA])|(refine⟨_,dz _ _ (by first|omega|exact gG),?_⟩)|((with_reducible apply And.intro);exact gG)|(apply aH;refine⟨_,bG _ _,?_⟩)|refine aC ?_|fail)
     refine⟨⟨x+1,g1,by omega,by omega⟩,(by show j+2-(x+1)<j+2-x;omega),aj ?_⟩;all_goals exact ay
   | true=>
     rw[jq (.inr (by simp[Aq,hl]))] at g1;subst g1;repeat' ((conv=>whnf);first|with_reducible apply aG|((with_reducible apply fk)<;>intro hc<;>try exact fO)|(rewrite[dA])|(refine⟨_,dz _ _ (by first|omega|exact gG),?_⟩)|((with_reducible apply And.intro);exact gG)|(apply aH;refine⟨_,bG _ _,?_⟩)|refine aC ?_|fail)
     refine⟨(),aj ?_⟩;all_goals exact ay
  ·have d0:decide ((x:Int)≤(j:Int))=false:=by simp only[kQ];omega
   rw[jq (.inl hx)] at g1;subst g1;repeat' ((conv=>whnf);first|with_reducible apply aG|((with_reducible apply fk)<;>intro hc<;>try exact fO)|(rewrite[dA])|(refine⟨_,dz _ _ (by first|omega|exact gG),?_⟩)|((with_reducible apply And.intro);exact gG)|(apply aH;refine⟨_,bG _ _,?_⟩)|refine aC ?_|fail)
   refine⟨(),aj ?_⟩;all_goals exact ay
 rw[hK] at q2;obtain⟨L,hL⟩:∃x,scanDown (fun x=>ltInt F[a]! x) F K j=x:=⟨_,rfl⟩;have hLa:L≤j:=by rw[←hL];exact scanDown_le _ _ _ _
 have hLb:a≤L:=by rw[←hL];exact kR _ _ _ _ (by omega) _ (by omega)
 refine Or.inr ⟨Unit,fun _=>⟨[(0,.aB 1 0),(1,.pv (ii a)),(9,.pv (ii K)),(10,.pv (ii L))],1000000000,[(1,.arr 23 0 1 (uA F))]⟩,?_,fun _=>?_⟩
 ·repeat' ((conv=>whnf);first|with_reducible apply rF|with_reducible apply Fs|with_reducible apply Fu|((with_reducible apply fk)<;>intro hc<;>try exact aK)|refine aC ?_|fail)
  refine⟨{x:Nat // scanDown (fun x=>ltInt F[a]! x) F K x=L∧a≤x∧x<F.size},fun⟨x,_⟩=>⟨[(0,.aB 1 0),(1,.pv (ii a)),(9,.pv (ii K)),(10,.pv (ii x))],1000000000,[(1,.arr 23 0 1 (uA F))]⟩,fun⟨x,_⟩=>x,⟨⟨j,hL,by omega,by omega⟩,aj ?_⟩,?_⟩
  ·all_goals exact ay
  rintro⟨x,g1,g2,g3⟩
  by_cases hx:K≤x
  ·obtain⟨y,rfl⟩:∃y,x=y+1:=⟨x-1,by omega⟩;have wy:IntKind.i64.wrap (((y+1:Nat):Int)-1)=(y:Int):=by rw[aJ (by omega) (by omega)];omega
   have d0:decide ((K:Int)≤((y+1:Nat):Int))=true:=by simp only[gQ];omega
   cases hl:decide (F[a]! < F[y+1]!) with
   | true=>
     rw[nV hx (by simp[Aq,hl])] at g1;repeat' ((conv=>whnf);first|with_reducible apply aG|((with_reducible apply fk)<;>intro hc<;>try exact fO)|rewrite[wy]|(rewrite[dA])|(refine⟨_,dz _ _ (by first|omega|exact gG),?_⟩)|((with_reducible apply And.intro);exact gG)|(apply aH;refine⟨_,bG _ _,?_⟩)|refine aC ?_|fail)
     refine⟨⟨y,g1,by omega,by omega⟩,Nat.lt_succ_self _,aj ?_⟩;all_goals exact ay
   | false=>
     rw[iq (.inr (by simp[Aq,hl]))] at g1;subst g1;repeat' ((conv=>whnf);first|with_reducible apply aG|((with_reducible apply fk)<;>intro hc<;>try exact fO)|(rewrite[dA])|(refine⟨_,dz _ _ (by first|omega|exact gG),?_⟩)|((with_reducible apply And.intro);exact gG)|(apply aH;refine⟨_,bG _ _,?_⟩)|refine aC ?_|fail)
     refine⟨(),aj ?_⟩;all_goals exact ay
  ·have d0:decide ((K:Int)≤(x:Int))=false:=by simp only[kQ];omega
   rw[iq (.inl hx)] at g1;subst g1;repeat' ((conv=>whnf);first|with_reducible apply aG|((with_reducible apply fk)<;>intro hc<;>try exact fO)|(rewrite[dA])|(refine⟨_,dz _ _ (by first|omega|exact gG),?_⟩)|((with_reducible apply And.intro);exact gG)|(apply aH;refine⟨_,bG _ _,?_⟩)|refine aC ?_|fail)
   refine⟨(),aj ?_⟩;all_goals exact ay
 rw[hL] at q2;by_cases hKL:K>L
 ·have d0:decide ((K:Int)>(L:Int))=true:=by simp only[gQ];omega
  rw[if_pos hKL] at q2;simp only[Prod.mk.injEq] at q2;obtain⟨rfl,rfl⟩:=q2;repeat' ((conv=>whnf);first|with_reducible apply aG|((with_reducible apply fk)<;>intro hc<;>try exact fO)|(rewrite[dA])|(refine⟨_,dz _ _ (by first|omega|exact gG),?_⟩)|((with_reducible apply And.intro);exact gG)|(apply aH;refine⟨_,bG _ _,?_⟩)|refine aC ?_|fail)
  refine⟨_,_,⟨rfl,rfl⟩,?_⟩;all_goals exact ay
 have d0:decide ((K:Int)>(L:Int))=false:=by simp only[kQ];omega
 rw[if_neg hKL] at q2;have wI:IntKind.i64.wrap ((K:Int)+1)=((K+1:Nat):Int):=by rw[aJ (by omega) (by omega)];omega
 have wJ:IntKind.i64.wrap ((L:Int)-1)=((L-1:Nat):Int):=by rw[aJ (by omega) (by omega)];omega
 repeat' ((conv=>whnf);first|with_reducible apply aG|((with_reducible apply fk)<;>intro hc<;>try exact fO)|rewrite[wI]|rewrite[wJ]|(rewrite[dA])|(refine⟨_,dz _ _ (by first|omega|exact gG),?_⟩)|((with_reducible apply And.intro);exact gG)|(apply aH;refine⟨_,bG _ _,?_⟩)|refine aC ?_|fail)
 refine⟨⟨(K+1,L-1,swp F K L),by rw[size_swp];exact q1,q2,by show a<K+1;omega,by show a≤L-1;omega,by show K+1≤L-1+2;omega,by show L-1<b;omega⟩,(by show (L-1)+1-(K+1)+(if K+1≤L-1 then 1 else 0)<j+1-i+(if i≤j then 1 else 0);split<;>split<;>omega),aj ?_⟩;all_goals exact ay
theorem aat (a b:Nat)(D:Array Int)(s i:Nat):partialIns ltInt a b (s+1) i D=(if scanSorted ltInt D b i=b then (D,true) else if b-a<50 then (D,false) else
  partialIns ltInt a b s (scanSorted ltInt D b i) (if b-scanSorted ltInt D b i≥2 then shiftUp ltInt b (scanSorted ltInt D b i+1) (if scanSorted ltInt D b i-a≥2 then shiftDown ltInt (scanSorted ltInt D b i-1) (swp D (scanSorted ltInt D b i) (scanSorted ltInt D b i-1)) else swp D (scanSorted ltInt D b i) (scanSorted ltInt D b i-1)) else (if scanSorted ltInt D b i-a≥2 then shiftDown ltInt (scanSorted ltInt D b i-1) (swp D (scanSorted ltInt D b i) (scanSorted ltInt D b i-1)) else swp D (scanSorted ltInt D b i) (scanSorted ltInt D b i-1)))):=rfl
theorem aau:aQ prog 150 f150:=bU func150
theorem ade (A:Array Int)(a b:Nat)(hab:a<b)(hb:b≤A.size)(hs:A.size<4611686018427387904)(E:Array Int)(q:Bool)(e:partialInsertionSort ltInt A a b=(E,q)) :
  dU prog 150 [.aB 1 0,.pv (ii a),.pv (ii b)] [(1,.arr 23 0 1 (uA A))] (.pv (bl q)) [(1,.arr 23 0 1 (uA E))]:=by
 unfold partialInsertionSort at e;have e0:IntKind.i64.wrap ((a:Int)+1)=((a+1:Nat):Int):=by rw[aJ (by omega) (by omega)];omega
 refine jy aau ?_;repeat' ((conv=>whnf);first|with_reducible apply aG|((with_reducible apply fk)<;>intro hc<;>try exact aK)|rewrite[e0]|refine aC ?_|fail)
 refine⟨{p:Nat×Nat×Array Int // p.2.2.size=A.size∧partialIns ltInt a b (5-p.1) p.2.1 p.2.2=(E,q)∧a+1≤p.2.1∧p.2.1≤b∧p.1≤5},fun⟨(t,i,D),_⟩=>⟨[(0,.aB 1 0),(1,.pv (ii a)),(2,.pv (ii b)),(7,.pv (ii i)),(8,.pv (ii t))],1000000000,[(1,.arr 23 0 1 (uA D))]⟩,fun⟨(t,_,_),_⟩=>5-t,⟨⟨(0,a+1,A),rfl,e,by show a+1≤a+1;omega,by show a+1≤b;omega,by show 0≤5;omega⟩,aj ?_⟩,?_⟩
 ·all_goals exact ay
 clear e e0;rintro⟨⟨t,i,D⟩,h1,h2,h3,h4,h5⟩
 simp only at h1 h2 h3 h4 h5;by_cases ht:t<5
 case neg=>
  have d0:decide ((t:Int)<5)=false:=by simp only[kQ];omega
  obtain rfl:t=5:=by omega
  rw[show 5-5=0 from rfl,partialIns] at h2;simp only[Prod.mk.injEq] at h2;obtain⟨rfl,rfl⟩:=h2;repeat' ((conv=>whnf);first|with_reducible apply aG|((with_reducible apply fk)<;>intro hc<;>try exact aK)|refine aC ?_|fail)
  refine⟨_,_,⟨rfl,rfl⟩,?_⟩;all_goals exact ay
 have d0:decide ((t:Int)<5)=true:=by simp only[gQ];omega
 rw[show 5-t=(5-(t+1))+1 by omega,aat] at h2;obtain⟨I,hI⟩:∃x,scanSorted ltInt D b i=x:=⟨_,rfl⟩;have hIa:=rQ ltInt D b _ i (Nat.le_refl _) h4;rw[hI] at h2 hIa;obtain⟨hIa,hIb⟩:=hIa;repeat' ((conv=>whnf);first|with_reducible apply rF|with_reducible apply Fs|with_reducible apply Fu|((with_reducible apply fk)<;>intro hc<;>try exact aK)|refine aC ?_|fail)
 refine Or.inl ?_;repeat' ((conv=>whnf);first|with_reducible apply rF|with_reducible apply Fs|with_reducible apply Fu|((with_reducible apply fk)<;>intro hc<;>try exact aK)|refine aC ?_|fail)
 refine Or.inr ⟨Unit,fun _=>⟨[(0,.aB 1 0),(1,.pv (ii a)),(2,.pv (ii b)),(7,.pv (ii I)),(8,.pv (ii t))],1000000000,[(1,.arr 23 0 1 (uA D))]⟩,?_,fun _=>?_⟩
 ·repeat' ((conv=>whnf);first|with_reducible apply rF|with_reducible apply Fs|with_reducible apply Fu|((with_reducible apply fk)<;>intro hc<;>try exact aK)|refine aC ?_|fail)
  refine⟨{x:Nat // scanSorted ltInt D b x=I∧a+1≤x∧x≤b},fun⟨x,_⟩=>⟨[(0,.aB 1 0),(1,.pv (ii a)),(2,.pv (ii b)),(7,.pv (ii x)),(8,.pv (ii t))],1000000000,[(1,.arr 23 0 1 (uA D))]⟩,fun⟨x,_⟩=>b-x,⟨⟨i,hI,h3,h4⟩,aj ?_⟩,?_⟩
  ·all_goals exact ay
  rintro⟨x,g1,g2,g3⟩
  have wx:IntKind.i64.wrap ((x:Int)+1)=((x+1:Nat):Int):=by rw[aJ (by omega) (by omega)];omega
  have wy:IntKind.i64.wrap ((x:Int)-1)=((x-1:Nat):Int):=by rw[aJ (by omega) (by omega)];omega
  rw[scanSorted] at g1;by_cases hx:x<b
  ·have d1:decide ((x:Int)<(b:Int))=true:=by simp only[gQ];omega
   cases hl:decide (D[x]! < D[x-1]!) with
   | false=>
     rw[if_pos (by simp[Aq,hl,hx])] at g1;repeat' ((conv=>whnf);first|with_reducible apply aG|((with_reducible apply fk)<;>intro hc<;>try exact fO)|rewrite[wx]|rewrite[wy]|(rewrite[dA])|(refine⟨_,dz _ _ (by first|omega|exact gG),?_⟩)|((with_reducible apply And.intro);exact gG)|(apply aH;refine⟨_,bG _ _,?_⟩)|refine aC ?_|fail)
     refine⟨⟨x+1,g1,by omega,by omega⟩,(by show b-(x+1)<b-x;omega),aj ?_⟩;all_goals exact ay
   | true=>
     rw[if_neg (by simp[Aq,hl])] at g1;subst g1;repeat' ((conv=>whnf);first|with_reducible apply aG|((with_reducible apply fk)<;>intro hc<;>try exact fO)|rewrite[wy]|(rewrite[dA])|(refine⟨_,dz _ _ (by first|omega|exact gG),?_⟩)|((with_reducible apply And.intro);exact gG)|(apply aH;refine⟨_,bG _ _,?_⟩)|refine aC ?_|fail)
     refine⟨(),aj ?_⟩;all_goals exact ay
  ·have d1:decide ((x:Int)<(b:Int))=false:=by simp only[kQ];omega
   rw[if_neg (by simp;omega)] at g1;subst g1;repeat' ((conv=>whnf);first|with_reducible apply aG|((with_reducible apply fk)<;>intro hc<;>try exact fO)|rewrite[wy]|(rewrite[dA])|(refine⟨_,dz _ _ (by first|omega|exact gG),?_⟩)|((with_reducible apply And.intro);exact gG)|(apply aH;refine⟨_,bG _ _,?_⟩)|refine aC ?_|fail)
   refine⟨(),aj ?_⟩;all_goals exact ay
 clear hI;by_cases hIe:I=b
 ·rw[if_pos hIe] at h2;have d1:((I:Int)==(b:Int))=true:=by simp;omega
  simp only[Prod.mk.injEq] at h2;obtain⟨rfl,rfl⟩:=h2;subst hIe;repeat' ((conv=>whnf);first|with_reducible apply aG|((with_reducible apply fk)<;>intro hc<;>try exact aK)|refine aC ?_|fail)
  refine⟨_,_,⟨rfl,rfl⟩,?_⟩;all_goals exact ay
 have d1:((I:Int)==(b:Int))=false:=by simp;omega
 rw[if_neg hIe] at h2;have wba:IntKind.i64.wrap ((b:Int)-(a:Int))=((b-a:Nat):Int):=by rw[aJ (by omega) (by omega)];omega
 by_cases h50:b-a<50
 ·rw[if_pos h50] at h2;have d2:decide (((b-a:Nat):Int)<50)=true:=by simp only[gQ];omega
  simp only[Prod.mk.injEq] at h2;obtain⟨rfl,rfl⟩:=h2;repeat' ((conv=>whnf);first|with_reducible apply aG|((with_reducible apply fk)<;>intro hc<;>try exact aK)|rewrite[wba]|refine aC ?_|fail)
  refine⟨_,_,⟨rfl,rfl⟩,?_⟩;all_goals exact ay
 have d2:decide (((b-a:Nat):Int)<50)=false:=by simp only[kQ];omega
 rw[if_neg h50] at h2;have wI:IntKind.i64.wrap ((I:Int)-1)=((I-1:Nat):Int):=by rw[aJ (by omega) (by omega)];omega
 have wI2:IntKind.i64.wrap ((I:Int)+1)=((I+1:Nat):Int):=by rw[aJ (by omega) (by omega)];omega
 have wIa:IntKind.i64.wrap ((I:Int)-(a:Int))=((I-a:Nat):Int):=by rw[aJ (by omega) (by omega)];omega
 have wIb:IntKind.i64.wrap ((b:Int)-(I:Int))=((b-I:Nat):Int):=by rw[aJ (by omega) (by omega)];omega
 have wt:IntKind.i64.wrap ((t:Int)+1)=((t+1:Nat):Int):=by rw[aJ (by omega) (by omega)];omega
 obtain⟨F,hF⟩:∃F,(if I-a≥2 then shiftDown ltInt (I-1) (swp D I (I-1)) else swp D I (I-1))=F:=⟨_,rfl⟩;have sz1:F.size=A.size:=by
  rw[←hF];split
  ·rw[qp,size_swp];exact h1
  rw[size_swp];exact h1
 rw[hF] at h2;refine Or.inl ?_;repeat' ((conv=>whnf);first|with_reducible apply rF|((with_reducible apply fk)<;>intro hc<;>try exact fO)|refine aC ?_|fail)
 refine Or.inl ?_;repeat' ((conv=>whnf);first|with_reducible apply rF|((with_reducible apply fk)<;>intro hc<;>try exact fO)|rewrite[wba]|rewrite[wI]|(rewrite[dA])|(refine⟨_,dz _ _ (by first|omega|exact gG),?_⟩)|((with_reducible apply And.intro);exact gG)|(apply aH;refine⟨_,bG _ _,?_⟩)|refine aC ?_|fail)
 refine Or.inr ⟨Unit,fun _=>⟨[(0,.aB 1 0),(1,.pv (ii a)),(2,.pv (ii b)),(7,.pv (ii I)),(8,.pv (ii t))],1000000000,[(1,.arr 23 0 1 (uA F))]⟩,?_,fun _=>?_⟩
 ·by_cases hc1:I-a≥2
  case neg=>
   rw[if_neg hc1] at hF;subst hF;have d3:decide (((I-a:Nat):Int)≥2)=false:=by simp only[kQ];omega
   repeat' ((conv=>whnf);first|with_reducible apply rF|with_reducible apply Fs|with_reducible apply Fu|((with_reducible apply fk)<;>intro hc<;>try exact aK)|rewrite[wI]|rewrite[wIa]|refine aC ?_|fail)
   refine⟨(),aj ?_⟩;all_goals exact ay
  rw[if_pos hc1] at hF;have d3:decide (((I-a:Nat):Int)≥2)=true:=by simp only[gQ];omega
  repeat' ((conv=>whnf);first|with_reducible apply rF|with_reducible apply Fs|with_reducible apply Fu|((with_reducible apply fk)<;>intro hc<;>try exact aK)|rewrite[wI]|rewrite[wIa]|refine aC ?_|fail)
  refine⟨{p:Nat×Array Int // p.2.size=A.size∧shiftDown ltInt p.1 p.2=F∧p.1<b},fun⟨(x,G),_⟩=>⟨[(0,.aB 1 0),(1,.pv (ii a)),(2,.pv (ii b)),(7,.pv (ii I)),(8,.pv (ii t)),(9,.pv (ii x))],1000000000,[(1,.arr 23 0 1 (uA G))]⟩,fun⟨(x,_),_⟩=>x,⟨⟨(I-1,swp D I (I-1)),by rw[size_swp];exact h1,hF,by show I-1<b;omega⟩,aj ?_⟩,?_⟩
  ·all_goals exact ay
  rintro⟨⟨x,G⟩,g1,g2,g3⟩
  simp only at g1 g2 g3;clear d0 d1 d2 d3;cases x with
  | zero=>
    have d3:decide (((0:Nat):Int)≥1)=false:=by decide
    rw[shiftDown] at g2;subst g2;repeat' ((conv=>whnf);first|with_reducible apply aG|((with_reducible apply fk)<;>intro hc<;>try exact fO)|(rewrite[dA])|(refine⟨_,dz _ _ (by first|omega|exact gG),?_⟩)|((with_reducible apply And.intro);exact gG)|(apply aH;refine⟨_,bG _ _,?_⟩)|refine aC ?_|fail)
    refine⟨(),aj ?_⟩;all_goals exact ay
  | succ y=>
    have d3:decide (((y+1:Nat):Int)≥1)=true:=by simp only[gQ];omega
    have wy:IntKind.i64.wrap (((y+1:Nat):Int)-1)=(y:Int):=by rw[aJ (by omega) (by omega)];omega
    rw[shiftDown] at g2;cases hl:decide (G[y+1]! < G[y]!) with
    | false=>
      rw[if_pos (by simp[Aq,hl])] at g2;subst g2;repeat' ((conv=>whnf);first|with_reducible apply aG|((with_reducible apply fk)<;>intro hc<;>try exact fO)|rewrite[wy]|(rewrite[dA])|(refine⟨_,dz _ _ (by first|omega|exact gG),?_⟩)|((with_reducible apply And.intro);exact gG)|(apply aH;refine⟨_,bG _ _,?_⟩)|refine aC ?_|fail)
      refine⟨(),aj ?_⟩;all_goals exact ay
    | true=>
      rw[if_neg (by simp[Aq,hl])] at g2;repeat' ((conv=>whnf);first|with_reducible apply aG|((with_reducible apply fk)<;>intro hc<;>try exact fO)|rewrite[wy]|(rewrite[dA])|(refine⟨_,dz _ _ (by first|omega|exact gG),?_⟩)|((with_reducible apply And.intro);exact gG)|(apply aH;refine⟨_,bG _ _,?_⟩)|refine aC ?_|fail)
      refine⟨⟨(y,swp G (y+1) y),by rw[size_swp];exact g1,g2,by show y<b;omega⟩,Nat.lt_succ_self _,aj ?_⟩;all_goals exact ay
 clear hF;by_cases hc2:b-I≥2
 case neg=>
  rw[if_neg hc2] at h2;have d4:decide (((b-I:Nat):Int)≥2)=false:=by simp only[kQ];omega
  repeat' ((conv=>whnf);first|with_reducible apply rF|with_reducible apply Fs|with_reducible apply Fu|((with_reducible apply fk)<;>intro hc<;>try exact fO)|rewrite[wIb]|rewrite[wt]|refine aC ?_|fail)
  refine⟨⟨(t+1,I,F),sz1,h2,by show a+1≤I;omega,by show I≤b;omega,by show t+1≤5;omega⟩,(by show 5-(t+1)<5-t;omega),aj ?_⟩;all_goals exact ay
 rw[if_pos hc2] at h2;have d4:decide (((b-I:Nat):Int)≥2)=true:=by simp only[gQ];omega
 have sz2:(shiftUp ltInt b (I+1) F).size=A.size:=by rw[uH _ _ _ _ _ (Nat.le_refl _)];exact sz1
 obtain⟨H,hH⟩:∃H,shiftUp ltInt b (I+1) F=H:=⟨_,rfl⟩;rw[hH] at h2 sz2;repeat' ((conv=>whnf);first|with_reducible apply rF|with_reducible apply Fs|with_reducible apply Fu|((with_reducible apply fk)<;>intro hc<;>try exact fO)|rewrite[wI2]|rewrite[wIb]|refine aC ?_|fail)
 refine⟨{p:Nat×Array Int // p.2.size=A.size∧shiftUp ltInt b p.1 p.2=H∧1≤p.1∧p.1≤b},fun⟨(x,G),_⟩=>⟨[(0,.aB 1 0),(1,.pv (ii a)),(2,.pv (ii b)),(7,.pv (ii I)),(8,.pv (ii t)),(10,.pv (ii x))],1000000000,[(1,.arr 23 0 1 (uA G))]⟩,fun⟨(x,_),_⟩=>b-x,⟨⟨(I+1,F),sz1,hH,by show 1≤I+1;omega,by show I+1≤b;omega⟩,aj ?_⟩,?_⟩
 ·all_goals exact ay
 rintro⟨⟨x,G⟩,g1,g2,g3,g4⟩
 simp only at g1 g2 g3 g4;clear d0 d1 d2 d4;have wx:IntKind.i64.wrap ((x:Int)+1)=((x+1:Nat):Int):=by rw[aJ (by omega) (by omega)];omega
 have wy:IntKind.i64.wrap ((x:Int)-1)=((x-1:Nat):Int):=by rw[aJ (by omega) (by omega)];omega
 rw[shiftUp] at g2;by_cases hx:x<b
 case neg=>
  have d3:decide ((x:Int)<(b:Int))=false:=by simp only[kQ];omega
  rw[if_neg hx] at g2;subst g2;repeat' ((conv=>whnf);first|with_reducible apply aG|((with_reducible apply fk)<;>intro hc<;>try exact fO)|rewrite[wt]|(rewrite[dA])|(refine⟨_,dz _ _ (by first|omega|exact gG),?_⟩)|((with_reducible apply And.intro);exact gG)|(apply aH;refine⟨_,bG _ _,?_⟩)|refine aC ?_|fail)
  refine⟨⟨(t+1,I,G),sz2,h2,by show a+1≤I;omega,by show I≤b;omega,by show t+1≤5;omega⟩,(by show 5-(t+1)<5-t;omega),aj ?_⟩;all_goals exact ay
 have d3:decide ((x:Int)<(b:Int))=true:=by simp only[gQ];omega
 rw[if_pos hx] at g2;cases hl:decide (G[x]! < G[x-1]!) with
 | false=>
   rw[if_pos (by simp[Aq,hl])] at g2;subst g2;repeat' ((conv=>whnf);first|with_reducible apply aG|((with_reducible apply fk)<;>intro hc<;>try exact fO)|rewrite[wx]|rewrite[wy]|rewrite[wt]|(rewrite[dA])|(refine⟨_,dz _ _ (by first|omega|exact gG),?_⟩)|((with_reducible apply And.intro);exact gG)|(apply aH;refine⟨_,bG _ _,?_⟩)|refine aC ?_|fail)
   refine⟨⟨(t+1,I,G),sz2,h2,by show a+1≤I;omega,by show I≤b;omega,by show t+1≤5;omega⟩,(by show 5-(t+1)<5-t;omega),aj ?_⟩;all_goals exact ay
 | true=>
   rw[if_neg (by simp[Aq,hl])] at g2;repeat' ((conv=>whnf);first|with_reducible apply aG|((with_reducible apply fk)<;>intro hc<;>try exact fO)|rewrite[wx]|rewrite[wy]|(rewrite[dA])|(refine⟨_,dz _ _ (by first|omega|exact gG),?_⟩)|((with_reducible apply And.intro);exact gG)|(apply aH;refine⟨_,bG _ _,?_⟩)|refine aC ?_|fail)
   refine⟨⟨(x+1,swp G x (x-1)),by rw[size_swp];exact g1,g2,by show 1≤x+1;omega,by show x+1≤b;omega⟩,(by show b-(x+1)<b-x;omega),aj ?_⟩;all_goals exact ay
theorem adf:aQ prog 106 f106:=bU func106
theorem afS:∀(n:Nat) (A:Array Int) (a b limit:Nat),b-a≤n→a≤b→b≤A.size→A.size<4611686018427387904→limit<1000→Below ltInt a b A →
  dU prog 106 [.aB 1 0,.pv (ii a),.pv (ii b),.pv (ii limit)] [(1,.arr 23 0 1 (uA A))] (.pv (.dn [])) [(1,.arr 23 0 1 (uA (pdq ltInt A a b limit true true)))]:=by
 intro n;induction n using Nat.strongRecOn with
 |ind n IH=>
 intro A a b limit hn hab hb hs hlim hB;obtain⟨X,hX⟩:∃X,pdq ltInt A a b limit true true=X:=⟨_,rfl⟩;rw[hX];refine jy adf ?_;repeat' ((conv=>whnf);first|with_reducible apply aG|((with_reducible apply fk)<;>intro hc<;>try exact aK)|refine aC ?_|fail)
 refine⟨{p:Nat×Nat×Nat×Bool×Bool×Array Int // p.2.2.2.2.2.size=A.size∧pdq ltInt p.2.2.2.2.2 p.1 p.2.1 p.2.2.1 p.2.2.2.1 p.2.2.2.2.1=X∧p.1≤p.2.1∧p.2.1≤A.size∧p.2.1-p.1≤n∧p.2.2.1<1000∧Below ltInt p.1 p.2.1 p.2.2.2.2.2},fun⟨(a,b,lim,wb,wp,D),_⟩=>⟨[(0,.aB 1 0),(1,.pv (ii a)),(2,.pv (ii b)),(3,.pv (ii lim)),(8,.pv (bl wb)),(9,.pv (bl wp))],1000000000,[(1,.arr 23 0 1 (uA D))]⟩,fun⟨(a,b,_),_⟩=>b-a,⟨⟨(a,b,limit,true,true,A),rfl,hX,hab,hb,hn,hlim,hB⟩,aj ?_⟩,?_⟩
 ·all_goals exact ay
 clear hX hn hab hb hlim hB;clear a b limit;rintro⟨⟨a,b,lim,wb,wp,D⟩,h1,h2,h3,h4,h5,h6,h7⟩
 simp only at h1 h2 h3 h4 h5 h6 h7;have wl:IntKind.i64.wrap ((b:Int)-(a:Int))=((b-a:Nat):Int):=by rw[aJ (by omega) (by omega)];omega
 by_cases h12:b-a≤12
 ·have d0:decide (((b-a:Nat):Int)≤12)=true:=by simp only[gQ];omega
  rw[pdq_small h12] at h2;subst h2;repeat' ((conv=>whnf);first|with_reducible apply aG|((with_reducible apply fk)<;>intro hc<;>try exact aK)|rewrite[wl]|(apply fB;refine⟨_,_,cZ (afM D a b h3 (by omega) (by omega)) ?_,?_⟩;exact rG)|refine aC ?_|fail)
  refine⟨_,_,⟨rfl,rfl⟩,?_⟩;all_goals exact ay
 have d0:decide (((b-a:Nat):Int)≤12)=false:=by simp only[kQ];omega
 by_cases hl0:lim=0
 ·have d1:((lim:Int)==0)=true:=by simp;omega
  rw[pdq_heap h12 hl0] at h2;subst h2;clear hl0;repeat' ((conv=>whnf);first|with_reducible apply aG|((with_reducible apply fk)<;>intro hc<;>try exact aK)|rewrite[wl]|(apply fB;refine⟨_,_,cZ (ac3 D a b (by omega) (by omega) (by omega)) ?_,?_⟩;exact rG)|refine aC ?_|fail)
  refine⟨_,_,⟨rfl,rfl⟩,?_⟩;all_goals exact ay
 have d1:((lim:Int)==0)=false:=by simp;omega
 obtain⟨d1',lX,p,hh,d2',pv,hint,E,fin,R⟩:=abj (wb:=wb) (wp:=wp) h12 hl0 (by omega) h7;have hab:a<b:=by omega
 have hle:=R.le;have hpa:=R.pa;have hpb:=R.pb;have hva:=R.va;have hvb:=R.vb;have hs1:=R.s1.trans h1;have hs2:=R.s2.trans h1;have hs3:=R.s3.trans h1;have wm:IntKind.i64.wrap ((lim:Int)-1)=((lim-1:Nat):Int):=by rw[aJ (by omega) (by omega)];omega
 repeat' ((conv=>whnf);first|with_reducible apply rF|((with_reducible apply fk)<;>intro hc<;>try exact aK)|rewrite[wl]|refine aC ?_|fail)
 refine Or.inl ?_;repeat' ((conv=>whnf);first|with_reducible apply rF|((with_reducible apply fk)<;>intro hc<;>try exact aK)|refine aC ?_|fail)
 refine Or.inl ?_;repeat' ((conv=>whnf);first|with_reducible apply rF|((with_reducible apply fk)<;>intro hc<;>try exact aK)|refine aC ?_|fail)
 refine Or.inr ⟨Unit,fun _=>⟨[(0,.aB 1 0),(1,.pv (ii a)),(2,.pv (ii b)),(3,.pv (ii lX)),(8,.pv (bl wb)),(9,.pv (bl wp)),(10,.pv (ii ((b-a:Nat):Int)))],1000000000,[(1,.arr 23 0 1 (uA d1'))]⟩,?_,fun _=>?_⟩
 ·cases wb with
  | true=>
    obtain⟨e1,e2⟩:=R.bt rfl;clear R;subst e1 e2;repeat' ((conv=>whnf);first|with_reducible apply rF|((with_reducible apply fk)<;>intro hc<;>try exact aK)|refine aC ?_|fail)
    refine⟨(),aj ?_⟩;all_goals exact ay
  | false=>
    obtain⟨e1,e2⟩:=R.bf rfl;clear R;subst e1 e2;repeat' ((conv=>whnf);first|with_reducible apply rF|((with_reducible apply fk)<;>intro hc<;>try exact aK)|rewrite[wm]|(apply fB;refine⟨_,_,cZ (afQ D a b hab (by omega) (by omega) (by omega)) ?_,?_⟩;exact rG)|refine aC ?_|fail)
    refine⟨(),aj ?_⟩;all_goals exact ay
 have cP:=afO d1' a b hab (by omega) (by omega) (by omega) p hh R.c;repeat' ((conv=>whnf);first|with_reducible apply rF|((with_reducible apply fk)<;>intro hc<;>try exact aK)|(apply fB;refine⟨_,_,cZ (cP) ?_,?_⟩;exact rG)|refine aC ?_|fail)
 have wq:IntKind.i64.wrap (IntKind.i64.wrap ((b:Int)-1)-IntKind.i64.wrap ((p:Int)-(a:Int)))=((b-1-(p-a):Nat):Int):=by
  rw[aJ (n:=(b:Int)-1) (by omega) (by omega),aJ (n:=(p:Int)-(a:Int)) (by omega) (by omega),aJ (by omega) (by omega)];omega
 refine Or.inr ⟨Unit,fun _=>⟨[(0,.aB 1 0),(1,.pv (ii a)),(2,.pv (ii b)),(3,.pv (ii lX)),(8,.pv (bl wb)),(9,.pv (bl wp)),(10,.pv (ii ((b-a:Nat):Int))),(11,.pv (ii pv)),(12,.pv (ii (DJ hint)))],1000000000,[(1,.arr 23 0 1 (uA d2'))]⟩,?_,fun _=>?_⟩
 ·rcases Vg hh with h|h
  ·obtain⟨e1,e2,e3⟩:=R.hd h;clear R cP;subst e1 e2 e3 h;have d3:(DJ Hint.decreasing==2)=true:=rfl;repeat' ((conv=>whnf);first|with_reducible apply rF|((with_reducible apply fk)<;>intro hc<;>try exact aK)|rewrite[wq]|(apply fB;refine⟨_,_,cZ (afN d1' a b hab (by omega) (by omega)) ?_,?_⟩;exact rG)|refine aC ?_|fail)
   refine⟨(),aj ?_⟩;all_goals exact ay
  obtain⟨e1,e2,e3⟩:=R.hn h;clear R cP;subst e1 e2 e3;have d3:(DJ hint==2)=false:=by cases hint<;>simp[DJ] at h ⊢
  repeat' ((conv=>whnf);first|with_reducible apply rF|((with_reducible apply fk)<;>intro hc<;>try exact aK)|refine aC ?_|fail)
  refine⟨(),aj ?_⟩;all_goals exact ay
 refine Or.inr ⟨PLift (fin=false),fun _=>⟨[(0,.aB 1 0),(1,.pv (ii a)),(2,.pv (ii b)),(3,.pv (ii lX)),(8,.pv (bl wb)),(9,.pv (bl wp)),(10,.pv (ii ((b-a:Nat):Int))),(11,.pv (ii pv))],1000000000,[(1,.arr 23 0 1 (uA E))]⟩,?_,fun⟨hfin⟩=>?_⟩
 ·by_cases hy:wb=true∧wp=true∧hint=.increasing
  ·obtain⟨y1,y2,y3⟩:=hy;have e:=R.py y1 y2 y3;have hdone:=R.done;clear R cP;subst y1 y2 y3;have d3:(DJ Hint.increasing==1)=true:=rfl;have cI:=ade d2' a b hab (by omega) (by omega) E fin e;cases fin with
   | true=>
     rw[hdone rfl] at h2;subst h2;repeat' ((conv=>whnf);first|with_reducible apply rF|((with_reducible apply fk)<;>intro hc<;>try exact aK)|(apply fB;refine⟨_,_,cZ (cI) ?_,?_⟩;exact rG)|refine aC ?_|fail)
     refine⟨_,_,⟨rfl,rfl⟩,?_⟩;all_goals exact ay
   | false=>
     repeat' ((conv=>whnf);first|with_reducible apply rF|((with_reducible apply fk)<;>intro hc<;>try exact aK)|(apply fB;refine⟨_,_,cZ (cI) ?_,?_⟩;exact rG)|refine aC ?_|fail)
     refine⟨⟨rfl⟩,aj ?_⟩;all_goals exact ay
  obtain⟨e1,e2⟩:=R.pn hy;clear R cP;subst e1 e2;cases wb with
  | false=>
    repeat' ((conv=>whnf);first|with_reducible apply rF|((with_reducible apply fk)<;>intro hc<;>try exact aK)|refine aC ?_|fail)
    refine⟨⟨rfl⟩,aj ?_⟩;all_goals exact ay
  | true=>
    cases wp with
    | false=>
      repeat' ((conv=>whnf);first|with_reducible apply rF|((with_reducible apply fk)<;>intro hc<;>try exact aK)|refine aC ?_|fail)
      refine⟨⟨rfl⟩,aj ?_⟩;all_goals exact ay
    | true=>
      have d3:(DJ hint==1)=false:=by cases hint<;>simp[DJ] at hy ⊢
      repeat' ((conv=>whnf);first|with_reducible apply rF|((with_reducible apply fk)<;>intro hc<;>try exact aK)|refine aC ?_|fail)
      refine⟨⟨rfl⟩,aj ?_⟩;all_goals exact ay
 clear cP wq wm d0 d1;have wa:IntKind.i64.wrap ((a:Int)-1)=((a-1:Nat):Int)∨a=0:=by
  rcases Nat.eq_zero_or_pos a with h|h
  ·exact .inr h
  left;rw[aJ (by omega) (by omega)];omega
 refine Or.inr ⟨PLift (a=0∨ltInt E[a-1]! E[pv]! = true),fun _=>⟨[(0,.aB 1 0),(1,.pv (ii a)),(2,.pv (ii b)),(3,.pv (ii lX)),(8,.pv (bl wb)),(9,.pv (bl wp)),(10,.pv (ii ((b-a:Nat):Int))),(11,.pv (ii pv))],1000000000,[(1,.arr 23 0 1 (uA E))]⟩,?_,fun⟨aik⟩=>?_⟩
 ·rcases wa with wa|ha0
  ·by_cases ha0:a=0
   ·have d0:decide ((a:Int)>0)=false:=by simp only[kQ];omega
    have hA:PLift (a=0∨ltInt E[a-1]! E[pv]! = true):=⟨.inl ha0⟩;clear ha0;repeat' ((conv=>whnf);first|with_reducible apply aG|((with_reducible apply fk)<;>intro hc<;>try exact fO)|(rewrite[dA])|(refine⟨_,dz _ _ (by first|omega|exact gG),?_⟩)|((with_reducible apply And.intro);exact gG)|(apply aH;refine⟨_,bG _ _,?_⟩)|refine aC ?_|fail)
    refine⟨hA,aj ?_⟩;all_goals exact ay
   have d0:decide ((a:Int)>0)=true:=by simp only[gQ];omega
   cases hl:decide (E[a-1]! < E[pv]!) with
   | true=>
     repeat' ((conv=>whnf);first|with_reducible apply aG|((with_reducible apply fk)<;>intro hc<;>try exact fO)|rewrite[wa]|(rewrite[dA])|(refine⟨_,dz _ _ (by first|omega|exact gG),?_⟩)|((with_reducible apply And.intro);exact gG)|(apply aH;refine⟨_,bG _ _,?_⟩)|refine aC ?_|fail)
     refine⟨⟨.inr hl⟩,aj ?_⟩;all_goals exact ay
   | false=>
     obtain⟨⟨mid,d4⟩,e⟩:∃x,partitionEqual ltInt E a b pv=x:=⟨_,rfl⟩;obtain⟨m1,m2,m3,m4,m5⟩:=R.eq hfin (by omega) hl mid d4 e;have cE:=afR E a b pv hva hvb (by omega) (by omega) mid d4 e;rw[m5] at h2;clear R;repeat' ((conv=>whnf);first|with_reducible apply aG|((with_reducible apply fk)<;>intro hc<;>try exact fO)|rewrite[wa]|(rewrite[dA])|(refine⟨_,dz _ _ (by first|omega|exact gG),?_⟩)|((with_reducible apply And.intro);exact gG)|(apply aH;refine⟨_,bG _ _,?_⟩)|(apply fB;refine⟨_,_,cZ (cE) ?_,?_⟩;exact rG)|refine aC ?_|fail)
     refine⟨⟨(mid,b,lX,wb,wp,d4),m3.trans h1,h2,m2,h4,by show b-mid≤n;omega,by show lX<1000;omega,m4⟩,(by show b-mid<b-a;omega),aj ?_⟩;all_goals exact ay
  have d0:decide ((a:Int)>0)=false:=by simp only[kQ];omega
  have hA:PLift (a=0∨ltInt E[a-1]! E[pv]! = true):=⟨.inl ha0⟩;clear ha0;repeat' ((conv=>whnf);first|with_reducible apply aG|((with_reducible apply fk)<;>intro hc<;>try exact fO)|(rewrite[dA])|(refine⟨_,dz _ _ (by first|omega|exact gG),?_⟩)|((with_reducible apply And.intro);exact gG)|(apply aH;refine⟨_,bG _ _,?_⟩)|refine aC ?_|fail)
  refine⟨hA,aj ?_⟩;all_goals exact ay
 clear wa;obtain⟨⟨mid,ap,d4⟩,e⟩:∃x,partition ltInt E a b pv=x:=⟨_,rfl⟩;obtain⟨m1,m2,m3,m4,m5,m6,m7⟩:=R.pt hfin aik mid ap d4 e;have cE:=ada E a b pv hva hvb (by omega) (by omega) mid ap d4 e;clear R e;have w1:IntKind.i64.wrap ((mid:Int)-(a:Int))=((mid-a:Nat):Int):=by rw[aJ (by omega) (by omega)];omega
 have w2:IntKind.i64.wrap ((b:Int)-(mid:Int))=((b-mid:Nat):Int):=by rw[aJ (by omega) (by omega)];omega
 have w3:IntKind.i64.wrap (Int.tdiv ((b-a:Nat):Int) 8)=(((b-a) / 8:Nat):Int):=by rw[Int.tdiv_eq_ediv_of_nonneg (by omega),aJ (by omega) (by omega)];rfl
 have w4:IntKind.i64.wrap ((mid:Int)+1)=((mid+1:Nat):Int):=by rw[aJ (by omega) (by omega)];omega
 by_cases hlt:mid-a<b-mid
 ·have d0:decide (((mid-a:Nat):Int)<((b-mid:Nat):Int))=true:=by simp only[gQ];omega
  obtain⟨q1,q2,q3⟩:=m6 hlt;have w5:decide (((mid-a:Nat):Int)≥(((b-a) / 8:Nat):Int))=decide (mid-a≥(b-a) / 8):=decide_eq_decide.2 (by omega);have cR:=IH (mid-a) (by omega) d4 a mid lX (Nat.le_refl _) m1 (by omega) (by omega) (by omega) m4;rw[q3] at h2;clear m6 m7 q3;repeat' ((conv=>whnf);first|with_reducible apply aG|((with_reducible apply fk)<;>intro hc<;>try exact aK)|rewrite[w1]|rewrite[w2]|rewrite[w3]|rewrite[w4]|rewrite[w5]|(apply fB;refine⟨_,_,cZ (cE) ?_,?_⟩;exact rG)|(apply fB;refine⟨_,_,cZ (cR) ?_,?_⟩;exact rG)|refine aC ?_|fail)
  refine⟨⟨(mid+1,b,lX,decide (mid-a≥(b-a) / 8),ap,pdq ltInt d4 a mid lX true true),q1.trans h1,h2,m2,h4,by show b-(mid+1)≤n;omega,by show lX<1000;omega,q2⟩,(by show b-(mid+1)<b-a;omega),aj ?_⟩;all_goals exact ay
 have d0:decide (((mid-a:Nat):Int)<((b-mid:Nat):Int))=false:=by simp only[kQ];omega
 obtain⟨q1,q2,q3⟩:=m7 hlt;have w5:decide (((b-mid:Nat):Int)≥(((b-a) / 8:Nat):Int))=decide (b-mid≥(b-a) / 8):=decide_eq_decide.2 (by omega);have cR:=IH (b-(mid+1)) (by omega) d4 (mid+1) b lX (Nat.le_refl _) m2 (by omega) (by omega) (by omega) m5;rw[q3] at h2;clear m6 m7 q3;repeat' ((conv=>whnf);first|with_reducible apply aG|((with_reducible apply fk)<;>intro hc<;>try exact aK)|rewrite[w1]|rewrite[w2]|rewrite[w3]|rewrite[w4]|rewrite[w5]|(apply fB;refine⟨_,_,cZ (cE) ?_,?_⟩;exact rG)|(apply fB;refine⟨_,_,cZ (cR) ?_,?_⟩;exact rG)|refine aC ?_|fail)
 refine⟨⟨(a,mid,lX,decide (b-mid≥(b-a) / 8),ap,pdq ltInt d4 (mid+1) b lX true true),q1.trans h1,h2,m1,by show mid≤A.size;omega,by show mid-a≤n;omega,by show lX<1000;omega,q2⟩,(by show mid-a<b-a;omega),aj ?_⟩;all_goals exact ay
theorem aav:aQ prog 67 f67:=bU func67
theorem acn (l:List Int)(h:l.length<4611686018427387904) :
  dU prog 67 [.aB 1 0] [(1,.arr 23 0 1 (l.map bR))] (.pv (.dn [])) [(1,.arr 23 0 1 ((l.mergeSort (fun x y=>decide (x≤y))).map bR))]:=by
 have e1:l.map bR=uA l.toArray:=rfl;have e2:(l.mergeSort (fun x y=>decide (x≤y))).map bR=uA (pdq ltInt l.toArray 0 l.toArray.size (bitsLen l.toArray.size) true true):=by
  rw[uA,Q9]
 have hk:bitsLen l.length≤62:=(bitsLen_le_iff l.length 62).2 (by omega);have c:=afS l.length l.toArray 0 l.length (bitsLen l.length) (by omega) (by omega) (by simp) (by simpa using h) (by omega) (.inl rfl);have cL:=RY l.length (by omega);have wn:IntKind.u64.wrap (l.length:Int)=(l.length:Int):=vO (by omega) (by omega);rw[e1,e2];have es:l.toArray.size=l.length:=by simp
 rw[es];have en:((uA l.toArray).length:Int)=(l.length:Int):=by rw[BR,es]
 clear e1 e2;refine jy aav ?_;repeat' ((conv=>whnf);first|with_reducible apply aG|((with_reducible apply fk)<;>intro hc<;>try exact aK)|rewrite[en]|rewrite[wn]|(apply aH;refine⟨_,cL,?_⟩)|(apply fB;refine⟨_,_,cZ (c) ?_,?_⟩;exact rG)|refine aC ?_|fail)
 refine⟨_,_,⟨rfl,rfl⟩,?_⟩;all_goals exact ay
end Go.Proofs.YtiagceoepkaeoaaGreat.Tb
end
section
open Go Go.Proofs.Tryz Go.AX
namespace Go.Proofs.YtiagceoepkaeoaaGreat.Tb
theorem Cn:aQ prog 75 f75:=bU func75
theorem Zh (a b:List Int):bC prog 75 [l8 a,l8 b] (bl (decide (a=b))):=by
 refine PC.le (jK Cn fun hbd=>?_);have hba:a.length≤9223372036854775807:=by have:=hbd.1;simpa[xY,l8] using this
 have ea:((List.map bR a).length:Int)=(a.length:Int):=by rw[List.length_map]
 have eb:((List.map bR b).length:Int)=(b.length:Int):=by rw[List.length_map]
 by_cases hl:a.length=b.length
 case neg=>
  have d0:((a.length:Int) != (b.length:Int))=true:=by simp;omega
  have e:decide (a=b)=false:=by simp only[kQ];intro e;subst e;exact hl rfl
  rw[e];refine bM Cn ?_;repeat' ((conv=>whnf);first|with_reducible apply aG|((with_reducible apply fk)<;>intro hc<;>try exact aK)|rewrite[ea]|rewrite[eb]|refine aC ?_|fail)
  all_goals exact ay
 have d0:((a.length:Int) != (b.length:Int))=false:=by simp;omega
 have Mq:Hd (a.length=b.length):=⟨hl⟩;clear hl;refine bM Cn ?_;repeat' ((conv=>whnf);first|with_reducible apply aG|((with_reducible apply fk)<;>intro hc<;>try exact aK)|rewrite[ea]|rewrite[eb]|refine aC ?_|fail)
 refine⟨{k:Nat // k≤a.length∧∀j (hj:j<a.length),j<k→a[j]=b[j]'(by have:=Mq.out;omega)},fun⟨k,_⟩=>⟨[(0,.pv (l8 a)),(1,.pv (l8 b)),(12,.pv (ii a.length)),(13,.pv (ii k))],1000000000,[]⟩,fun⟨k,_⟩=>a.length-k,⟨⟨0,by simp⟩,aj ?_⟩,?_⟩
 ·all_goals exact ay
 rintro⟨k,hk,hn⟩
 by_cases hlt:k<a.length
 ·have d1:decide ((k:Int)<(a.length:Int))=true:=by simp only[gQ];omega
  have eW:IntKind.i64.wrap ((k:Int)+1)=((k+1:Nat):Int):=by rw[aJ (by omega) (by omega)];omega
  have r1:=dx bR a k hlt;have r2:=dx bR b k (by have:=Mq.out;omega);cases hq:(a[k] != b[k]'(by have:=Mq.out;omega)) with
  | true=>
    have e:decide (a=b)=false:=by
     simp only[kQ];intro e;subst e;simp at hq
    rw[e];repeat' ((conv=>whnf);first|with_reducible apply aG|((with_reducible apply fk)<;>intro hc<;>try exact aK)|((refine⟨_,r1,?_⟩))|((refine⟨_,r2,?_⟩))|refine aC ?_|fail)
    all_goals exact ay
  | false=>
    repeat' ((conv=>whnf);first|with_reducible apply aG|((with_reducible apply fk)<;>intro hc<;>try exact aK)|((refine⟨_,r1,?_⟩))|((refine⟨_,r2,?_⟩))|refine aC ?_|fail)
    refine⟨⟨k+1,hlt,gH hn fun _=>by simpa using hq⟩,dec_lt hlt,aj ?_⟩;repeat' first|apply And.intro|exact ay|fail
    all_goals try (conv=>whnf)
    all_goals exact eW
 have d1:decide ((k:Int)<(a.length:Int))=false:=by simp only[kQ];omega
 have e:decide (a=b)=true:=by
  simp only[gQ];exact List.ext_getElem Mq.out fun j h1 h2=>hn j h1 (by omega)
 rw[e];repeat' ((conv=>whnf);first|with_reducible apply aG|((with_reducible apply fk)<;>intro hc<;>try exact aK)|refine aC ?_|fail)
 all_goals exact ay
theorem acj:aQ prog 71 f71:=bU func71
theorem afq (p:Pn)(x:Lg)(h:x.ok):bC prog 71 ([]++([.agg x.c]++[.bJ p.c 0])) (bl (kL x&&decide (x.id<p.next))):=by
 refine PC.le ?_;refine bM acj ?_;repeat' ((conv=>whnf);first|with_reducible apply aG|((with_reducible apply fk)<;>intro hc<;>try exact aK)|(apply aH;refine⟨_,OX x h,?_⟩)|refine aC ?_|fail)
 all_goals
  repeat' first|apply And.intro|exact ay|fail
  all_goals try (conv=>whnf)
  simp only[*,Bool.true_and,Bool.false_and]
theorem ack:aQ prog 31 f31:=bU func31
theorem mZ (p:Pn)(h:rR p):bC prog 31 [.agg p.c] (bl (jN p)):=by
 refine PC.le ?_;have hb:=h.channels;have hnm:=h.named;obtain⟨X,hX⟩:∃X,X=jN p:=⟨_,rfl⟩;rw[←hX];have cS:dU prog 67 [.aB 1 0] [(1,.arr 23 0 1 ((gT p).map bR))] (.pv (.dn [])) [(1,.arr 23 0 1 ((FE (gT p)).map bR))]:=acn (gT p) (by omega);have cR:bC prog 73 [dO p.af,.fn (.func 74) [] []] (bl (jM (jY p))):=by
  unfold jY;rw[xE];exact Lp p.af _ [] [] (·.id) fun y _=>afp y
 have cA:=OH p.af 71 [] [.bJ p.c 0] (fun l=>kL l&&decide (l.id<p.next)) fun y hy=>afq p y (h.lg y hy).ok
 have cW:bC prog 78 [uS p.past,.fn (.func 79) [] []] (bl (jM (p.past.map (·.who)))):=by
  rw[xE];exact RP p.past _ [] [] (·.who) fun y _=>afo y
 have cP:=VI p.past 81 [] [] qP fun y _=>ab5 y
 have cE:=Zh (FE (gT p)) (jY p);have cI:=afn p h.af;unfold jN at hX;obtain⟨C,hC⟩:∃C,C=p.channels.all (pF p):=⟨_,rfl⟩;rw[←hC] at hX;have eH:((List.map Ch.c p.channels).length:Int)=(p.channels.length:Int):=by rw[List.length_map]
 refine bM ack ?_;repeat' ((conv=>whnf);first|with_reducible apply rF|with_reducible apply Fs|with_reducible apply Fu|((with_reducible apply fk)<;>intro hc<;>try exact aK)|refine aC ?_|fail)
 refine⟨{k:Nat // k≤p.channels.length},fun⟨k,_⟩=>⟨[(1,.ptr 1002 0),(3,.aB 1003 0),(8,.pv (jL p.channels)),(9,.pv (ii p.channels.length)),(10,.pv (ii k))],1000000000,[(1002,.var (p.c.map .pv)),(1003,.arr 23 0 1 (((p.channels.take k).flatMap (·.af)).map bR))]⟩,fun⟨k,_⟩=>p.channels.length-k,⟨⟨0,by simp⟩,aj ?_⟩,?_⟩
 ·repeat' first|apply And.intro|exact ay|fail
  all_goals try (conv=>whnf)
  all_goals first|exact eH|simp
 rintro⟨k,hk⟩
 by_cases hlt:k<p.channels.length
 ·have d0:decide ((k:Int)<(p.channels.length:Int))=true:=by simp only[gQ];omega
  have eW:IntKind.i64.wrap ((k:Int)+1)=((k+1:Nat):Int):=by rw[aJ (by omega) (by omega)];omega
  have hr:=dx Ch.c p.channels k hlt;have hle:=KY (fun c:Ch=>c.af) p.channels k hlt;unfold gT at hnm;repeat' ((conv=>whnf);first|with_reducible apply aG|((with_reducible apply fk)<;>intro hc<;>try exact aK)|((refine⟨_,hr,?_⟩))|(((with_reducible apply And.intro);focus (simp only[jS] at *;omega)))|refine aC ?_|fail)
  refine⟨⟨k+1,hlt⟩,dec_lt hlt,aj ?_⟩;repeat' first|apply And.intro|exact ay|fail
  all_goals try (conv=>whnf)
  all_goals first
   |exact eW
   |(rw[JJ _ _ _ hlt,List.map_append];exact bP _)
 have hke:k=p.channels.length:=by omega
 subst hke;have d0:decide ((p.channels.length:Int)<(p.channels.length:Int))=false:=by simp
 have eT:((p.channels.take p.channels.length).flatMap (·.af)).map bR=(gT p).map bR:=by rw[List.take_length];rfl
 repeat' ((conv=>whnf);first|with_reducible apply aG|((with_reducible refine fk (fun hc=>?_) fun hc=>?_)<;>first|exact absurd hc (by decide)|(exfalso;simp only[*,reduceCtorEq,Bool.not_true,Bool.not_false] at hc;done)|simp only[Bool.not_eq_true',Bool.not_eq_false'] at hc|skip)|rewrite[eT]|rewrite[eH]|(apply fB;refine⟨_,_,cZ (cS) ?_,?_⟩;exact rG)|(apply aH;refine⟨_,tC (zB p.version) ?_,?_⟩;exact rG)|(apply aH;refine⟨_,qF _ _ _,?_⟩)|(apply aH;refine⟨_,jC _ _ _,?_⟩)|(apply aH;refine⟨_,cA,?_⟩)|(apply aH;refine⟨_,cR,?_⟩)|(apply aH;refine⟨_,cI,?_⟩)|(apply aH;refine⟨_,cE,?_⟩)|refine aC ?_|fail)
 all_goals try (focus (simp only[*,Bool.true_and,Bool.false_and,Bool.and_true,Bool.and_false,Bool.not_true,Bool.not_false,Bool.false_eq_true,↓reduceIte] at hX;subst hX;(repeat' first|apply And.intro|exact ay|fail);(all_goals try (conv=>whnf));done))
 simp only[*,Bool.true_and,Bool.false_and,Bool.and_true,Bool.and_false,Bool.not_true,Bool.not_false,Bool.false_eq_true,↓reduceIte] at hX;rw[←hC] at hX;clear cS cR cA cE cI;refine⟨{k:Nat // k≤p.channels.length∧∀j (hj:j<p.channels.length),j<k→pF p p.channels[j]=true},fun⟨k,_⟩=>⟨[(1,.ptr 1002 0),(61,.pv (ii p.channels.length)),(62,.pv (ii k))],1000000000,[(1002,.sD p.c)]⟩,fun⟨k,_⟩=>p.channels.length-k,⟨⟨0,by simp⟩,abg [1002] ?_⟩,?_⟩
 ·repeat' first|apply And.intro|exact ay|fail
  all_goals try (conv=>whnf)
  all_goals trace_state
 rintro⟨k,hk,hbk⟩
 by_cases hlt:k<p.channels.length
 ·have d0:decide ((k:Int)<(p.channels.length:Int))=true:=by simp only[gQ];omega
  have eW:IntKind.i64.wrap ((k:Int)+1)=((k+1:Nat):Int):=by rw[aJ (by omega) (by omega)];omega
  obtain⟨q1,q2⟩:=aeQ hlt;have cK:=aci p ((k+1:Nat):Int) h q1;rw[q2] at cK;clear q1 q2;cases hq:pF p p.channels[k] with
  | true=>
    rw[hq] at cK;have hg:∀j (hj:j<p.channels.length),j<k+1→pF p p.channels[j]=true:=gH hbk fun _=>hq
    clear hq;repeat' ((conv=>whnf);first|with_reducible apply aG|((with_reducible apply fk)<;>intro hc<;>try exact fO)|rewrite[eW]|(apply aH;refine⟨_,cK,?_⟩)|refine aC ?_|fail)
    refine⟨⟨k+1,hlt,hg⟩,dec_lt hlt,aj ?_⟩;all_goals exact ay
  | false=>
    rw[hq] at cK;have hCf:C=false:=by
     rw[hC];simp only[List.all_eq_false];exact⟨_,List.getElem_mem hlt,by rw[hq];decide⟩
    rw[hCf,Bool.false_and] at hX;clear hq hC hCf;subst hX;repeat' ((conv=>whnf);first|with_reducible apply aG|((with_reducible apply fk)<;>intro hc<;>try exact fO)|rewrite[eW]|(apply aH;refine⟨_,cK,?_⟩)|refine aC ?_|fail)
    all_goals exact ay
 have hke:k=p.channels.length:=by omega
 subst hke;have d0:decide ((p.channels.length:Int)<(p.channels.length:Int))=false:=by simp
 have hCt:C=true:=by
  rw[hC,List.all_eq_true];exact tK hbk
 rw[hCt,Bool.true_and] at hX;clear hC hCt;repeat' ((conv=>whnf);first|with_reducible apply aG|((with_reducible apply fk)<;>intro hc<;>try exact aK)|(apply aH;refine⟨_,cW,?_⟩)|(apply aH;refine⟨_,cP,?_⟩)|refine aC ?_|fail)
 all_goals
  simp only[*,Bool.true_and,Bool.false_and,Bool.and_true,Bool.and_false,Bool.false_eq_true,↓reduceIte] at hX;subst hX;all_goals exact ay
def qH (x:Pl):Bool:=decide (x.node≥1)&&(decide (x.node≤15)&&(decide (x.dB≥1)&&decide (x.dB≤4611686018427387903)))
theorem O8:aQ prog 41 f41:=bU func41
theorem Gs (x:Pl):bC prog 41 [.agg x.c] (bl (qH x)):=by
 refine PC.le ?_;refine bM O8 ?_;repeat' ((conv=>whnf);first|with_reducible apply aG|((with_reducible apply fk)<;>intro hc<;>try exact aK)|refine aC ?_|fail)
 all_goals
  repeat' first|apply And.intro|exact ay|fail
  all_goals try (conv=>whnf)
  unfold qH;simp_all
 all_goals omega
def fF:Int→List PV
 |1=>[ii 17,.fn (.func 124) [] []]
 |2=>[ii 19,.fn (.func 125) [] []]
 |3=>[ii 3,.fn (.func 126) [] []]
 |4=>[ii 195,.fn (.func 127) [] []]
 |5=>[ii 135,.fn (.func 128) [] []]
 |6=>[ii 143,.fn (.func 129) [] []]
 |7=>[ii 11,.fn (.func 130) [] []]
 |8=>[ii 263,.fn (.func 131) [] []]
 |9=>[ii 43,.fn (.func 132) [] []]
 |10=>[ii 43,.fn (.func 133) [] []]
 |11=>[ii 35,.fn (.func 134) [] []]
 |12=>[ii 516,.fn (.func 135) [] []]
 |_=>[ii 0,.sc .nilFunc]
theorem O9:aQ prog 84 f84:=bU func84
theorem gK:bC prog 84 [] (.agg ([ii 0,.sc .nilFunc]++fF 1++fF 2++fF 3++fF 4++fF 5++fF 6++fF 7++fF 8++fF 9++fF 10++fF 11++fF 12)):=by
 refine PC.le ?_;refine bM O9 ?_;repeat' ((conv=>whnf);first|with_reducible apply aG|((with_reducible apply fk)<;>intro hc<;>try exact aK)|refine aC ?_|fail)
 all_goals
  all_goals exact ay
theorem iQ:aQ prog 35 f35:=bU func35
theorem Zq (n:Int)(h:n<1∨12<n):bC prog 35 [ii n] (.agg [ii 0,.sc .nilFunc]):=by
 refine PC.le ?_;refine bM iQ ?_;repeat' ((conv=>whnf);first|with_reducible apply aG|((with_reducible apply fk)<;>intro hc<;>try exact aK)|refine aC ?_|fail)
 all_goals
  repeat' first|apply And.intro|exact ay|fail
  all_goals try (conv=>whnf)
 all_goals simp_all
 all_goals omega
theorem Gt:bC prog 35 [ii 1] (.agg (fF 1)):=by
 refine PC.le ?_;refine bM iQ ?_;repeat' ((conv=>whnf);first|with_reducible apply aG|((with_reducible apply fk)<;>intro hc<;>try exact aK)|(apply aH;refine⟨_,gK,?_⟩)|refine aC ?_|fail)
 all_goals
  all_goals exact ay
theorem Gu:bC prog 35 [ii 2] (.agg (fF 2)):=by
 refine PC.le ?_;refine bM iQ ?_;repeat' ((conv=>whnf);first|with_reducible apply aG|((with_reducible apply fk)<;>intro hc<;>try exact aK)|(apply aH;refine⟨_,gK,?_⟩)|refine aC ?_|fail)
 all_goals
  all_goals exact ay
theorem Gv:bC prog 35 [ii 3] (.agg (fF 3)):=by
 refine PC.le ?_;refine bM iQ ?_;repeat' ((conv=>whnf);first|with_reducible apply aG|((with_reducible apply fk)<;>intro hc<;>try exact aK)|(apply aH;refine⟨_,gK,?_⟩)|refine aC ?_|fail)
 all_goals
  all_goals exact ay
theorem Gw:bC prog 35 [ii 4] (.agg (fF 4)):=by
 refine PC.le ?_;refine bM iQ ?_;repeat' ((conv=>whnf);first|with_reducible apply aG|((with_reducible apply fk)<;>intro hc<;>try exact aK)|(apply aH;refine⟨_,gK,?_⟩)|refine aC ?_|fail)
 all_goals
  all_goals exact ay
theorem Gx:bC prog 35 [ii 5] (.agg (fF 5)):=by
 refine PC.le ?_;refine bM iQ ?_;repeat' ((conv=>whnf);first|with_reducible apply aG|((with_reducible apply fk)<;>intro hc<;>try exact aK)|(apply aH;refine⟨_,gK,?_⟩)|refine aC ?_|fail)
 all_goals
  all_goals exact ay
theorem Gy:bC prog 35 [ii 6] (.agg (fF 6)):=by
 refine PC.le ?_;refine bM iQ ?_;repeat' ((conv=>whnf);first|with_reducible apply aG|((with_reducible apply fk)<;>intro hc<;>try exact aK)|(apply aH;refine⟨_,gK,?_⟩)|refine aC ?_|fail)
 all_goals
  all_goals exact ay
theorem Gz:bC prog 35 [ii 7] (.agg (fF 7)):=by
 refine PC.le ?_;refine bM iQ ?_;repeat' ((conv=>whnf);first|with_reducible apply aG|((with_reducible apply fk)<;>intro hc<;>try exact aK)|(apply aH;refine⟨_,gK,?_⟩)|refine aC ?_|fail)
 all_goals
  all_goals exact ay
theorem GA:bC prog 35 [ii 8] (.agg (fF 8)):=by
 refine PC.le ?_;refine bM iQ ?_;repeat' ((conv=>whnf);first|with_reducible apply aG|((with_reducible apply fk)<;>intro hc<;>try exact aK)|(apply aH;refine⟨_,gK,?_⟩)|refine aC ?_|fail)
 all_goals
  all_goals exact ay
theorem GD:bC prog 35 [ii 9] (.agg (fF 9)):=by
 refine PC.le ?_;refine bM iQ ?_;repeat' ((conv=>whnf);first|with_reducible apply aG|((with_reducible apply fk)<;>intro hc<;>try exact aK)|(apply aH;refine⟨_,gK,?_⟩)|refine aC ?_|fail)
 all_goals
  all_goals exact ay
theorem Cs:bC prog 35 [ii 10] (.agg (fF 10)):=by
 refine PC.le ?_;refine bM iQ ?_;repeat' ((conv=>whnf);first|with_reducible apply aG|((with_reducible apply fk)<;>intro hc<;>try exact aK)|(apply aH;refine⟨_,gK,?_⟩)|refine aC ?_|fail)
 all_goals
  all_goals exact ay
theorem Ct:bC prog 35 [ii 11] (.agg (fF 11)):=by
 refine PC.le ?_;refine bM iQ ?_;repeat' ((conv=>whnf);first|with_reducible apply aG|((with_reducible apply fk)<;>intro hc<;>try exact aK)|(apply aH;refine⟨_,gK,?_⟩)|refine aC ?_|fail)
 all_goals
  all_goals exact ay
theorem xS:bC prog 35 [ii 12] (.agg (fF 12)):=by
 refine PC.le ?_;refine bM iQ ?_;repeat' ((conv=>whnf);first|with_reducible apply aG|((with_reducible apply fk)<;>intro hc<;>try exact aK)|(apply aH;refine⟨_,gK,?_⟩)|refine aC ?_|fail)
 all_goals
  all_goals exact ay
def IU (n x:Int):Bool:=IntKind.i64.wrap (BitVec.toNat (BitVec.ofInt IntKind.i64.bits n &&& BitVec.ofInt IntKind.i64.bits x)) != 0
theorem Sj:aQ prog 95 f95:=bU func95
theorem iy:aQ prog 40 f40:=bU func40
theorem acI (n x:Int):bC prog 95 ([]++([ii x]++[.bJ [ii n] 0])) (bl (IU n x)):=by
 refine PC.le ?_;refine bM Sj ?_;repeat' ((conv=>whnf);first|with_reducible apply aG|((with_reducible apply fk)<;>intro hc<;>try exact aK)|refine aC ?_|fail)
 all_goals exact ay
theorem aD (n x:Int)(b:Bool)(h:IU n x=b):bC prog 95 ([]++([ii x]++[.bJ [ii n] 0])) (bl b):=by
 subst h;exact acI n x
theorem acJ (o:bg):bC prog 40 [.agg o.c,ii 17] (.agg (gJ o (dZ 1)).c):=by
 refine PC.le ?_;have e:gJ o (dZ 1)={ who:=o.who,inc:=o.inc,n:=o.n,kind:=o.kind,channel:=o.channel,aU:=0,aY:=0,at_:=0,now:=o.now,sub:=0,w:=0,a:=0,av:=[],seen:=[],from_:=Ca,nC:=Ca }:=rfl;rw[e];clear e;have b0:=aD 17 1 true (by decide);have b1:=aD 17 2 false (by decide);have b2:=aD 17 4 false (by decide);have b3:=aD 17 8 false (by decide);have b4:=aD 17 16 true (by decide);have b5:=aD 17 32 false (by decide);have b6:=aD 17 64 false (by decide);have b7:=aD 17 128 false (by decide);have b8:=aD 17 256 false (by decide);have b9:=aD 17 512 false (by decide);refine bM iy ?_;repeat' ((conv=>whnf);first|with_reducible apply aG|((with_reducible apply fk)<;>intro hc<;>try exact aK)|(apply aH;refine⟨_,b0,?_⟩)|(apply aH;refine⟨_,b1,?_⟩)|(apply aH;refine⟨_,b2,?_⟩)|(apply aH;refine⟨_,b3,?_⟩)|(apply aH;refine⟨_,b4,?_⟩)|(apply aH;refine⟨_,b5,?_⟩)|(apply aH;refine⟨_,b6,?_⟩)|(apply aH;refine⟨_,b7,?_⟩)|(apply aH;refine⟨_,b8,?_⟩)|(apply aH;refine⟨_,b9,?_⟩)|refine aC ?_|fail)
 all_goals exact ay
theorem acK (o:bg):bC prog 40 [.agg o.c,ii 19] (.agg (gJ o (dZ 2)).c):=by
 refine PC.le ?_;have e:gJ o (dZ 2)={ who:=o.who,inc:=o.inc,n:=o.n,kind:=o.kind,channel:=o.channel,aU:=o.aU,aY:=0,at_:=0,now:=o.now,sub:=0,w:=0,a:=0,av:=[],seen:=[],from_:=Ca,nC:=Ca }:=rfl;rw[e];clear e;have b0:=aD 19 1 true (by decide);have b1:=aD 19 2 true (by decide);have b2:=aD 19 4 false (by decide);have b3:=aD 19 8 false (by decide);have b4:=aD 19 16 true (by decide);have b5:=aD 19 32 false (by decide);have b6:=aD 19 64 false (by decide);have b7:=aD 19 128 false (by decide);have b8:=aD 19 256 false (by decide);have b9:=aD 19 512 false (by decide);refine bM iy ?_;repeat' ((conv=>whnf);first|with_reducible apply aG|((with_reducible apply fk)<;>intro hc<;>try exact aK)|(apply aH;refine⟨_,b0,?_⟩)|(apply aH;refine⟨_,b1,?_⟩)|(apply aH;refine⟨_,b2,?_⟩)|(apply aH;refine⟨_,b3,?_⟩)|(apply aH;refine⟨_,b4,?_⟩)|(apply aH;refine⟨_,b5,?_⟩)|(apply aH;refine⟨_,b6,?_⟩)|(apply aH;refine⟨_,b7,?_⟩)|(apply aH;refine⟨_,b8,?_⟩)|(apply aH;refine⟨_,b9,?_⟩)|refine aC ?_|fail)
 all_goals exact ay
theorem acL (o:bg):bC prog 40 [.agg o.c,ii 3] (.agg (gJ o (dZ 3)).c):=by
 refine PC.le ?_;have e:gJ o (dZ 3)={ who:=o.who,inc:=o.inc,n:=o.n,kind:=o.kind,channel:=o.channel,aU:=o.aU,aY:=0,at_:=0,now:=0,sub:=0,w:=0,a:=0,av:=[],seen:=[],from_:=Ca,nC:=Ca }:=rfl;rw[e];clear e;have b0:=aD 3 1 true (by decide);have b1:=aD 3 2 true (by decide);have b2:=aD 3 4 false (by decide);have b3:=aD 3 8 false (by decide);have b4:=aD 3 16 false (by decide);have b5:=aD 3 32 false (by decide);have b6:=aD 3 64 false (by decide);have b7:=aD 3 128 false (by decide);have b8:=aD 3 256 false (by decide);have b9:=aD 3 512 false (by decide);refine bM iy ?_;repeat' ((conv=>whnf);first|with_reducible apply aG|((with_reducible apply fk)<;>intro hc<;>try exact aK)|(apply aH;refine⟨_,b0,?_⟩)|(apply aH;refine⟨_,b1,?_⟩)|(apply aH;refine⟨_,b2,?_⟩)|(apply aH;refine⟨_,b3,?_⟩)|(apply aH;refine⟨_,b4,?_⟩)|(apply aH;refine⟨_,b5,?_⟩)|(apply aH;refine⟨_,b6,?_⟩)|(apply aH;refine⟨_,b7,?_⟩)|(apply aH;refine⟨_,b8,?_⟩)|(apply aH;refine⟨_,b9,?_⟩)|refine aC ?_|fail)
 all_goals exact ay
theorem acM (o:bg):bC prog 40 [.agg o.c,ii 195] (.agg (gJ o (dZ 4)).c):=by
 refine PC.le ?_;have e:gJ o (dZ 4)={ who:=o.who,inc:=o.inc,n:=o.n,kind:=o.kind,channel:=o.channel,aU:=o.aU,aY:=0,at_:=0,now:=0,sub:=0,w:=o.w,a:=o.a,av:=o.av,seen:=[],from_:=Ca,nC:=Ca }:=rfl;rw[e];clear e;have b0:=aD 195 1 true (by decide);have b1:=aD 195 2 true (by decide);have b2:=aD 195 4 false (by decide);have b3:=aD 195 8 false (by decide);have b4:=aD 195 16 false (by decide);have b5:=aD 195 32 false (by decide);have b6:=aD 195 64 true (by decide);have b7:=aD 195 128 true (by decide);have b8:=aD 195 256 false (by decide);have b9:=aD 195 512 false (by decide);refine bM iy ?_;repeat' ((conv=>whnf);first|with_reducible apply aG|((with_reducible apply fk)<;>intro hc<;>try exact aK)|(apply aH;refine⟨_,b0,?_⟩)|(apply aH;refine⟨_,b1,?_⟩)|(apply aH;refine⟨_,b2,?_⟩)|(apply aH;refine⟨_,b3,?_⟩)|(apply aH;refine⟨_,b4,?_⟩)|(apply aH;refine⟨_,b5,?_⟩)|(apply aH;refine⟨_,b6,?_⟩)|(apply aH;refine⟨_,b7,?_⟩)|(apply aH;refine⟨_,b8,?_⟩)|(apply aH;refine⟨_,b9,?_⟩)|refine aC ?_|fail)
 all_goals exact ay
theorem acN (o:bg):bC prog 40 [.agg o.c,ii 135] (.agg (gJ o (dZ 5)).c):=by
 refine PC.le ?_;have e:gJ o (dZ 5)={ who:=o.who,inc:=o.inc,n:=o.n,kind:=o.kind,channel:=o.channel,aU:=o.aU,aY:=o.aY,at_:=0,now:=0,sub:=0,w:=0,a:=0,av:=o.av,seen:=[],from_:=Ca,nC:=Ca }:=rfl;rw[e];clear e;have b0:=aD 135 1 true (by decide);have b1:=aD 135 2 true (by decide);have b2:=aD 135 4 true (by decide);have b3:=aD 135 8 false (by decide);have b4:=aD 135 16 false (by decide);have b5:=aD 135 32 false (by decide);have b6:=aD 135 64 false (by decide);have b7:=aD 135 128 true (by decide);have b8:=aD 135 256 false (by decide);have b9:=aD 135 512 false (by decide);refine bM iy ?_;repeat' ((conv=>whnf);first|with_reducible apply aG|((with_reducible apply fk)<;>intro hc<;>try exact aK)|(apply aH;refine⟨_,b0,?_⟩)|(apply aH;refine⟨_,b1,?_⟩)|(apply aH;refine⟨_,b2,?_⟩)|(apply aH;refine⟨_,b3,?_⟩)|(apply aH;refine⟨_,b4,?_⟩)|(apply aH;refine⟨_,b5,?_⟩)|(apply aH;refine⟨_,b6,?_⟩)|(apply aH;refine⟨_,b7,?_⟩)|(apply aH;refine⟨_,b8,?_⟩)|(apply aH;refine⟨_,b9,?_⟩)|refine aC ?_|fail)
 all_goals exact ay
theorem acO (o:bg):bC prog 40 [.agg o.c,ii 143] (.agg (gJ o (dZ 6)).c):=by
 refine PC.le ?_;have e:gJ o (dZ 6)={ who:=o.who,inc:=o.inc,n:=o.n,kind:=o.kind,channel:=o.channel,aU:=o.aU,aY:=o.aY,at_:=o.at_,now:=0,sub:=0,w:=0,a:=0,av:=o.av,seen:=[],from_:=Ca,nC:=Ca }:=rfl;rw[e];clear e;have b0:=aD 143 1 true (by decide);have b1:=aD 143 2 true (by decide);have b2:=aD 143 4 true (by decide);have b3:=aD 143 8 true (by decide);have b4:=aD 143 16 false (by decide);have b5:=aD 143 32 false (by decide);have b6:=aD 143 64 false (by decide);have b7:=aD 143 128 true (by decide);have b8:=aD 143 256 false (by decide);have b9:=aD 143 512 false (by decide);refine bM iy ?_;repeat' ((conv=>whnf);first|with_reducible apply aG|((with_reducible apply fk)<;>intro hc<;>try exact aK)|(apply aH;refine⟨_,b0,?_⟩)|(apply aH;refine⟨_,b1,?_⟩)|(apply aH;refine⟨_,b2,?_⟩)|(apply aH;refine⟨_,b3,?_⟩)|(apply aH;refine⟨_,b4,?_⟩)|(apply aH;refine⟨_,b5,?_⟩)|(apply aH;refine⟨_,b6,?_⟩)|(apply aH;refine⟨_,b7,?_⟩)|(apply aH;refine⟨_,b8,?_⟩)|(apply aH;refine⟨_,b9,?_⟩)|refine aC ?_|fail)
 all_goals exact ay
theorem acP (o:bg):bC prog 40 [.agg o.c,ii 11] (.agg (gJ o (dZ 7)).c):=by
 refine PC.le ?_;have e:gJ o (dZ 7)={ who:=o.who,inc:=o.inc,n:=o.n,kind:=o.kind,channel:=o.channel,aU:=o.aU,aY:=0,at_:=o.at_,now:=0,sub:=0,w:=0,a:=0,av:=[],seen:=[],from_:=Ca,nC:=Ca }:=rfl;rw[e];clear e;have b0:=aD 11 1 true (by decide);have b1:=aD 11 2 true (by decide);have b2:=aD 11 4 false (by decide);have b3:=aD 11 8 true (by decide);have b4:=aD 11 16 false (by decide);have b5:=aD 11 32 false (by decide);have b6:=aD 11 64 false (by decide);have b7:=aD 11 128 false (by decide);have b8:=aD 11 256 false (by decide);have b9:=aD 11 512 false (by decide);refine bM iy ?_;repeat' ((conv=>whnf);first|with_reducible apply aG|((with_reducible apply fk)<;>intro hc<;>try exact aK)|(apply aH;refine⟨_,b0,?_⟩)|(apply aH;refine⟨_,b1,?_⟩)|(apply aH;refine⟨_,b2,?_⟩)|(apply aH;refine⟨_,b3,?_⟩)|(apply aH;refine⟨_,b4,?_⟩)|(apply aH;refine⟨_,b5,?_⟩)|(apply aH;refine⟨_,b6,?_⟩)|(apply aH;refine⟨_,b7,?_⟩)|(apply aH;refine⟨_,b8,?_⟩)|(apply aH;refine⟨_,b9,?_⟩)|refine aC ?_|fail)
 all_goals exact ay
theorem acQ (o:bg):bC prog 40 [.agg o.c,ii 263] (.agg (gJ o (dZ 8)).c):=by
 refine PC.le ?_;have e:gJ o (dZ 8)={ who:=o.who,inc:=o.inc,n:=o.n,kind:=o.kind,channel:=o.channel,aU:=o.aU,aY:=o.aY,at_:=0,now:=0,sub:=0,w:=0,a:=0,av:=[],seen:=o.seen,from_:=Ca,nC:=Ca }:=rfl;rw[e];clear e;have b0:=aD 263 1 true (by decide);have b1:=aD 263 2 true (by decide);have b2:=aD 263 4 true (by decide);have b3:=aD 263 8 false (by decide);have b4:=aD 263 16 false (by decide);have b5:=aD 263 32 false (by decide);have b6:=aD 263 64 false (by decide);have b7:=aD 263 128 false (by decide);have b8:=aD 263 256 true (by decide);have b9:=aD 263 512 false (by decide);refine bM iy ?_;repeat' ((conv=>whnf);first|with_reducible apply aG|((with_reducible apply fk)<;>intro hc<;>try exact aK)|(apply aH;refine⟨_,b0,?_⟩)|(apply aH;refine⟨_,b1,?_⟩)|(apply aH;refine⟨_,b2,?_⟩)|(apply aH;refine⟨_,b3,?_⟩)|(apply aH;refine⟨_,b4,?_⟩)|(apply aH;refine⟨_,b5,?_⟩)|(apply aH;refine⟨_,b6,?_⟩)|(apply aH;refine⟨_,b7,?_⟩)|(apply aH;refine⟨_,b8,?_⟩)|(apply aH;refine⟨_,b9,?_⟩)|refine aC ?_|fail)
 all_goals exact ay
theorem acR (o:bg):bC prog 40 [.agg o.c,ii 43] (.agg (gJ o (dZ 9)).c):=by
 refine PC.le ?_;have e:gJ o (dZ 9)={ who:=o.who,inc:=o.inc,n:=o.n,kind:=o.kind,channel:=o.channel,aU:=o.aU,aY:=0,at_:=o.at_,now:=0,sub:=o.sub,w:=0,a:=0,av:=[],seen:=[],from_:=Ca,nC:=Ca }:=rfl;rw[e];clear e;have b0:=aD 43 1 true (by decide);have b1:=aD 43 2 true (by decide);have b2:=aD 43 4 false (by decide);have b3:=aD 43 8 true (by decide);have b4:=aD 43 16 false (by decide);have b5:=aD 43 32 true (by decide);have b6:=aD 43 64 false (by decide);have b7:=aD 43 128 false (by decide);have b8:=aD 43 256 false (by decide);have b9:=aD 43 512 false (by decide);refine bM iy ?_;repeat' ((conv=>whnf);first|with_reducible apply aG|((with_reducible apply fk)<;>intro hc<;>try exact aK)|(apply aH;refine⟨_,b0,?_⟩)|(apply aH;refine⟨_,b1,?_⟩)|(apply aH;refine⟨_,b2,?_⟩)|(apply aH;refine⟨_,b3,?_⟩)|(apply aH;refine⟨_,b4,?_⟩)|(apply aH;refine⟨_,b5,?_⟩)|(apply aH;refine⟨_,b6,?_⟩)|(apply aH;refine⟨_,b7,?_⟩)|(apply aH;refine⟨_,b8,?_⟩)|(apply aH;refine⟨_,b9,?_⟩)|refine aC ?_|fail)
 all_goals exact ay
theorem ZJ (o:bg):bC prog 40 [.agg o.c,ii 43] (.agg (gJ o (dZ 10)).c):=by
 refine PC.le ?_;have e:gJ o (dZ 10)={ who:=o.who,inc:=o.inc,n:=o.n,kind:=o.kind,channel:=o.channel,aU:=o.aU,aY:=0,at_:=o.at_,now:=0,sub:=o.sub,w:=0,a:=0,av:=[],seen:=[],from_:=Ca,nC:=Ca }:=rfl;rw[e];clear e;have b0:=aD 43 1 true (by decide);have b1:=aD 43 2 true (by decide);have b2:=aD 43 4 false (by decide);have b3:=aD 43 8 true (by decide);have b4:=aD 43 16 false (by decide);have b5:=aD 43 32 true (by decide);have b6:=aD 43 64 false (by decide);have b7:=aD 43 128 false (by decide);have b8:=aD 43 256 false (by decide);have b9:=aD 43 512 false (by decide);refine bM iy ?_;repeat' ((conv=>whnf);first|with_reducible apply aG|((with_reducible apply fk)<;>intro hc<;>try exact aK)|(apply aH;refine⟨_,b0,?_⟩)|(apply aH;refine⟨_,b1,?_⟩)|(apply aH;refine⟨_,b2,?_⟩)|(apply aH;refine⟨_,b3,?_⟩)|(apply aH;refine⟨_,b4,?_⟩)|(apply aH;refine⟨_,b5,?_⟩)|(apply aH;refine⟨_,b6,?_⟩)|(apply aH;refine⟨_,b7,?_⟩)|(apply aH;refine⟨_,b8,?_⟩)|(apply aH;refine⟨_,b9,?_⟩)|refine aC ?_|fail)
 all_goals exact ay
theorem ZK (o:bg):bC prog 40 [.agg o.c,ii 35] (.agg (gJ o (dZ 11)).c):=by
 refine PC.le ?_;have e:gJ o (dZ 11)={ who:=o.who,inc:=o.inc,n:=o.n,kind:=o.kind,channel:=o.channel,aU:=o.aU,aY:=0,at_:=0,now:=0,sub:=o.sub,w:=0,a:=0,av:=[],seen:=[],from_:=Ca,nC:=Ca }:=rfl;rw[e];clear e;have b0:=aD 35 1 true (by decide);have b1:=aD 35 2 true (by decide);have b2:=aD 35 4 false (by decide);have b3:=aD 35 8 false (by decide);have b4:=aD 35 16 false (by decide);have b5:=aD 35 32 true (by decide);have b6:=aD 35 64 false (by decide);have b7:=aD 35 128 false (by decide);have b8:=aD 35 256 false (by decide);have b9:=aD 35 512 false (by decide);refine bM iy ?_;repeat' ((conv=>whnf);first|with_reducible apply aG|((with_reducible apply fk)<;>intro hc<;>try exact aK)|(apply aH;refine⟨_,b0,?_⟩)|(apply aH;refine⟨_,b1,?_⟩)|(apply aH;refine⟨_,b2,?_⟩)|(apply aH;refine⟨_,b3,?_⟩)|(apply aH;refine⟨_,b4,?_⟩)|(apply aH;refine⟨_,b5,?_⟩)|(apply aH;refine⟨_,b6,?_⟩)|(apply aH;refine⟨_,b7,?_⟩)|(apply aH;refine⟨_,b8,?_⟩)|(apply aH;refine⟨_,b9,?_⟩)|refine aC ?_|fail)
 all_goals exact ay
theorem ZL (o:bg):bC prog 40 [.agg o.c,ii 516] (.agg (gJ o (dZ 12)).c):=by
 refine PC.le ?_;have e:gJ o (dZ 12)={ who:=o.who,inc:=o.inc,n:=o.n,kind:=o.kind,channel:=0,aU:=0,aY:=o.aY,at_:=0,now:=0,sub:=0,w:=0,a:=0,av:=[],seen:=[],from_:=o.from_,nC:=o.nC }:=rfl;rw[e];clear e;have b0:=aD 516 1 false (by decide);have b1:=aD 516 2 false (by decide);have b2:=aD 516 4 true (by decide);have b3:=aD 516 8 false (by decide);have b4:=aD 516 16 false (by decide);have b5:=aD 516 32 false (by decide);have b6:=aD 516 64 false (by decide);have b7:=aD 516 128 false (by decide);have b8:=aD 516 256 false (by decide);have b9:=aD 516 512 true (by decide);refine bM iy ?_;repeat' ((conv=>whnf);first|with_reducible apply aG|((with_reducible apply fk)<;>intro hc<;>try exact aK)|(apply aH;refine⟨_,b0,?_⟩)|(apply aH;refine⟨_,b1,?_⟩)|(apply aH;refine⟨_,b2,?_⟩)|(apply aH;refine⟨_,b3,?_⟩)|(apply aH;refine⟨_,b4,?_⟩)|(apply aH;refine⟨_,b5,?_⟩)|(apply aH;refine⟨_,b6,?_⟩)|(apply aH;refine⟨_,b7,?_⟩)|(apply aH;refine⟨_,b8,?_⟩)|(apply aH;refine⟨_,b9,?_⟩)|refine aC ?_|fail)
 all_goals exact ay
def akc:Tab:=pin tab
theorem Cv:bO prog akc:=VA Bg
def own (l:List (List PV)):List (Bool×List PV):=l.map fun r=>(true,r)
theorem Uc (l:List (List PV)):(own l).map (·.2)=l:=by
 induction l with
 |nil=>rfl
 |cons x l ih=>simp only[own,dR] at ih ⊢;rw[ih]
theorem Pb {α:Type}(f:α→List PV)(l:List α)(k:Nat)(h:k<l.length):own ((l.take (k+1)).map f)=own ((l.take k).map f)++[(true,f l[k])]:=by
 unfold own;rw[List.take_succ_eq_append_getElem h,List.map_append,List.map_append];rfl
theorem LP (f:Fr)(h:f.aN.length≤1000000):dU prog 102 ([]++([.pv (.agg f.c)]++[])) [] (.agg [.pv (uu f.first),.aB 1001 0]) [(1001,.arr 36 0 2 (f.aN.map Pl.c))]:=by
 refine jy yK ?_;repeat' ((conv=>whnf);first|with_reducible apply aG|((with_reducible apply fk)<;>intro hc<;>try exact aK)|(apply fB;refine⟨_,_,Ba _ (by omega),?_⟩)|refine aC ?_|fail)
 refine⟨_,_,⟨rfl,rfl⟩,?_⟩;all_goals exact ay
theorem VW (l:List Fr)(h:l.length≤1000000)(hb:∀x∈l,x.aN.length≤1000000):dU prog 101 [.pv (uR l),.pv (.fn (.func 102) [] [])] [] (.aB 1001 0)
  [(1001,.fP 80 0 2 1 36 2 (own (l.map Fr.c)) [] [])]:=by
 refine zU Cv (sZ mixed Cv) Gj rfl ?_;repeat' ((conv=>whnf);first|with_reducible apply aG|((with_reducible apply fk)<;>intro hc<;>try exact aK)|refine aC ?_|fail)
 refine⟨{k:Nat // k≤l.length},fun⟨k,_⟩=>⟨[(1,.pv (.fn (.func 102) [] [])),(5,.aB 1001 0),(8,.pv (uR l)),(9,.pv (ii l.length)),(10,.pv (ii k))],1000000000,[(1001,.fP 80 0 2 1 36 2 (own ((l.take k).map Fr.c)) [] [])]⟩,fun⟨k,_⟩=>l.length-k,⟨⟨0,by simp⟩,aj ?_⟩,?_⟩
 ·repeat' first|apply And.intro|exact ay|fail
  all_goals try (conv=>whnf)
  all_goals simp[own]
 rintro⟨k,hk⟩
 by_cases hlt:k<l.length
 ·have d0:decide ((k:Int)<(l.length:Int))=true:=by simp only[gQ];omega
  have eW:IntKind.i64.wrap ((k:Int)+1)=((k+1:Nat):Int):=by rw[aJ (by omega) (by omega)];omega
  repeat' ((conv=>whnf);first|with_reducible apply aG|((with_reducible apply fk)<;>intro hc<;>try exact aK)|((refine⟨_,dx _ _ _ hlt,?_⟩))|(apply fB;refine⟨_,_,LP _ (hb _ (List.getElem_mem hlt)),?_⟩)|(((with_reducible apply And.intro);focus (simp only[jS,uF,xA,List.length_take,own] at *;omega)))|refine aC ?_|fail)
  refine⟨⟨k+1,hlt⟩,dec_lt hlt,?_⟩;refine gY (rr:=l[k].aN.map Pl.c) (vd:=0) 1001 _ (Fr.c l[k]) rfl ?_ rfl rfl ?_
  ·exact rfl
  refine aj ?_;repeat' first|apply And.intro|exact ay|fail
  all_goals try (conv=>whnf)
  ·exact (Pb _ _ _ hlt).symm
  exact eW
 have hke:k=l.length:=by omega
 subst hke;have d0:decide ((l.length:Int)<(l.length:Int))=false:=by simp
 repeat' ((conv=>whnf);first|with_reducible apply aG|((with_reducible apply fk)<;>intro hc<;>try exact aK)|refine aC ?_|fail)
 refine⟨_,_,⟨rfl,rfl⟩,?_⟩;repeat' first|apply And.intro|exact ay|fail
 all_goals try (conv=>whnf)
 rw[List.take_length]
theorem Pd (l:Lg)(h:LgB l):dU prog 55 [.pv (.agg l.c)] [] (.agg [.pv (uu l.id),.pv (ii l.w),.pv (ii l.a),.aB 1001 0,.pv (ii l.closed),.pv (uu l.last)])
  [(1001,.fP 80 0 2 1 36 2 (own (l.av.map Fr.c)) [] [])]:=by
 refine jy Bf ?_;repeat' ((conv=>whnf);first|with_reducible apply aG|((with_reducible apply fk)<;>intro hc<;>try exact aK)|(apply fB;refine⟨_,_,VW l.av h.av h.aN,?_⟩)|refine aC ?_|fail)
 refine⟨_,_,⟨rfl,rfl⟩,?_⟩;all_goals exact ay
end Go.Proofs.YtiagceoepkaeoaaGreat.Tb
end
