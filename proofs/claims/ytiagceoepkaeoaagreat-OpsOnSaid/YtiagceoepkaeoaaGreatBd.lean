/-
  Contracts of functions of the program and of the document, each for every input that its premises name.
-/
import Derived.Test.YtiagceoepkaeoaaGreatBb
import Derived.Test.YtiagceoepkaeoaaGreatAf
import Derived.Test.YtiagceoepkaeoaaGreatBc
set_option linter.unusedSectionVars false
set_option linter.unusedVariables false
set_option linter.unusedSimpArgs false
set_option maxRecDepth 100000
set_option maxHeartbeats 4000000
section
open Go Go.Proofs.Tryz Go.AX Go.Sort
namespace Go.Proofs.YtiagceoepkaeoaaGreat.Tb
theorem ab2:Mg prog 147 f147:=bZ func147
theorem aeM (A:Array Int)(a b:Nat)(hab:a<b)(h8:8≤b-a)(hb:b≤A.size)(hs:A.size<4611686018427387904) :
  dR prog 147 [.aF 1 0,.pv (ii a),.pv (ii b)] [(1,.arr 23 0 1 (uA A))] (.pv (.dn [])) [(1,.arr 23 0 1 (uA (breakPatterns A a b)))]:=by
 obtain⟨X,hX⟩:∃X,breakPatterns A a b=X:=⟨_,rfl⟩;rw[hX];obtain⟨L,rfl⟩:∃L,b=a+L:=⟨b-a,by omega⟩;rw[show a+L-a=L from by omega] at h8;rw[Go.Proofs.breakPatterns_eq A a L h8] at hX;obtain⟨M,hM⟩:∃M:Nat,M=1 <<< bitsLen L:=⟨_,rfl⟩;have hM1:1≤M:=by rw[hM,Nat.one_shiftLeft];exact Nat.two_pow_pos _
 have hM2:M≤2*L:=by rw[hM,Nat.one_shiftLeft];exact two_pow_bitsLen_le (by omega)
 have cN:=aeL L (by omega);rw[←hM] at hX cN;clear hM;have w0:IntKind.i64.wrap (((a+L:Nat):Int)-(a:Int))=(L:Int):=by rw[aO (by omega) (by omega)];omega
 have wu:IntKind.u64.wrap (L:Int)=(L:Int):=vN (by omega) (by omega);have w1:IntKind.i64.wrap (Int.tdiv (L:Int) 4)=((L / 4:Nat):Int):=by rw[Int.tdiv_eq_ediv_of_nonneg (by omega),aO (by omega) (by omega)];rfl
 have w2:IntKind.i64.wrap (((L / 4:Nat):Int)*2)=((L / 4*2:Nat):Int):=by rw[aO (by omega) (by omega)];omega
 have w3:IntKind.i64.wrap ((a:Int)+((L / 4*2:Nat):Int))=((a+L / 4*2:Nat):Int):=by rw[aO (by omega) (by omega)];omega
 have w4:IntKind.i64.wrap (((a+L / 4*2:Nat):Int)-1)=((a+L / 4*2-1:Nat):Int):=by rw[aO (by omega) (by omega)];omega
 have w5:IntKind.i64.wrap (((a+L / 4*2:Nat):Int)+1)=((a+L / 4*2+1:Nat):Int):=by rw[aO (by omega) (by omega)];omega
 have d0:decide ((L:Int)≥8)=true:=by simp only[kC];omega
 refine jA ab2 ?_;repeat' ((conv=>whnf);first|with_reducible apply aK|((with_reducible apply fk)<;>intro hc<;>try exact aM)|rewrite[w0]|rewrite[wu]|rewrite[w1]|rewrite[w2]|rewrite[w3]|rewrite[w4]|(apply aC;(conv=>whnf);refine⟨_,cN,?_⟩)|((with_reducible apply And.intro);exact aG)|fail)
 refine⟨{p:Nat×UInt64×Array Int // p.2.2.size=A.size∧bpRest a L M (a+L / 4*2-1) (3-p.1) p.1 (p.2.1,p.2.2)=X∧p.1≤3},fun⟨(t,r,D),_⟩=>⟨[(0,.aF 1 0),(1,.pv (ii a)),(6,.pv (ii L)),(7,.ptr 1001 0),(8,.pv (uu M)),(9,.pv (ii ((a+L / 4*2-1+t:Nat):Int)))],1000000000,[(1,.arr 23 0 1 (uA D)),(1001,.var [.pv (uu r.toNat)])]⟩,fun⟨(t,_,_),_⟩=>3-t,⟨⟨(0,UInt64.ofNat L,A),rfl,hX,by omega⟩,ak ?_⟩,?_⟩
 ·repeat' first
   |fail
   |with_reducible exact True.intro
   |with_reducible exact rfl
   |with_reducible exact ah _
   |((conv=>whnf);with_reducible apply And.intro)
   |((conv=>whnf);with_reducible exact True.intro)
   |exact rfl
   |exact fun h=>h
   |exact ah _
  all_goals try (conv=>whnf)
  all_goals (rw[UInt64.toNat_ofNat_of_lt' (by show L<2 ^ 64;omega)])
 clear hX cN wu w0 w4;rintro⟨⟨t,r,D⟩,h1,h2,h3⟩
 simp only at h1 h2 h3;by_cases ht:t<3
 ·have d1:decide (((a+L / 4*2-1+t:Nat):Int)≤((a+L / 4*2+1:Nat):Int))=true:=by simp only[kC];omega
  obtain⟨o1,ho1⟩:∃o1:Nat,o1=(xorNext r).toNat &&& (M-1):=⟨_,rfl⟩;have ho2:o1≤M-1:=by rw[ho1];exact Nat.and_le_right
  have cX:=ab1 r.toNat r.toNat_lt;rw[←xorNext_toNat] at cX;have wm:IntKind.u64.wrap ((M:Int)-1)=((M-1:Nat):Int):=by rw[vN (by omega) (by omega)];omega
  have wa:IntKind.i64.wrap (IntKind.u64.wrap (((BitVec.ofInt IntKind.u64.bits ((xorNext r).toNat:Int) &&& BitVec.ofInt IntKind.u64.bits ((M-1:Nat):Int)).toNat:Nat):Int))=(o1:Int):=by
   have e:bits .and .u64 ((xorNext r).toNat:Int) ((M-1:Nat):Int)=(o1:Int):=by
    rw[bits_and_u64_nat _ _ (xorNext r).toNat_lt (by omega),ho1]
   exact (congrArg _ e).trans (aO (by omega) (by omega))
  have wt:IntKind.i64.wrap (((a+L / 4*2-1+t:Nat):Int)+1)=((a+L / 4*2-1+(t+1):Nat):Int):=by rw[aO (by omega) (by omega)];omega
  have hst:=fun o ho=>bp_step a L M (a+L / 4*2-1) t r D o ht ho
  rw[←ho1] at hst;by_cases hL:o1≥L
  ·have d2:decide ((o1:Int)≥(L:Int))=true:=by simp only[kC];omega
   have wo:IntKind.i64.wrap ((o1:Int)-(L:Int))=((o1-L:Nat):Int):=by rw[aO (by omega) (by omega)];omega
   have wp:IntKind.i64.wrap ((a:Int)+((o1-L:Nat):Int))=((a+(o1-L):Nat):Int):=by rw[aO (by omega) (by omega)];omega
   rw[hst _ (if_pos hL)] at h2;clear hst ho1;repeat' ((conv=>whnf);first|with_reducible apply aK|((with_reducible apply fk)<;>intro hc<;>try exact iK)|rewrite[w1]|rewrite[w2]|rewrite[w3]|rewrite[w5]|rewrite[wm]|rewrite[wa]|rewrite[wo]|rewrite[wp]|rewrite[wt]|(apply fq;(conv=>whnf);refine⟨_,_,cB (cX) ?_,?_⟩;exact qi)|(rewrite[dz])|(refine⟨_,dx _ _ (by first|omega|exact gq),?_⟩)|((with_reducible apply And.intro);exact gq)|(apply aC;(conv=>whnf);refine⟨_,bJ _ _,?_⟩)|((with_reducible apply And.intro);exact aG)|fail)
   refine⟨⟨(t+1,xorNext r,swp D (a+L / 4*2-1+t) (a+(o1-L))),by rw[size_swp];exact h1,h2,by omega⟩,(by show 3-(t+1)<3-t;omega),ak ?_⟩;all_goals exact aL
  have d2:decide ((o1:Int)≥(L:Int))=false:=by simp only[tq];omega
  have wp:IntKind.i64.wrap ((a:Int)+((o1:Nat):Int))=((a+o1:Nat):Int):=by rw[aO (by omega) (by omega)];omega
  rw[hst _ (if_neg hL)] at h2;clear hst ho1;repeat' ((conv=>whnf);first|with_reducible apply aK|((with_reducible apply fk)<;>intro hc<;>try exact iK)|rewrite[w1]|rewrite[w2]|rewrite[w3]|rewrite[w5]|rewrite[wm]|rewrite[wa]|rewrite[wp]|rewrite[wt]|(apply fq;(conv=>whnf);refine⟨_,_,cB (cX) ?_,?_⟩;exact qi)|(rewrite[dz])|(refine⟨_,dx _ _ (by first|omega|exact gq),?_⟩)|((with_reducible apply And.intro);exact gq)|(apply aC;(conv=>whnf);refine⟨_,bJ _ _,?_⟩)|((with_reducible apply And.intro);exact aG)|fail)
  refine⟨⟨(t+1,xorNext r,swp D (a+L / 4*2-1+t) (a+o1)),by rw[size_swp];exact h1,h2,by omega⟩,(by show 3-(t+1)<3-t;omega),ak ?_⟩;all_goals exact aL
 have d1:decide (((a+L / 4*2-1+t:Nat):Int)≤((a+L / 4*2+1:Nat):Int))=false:=by simp only[tq];omega
 obtain rfl:t=3:=by omega
 rw[show 3-3=0 from rfl,bpRest] at h2;simp only at h2;subst h2;repeat' ((conv=>whnf);first|with_reducible apply aK|((with_reducible apply fk)<;>intro hc<;>try exact aM)|rewrite[w1]|rewrite[w2]|rewrite[w3]|rewrite[w5]|((with_reducible apply And.intro);exact aG)|fail)
 refine⟨_,_,⟨rfl,rfl⟩,?_⟩;all_goals exact aL
theorem Zy:Mg prog 153 f153:=bZ func153
theorem ab3 (A:Array Int)(a b pivot:Nat)(h1:a≤pivot)(h2:pivot<b)(hb:b≤A.size)(hs:A.size<4611686018427387904)(p:Nat)(q:Bool)(E:Array Int)(e:partition ltInt A a b pivot=(p,q,E)) :
  dR prog 153 [.aF 1 0,.pv (ii a),.pv (ii b),.pv (ii pivot)] [(1,.arr 23 0 1 (uA A))] (.pv (.dn [ii p,bl q])) [(1,.arr 23 0 1 (uA E))]:=by
 unfold partition at e;have e0:IntKind.i64.wrap ((a:Int)+1)=((a+1:Nat):Int):=by rw[aO (by omega) (by omega)];omega
 have e1:IntKind.i64.wrap ((b:Int)-1)=((b-1:Nat):Int):=by rw[aO (by omega) (by omega)];omega
 obtain⟨D,hD⟩:∃D,swp A a pivot=D:=⟨_,rfl⟩;have hDs:D.size=A.size:=by rw[←hD,size_swp]
 rw[hD] at e;simp only at e;refine jA Zy ?_;repeat' ((conv=>whnf);first|with_reducible apply uQ|with_reducible apply GL|with_reducible apply GN|((with_reducible apply fk)<;>intro hc<;>try exact iK)|rewrite[e0]|rewrite[e1]|(rewrite[dz])|(refine⟨_,dx _ _ (by first|omega|exact gq),?_⟩)|((with_reducible apply And.intro);exact gq)|(apply aC;(conv=>whnf);refine⟨_,bJ _ _,?_⟩)|((with_reducible apply And.intro);exact aG)|fail)
 obtain⟨I,hI⟩:∃x,scanUp (fun x=>ltInt x D[a]!) D (b-1) (a+1)=x:=⟨_,rfl⟩;have hIa:(a+1)≤I:=by rw[←hI];exact scanUp_ge _ _ _ _
 have hIb:I≤(b-1)+2:=by rw[←hI];exact nC _ _ _ _ _ (Nat.le_refl _) (by omega)
 refine Or.inr ⟨Unit,fun _=>⟨[(0,.aF 1 0),(1,.pv (ii a)),(10,.pv (ii I)),(11,.pv (ii ((b-1:Nat):Int)))],1000000000,[(1,.arr 23 0 1 (uA D))]⟩,?_,fun _=>?_⟩
 ·repeat' ((conv=>whnf)
           first
           |with_reducible apply uQ
           |with_reducible apply GL
           |with_reducible apply GN
           |((with_reducible apply fk)<;>intro hc<;>try exact aM)
           |((with_reducible apply And.intro);exact aG)|fail)
  refine⟨{x:Nat // scanUp (fun x=>ltInt x D[a]!) D (b-1) x=I∧a<x∧x≤(b-1)+2},fun⟨x,_⟩=>⟨[(0,.aF 1 0),(1,.pv (ii a)),(10,.pv (ii x)),(11,.pv (ii ((b-1:Nat):Int)))],1000000000,[(1,.arr 23 0 1 (uA D))]⟩,fun⟨x,_⟩=>(b-1)+2-x,⟨⟨(a+1),hI,by omega,by omega⟩,ak ?_⟩,?_⟩
  ·repeat' first
    |fail
    |with_reducible exact True.intro
    |with_reducible exact rfl
    |with_reducible exact ah _
    |((conv=>whnf);with_reducible apply And.intro)
    |((conv=>whnf);with_reducible exact True.intro)
    |exact rfl
    |exact fun h=>h
    |exact ah _
   all_goals try (conv=>whnf)
   all_goals first|omega|(refine iG ?_;exact congrArg uA hD)
  rintro⟨x,g1,g2,g3⟩
  have wx:IntKind.i64.wrap ((x:Int)+1)=((x+1:Nat):Int):=by rw[aO (by omega) (by omega)];omega
  by_cases hx:x≤(b-1)
  ·have d0:decide ((x:Int)≤((b-1:Nat):Int))=true:=by simp only[kC];omega
   cases hl:decide (D[x]! < D[a]!) with
   | true=>
     rw[qU hx (by simp[Aq,hl])] at g1;repeat' ((conv=>whnf);first|with_reducible apply aK|((with_reducible apply fk)<;>intro hc<;>try exact iK)|rewrite[wx]|(rewrite[dz])|(refine⟨_,dx _ _ (by first|omega|exact gq),?_⟩)|((with_reducible apply And.intro);exact gq)|(apply aC;(conv=>whnf);refine⟨_,bJ _ _,?_⟩)|((with_reducible apply And.intro);exact aG)|fail)
     refine⟨⟨x+1,g1,by omega,by omega⟩,(by show (b-1)+2-(x+1)<(b-1)+2-x;omega),ak ?_⟩;all_goals exact aL
   | false=>
     rw[jq (.inr (by simp[Aq,hl]))] at g1;subst g1;repeat' ((conv=>whnf);first|with_reducible apply aK|((with_reducible apply fk)<;>intro hc<;>try exact iK)|(rewrite[dz])|(refine⟨_,dx _ _ (by first|omega|exact gq),?_⟩)|((with_reducible apply And.intro);exact gq)|(apply aC;(conv=>whnf);refine⟨_,bJ _ _,?_⟩)|((with_reducible apply And.intro);exact aG)|fail)
     refine⟨(),ak ?_⟩;all_goals exact aL
  ·have d0:decide ((x:Int)≤((b-1:Nat):Int))=false:=by simp only[tq];omega
   rw[jq (.inl hx)] at g1;subst g1;repeat' ((conv=>whnf);first|with_reducible apply aK|((with_reducible apply fk)<;>intro hc<;>try exact iK)|(rewrite[dz])|(refine⟨_,dx _ _ (by first|omega|exact gq),?_⟩)|((with_reducible apply And.intro);exact gq)|(apply aC;(conv=>whnf);refine⟨_,bJ _ _,?_⟩)|((with_reducible apply And.intro);exact aG)|fail)
   refine⟨(),ak ?_⟩;all_goals exact aL
 rw[hI] at e;obtain⟨J,hJ⟩:∃x,scanDown (fun x=>!ltInt x D[a]!) D I (b-1)=x:=⟨_,rfl⟩;have hJa:J≤(b-1):=by rw[←hJ];exact scanDown_le _ _ _ _
 have hJb:a≤J:=by rw[←hJ];exact kT _ _ _ _ (by omega) _ (by omega)
 refine Or.inr ⟨Unit,fun _=>⟨[(0,.aF 1 0),(1,.pv (ii a)),(10,.pv (ii I)),(11,.pv (ii J))],1000000000,[(1,.arr 23 0 1 (uA D))]⟩,?_,fun _=>?_⟩
 ·repeat' ((conv=>whnf)
           first
           |with_reducible apply uQ
           |with_reducible apply GL
           |with_reducible apply GN
           |((with_reducible apply fk)<;>intro hc<;>try exact aM)
           |((with_reducible apply And.intro);exact aG)|fail)
  refine⟨{x:Nat // scanDown (fun x=>!ltInt x D[a]!) D I x=J∧a≤x∧x<D.size},fun⟨x,_⟩=>⟨[(0,.aF 1 0),(1,.pv (ii a)),(10,.pv (ii I)),(11,.pv (ii x))],1000000000,[(1,.arr 23 0 1 (uA D))]⟩,fun⟨x,_⟩=>x,⟨⟨(b-1),hJ,by omega,by omega⟩,ak ?_⟩,?_⟩
  ·repeat' first
    |fail
    |with_reducible exact True.intro
    |with_reducible exact rfl
    |with_reducible exact ah _
    |((conv=>whnf);with_reducible apply And.intro)
    |((conv=>whnf);with_reducible exact True.intro)
    |exact rfl
    |exact fun h=>h
    |exact ah _
   all_goals try (conv=>whnf)
  rintro⟨x,g1,g2,g3⟩
  by_cases hx:I≤x
  ·obtain⟨y,rfl⟩:∃y,x=y+1:=⟨x-1,by omega⟩;have wy:IntKind.i64.wrap (((y+1:Nat):Int)-1)=(y:Int):=by rw[aO (by omega) (by omega)];omega
   have d0:decide ((I:Int)≤((y+1:Nat):Int))=true:=by simp only[kC];omega
   cases hl:decide (D[y+1]! < D[a]!) with
   | false=>
     rw[nW hx (by simp[Aq,hl])] at g1;repeat' ((conv=>whnf);first|with_reducible apply aK|((with_reducible apply fk)<;>intro hc<;>try exact iK)|rewrite[wy]|(rewrite[dz])|(refine⟨_,dx _ _ (by first|omega|exact gq),?_⟩)|((with_reducible apply And.intro);exact gq)|(apply aC;(conv=>whnf);refine⟨_,bJ _ _,?_⟩)|((with_reducible apply And.intro);exact aG)|fail)
     refine⟨⟨y,g1,by omega,by omega⟩,Nat.lt_succ_self _,ak ?_⟩;all_goals exact aL
   | true=>
     rw[ic (.inr (by simp[Aq,hl]))] at g1;subst g1;repeat' ((conv=>whnf);first|with_reducible apply aK|((with_reducible apply fk)<;>intro hc<;>try exact iK)|(rewrite[dz])|(refine⟨_,dx _ _ (by first|omega|exact gq),?_⟩)|((with_reducible apply And.intro);exact gq)|(apply aC;(conv=>whnf);refine⟨_,bJ _ _,?_⟩)|((with_reducible apply And.intro);exact aG)|fail)
     refine⟨(),ak ?_⟩;all_goals exact aL
  ·have d0:decide ((I:Int)≤(x:Int))=false:=by simp only[tq];omega
   rw[ic (.inl hx)] at g1;subst g1;repeat' ((conv=>whnf);first|with_reducible apply aK|((with_reducible apply fk)<;>intro hc<;>try exact iK)|(rewrite[dz])|(refine⟨_,dx _ _ (by first|omega|exact gq),?_⟩)|((with_reducible apply And.intro);exact gq)|(apply aC;(conv=>whnf);refine⟨_,bJ _ _,?_⟩)|((with_reducible apply And.intro);exact aG)|fail)
   refine⟨(),ak ?_⟩;all_goals exact aL
 rw[hJ] at e;clear hI hJ e0 e1;by_cases hIJ:I>J
 ·have d0:decide ((I:Int)>(J:Int))=true:=by simp only[kC];omega
  rw[if_pos hIJ] at e;simp only[Prod.mk.injEq] at e;obtain⟨rfl,rfl,rfl⟩:=e;repeat' ((conv=>whnf);first|with_reducible apply aK|((with_reducible apply fk)<;>intro hc<;>try exact iK)|(rewrite[dz])|(refine⟨_,dx _ _ (by first|omega|exact gq),?_⟩)|((with_reducible apply And.intro);exact gq)|(apply aC;(conv=>whnf);refine⟨_,bJ _ _,?_⟩)|((with_reducible apply And.intro);exact aG)|fail)
  refine⟨_,_,⟨rfl,rfl⟩,?_⟩;all_goals exact aL
 have d0:decide ((I:Int)>(J:Int))=false:=by simp only[tq];omega
 rw[if_neg hIJ] at e;have wI:IntKind.i64.wrap ((I:Int)+1)=((I+1:Nat):Int):=by rw[aO (by omega) (by omega)];omega
 have wJ:IntKind.i64.wrap ((J:Int)-1)=((J-1:Nat):Int):=by rw[aO (by omega) (by omega)];omega
 obtain⟨⟨p',E'⟩,hr⟩:∃x,partLoop ltInt a (I+1) (J-1) (swp D I J)=x:=⟨_,rfl⟩;simp only[hr,Prod.mk.injEq] at e;obtain⟨rfl,rfl,rfl⟩:=e;repeat' ((conv=>whnf);first|with_reducible apply uQ|with_reducible apply GL|with_reducible apply GN|((with_reducible apply fk)<;>intro hc<;>try exact iK)|rewrite[wI]|rewrite[wJ]|(rewrite[dz])|(refine⟨_,dx _ _ (by first|omega|exact gq),?_⟩)|((with_reducible apply And.intro);exact gq)|(apply aC;(conv=>whnf);refine⟨_,bJ _ _,?_⟩)|((with_reducible apply And.intro);exact aG)|fail)
 refine Or.inl ?_;repeat' ((conv=>whnf);first|with_reducible apply uQ|with_reducible apply GL|with_reducible apply GN|((with_reducible apply fk)<;>intro hc<;>try exact aM)|((with_reducible apply And.intro);exact aG)|fail)
 refine⟨{x:Nat×Nat×Array Int // x.2.2.size=A.size∧partLoop ltInt a x.1 x.2.1 x.2.2=(p',E')∧a<x.1∧a≤x.2.1∧x.1≤x.2.1+2∧x.2.1<b},fun⟨(i,j,F),_⟩=>⟨[(0,.aF 1 0),(1,.pv (ii a)),(10,.pv (ii i)),(11,.pv (ii j))],1000000000,[(1,.arr 23 0 1 (uA F))]⟩,fun⟨(i,j,_),_⟩=>j+1-i+(if i≤j then 1 else 0),⟨⟨(I+1,J-1,swp D I J),by rw[size_swp];exact hDs,hr,by show a<I+1;omega,by show a≤J-1;omega,by show I+1≤J-1+2;omega,by show J-1<b;omega⟩,ak ?_⟩,?_⟩
 ·repeat' first
   |fail
   |with_reducible exact True.intro
   |with_reducible exact rfl
   |with_reducible exact ah _
   |((conv=>whnf);with_reducible apply And.intro)
   |((conv=>whnf);with_reducible exact True.intro)
   |exact rfl
   |exact fun h=>h
   |exact ah _
  all_goals try (conv=>whnf)
 clear hr wI wJ d0 hIJ hDs hD;rintro⟨⟨i,j,F⟩,q1,q2,q3,q4,q5,q6⟩
 simp only at q1 q2 q3 q4 q5 q6;rw[partLoop_eq] at q2;clear hIa hIb hJa hJb;repeat' ((conv=>whnf);first|with_reducible apply uQ|with_reducible apply GL|with_reducible apply GN|((with_reducible apply fk)<;>intro hc<;>try exact aM)|((with_reducible apply And.intro);exact aG)|fail)
 obtain⟨K,hK⟩:∃x,scanUp (fun x=>ltInt x F[a]!) F j i=x:=⟨_,rfl⟩;have hKa:i≤K:=by rw[←hK];exact scanUp_ge _ _ _ _
 have hKb:K≤j+2:=by rw[←hK];exact nC _ _ _ _ _ (Nat.le_refl _) (by omega)
 refine Or.inr ⟨Unit,fun _=>⟨[(0,.aF 1 0),(1,.pv (ii a)),(10,.pv (ii K)),(11,.pv (ii j))],1000000000,[(1,.arr 23 0 1 (uA F))]⟩,?_,fun _=>?_⟩
 ·repeat' ((conv=>whnf)
           first
           |with_reducible apply uQ
           |with_reducible apply GL
           |with_reducible apply GN
           |((with_reducible apply fk)<;>intro hc<;>try exact aM)
           |((with_reducible apply And.intro);exact aG)|fail)
  refine⟨{x:Nat // scanUp (fun x=>ltInt x F[a]!) F j x=K∧a<x∧x≤j+2},fun⟨x,_⟩=>⟨[(0,.aF 1 0),(1,.pv (ii a)),(10,.pv (ii x)),(11,.pv (ii j))],1000000000,[(1,.arr 23 0 1 (uA F))]⟩,fun⟨x,_⟩=>j+2-x,⟨⟨i,hK,by omega,by omega⟩,ak ?_⟩,?_⟩
  ·repeat' first
    |fail
    |with_reducible exact True.intro
    |with_reducible exact rfl
    |with_reducible exact ah _
    |((conv=>whnf);with_reducible apply And.intro)
    |((conv=>whnf);with_reducible exact True.intro)
    |exact rfl
    |exact fun h=>h
    |exact ah _
   all_goals try (conv=>whnf)
   all_goals first|omega|(refine iG ?_;exact congrArg uA hD)
  rintro⟨x,g1,g2,g3⟩
  have wx:IntKind.i64.wrap ((x:Int)+1)=((x+1:Nat):Int):=by rw[aO (by omega) (by omega)];omega
  by_cases hx:x≤j
  ·have d0:decide ((x:Int)≤(j:Int))=true:=by simp only[kC];omega
   cases hl:decide (F[x]! < F[a]!) with
   | true=>
     rw[qU hx (by simp[Aq,hl])] at g1;repeat' ((conv=>whnf);first|with_reducible apply aK|((with_reducible apply fk)<;>intro hc<;>try exact iK)|rewrite[wx]|(rewrite[dz])|(refine⟨_,dx _ _ (by first|omega|exact gq),?_⟩)|((with_reducible apply And.intro);exact gq)|(apply aC;(conv=>whnf);refine⟨_,bJ _ _,?_⟩)|((with_reducible apply And.intro);exact aG)|fail)
     refine⟨⟨x+1,g1,by omega,by omega⟩,(by show j+2-(x+1)<j+2-x;omega),ak ?_⟩;all_goals exact aL
   | false=>
     rw[jq (.inr (by simp[Aq,hl]))] at g1;subst g1;repeat' ((conv=>whnf);first|with_reducible apply aK|((with_reducible apply fk)<;>intro hc<;>try exact iK)|(rewrite[dz])|(refine⟨_,dx _ _ (by first|omega|exact gq),?_⟩)|((with_reducible apply And.intro);exact gq)|(apply aC;(conv=>whnf);refine⟨_,bJ _ _,?_⟩)|((with_reducible apply And.intro);exact aG)|fail)
     refine⟨(),ak ?_⟩;all_goals exact aL
  ·have d0:decide ((x:Int)≤(j:Int))=false:=by simp only[tq];omega
   rw[jq (.inl hx)] at g1;subst g1;repeat' ((conv=>whnf);first|with_reducible apply aK|((with_reducible apply fk)<;>intro hc<;>try exact iK)|(rewrite[dz])|(refine⟨_,dx _ _ (by first|omega|exact gq),?_⟩)|((with_reducible apply And.intro);exact gq)|(apply aC;(conv=>whnf);refine⟨_,bJ _ _,?_⟩)|((with_reducible apply And.intro);exact aG)|fail)
   refine⟨(),ak ?_⟩;all_goals exact aL
 rw[hK] at q2;obtain⟨L,hL⟩:∃x,scanDown (fun x=>!ltInt x F[a]!) F K j=x:=⟨_,rfl⟩;have hLa:L≤j:=by rw[←hL];exact scanDown_le _ _ _ _
 have hLb:a≤L:=by rw[←hL];exact kT _ _ _ _ (by omega) _ (by omega)
 refine Or.inr ⟨Unit,fun _=>⟨[(0,.aF 1 0),(1,.pv (ii a)),(10,.pv (ii K)),(11,.pv (ii L))],1000000000,[(1,.arr 23 0 1 (uA F))]⟩,?_,fun _=>?_⟩
 ·repeat' ((conv=>whnf)
           first
           |with_reducible apply uQ
           |with_reducible apply GL
           |with_reducible apply GN
           |((with_reducible apply fk)<;>intro hc<;>try exact aM)
           |((with_reducible apply And.intro);exact aG)|fail)
  refine⟨{x:Nat // scanDown (fun x=>!ltInt x F[a]!) F K x=L∧a≤x∧x<F.size},fun⟨x,_⟩=>⟨[(0,.aF 1 0),(1,.pv (ii a)),(10,.pv (ii K)),(11,.pv (ii x))],1000000000,[(1,.arr 23 0 1 (uA F))]⟩,fun⟨x,_⟩=>x,⟨⟨j,hL,by omega,by omega⟩,ak ?_⟩,?_⟩
  ·repeat' first
    |fail
    |with_reducible exact True.intro
    |with_reducible exact rfl
    |with_reducible exact ah _
    |((conv=>whnf);with_reducible apply And.intro)
    |((conv=>whnf);with_reducible exact True.intro)
    |exact rfl
    |exact fun h=>h
    |exact ah _
   all_goals try (conv=>whnf)
  rintro⟨x,g1,g2,g3⟩
  by_cases hx:K≤x
  ·obtain⟨y,rfl⟩:∃y,x=y+1:=⟨x-1,by omega⟩;have wy:IntKind.i64.wrap (((y+1:Nat):Int)-1)=(y:Int):=by rw[aO (by omega) (by omega)];omega
   have d0:decide ((K:Int)≤((y+1:Nat):Int))=true:=by simp only[kC];omega
   cases hl:decide (F[y+1]! < F[a]!) with
   | false=>
     rw[nW hx (by simp[Aq,hl])] at g1;repeat' ((conv=>whnf);first|with_reducible apply aK|((with_reducible apply fk)<;>intro hc<;>try exact iK)|rewrite[wy]|(rewrite[dz])|(refine⟨_,dx _ _ (by first|omega|exact gq),?_⟩)|((with_reducible apply And.intro);exact gq)|(apply aC;(conv=>whnf);refine⟨_,bJ _ _,?_⟩)|((with_reducible apply And.intro);exact aG)|fail)
     refine⟨⟨y,g1,by omega,by omega⟩,Nat.lt_succ_self _,ak ?_⟩;all_goals exact aL
   | true=>
     rw[ic (.inr (by simp[Aq,hl]))] at g1;subst g1;repeat' ((conv=>whnf);first|with_reducible apply aK|((with_reducible apply fk)<;>intro hc<;>try exact iK)|(rewrite[dz])|(refine⟨_,dx _ _ (by first|omega|exact gq),?_⟩)|((with_reducible apply And.intro);exact gq)|(apply aC;(conv=>whnf);refine⟨_,bJ _ _,?_⟩)|((with_reducible apply And.intro);exact aG)|fail)
     refine⟨(),ak ?_⟩;all_goals exact aL
  ·have d0:decide ((K:Int)≤(x:Int))=false:=by simp only[tq];omega
   rw[ic (.inl hx)] at g1;subst g1;repeat' ((conv=>whnf);first|with_reducible apply aK|((with_reducible apply fk)<;>intro hc<;>try exact iK)|(rewrite[dz])|(refine⟨_,dx _ _ (by first|omega|exact gq),?_⟩)|((with_reducible apply And.intro);exact gq)|(apply aC;(conv=>whnf);refine⟨_,bJ _ _,?_⟩)|((with_reducible apply And.intro);exact aG)|fail)
   refine⟨(),ak ?_⟩;all_goals exact aL
 rw[hL] at q2;by_cases hKL:K>L
 ·have d0:decide ((K:Int)>(L:Int))=true:=by simp only[kC];omega
  rw[if_pos hKL] at q2;simp only[Prod.mk.injEq] at q2;obtain⟨rfl,rfl⟩:=q2;repeat' ((conv=>whnf);first|with_reducible apply aK|((with_reducible apply fk)<;>intro hc<;>try exact iK)|(rewrite[dz])|(refine⟨_,dx _ _ (by first|omega|exact gq),?_⟩)|((with_reducible apply And.intro);exact gq)|(apply aC;(conv=>whnf);refine⟨_,bJ _ _,?_⟩)|((with_reducible apply And.intro);exact aG)|fail)
  refine⟨_,_,⟨rfl,rfl⟩,?_⟩;all_goals exact aL
 have d0:decide ((K:Int)>(L:Int))=false:=by simp only[tq];omega
 rw[if_neg hKL] at q2;have wI:IntKind.i64.wrap ((K:Int)+1)=((K+1:Nat):Int):=by rw[aO (by omega) (by omega)];omega
 have wJ:IntKind.i64.wrap ((L:Int)-1)=((L-1:Nat):Int):=by rw[aO (by omega) (by omega)];omega
 repeat' ((conv=>whnf);first|with_reducible apply aK|((with_reducible apply fk)<;>intro hc<;>try exact iK)|rewrite[wI]|rewrite[wJ]|(rewrite[dz])|(refine⟨_,dx _ _ (by first|omega|exact gq),?_⟩)|((with_reducible apply And.intro);exact gq)|(apply aC;(conv=>whnf);refine⟨_,bJ _ _,?_⟩)|((with_reducible apply And.intro);exact aG)|fail)
 refine⟨⟨(K+1,L-1,swp F K L),by rw[size_swp];exact q1,q2,by show a<K+1;omega,by show a≤L-1;omega,by show K+1≤L-1+2;omega,by show L-1<b;omega⟩,(by show (L-1)+1-(K+1)+(if K+1≤L-1 then 1 else 0)<j+1-i+(if i≤j then 1 else 0);split<;>split<;>omega),ak ?_⟩;all_goals exact aL
theorem ab4:Mg prog 152 f152:=bZ func152
theorem aeN (A:Array Int)(a b pivot:Nat)(h1:a≤pivot)(h2:pivot<b)(hb:b≤A.size)(hs:A.size<4611686018427387904)(p:Nat)(E:Array Int)(e:partitionEqual ltInt A a b pivot=(p,E)) :
  dR prog 152 [.aF 1 0,.pv (ii a),.pv (ii b),.pv (ii pivot)] [(1,.arr 23 0 1 (uA A))] (.pv (ii p)) [(1,.arr 23 0 1 (uA E))]:=by
 unfold partitionEqual at e;have e0:IntKind.i64.wrap ((a:Int)+1)=((a+1:Nat):Int):=by rw[aO (by omega) (by omega)];omega
 have e1:IntKind.i64.wrap ((b:Int)-1)=((b-1:Nat):Int):=by rw[aO (by omega) (by omega)];omega
 refine jA ab4 ?_;repeat' ((conv=>whnf);first|with_reducible apply aK|((with_reducible apply fk)<;>intro hc<;>try exact iK)|rewrite[e0]|rewrite[e1]|(rewrite[dz])|(refine⟨_,dx _ _ (by first|omega|exact gq),?_⟩)|((with_reducible apply And.intro);exact gq)|(apply aC;(conv=>whnf);refine⟨_,bJ _ _,?_⟩)|((with_reducible apply And.intro);exact aG)|fail)
 refine⟨{x:Nat×Nat×Array Int // x.2.2.size=A.size∧partEqLoop ltInt a x.1 x.2.1 x.2.2=(p,E)∧a<x.1∧a≤x.2.1∧x.1≤x.2.1+2∧x.2.1<b},fun⟨(i,j,F),_⟩=>⟨[(0,.aF 1 0),(1,.pv (ii a)),(9,.pv (ii i)),(10,.pv (ii j))],1000000000,[(1,.arr 23 0 1 (uA F))]⟩,fun⟨(i,j,_),_⟩=>j+1-i+(if i≤j then 1 else 0),⟨⟨(a+1,b-1,swp A a pivot),by rw[size_swp],e,by show a<a+1;omega,by show a≤b-1;omega,by show a+1≤b-1+2;omega,by show b-1<b;omega⟩,ak ?_⟩,?_⟩
 ·repeat' first
   |fail
   |with_reducible exact True.intro
   |with_reducible exact rfl
   |with_reducible exact ah _
   |((conv=>whnf);with_reducible apply And.intro)
   |((conv=>whnf);with_reducible exact True.intro)
   |exact rfl
   |exact fun h=>h
   |exact ah _
  all_goals try (conv=>whnf)
 clear e e0 e1;rintro⟨⟨i,j,F⟩,q1,q2,q3,q4,q5,q6⟩
 simp only at q1 q2 q3 q4 q5 q6;rw[partEqLoop_eq] at q2;repeat' ((conv=>whnf);first|with_reducible apply uQ|with_reducible apply GL|with_reducible apply GN|((with_reducible apply fk)<;>intro hc<;>try exact aM)|((with_reducible apply And.intro);exact aG)|fail)
 obtain⟨K,hK⟩:∃x,scanUp (fun x=>!ltInt F[a]! x) F j i=x:=⟨_,rfl⟩;have hKa:i≤K:=by rw[←hK];exact scanUp_ge _ _ _ _
 have hKb:K≤j+2:=by rw[←hK];exact nC _ _ _ _ _ (Nat.le_refl _) (by omega)
 refine Or.inr ⟨Unit,fun _=>⟨[(0,.aF 1 0),(1,.pv (ii a)),(9,.pv (ii K)),(10,.pv (ii j))],1000000000,[(1,.arr 23 0 1 (uA F))]⟩,?_,fun _=>?_⟩
 ·repeat' ((conv=>whnf)
           first
           |with_reducible apply uQ
           |with_reducible apply GL
           |with_reducible apply GN
           |((with_reducible apply fk)<;>intro hc<;>try exact aM)
           |((with_reducible apply And.intro);exact aG)|fail)
  refine⟨{x:Nat // scanUp (fun x=>!ltInt F[a]! x) F j x=K∧a<x∧x≤j+2},fun⟨x,_⟩=>⟨[(0,.aF 1 0),(1,.pv (ii a)),(9,.pv (ii x)),(10,.pv (ii j))],1000000000,[(1,.arr 23 0 1 (uA F))]⟩,fun⟨x,_⟩=>j+2-x,⟨⟨i,hK,by omega,by omega⟩,ak ?_⟩,?_⟩
  ·repeat' first
    |fail
    |with_reducible exact True.intro
    |with_reducible exact rfl
    |with_reducible exact ah _
    |((conv=>whnf);with_reducible apply And.intro)
    |((conv=>whnf);with_reducible exact True.intro)
    |exact rfl
    |exact fun h=>h
    |exact ah _
   all_goals try (conv=>whnf)
   all_goals first|omega|(refine iG ?_;exact congrArg uA hD)
  rintro⟨x,g1,g2,g3⟩
  have wx:IntKind.i64.wrap ((x:Int)+1)=((x+1:Nat):Int):=by rw[aO (by omega) (by omega)];omega
  by_cases hx:x≤j
  ·have d0:decide ((x:Int)≤(j:Int))=true:=by simp only[kC];omega
   cases hl:decide (F[a]! < F[x]!) with
   | false=>
     rw[qU hx (by simp[Aq,hl])] at g1;repeat' ((conv=>whnf);first|with_reducible apply aK|((with_reducible apply fk)<;>intro hc<;>try exact iK)|rewrite[wx]|(rewrite[dz])|(refine⟨_,dx _ _ (by first|omega|exact gq),?_⟩)|((with_reducible apply And.intro);exact gq)|(apply aC;(conv=>whnf);refine⟨_,bJ _ _,?_⟩)|((with_reducible apply And.intro);exact aG)|fail)
     refine⟨⟨x+1,g1,by omega,by omega⟩,(by show j+2-(x+1)<j+2-x;omega),ak ?_⟩;all_goals exact aL
   | true=>
     rw[jq (.inr (by simp[Aq,hl]))] at g1;subst g1;repeat' ((conv=>whnf);first|with_reducible apply aK|((with_reducible apply fk)<;>intro hc<;>try exact iK)|(rewrite[dz])|(refine⟨_,dx _ _ (by first|omega|exact gq),?_⟩)|((with_reducible apply And.intro);exact gq)|(apply aC;(conv=>whnf);refine⟨_,bJ _ _,?_⟩)|((with_reducible apply And.intro);exact aG)|fail)
     refine⟨(),ak ?_⟩;all_goals exact aL
  ·have d0:decide ((x:Int)≤(j:Int))=false:=by simp only[tq];omega
   rw[jq (.inl hx)] at g1;subst g1;repeat' ((conv=>whnf);first|with_reducible apply aK|((with_reducible apply fk)<;>intro hc<;>try exact iK)|(rewrite[dz])|(refine⟨_,dx _ _ (by first|omega|exact gq),?_⟩)|((with_reducible apply And.intro);exact gq)|(apply aC;(conv=>whnf);refine⟨_,bJ _ _,?_⟩)|((with_reducible apply And.intro);exact aG)|fail)
   refine⟨(),ak ?_⟩;all_goals exact aL
 rw[hK] at q2;obtain⟨L,hL⟩:∃x,scanDown (fun x=>ltInt F[a]! x) F K j=x:=⟨_,rfl⟩;have hLa:L≤j:=by rw[←hL];exact scanDown_le _ _ _ _
 have hLb:a≤L:=by rw[←hL];exact kT _ _ _ _ (by omega) _ (by omega)
 refine Or.inr ⟨Unit,fun _=>⟨[(0,.aF 1 0),(1,.pv (ii a)),(9,.pv (ii K)),(10,.pv (ii L))],1000000000,[(1,.arr 23 0 1 (uA F))]⟩,?_,fun _=>?_⟩
 ·repeat' ((conv=>whnf)
           first
           |with_reducible apply uQ
           |with_reducible apply GL
           |with_reducible apply GN
           |((with_reducible apply fk)<;>intro hc<;>try exact aM)
           |((with_reducible apply And.intro);exact aG)|fail)
  refine⟨{x:Nat // scanDown (fun x=>ltInt F[a]! x) F K x=L∧a≤x∧x<F.size},fun⟨x,_⟩=>⟨[(0,.aF 1 0),(1,.pv (ii a)),(9,.pv (ii K)),(10,.pv (ii x))],1000000000,[(1,.arr 23 0 1 (uA F))]⟩,fun⟨x,_⟩=>x,⟨⟨j,hL,by omega,by omega⟩,ak ?_⟩,?_⟩
  ·repeat' first
    |fail
    |with_reducible exact True.intro
    |with_reducible exact rfl
    |with_reducible exact ah _
    |((conv=>whnf);with_reducible apply And.intro)
    |((conv=>whnf);with_reducible exact True.intro)
    |exact rfl
    |exact fun h=>h
    |exact ah _
   all_goals try (conv=>whnf)
  rintro⟨x,g1,g2,g3⟩
  by_cases hx:K≤x
  ·obtain⟨y,rfl⟩:∃y,x=y+1:=⟨x-1,by omega⟩;have wy:IntKind.i64.wrap (((y+1:Nat):Int)-1)=(y:Int):=by rw[aO (by omega) (by omega)];omega
   have d0:decide ((K:Int)≤((y+1:Nat):Int))=true:=by simp only[kC];omega
   cases hl:decide (F[a]! < F[y+1]!) with
   | true=>
     rw[nW hx (by simp[Aq,hl])] at g1;repeat' ((conv=>whnf);first|with_reducible apply aK|((with_reducible apply fk)<;>intro hc<;>try exact iK)|rewrite[wy]|(rewrite[dz])|(refine⟨_,dx _ _ (by first|omega|exact gq),?_⟩)|((with_reducible apply And.intro);exact gq)|(apply aC;(conv=>whnf);refine⟨_,bJ _ _,?_⟩)|((with_reducible apply And.intro);exact aG)|fail)
     refine⟨⟨y,g1,by omega,by omega⟩,Nat.lt_succ_self _,ak ?_⟩;all_goals exact aL
   | false=>
     rw[ic (.inr (by simp[Aq,hl]))] at g1;subst g1;repeat' ((conv=>whnf);first|with_reducible apply aK|((with_reducible apply fk)<;>intro hc<;>try exact iK)|(rewrite[dz])|(refine⟨_,dx _ _ (by first|omega|exact gq),?_⟩)|((with_reducible apply And.intro);exact gq)|(apply aC;(conv=>whnf);refine⟨_,bJ _ _,?_⟩)|((with_reducible apply And.intro);exact aG)|fail)
     refine⟨(),ak ?_⟩;all_goals exact aL
  ·have d0:decide ((K:Int)≤(x:Int))=false:=by simp only[tq];omega
   rw[ic (.inl hx)] at g1;subst g1;repeat' ((conv=>whnf);first|with_reducible apply aK|((with_reducible apply fk)<;>intro hc<;>try exact iK)|(rewrite[dz])|(refine⟨_,dx _ _ (by first|omega|exact gq),?_⟩)|((with_reducible apply And.intro);exact gq)|(apply aC;(conv=>whnf);refine⟨_,bJ _ _,?_⟩)|((with_reducible apply And.intro);exact aG)|fail)
   refine⟨(),ak ?_⟩;all_goals exact aL
 rw[hL] at q2;by_cases hKL:K>L
 ·have d0:decide ((K:Int)>(L:Int))=true:=by simp only[kC];omega
  rw[if_pos hKL] at q2;simp only[Prod.mk.injEq] at q2;obtain⟨rfl,rfl⟩:=q2;repeat' ((conv=>whnf);first|with_reducible apply aK|((with_reducible apply fk)<;>intro hc<;>try exact iK)|(rewrite[dz])|(refine⟨_,dx _ _ (by first|omega|exact gq),?_⟩)|((with_reducible apply And.intro);exact gq)|(apply aC;(conv=>whnf);refine⟨_,bJ _ _,?_⟩)|((with_reducible apply And.intro);exact aG)|fail)
  refine⟨_,_,⟨rfl,rfl⟩,?_⟩;all_goals exact aL
 have d0:decide ((K:Int)>(L:Int))=false:=by simp only[tq];omega
 rw[if_neg hKL] at q2;have wI:IntKind.i64.wrap ((K:Int)+1)=((K+1:Nat):Int):=by rw[aO (by omega) (by omega)];omega
 have wJ:IntKind.i64.wrap ((L:Int)-1)=((L-1:Nat):Int):=by rw[aO (by omega) (by omega)];omega
 repeat' ((conv=>whnf);first|with_reducible apply aK|((with_reducible apply fk)<;>intro hc<;>try exact iK)|rewrite[wI]|rewrite[wJ]|(rewrite[dz])|(refine⟨_,dx _ _ (by first|omega|exact gq),?_⟩)|((with_reducible apply And.intro);exact gq)|(apply aC;(conv=>whnf);refine⟨_,bJ _ _,?_⟩)|((with_reducible apply And.intro);exact aG)|fail)
 refine⟨⟨(K+1,L-1,swp F K L),by rw[size_swp];exact q1,q2,by show a<K+1;omega,by show a≤L-1;omega,by show K+1≤L-1+2;omega,by show L-1<b;omega⟩,(by show (L-1)+1-(K+1)+(if K+1≤L-1 then 1 else 0)<j+1-i+(if i≤j then 1 else 0);split<;>split<;>omega),ak ?_⟩;all_goals exact aL
theorem Zz (a b:Nat)(D:Array Int)(s i:Nat):partialIns ltInt a b (s+1) i D=(if scanSorted ltInt D b i=b then (D,true) else if b-a<50 then (D,false) else
  partialIns ltInt a b s (scanSorted ltInt D b i) (if b-scanSorted ltInt D b i≥2 then shiftUp ltInt b (scanSorted ltInt D b i+1) (if scanSorted ltInt D b i-a≥2 then shiftDown ltInt (scanSorted ltInt D b i-1) (swp D (scanSorted ltInt D b i) (scanSorted ltInt D b i-1)) else swp D (scanSorted ltInt D b i) (scanSorted ltInt D b i-1)) else (if scanSorted ltInt D b i-a≥2 then shiftDown ltInt (scanSorted ltInt D b i-1) (swp D (scanSorted ltInt D b i) (scanSorted ltInt D b i-1)) else swp D (scanSorted ltInt D b i) (scanSorted ltInt D b i-1)))):=rfl
theorem ZA:Mg prog 150 f150:=bZ func150
theorem ab5 (A:Array Int)(a b:Nat)(hab:a<b)(hb:b≤A.size)(hs:A.size<4611686018427387904)(E:Array Int)(q:Bool)(e:partialInsertionSort ltInt A a b=(E,q)) :
  dR prog 150 [.aF 1 0,.pv (ii a),.pv (ii b)] [(1,.arr 23 0 1 (uA A))] (.pv (bl q)) [(1,.arr 23 0 1 (uA E))]:=by
 unfold partialInsertionSort at e;have e0:IntKind.i64.wrap ((a:Int)+1)=((a+1:Nat):Int):=by rw[aO (by omega) (by omega)];omega
 refine jA ZA ?_;repeat' ((conv=>whnf);first|with_reducible apply aK|((with_reducible apply fk)<;>intro hc<;>try exact aM)|rewrite[e0]|((with_reducible apply And.intro);exact aG)|fail)
 refine⟨{p:Nat×Nat×Array Int // p.2.2.size=A.size∧partialIns ltInt a b (5-p.1) p.2.1 p.2.2=(E,q)∧a+1≤p.2.1∧p.2.1≤b∧p.1≤5},fun⟨(t,i,D),_⟩=>⟨[(0,.aF 1 0),(1,.pv (ii a)),(2,.pv (ii b)),(7,.pv (ii i)),(8,.pv (ii t))],1000000000,[(1,.arr 23 0 1 (uA D))]⟩,fun⟨(t,_,_),_⟩=>5-t,⟨⟨(0,a+1,A),rfl,e,by show a+1≤a+1;omega,by show a+1≤b;omega,by show 0≤5;omega⟩,ak ?_⟩,?_⟩
 ·repeat' first
   |fail
   |with_reducible exact True.intro
   |with_reducible exact rfl
   |with_reducible exact ah _
   |((conv=>whnf);with_reducible apply And.intro)
   |((conv=>whnf);with_reducible exact True.intro)
   |exact rfl
   |exact fun h=>h
   |exact ah _
  all_goals try (conv=>whnf)
 clear e e0;rintro⟨⟨t,i,D⟩,h1,h2,h3,h4,h5⟩
 simp only at h1 h2 h3 h4 h5;by_cases ht:t<5
 case neg=>
  have d0:decide ((t:Int)<5)=false:=by simp only[tq];omega
  obtain rfl:t=5:=by omega
  rw[show 5-5=0 from rfl,partialIns] at h2;simp only[Prod.mk.injEq] at h2;obtain⟨rfl,rfl⟩:=h2;repeat' ((conv=>whnf);first|with_reducible apply aK|((with_reducible apply fk)<;>intro hc<;>try exact aM)|((with_reducible apply And.intro);exact aG)|fail)
  refine⟨_,_,⟨rfl,rfl⟩,?_⟩;all_goals exact aL
 have d0:decide ((t:Int)<5)=true:=by simp only[kC];omega
 rw[show 5-t=(5-(t+1))+1 by omega,Zz] at h2;obtain⟨I,hI⟩:∃x,scanSorted ltInt D b i=x:=⟨_,rfl⟩;have hIa:=rP ltInt D b _ i (Nat.le_refl _) h4;rw[hI] at h2 hIa;obtain⟨hIa,hIb⟩:=hIa;repeat' ((conv=>whnf);first|with_reducible apply uQ|with_reducible apply GL|with_reducible apply GN|((with_reducible apply fk)<;>intro hc<;>try exact aM)|((with_reducible apply And.intro);exact aG)|fail)
 refine Or.inl ?_;repeat' ((conv=>whnf);first|with_reducible apply uQ|with_reducible apply GL|with_reducible apply GN|((with_reducible apply fk)<;>intro hc<;>try exact aM)|((with_reducible apply And.intro);exact aG)|fail)
 refine Or.inr ⟨Unit,fun _=>⟨[(0,.aF 1 0),(1,.pv (ii a)),(2,.pv (ii b)),(7,.pv (ii I)),(8,.pv (ii t))],1000000000,[(1,.arr 23 0 1 (uA D))]⟩,?_,fun _=>?_⟩
 ·repeat' ((conv=>whnf)
           first
           |with_reducible apply uQ
           |with_reducible apply GL
           |with_reducible apply GN
           |((with_reducible apply fk)<;>intro hc<;>try exact aM)
           |((with_reducible apply And.intro);exact aG)|fail)
  refine⟨{x:Nat // scanSorted ltInt D b x=I∧a+1≤x∧x≤b},fun⟨x,_⟩=>⟨[(0,.aF 1 0),(1,.pv (ii a)),(2,.pv (ii b)),(7,.pv (ii x)),(8,.pv (ii t))],1000000000,[(1,.arr 23 0 1 (uA D))]⟩,fun⟨x,_⟩=>b-x,⟨⟨i,hI,h3,h4⟩,ak ?_⟩,?_⟩
  ·repeat' first
    |fail
    |with_reducible exact True.intro
    |with_reducible exact rfl
    |with_reducible exact ah _
    |((conv=>whnf);with_reducible apply And.intro)
    |((conv=>whnf);with_reducible exact True.intro)
    |exact rfl
    |exact fun h=>h
    |exact ah _
   all_goals try (conv=>whnf)
  rintro⟨x,g1,g2,g3⟩
  have wx:IntKind.i64.wrap ((x:Int)+1)=((x+1:Nat):Int):=by rw[aO (by omega) (by omega)];omega
  have wy:IntKind.i64.wrap ((x:Int)-1)=((x-1:Nat):Int):=by rw[aO (by omega) (by omega)];omega
  rw[scanSorted] at g1;by_cases hx:x<b
  ·have d1:decide ((x:Int)<(b:Int))=true:=by simp only[kC];omega
   cases hl:decide (D[x]! < D[x-1]!) with
   | false=>
     rw[if_pos (by simp[Aq,hl,hx])] at g1;repeat' ((conv=>whnf);first|with_reducible apply aK|((with_reducible apply fk)<;>intro hc<;>try exact iK)|rewrite[wx]|rewrite[wy]|(rewrite[dz])|(refine⟨_,dx _ _ (by first|omega|exact gq),?_⟩)|((with_reducible apply And.intro);exact gq)|(apply aC;(conv=>whnf);refine⟨_,bJ _ _,?_⟩)|((with_reducible apply And.intro);exact aG)|fail)
     refine⟨⟨x+1,g1,by omega,by omega⟩,(by show b-(x+1)<b-x;omega),ak ?_⟩;all_goals exact aL
   | true=>
     rw[if_neg (by simp[Aq,hl])] at g1;subst g1;repeat' ((conv=>whnf);first|with_reducible apply aK|((with_reducible apply fk)<;>intro hc<;>try exact iK)|rewrite[wy]|(rewrite[dz])|(refine⟨_,dx _ _ (by first|omega|exact gq),?_⟩)|((with_reducible apply And.intro);exact gq)|(apply aC;(conv=>whnf);refine⟨_,bJ _ _,?_⟩)|((with_reducible apply And.intro);exact aG)|fail)
     refine⟨(),ak ?_⟩;all_goals exact aL
  ·have d1:decide ((x:Int)<(b:Int))=false:=by simp only[tq];omega
   rw[if_neg (by simp;omega)] at g1;subst g1;repeat' ((conv=>whnf);first|with_reducible apply aK|((with_reducible apply fk)<;>intro hc<;>try exact iK)|rewrite[wy]|(rewrite[dz])|(refine⟨_,dx _ _ (by first|omega|exact gq),?_⟩)|((with_reducible apply And.intro);exact gq)|(apply aC;(conv=>whnf);refine⟨_,bJ _ _,?_⟩)|((with_reducible apply And.intro);exact aG)|fail)
   refine⟨(),ak ?_⟩;all_goals exact aL
 clear hI;by_cases hIe:I=b
 ·rw[if_pos hIe] at h2;have d1:((I:Int)==(b:Int))=true:=by simp;omega
  simp only[Prod.mk.injEq] at h2;obtain⟨rfl,rfl⟩:=h2;subst hIe;repeat' ((conv=>whnf);first|with_reducible apply aK|((with_reducible apply fk)<;>intro hc<;>try exact aM)|((with_reducible apply And.intro);exact aG)|fail)
  refine⟨_,_,⟨rfl,rfl⟩,?_⟩;all_goals exact aL
 have d1:((I:Int)==(b:Int))=false:=by simp;omega
 rw[if_neg hIe] at h2;have wba:IntKind.i64.wrap ((b:Int)-(a:Int))=((b-a:Nat):Int):=by rw[aO (by omega) (by omega)];omega
 by_cases h50:b-a<50
 ·rw[if_pos h50] at h2;have d2:decide (((b-a:Nat):Int)<50)=true:=by simp only[kC];omega
  simp only[Prod.mk.injEq] at h2;obtain⟨rfl,rfl⟩:=h2;repeat' ((conv=>whnf);first|with_reducible apply aK|((with_reducible apply fk)<;>intro hc<;>try exact aM)|rewrite[wba]|((with_reducible apply And.intro);exact aG)|fail)
  refine⟨_,_,⟨rfl,rfl⟩,?_⟩;all_goals exact aL
 have d2:decide (((b-a:Nat):Int)<50)=false:=by simp only[tq];omega
 rw[if_neg h50] at h2;have wI:IntKind.i64.wrap ((I:Int)-1)=((I-1:Nat):Int):=by rw[aO (by omega) (by omega)];omega
 have wI2:IntKind.i64.wrap ((I:Int)+1)=((I+1:Nat):Int):=by rw[aO (by omega) (by omega)];omega
 have wIa:IntKind.i64.wrap ((I:Int)-(a:Int))=((I-a:Nat):Int):=by rw[aO (by omega) (by omega)];omega
 have wIb:IntKind.i64.wrap ((b:Int)-(I:Int))=((b-I:Nat):Int):=by rw[aO (by omega) (by omega)];omega
 have wt:IntKind.i64.wrap ((t:Int)+1)=((t+1:Nat):Int):=by rw[aO (by omega) (by omega)];omega
 obtain⟨F,hF⟩:∃F,(if I-a≥2 then shiftDown ltInt (I-1) (swp D I (I-1)) else swp D I (I-1))=F:=⟨_,rfl⟩;have sz1:F.size=A.size:=by
  rw[←hF];split
  ·rw[qw,size_swp];exact h1
  rw[size_swp];exact h1
 rw[hF] at h2;refine Or.inl ?_;repeat' ((conv=>whnf);first|with_reducible apply uQ|((with_reducible apply fk)<;>intro hc<;>try exact iK)|((with_reducible apply And.intro);exact aG)|fail)
 refine Or.inl ?_;repeat' ((conv=>whnf);first|with_reducible apply uQ|((with_reducible apply fk)<;>intro hc<;>try exact iK)|rewrite[wba]|rewrite[wI]|(rewrite[dz])|(refine⟨_,dx _ _ (by first|omega|exact gq),?_⟩)|((with_reducible apply And.intro);exact gq)|(apply aC;(conv=>whnf);refine⟨_,bJ _ _,?_⟩)|((with_reducible apply And.intro);exact aG)|fail)
 refine Or.inr ⟨Unit,fun _=>⟨[(0,.aF 1 0),(1,.pv (ii a)),(2,.pv (ii b)),(7,.pv (ii I)),(8,.pv (ii t))],1000000000,[(1,.arr 23 0 1 (uA F))]⟩,?_,fun _=>?_⟩
 ·by_cases hc1:I-a≥2
  case neg=>
   rw[if_neg hc1] at hF;subst hF;have d3:decide (((I-a:Nat):Int)≥2)=false:=by simp only[tq];omega
   repeat' ((conv=>whnf);first|with_reducible apply uQ|with_reducible apply GL|with_reducible apply GN|((with_reducible apply fk)<;>intro hc<;>try exact aM)|rewrite[wI]|rewrite[wIa]|((with_reducible apply And.intro);exact aG)|fail)
   refine⟨(),ak ?_⟩;all_goals exact aL
  rw[if_pos hc1] at hF;have d3:decide (((I-a:Nat):Int)≥2)=true:=by simp only[kC];omega
  repeat' ((conv=>whnf);first|with_reducible apply uQ|with_reducible apply GL|with_reducible apply GN|((with_reducible apply fk)<;>intro hc<;>try exact aM)|rewrite[wI]|rewrite[wIa]|((with_reducible apply And.intro);exact aG)|fail)
  refine⟨{p:Nat×Array Int // p.2.size=A.size∧shiftDown ltInt p.1 p.2=F∧p.1<b},fun⟨(x,G),_⟩=>⟨[(0,.aF 1 0),(1,.pv (ii a)),(2,.pv (ii b)),(7,.pv (ii I)),(8,.pv (ii t)),(9,.pv (ii x))],1000000000,[(1,.arr 23 0 1 (uA G))]⟩,fun⟨(x,_),_⟩=>x,⟨⟨(I-1,swp D I (I-1)),by rw[size_swp];exact h1,hF,by show I-1<b;omega⟩,ak ?_⟩,?_⟩
  ·repeat' first
    |fail
    |with_reducible exact True.intro
    |with_reducible exact rfl
    |with_reducible exact ah _
    |((conv=>whnf);with_reducible apply And.intro)
    |((conv=>whnf);with_reducible exact True.intro)
    |exact rfl
    |exact fun h=>h
    |exact ah _
   all_goals try (conv=>whnf)
  rintro⟨⟨x,G⟩,g1,g2,g3⟩
  simp only at g1 g2 g3;clear d0 d1 d2 d3;cases x with
  | zero=>
    have d3:decide (((0:Nat):Int)≥1)=false:=by decide
    rw[shiftDown] at g2;subst g2;repeat' ((conv=>whnf);first|with_reducible apply aK|((with_reducible apply fk)<;>intro hc<;>try exact iK)|(rewrite[dz])|(refine⟨_,dx _ _ (by first|omega|exact gq),?_⟩)|((with_reducible apply And.intro);exact gq)|(apply aC;(conv=>whnf);refine⟨_,bJ _ _,?_⟩)|((with_reducible apply And.intro);exact aG)|fail)
    refine⟨(),ak ?_⟩;all_goals exact aL
  | succ y=>
    have d3:decide (((y+1:Nat):Int)≥1)=true:=by simp only[kC];omega
    have wy:IntKind.i64.wrap (((y+1:Nat):Int)-1)=(y:Int):=by rw[aO (by omega) (by omega)];omega
    rw[shiftDown] at g2;cases hl:decide (G[y+1]! < G[y]!) with
    | false=>
      rw[if_pos (by simp[Aq,hl])] at g2;subst g2;repeat' ((conv=>whnf);first|with_reducible apply aK|((with_reducible apply fk)<;>intro hc<;>try exact iK)|rewrite[wy]|(rewrite[dz])|(refine⟨_,dx _ _ (by first|omega|exact gq),?_⟩)|((with_reducible apply And.intro);exact gq)|(apply aC;(conv=>whnf);refine⟨_,bJ _ _,?_⟩)|((with_reducible apply And.intro);exact aG)|fail)
      refine⟨(),ak ?_⟩;all_goals exact aL
    | true=>
      rw[if_neg (by simp[Aq,hl])] at g2;repeat' ((conv=>whnf);first|with_reducible apply aK|((with_reducible apply fk)<;>intro hc<;>try exact iK)|rewrite[wy]|(rewrite[dz])|(refine⟨_,dx _ _ (by first|omega|exact gq),?_⟩)|((with_reducible apply And.intro);exact gq)|(apply aC;(conv=>whnf);refine⟨_,bJ _ _,?_⟩)|((with_reducible apply And.intro);exact aG)|fail)
      refine⟨⟨(y,swp G (y+1) y),by rw[size_swp];exact g1,g2,by show y<b;omega⟩,Nat.lt_succ_self _,ak ?_⟩;all_goals exact aL
 clear hF;by_cases hc2:b-I≥2
 case neg=>
  rw[if_neg hc2] at h2;have d4:decide (((b-I:Nat):Int)≥2)=false:=by simp only[tq];omega
  repeat' ((conv=>whnf);first|with_reducible apply uQ|with_reducible apply GL|with_reducible apply GN|((with_reducible apply fk)<;>intro hc<;>try exact iK)|rewrite[wIb]|rewrite[wt]|((with_reducible apply And.intro);exact aG)|fail)
  refine⟨⟨(t+1,I,F),sz1,h2,by show a+1≤I;omega,by show I≤b;omega,by show t+1≤5;omega⟩,(by show 5-(t+1)<5-t;omega),ak ?_⟩;all_goals exact aL
 rw[if_pos hc2] at h2;have d4:decide (((b-I:Nat):Int)≥2)=true:=by simp only[kC];omega
 have sz2:(shiftUp ltInt b (I+1) F).size=A.size:=by rw[uD _ _ _ _ _ (Nat.le_refl _)];exact sz1
 obtain⟨H,hH⟩:∃H,shiftUp ltInt b (I+1) F=H:=⟨_,rfl⟩;rw[hH] at h2 sz2;repeat' ((conv=>whnf);first|with_reducible apply uQ|with_reducible apply GL|with_reducible apply GN|((with_reducible apply fk)<;>intro hc<;>try exact iK)|rewrite[wI2]|rewrite[wIb]|((with_reducible apply And.intro);exact aG)|fail)
 refine⟨{p:Nat×Array Int // p.2.size=A.size∧shiftUp ltInt b p.1 p.2=H∧1≤p.1∧p.1≤b},fun⟨(x,G),_⟩=>⟨[(0,.aF 1 0),(1,.pv (ii a)),(2,.pv (ii b)),(7,.pv (ii I)),(8,.pv (ii t)),(10,.pv (ii x))],1000000000,[(1,.arr 23 0 1 (uA G))]⟩,fun⟨(x,_),_⟩=>b-x,⟨⟨(I+1,F),sz1,hH,by show 1≤I+1;omega,by show I+1≤b;omega⟩,ak ?_⟩,?_⟩
 ·repeat' first
   |fail
   |with_reducible exact True.intro
   |with_reducible exact rfl
   |with_reducible exact ah _
   |((conv=>whnf);with_reducible apply And.intro)
   |((conv=>whnf);with_reducible exact True.intro)
   |exact rfl
   |exact fun h=>h
   |exact ah _
  all_goals try (conv=>whnf)
 rintro⟨⟨x,G⟩,g1,g2,g3,g4⟩
 simp only at g1 g2 g3 g4;clear d0 d1 d2 d4;have wx:IntKind.i64.wrap ((x:Int)+1)=((x+1:Nat):Int):=by rw[aO (by omega) (by omega)];omega
 have wy:IntKind.i64.wrap ((x:Int)-1)=((x-1:Nat):Int):=by rw[aO (by omega) (by omega)];omega
 rw[shiftUp] at g2;by_cases hx:x<b
 case neg=>
  have d3:decide ((x:Int)<(b:Int))=false:=by simp only[tq];omega
  rw[if_neg hx] at g2;subst g2;repeat' ((conv=>whnf);first|with_reducible apply aK|((with_reducible apply fk)<;>intro hc<;>try exact iK)|rewrite[wt]|(rewrite[dz])|(refine⟨_,dx _ _ (by first|omega|exact gq),?_⟩)|((with_reducible apply And.intro);exact gq)|(apply aC;(conv=>whnf);refine⟨_,bJ _ _,?_⟩)|((with_reducible apply And.intro);exact aG)|fail)
  refine⟨⟨(t+1,I,G),sz2,h2,by show a+1≤I;omega,by show I≤b;omega,by show t+1≤5;omega⟩,(by show 5-(t+1)<5-t;omega),ak ?_⟩;all_goals exact aL
 have d3:decide ((x:Int)<(b:Int))=true:=by simp only[kC];omega
 rw[if_pos hx] at g2;cases hl:decide (G[x]! < G[x-1]!) with
 | false=>
   rw[if_pos (by simp[Aq,hl])] at g2;subst g2;repeat' ((conv=>whnf);first|with_reducible apply aK|((with_reducible apply fk)<;>intro hc<;>try exact iK)|rewrite[wx]|rewrite[wy]|rewrite[wt]|(rewrite[dz])|(refine⟨_,dx _ _ (by first|omega|exact gq),?_⟩)|((with_reducible apply And.intro);exact gq)|(apply aC;(conv=>whnf);refine⟨_,bJ _ _,?_⟩)|((with_reducible apply And.intro);exact aG)|fail)
   refine⟨⟨(t+1,I,G),sz2,h2,by show a+1≤I;omega,by show I≤b;omega,by show t+1≤5;omega⟩,(by show 5-(t+1)<5-t;omega),ak ?_⟩;all_goals exact aL
 | true=>
   rw[if_neg (by simp[Aq,hl])] at g2;repeat' ((conv=>whnf);first|with_reducible apply aK|((with_reducible apply fk)<;>intro hc<;>try exact iK)|rewrite[wx]|rewrite[wy]|(rewrite[dz])|(refine⟨_,dx _ _ (by first|omega|exact gq),?_⟩)|((with_reducible apply And.intro);exact gq)|(apply aC;(conv=>whnf);refine⟨_,bJ _ _,?_⟩)|((with_reducible apply And.intro);exact aG)|fail)
   refine⟨⟨(x+1,swp G x (x-1)),by rw[size_swp];exact g1,g2,by show 1≤x+1;omega,by show x+1≤b;omega⟩,(by show b-(x+1)<b-x;omega),ak ?_⟩;all_goals exact aL
theorem ab6:Mg prog 106 f106:=bZ func106
theorem aeO:∀(n:Nat) (A:Array Int) (a b limit:Nat),b-a≤n→a≤b→b≤A.size→A.size<4611686018427387904→limit<1000→Below ltInt a b A →
  dR prog 106 [.aF 1 0,.pv (ii a),.pv (ii b),.pv (ii limit)] [(1,.arr 23 0 1 (uA A))] (.pv (.dn [])) [(1,.arr 23 0 1 (uA (pdq ltInt A a b limit true true)))]:=by
 intro n;induction n using Nat.strongRecOn with
 |ind n IH=>
 intro A a b limit hn hab hb hs hlim hB;obtain⟨X,hX⟩:∃X,pdq ltInt A a b limit true true=X:=⟨_,rfl⟩;rw[hX];refine jA ab6 ?_;repeat' ((conv=>whnf);first|with_reducible apply aK|((with_reducible apply fk)<;>intro hc<;>try exact aM)|((with_reducible apply And.intro);exact aG)|fail)
 refine⟨{p:Nat×Nat×Nat×Bool×Bool×Array Int // p.2.2.2.2.2.size=A.size∧pdq ltInt p.2.2.2.2.2 p.1 p.2.1 p.2.2.1 p.2.2.2.1 p.2.2.2.2.1=X∧p.1≤p.2.1∧p.2.1≤A.size∧p.2.1-p.1≤n∧p.2.2.1<1000∧Below ltInt p.1 p.2.1 p.2.2.2.2.2},fun⟨(a,b,lim,wb,wp,D),_⟩=>⟨[(0,.aF 1 0),(1,.pv (ii a)),(2,.pv (ii b)),(3,.pv (ii lim)),(8,.pv (bl wb)),(9,.pv (bl wp))],1000000000,[(1,.arr 23 0 1 (uA D))]⟩,fun⟨(a,b,_),_⟩=>b-a,⟨⟨(a,b,limit,true,true,A),rfl,hX,hab,hb,hn,hlim,hB⟩,ak ?_⟩,?_⟩
 ·repeat' first
   |fail
   |with_reducible exact True.intro
   |with_reducible exact rfl
   |with_reducible exact ah _
   |((conv=>whnf);with_reducible apply And.intro)
   |((conv=>whnf);with_reducible exact True.intro)
   |exact rfl
   |exact fun h=>h
   |exact ah _
  all_goals try (conv=>whnf)
 clear hX hn hab hb hlim hB;clear a b limit;rintro⟨⟨a,b,lim,wb,wp,D⟩,h1,h2,h3,h4,h5,h6,h7⟩
 simp only at h1 h2 h3 h4 h5 h6 h7;have wl:IntKind.i64.wrap ((b:Int)-(a:Int))=((b-a:Nat):Int):=by rw[aO (by omega) (by omega)];omega
 by_cases h12:b-a≤12
 ·have d0:decide (((b-a:Nat):Int)≤12)=true:=by simp only[kC];omega
  rw[pdq_small h12] at h2;subst h2;repeat' ((conv=>whnf);first|with_reducible apply aK|((with_reducible apply fk)<;>intro hc<;>try exact aM)|rewrite[wl]|(apply fq;(conv=>whnf);refine⟨_,_,cB (aeI D a b h3 (by omega) (by omega)) ?_,?_⟩;exact qi)|((with_reducible apply And.intro);exact aG)|fail)
  refine⟨_,_,⟨rfl,rfl⟩,?_⟩;all_goals exact aL
 have d0:decide (((b-a:Nat):Int)≤12)=false:=by simp only[tq];omega
 by_cases hl0:lim=0
 ·have d1:((lim:Int)==0)=true:=by simp;omega
  rw[pdq_heap h12 hl0] at h2;subst h2;clear hl0;repeat' ((conv=>whnf);first|with_reducible apply aK|((with_reducible apply fk)<;>intro hc<;>try exact aM)|rewrite[wl]|(apply fq;(conv=>whnf);refine⟨_,_,cB (abW D a b (by omega) (by omega) (by omega)) ?_,?_⟩;exact qi)|((with_reducible apply And.intro);exact aG)|fail)
  refine⟨_,_,⟨rfl,rfl⟩,?_⟩;all_goals exact aL
 have d1:((lim:Int)==0)=false:=by simp;omega
 obtain⟨d1',lZ,p,hh,d2',pv,hint,E,fin,R⟩:=aau (wb:=wb) (wp:=wp) h12 hl0 (by omega) h7;have hab:a<b:=by omega
 have hle:=R.le;have hpa:=R.pa;have hpb:=R.pb;have hva:=R.va;have hvb:=R.vb;have hs1:=R.s1.trans h1;have hs2:=R.s2.trans h1;have hs3:=R.s3.trans h1;have wm:IntKind.i64.wrap ((lim:Int)-1)=((lim-1:Nat):Int):=by rw[aO (by omega) (by omega)];omega
 repeat' ((conv=>whnf);first|with_reducible apply uQ|((with_reducible apply fk)<;>intro hc<;>try exact aM)|rewrite[wl]|((with_reducible apply And.intro);exact aG)|fail)
 refine Or.inl ?_;repeat' ((conv=>whnf);first|with_reducible apply uQ|((with_reducible apply fk)<;>intro hc<;>try exact aM)|((with_reducible apply And.intro);exact aG)|fail)
 refine Or.inl ?_;repeat' ((conv=>whnf);first|with_reducible apply uQ|((with_reducible apply fk)<;>intro hc<;>try exact aM)|((with_reducible apply And.intro);exact aG)|fail)
 refine Or.inr ⟨Unit,fun _=>⟨[(0,.aF 1 0),(1,.pv (ii a)),(2,.pv (ii b)),(3,.pv (ii lZ)),(8,.pv (bl wb)),(9,.pv (bl wp)),(10,.pv (ii ((b-a:Nat):Int)))],1000000000,[(1,.arr 23 0 1 (uA d1'))]⟩,?_,fun _=>?_⟩
 ·cases wb with
  | true=>
    obtain⟨e1,e2⟩:=R.bt rfl;clear R;subst e1 e2;repeat' ((conv=>whnf);first|with_reducible apply uQ|((with_reducible apply fk)<;>intro hc<;>try exact aM)|((with_reducible apply And.intro);exact aG)|fail)
    refine⟨(),ak ?_⟩;all_goals exact aL
  | false=>
    obtain⟨e1,e2⟩:=R.bf rfl;clear R;subst e1 e2;repeat' ((conv=>whnf);first|with_reducible apply uQ|((with_reducible apply fk)<;>intro hc<;>try exact aM)|rewrite[wm]|(apply fq;(conv=>whnf);refine⟨_,_,cB (aeM D a b hab (by omega) (by omega) (by omega)) ?_,?_⟩;exact qi)|((with_reducible apply And.intro);exact aG)|fail)
    refine⟨(),ak ?_⟩;all_goals exact aL
 have cP:=aeK d1' a b hab (by omega) (by omega) (by omega) p hh R.c;repeat' ((conv=>whnf);first|with_reducible apply uQ|((with_reducible apply fk)<;>intro hc<;>try exact aM)|(apply fq;(conv=>whnf);refine⟨_,_,cB (cP) ?_,?_⟩;exact qi)|((with_reducible apply And.intro);exact aG)|fail)
 have wq:IntKind.i64.wrap (IntKind.i64.wrap ((b:Int)-1)-IntKind.i64.wrap ((p:Int)-(a:Int)))=((b-1-(p-a):Nat):Int):=by
  rw[aO (n:=(b:Int)-1) (by omega) (by omega),aO (n:=(p:Int)-(a:Int)) (by omega) (by omega),aO (by omega) (by omega)];omega
 refine Or.inr ⟨Unit,fun _=>⟨[(0,.aF 1 0),(1,.pv (ii a)),(2,.pv (ii b)),(3,.pv (ii lZ)),(8,.pv (bl wb)),(9,.pv (bl wp)),(10,.pv (ii ((b-a:Nat):Int))),(11,.pv (ii pv)),(12,.pv (ii (Dy hint)))],1000000000,[(1,.arr 23 0 1 (uA d2'))]⟩,?_,fun _=>?_⟩
 ·rcases UC hh with h|h
  ·obtain⟨e1,e2,e3⟩:=R.hd h;clear R cP;subst e1 e2 e3 h;have d3:(Dy Hint.decreasing==2)=true:=rfl;repeat' ((conv=>whnf);first|with_reducible apply uQ|((with_reducible apply fk)<;>intro hc<;>try exact aM)|rewrite[wq]|(apply fq;(conv=>whnf);refine⟨_,_,cB (aeJ d1' a b hab (by omega) (by omega)) ?_,?_⟩;exact qi)|((with_reducible apply And.intro);exact aG)|fail)
   refine⟨(),ak ?_⟩;all_goals exact aL
  obtain⟨e1,e2,e3⟩:=R.hn h;clear R cP;subst e1 e2 e3;have d3:(Dy hint==2)=false:=by cases hint<;>simp[Dy] at h ⊢
  repeat' ((conv=>whnf);first|with_reducible apply uQ|((with_reducible apply fk)<;>intro hc<;>try exact aM)|((with_reducible apply And.intro);exact aG)|fail)
  refine⟨(),ak ?_⟩;all_goals exact aL
 refine Or.inr ⟨PLift (fin=false),fun _=>⟨[(0,.aF 1 0),(1,.pv (ii a)),(2,.pv (ii b)),(3,.pv (ii lZ)),(8,.pv (bl wb)),(9,.pv (bl wp)),(10,.pv (ii ((b-a:Nat):Int))),(11,.pv (ii pv))],1000000000,[(1,.arr 23 0 1 (uA E))]⟩,?_,fun⟨hfin⟩=>?_⟩
 ·by_cases hy:wb=true∧wp=true∧hint=.increasing
  ·obtain⟨y1,y2,y3⟩:=hy;have e:=R.py y1 y2 y3;have hdone:=R.done;clear R cP;subst y1 y2 y3;have d3:(Dy Hint.increasing==1)=true:=rfl;have cI:=ab5 d2' a b hab (by omega) (by omega) E fin e;cases fin with
   | true=>
     rw[hdone rfl] at h2;subst h2;repeat' ((conv=>whnf);first|with_reducible apply uQ|((with_reducible apply fk)<;>intro hc<;>try exact aM)|(apply fq;(conv=>whnf);refine⟨_,_,cB (cI) ?_,?_⟩;exact qi)|((with_reducible apply And.intro);exact aG)|fail)
     refine⟨_,_,⟨rfl,rfl⟩,?_⟩;all_goals exact aL
   | false=>
     repeat' ((conv=>whnf);first|with_reducible apply uQ|((with_reducible apply fk)<;>intro hc<;>try exact aM)|(apply fq;(conv=>whnf);refine⟨_,_,cB (cI) ?_,?_⟩;exact qi)|((with_reducible apply And.intro);exact aG)|fail)
     refine⟨⟨rfl⟩,ak ?_⟩;all_goals exact aL
  obtain⟨e1,e2⟩:=R.pn hy;clear R cP;subst e1 e2;cases wb with
  | false=>
    repeat' ((conv=>whnf);first|with_reducible apply uQ|((with_reducible apply fk)<;>intro hc<;>try exact aM)|((with_reducible apply And.intro);exact aG)|fail)
    refine⟨⟨rfl⟩,ak ?_⟩;all_goals exact aL
  | true=>
    cases wp with
    | false=>
      repeat' ((conv=>whnf);first|with_reducible apply uQ|((with_reducible apply fk)<;>intro hc<;>try exact aM)|((with_reducible apply And.intro);exact aG)|fail)
      refine⟨⟨rfl⟩,ak ?_⟩;all_goals exact aL
    | true=>
      have d3:(Dy hint==1)=false:=by cases hint<;>simp[Dy] at hy ⊢
      repeat' ((conv=>whnf);first|with_reducible apply uQ|((with_reducible apply fk)<;>intro hc<;>try exact aM)|((with_reducible apply And.intro);exact aG)|fail)
      refine⟨⟨rfl⟩,ak ?_⟩;all_goals exact aL
 clear cP wq wm d0 d1;have wa:IntKind.i64.wrap ((a:Int)-1)=((a-1:Nat):Int)∨a=0:=by
  rcases Nat.eq_zero_or_pos a with h|h
  ·exact .inr h
  left;rw[aO (by omega) (by omega)];omega
 refine Or.inr ⟨PLift (a=0∨ltInt E[a-1]! E[pv]! = true),fun _=>⟨[(0,.aF 1 0),(1,.pv (ii a)),(2,.pv (ii b)),(3,.pv (ii lZ)),(8,.pv (bl wb)),(9,.pv (bl wp)),(10,.pv (ii ((b-a:Nat):Int))),(11,.pv (ii pv))],1000000000,[(1,.arr 23 0 1 (uA E))]⟩,?_,fun⟨ag7⟩=>?_⟩
 ·rcases wa with wa|ha0
  ·by_cases ha0:a=0
   ·have d0:decide ((a:Int)>0)=false:=by simp only[tq];omega
    have hA:PLift (a=0∨ltInt E[a-1]! E[pv]! = true):=⟨.inl ha0⟩;clear ha0;repeat' ((conv=>whnf);first|with_reducible apply aK|((with_reducible apply fk)<;>intro hc<;>try exact iK)|(rewrite[dz])|(refine⟨_,dx _ _ (by first|omega|exact gq),?_⟩)|((with_reducible apply And.intro);exact gq)|(apply aC;(conv=>whnf);refine⟨_,bJ _ _,?_⟩)|((with_reducible apply And.intro);exact aG)|fail)
    refine⟨hA,ak ?_⟩;all_goals exact aL
   have d0:decide ((a:Int)>0)=true:=by simp only[kC];omega
   cases hl:decide (E[a-1]! < E[pv]!) with
   | true=>
     repeat' ((conv=>whnf);first|with_reducible apply aK|((with_reducible apply fk)<;>intro hc<;>try exact iK)|rewrite[wa]|(rewrite[dz])|(refine⟨_,dx _ _ (by first|omega|exact gq),?_⟩)|((with_reducible apply And.intro);exact gq)|(apply aC;(conv=>whnf);refine⟨_,bJ _ _,?_⟩)|((with_reducible apply And.intro);exact aG)|fail)
     refine⟨⟨.inr hl⟩,ak ?_⟩;all_goals exact aL
   | false=>
     obtain⟨⟨mid,d4⟩,e⟩:∃x,partitionEqual ltInt E a b pv=x:=⟨_,rfl⟩;obtain⟨m1,m2,m3,m4,m5⟩:=R.eq hfin (by omega) hl mid d4 e;have cE:=aeN E a b pv hva hvb (by omega) (by omega) mid d4 e;rw[m5] at h2;clear R;repeat' ((conv=>whnf);first|with_reducible apply aK|((with_reducible apply fk)<;>intro hc<;>try exact iK)|rewrite[wa]|(rewrite[dz])|(refine⟨_,dx _ _ (by first|omega|exact gq),?_⟩)|((with_reducible apply And.intro);exact gq)|(apply aC;(conv=>whnf);refine⟨_,bJ _ _,?_⟩)|(apply fq;(conv=>whnf);refine⟨_,_,cB (cE) ?_,?_⟩;exact qi)|((with_reducible apply And.intro);exact aG)|fail)
     refine⟨⟨(mid,b,lZ,wb,wp,d4),m3.trans h1,h2,m2,h4,by show b-mid≤n;omega,by show lZ<1000;omega,m4⟩,(by show b-mid<b-a;omega),ak ?_⟩;all_goals exact aL
  have d0:decide ((a:Int)>0)=false:=by simp only[tq];omega
  have hA:PLift (a=0∨ltInt E[a-1]! E[pv]! = true):=⟨.inl ha0⟩;clear ha0;repeat' ((conv=>whnf);first|with_reducible apply aK|((with_reducible apply fk)<;>intro hc<;>try exact iK)|(rewrite[dz])|(refine⟨_,dx _ _ (by first|omega|exact gq),?_⟩)|((with_reducible apply And.intro);exact gq)|(apply aC;(conv=>whnf);refine⟨_,bJ _ _,?_⟩)|((with_reducible apply And.intro);exact aG)|fail)
  refine⟨hA,ak ?_⟩;all_goals exact aL
 clear wa;obtain⟨⟨mid,ap,d4⟩,e⟩:∃x,partition ltInt E a b pv=x:=⟨_,rfl⟩;obtain⟨m1,m2,m3,m4,m5,m6,m7⟩:=R.pt hfin ag7 mid ap d4 e;have cE:=ab3 E a b pv hva hvb (by omega) (by omega) mid ap d4 e;clear R e;have w1:IntKind.i64.wrap ((mid:Int)-(a:Int))=((mid-a:Nat):Int):=by rw[aO (by omega) (by omega)];omega
 have w2:IntKind.i64.wrap ((b:Int)-(mid:Int))=((b-mid:Nat):Int):=by rw[aO (by omega) (by omega)];omega
 have w3:IntKind.i64.wrap (Int.tdiv ((b-a:Nat):Int) 8)=(((b-a) / 8:Nat):Int):=by rw[Int.tdiv_eq_ediv_of_nonneg (by omega),aO (by omega) (by omega)];rfl
 have w4:IntKind.i64.wrap ((mid:Int)+1)=((mid+1:Nat):Int):=by rw[aO (by omega) (by omega)];omega
 by_cases hlt:mid-a<b-mid
 ·have d0:decide (((mid-a:Nat):Int)<((b-mid:Nat):Int))=true:=by simp only[kC];omega
  obtain⟨q1,q2,q3⟩:=m6 hlt;have w5:decide (((mid-a:Nat):Int)≥(((b-a) / 8:Nat):Int))=decide (mid-a≥(b-a) / 8):=decide_eq_decide.2 (by omega);have cR:=IH (mid-a) (by omega) d4 a mid lZ (Nat.le_refl _) m1 (by omega) (by omega) (by omega) m4;rw[q3] at h2;clear m6 m7 q3;repeat' ((conv=>whnf);first|with_reducible apply aK|((with_reducible apply fk)<;>intro hc<;>try exact aM)|rewrite[w1]|rewrite[w2]|rewrite[w3]|rewrite[w4]|rewrite[w5]|(apply fq;(conv=>whnf);refine⟨_,_,cB (cE) ?_,?_⟩;exact qi)|(apply fq;(conv=>whnf);refine⟨_,_,cB (cR) ?_,?_⟩;exact qi)|((with_reducible apply And.intro);exact aG)|fail)
  refine⟨⟨(mid+1,b,lZ,decide (mid-a≥(b-a) / 8),ap,pdq ltInt d4 a mid lZ true true),q1.trans h1,h2,m2,h4,by show b-(mid+1)≤n;omega,by show lZ<1000;omega,q2⟩,(by show b-(mid+1)<b-a;omega),ak ?_⟩;all_goals exact aL
 have d0:decide (((mid-a:Nat):Int)<((b-mid:Nat):Int))=false:=by simp only[tq];omega
 obtain⟨q1,q2,q3⟩:=m7 hlt;have w5:decide (((b-mid:Nat):Int)≥(((b-a) / 8:Nat):Int))=decide (b-mid≥(b-a) / 8):=decide_eq_decide.2 (by omega);have cR:=IH (b-(mid+1)) (by omega) d4 (mid+1) b lZ (Nat.le_refl _) m2 (by omega) (by omega) (by omega) m5;rw[q3] at h2;clear m6 m7 q3;repeat' ((conv=>whnf);first|with_reducible apply aK|((with_reducible apply fk)<;>intro hc<;>try exact aM)|rewrite[w1]|rewrite[w2]|rewrite[w3]|rewrite[w4]|rewrite[w5]|(apply fq;(conv=>whnf);refine⟨_,_,cB (cE) ?_,?_⟩;exact qi)|(apply fq;(conv=>whnf);refine⟨_,_,cB (cR) ?_,?_⟩;exact qi)|((with_reducible apply And.intro);exact aG)|fail)
 refine⟨⟨(a,mid,lZ,decide (b-mid≥(b-a) / 8),ap,pdq ltInt d4 (mid+1) b lZ true true),q1.trans h1,h2,m1,by show mid≤A.size;omega,by show mid-a≤n;omega,by show lZ<1000;omega,q2⟩,(by show mid-a<b-a;omega),ak ?_⟩;all_goals exact aL
theorem ZB:Mg prog 67 f67:=bZ func67
theorem abn (l:List Int)(h:l.length<4611686018427387904) :
  dR prog 67 [.aF 1 0] [(1,.arr 23 0 1 (l.map dh))] (.pv (.dn [])) [(1,.arr 23 0 1 ((l.mergeSort (fun x y=>decide (x≤y))).map dh))]:=by
 have e1:l.map dh=uA l.toArray:=rfl;have e2:(l.mergeSort (fun x y=>decide (x≤y))).map dh=uA (pdq ltInt l.toArray 0 l.toArray.size (bitsLen l.toArray.size) true true):=by
  rw[uA,Qw]
 have hk:bitsLen l.length≤62:=(bitsLen_le_iff l.length 62).2 (by omega);have c:=aeO l.length l.toArray 0 l.length (bitsLen l.length) (by omega) (by omega) (by simp) (by simpa using h) (by omega) (.inl rfl);have cL:=Q9 l.length (by omega);have wn:IntKind.u64.wrap (l.length:Int)=(l.length:Int):=vN (by omega) (by omega);rw[e1,e2];have es:l.toArray.size=l.length:=by simp
 rw[es];have en:((uA l.toArray).length:Int)=(l.length:Int):=by rw[BK,es]
 clear e1 e2;refine jA ZB ?_;repeat' ((conv=>whnf);first|with_reducible apply aK|((with_reducible apply fk)<;>intro hc<;>try exact aM)|rewrite[en]|rewrite[wn]|(apply aC;(conv=>whnf);refine⟨_,cL,?_⟩)|(apply fq;(conv=>whnf);refine⟨_,_,cB (c) ?_,?_⟩;exact qi)|((with_reducible apply And.intro);exact aG)|fail)
 refine⟨_,_,⟨rfl,rfl⟩,?_⟩;all_goals exact aL
end Go.Proofs.YtiagceoepkaeoaaGreat.Tb
end
section
open Go Go.Proofs.Tryz Go.AX
namespace Go.Proofs.YtiagceoepkaeoaaGreat.Tb
theorem Cc:Mg prog 75 f75:=bZ func75
theorem YB (a b:List Int):bE prog 75 [p9 a,p9 b] (bl (decide (a=b))):=by
 refine PC.le (kL Cc fun hbd=>?_);have hba:a.length≤9223372036854775807:=by have:=hbd.1;simpa[y7,p9] using this
 have ea:((List.map dh a).length:Int)=(a.length:Int):=by rw[List.length_map]
 have eb:((List.map dh b).length:Int)=(b.length:Int):=by rw[List.length_map]
 by_cases hl:a.length=b.length
 case neg=>
  have d0:((a.length:Int) != (b.length:Int))=true:=by simp;omega
  have e:decide (a=b)=false:=by simp only[tq];intro e;subst e;exact hl rfl
  rw[e];refine bN Cc ?_;repeat' ((conv=>whnf);first|with_reducible apply aK|((with_reducible apply fk)<;>intro hc<;>try exact aM)|rewrite[ea]|rewrite[eb]|((with_reducible apply And.intro);exact aG)|fail)
  all_goals exact aL
 have d0:((a.length:Int) != (b.length:Int))=false:=by simp;omega
 have hlh:Hd (a.length=b.length):=⟨hl⟩;clear hl;refine bN Cc ?_;repeat' ((conv=>whnf);first|with_reducible apply aK|((with_reducible apply fk)<;>intro hc<;>try exact aM)|rewrite[ea]|rewrite[eb]|((with_reducible apply And.intro);exact aG)|fail)
 refine⟨{k:Nat // k≤a.length∧∀j (hj:j<a.length),j<k→a[j]=b[j]'(by have:=hlh.out;omega)},fun⟨k,_⟩=>⟨[(0,.pv (p9 a)),(1,.pv (p9 b)),(12,.pv (ii a.length)),(13,.pv (ii k))],1000000000,[]⟩,fun⟨k,_⟩=>a.length-k,⟨⟨0,by simp⟩,ak ?_⟩,?_⟩
 ·repeat' first
   |fail
   |with_reducible exact True.intro
   |with_reducible exact rfl
   |with_reducible exact ah _
   |((conv=>whnf);with_reducible apply And.intro)
   |((conv=>whnf);with_reducible exact True.intro)
   |exact rfl
   |exact fun h=>h
   |exact ah _
  all_goals try (conv=>whnf)
 rintro⟨k,hk,hn⟩
 by_cases hlt:k<a.length
 ·have d1:decide ((k:Int)<(a.length:Int))=true:=by simp only[kC];omega
  have eW:IntKind.i64.wrap ((k:Int)+1)=((k+1:Nat):Int):=by rw[aO (by omega) (by omega)];omega
  have r1:=cu dh a k hlt;have r2:=cu dh b k (by have:=hlh.out;omega);cases hq:(a[k] != b[k]'(by have:=hlh.out;omega)) with
  | true=>
    have e:decide (a=b)=false:=by
     simp only[tq];intro e;subst e;simp at hq
    rw[e];repeat' ((conv=>whnf);first|with_reducible apply aK|((with_reducible apply fk)<;>intro hc<;>try exact aM)|((refine⟨_,r1,?_⟩))|((refine⟨_,r2,?_⟩))|((with_reducible apply And.intro);exact aG)|fail)
    all_goals exact aL
  | false=>
    repeat' ((conv=>whnf);first|with_reducible apply aK|((with_reducible apply fk)<;>intro hc<;>try exact aM)|((refine⟨_,r1,?_⟩))|((refine⟨_,r2,?_⟩))|((with_reducible apply And.intro);exact aG)|fail)
    refine⟨⟨k+1,hlt,dS hn fun _=>by simpa using hq⟩,dec_lt hlt,ak ?_⟩;repeat' first|((conv=>whnf);with_reducible apply And.intro)|exact aL|fail
    all_goals try (conv=>whnf)
    all_goals exact eW
 have d1:decide ((k:Int)<(a.length:Int))=false:=by simp only[tq];omega
 have e:decide (a=b)=true:=by
  simp only[kC];exact List.ext_getElem hlh.out fun j h1 h2=>hn j h1 (by omega)
 rw[e];repeat' ((conv=>whnf);first|with_reducible apply aK|((with_reducible apply fk)<;>intro hc<;>try exact aM)|((with_reducible apply And.intro);exact aG)|fail)
 all_goals exact aL
theorem abl:Mg prog 71 f71:=bZ func71
theorem aem (p:Pn)(x:Lg)(h:x.ok):bE prog 71 ([]++([.agg x.c]++[.bU p.c 0])) (bl (mr x&&decide (x.id<p.next))):=by
 refine PC.le ?_;refine bN abl ?_;repeat' ((conv=>whnf);first|with_reducible apply aK|((with_reducible apply fk)<;>intro hc<;>try exact aM)|(apply aC;(conv=>whnf);refine⟨_,Oo x h,?_⟩)|((with_reducible apply And.intro);exact aG)|fail)
 all_goals
  repeat' first|((conv=>whnf);with_reducible apply And.intro)|exact aL|fail
  all_goals try (conv=>whnf)
  simp only[*,Bool.true_and,Bool.false_and]
theorem abm:Mg prog 31 f31:=bZ func31
theorem nY (p:Pn)(h:tK p):bE prog 31 [.agg p.c] (bl (j6 p)):=by
 refine PC.le ?_;have hb:=h.channels;have hnm:=h.named;obtain⟨X,hX⟩:∃X,X=j6 p:=⟨_,rfl⟩;rw[←hX];have cS:dR prog 67 [.aF 1 0] [(1,.arr 23 0 1 ((gY p).map dh))] (.pv (.dn [])) [(1,.arr 23 0 1 ((Jp (gY p)).map dh))]:=abn (gY p) (by omega);have cR:bE prog 73 [dN p.af,.fn (.func 74) [] []] (bl (j5 (nL p))):=by
  unfold nL;rw[xD];exact KY p.af _ [] [] (·.id) fun y _=>ael y
 have cA:=N9 p.af 71 [] [.bU p.c 0] (fun l=>mr l&&decide (l.id<p.next)) fun y hy=>aem p y (h.lg y hy).ok
 have cW:bE prog 78 [uR p.past,.fn (.func 79) [] []] (bl (j5 (p.past.map (·.who)))):=by
  rw[xD];exact Q5 p.past _ [] [] (·.who) fun y _=>aek y
 have cP:=U9 p.past 81 [] [] qR fun y _=>aa7 y
 have cE:=YB (Jp (gY p)) (nL p);have cI:=aej p h.af;unfold j6 at hX;obtain⟨C,hC⟩:∃C,C=p.channels.all (qQ p):=⟨_,rfl⟩;rw[←hC] at hX;have eH:((List.map Ch.c p.channels).length:Int)=(p.channels.length:Int):=by rw[List.length_map]
 refine bN abm ?_;repeat' ((conv=>whnf);first|with_reducible apply uQ|with_reducible apply GL|with_reducible apply GN|((with_reducible apply fk)<;>intro hc<;>try exact aM)|((with_reducible apply And.intro);exact aG)|fail)
 refine⟨{k:Nat // k≤p.channels.length},fun⟨k,_⟩=>⟨[(1,.ptr 1002 0),(3,.aF 1003 0),(8,.pv (jL p.channels)),(9,.pv (ii p.channels.length)),(10,.pv (ii k))],1000000000,[(1002,.var (p.c.map .pv)),(1003,.arr 23 0 1 (((p.channels.take k).flatMap (·.af)).map dh))]⟩,fun⟨k,_⟩=>p.channels.length-k,⟨⟨0,by simp⟩,ak ?_⟩,?_⟩
 ·repeat' first
   |fail
   |with_reducible exact True.intro
   |with_reducible exact rfl
   |with_reducible exact ah _
   |((conv=>whnf);with_reducible apply And.intro)
   |((conv=>whnf);with_reducible exact True.intro)
   |exact rfl
   |exact fun h=>h
   |exact ah _
  all_goals try (conv=>whnf)
  all_goals first|exact eH|simp
 rintro⟨k,hk⟩
 by_cases hlt:k<p.channels.length
 ·have d0:decide ((k:Int)<(p.channels.length:Int))=true:=by simp only[kC];omega
  have eW:IntKind.i64.wrap ((k:Int)+1)=((k+1:Nat):Int):=by rw[aO (by omega) (by omega)];omega
  have hr:=cu Ch.c p.channels k hlt;have hle:=KC (fun c:Ch=>c.af) p.channels k hlt;unfold gY at hnm;repeat' ((conv=>whnf);first|with_reducible apply aK|((with_reducible apply fk)<;>intro hc<;>try exact aM)|((refine⟨_,hr,?_⟩))|(((with_reducible apply And.intro);focus (simp only[List.length_map] at *;omega)))|((with_reducible apply And.intro);exact aG)|fail)
  refine⟨⟨k+1,hlt⟩,dec_lt hlt,ak ?_⟩;repeat' first|((conv=>whnf);with_reducible apply And.intro)|exact aL|fail
  all_goals try (conv=>whnf)
  all_goals first
   |exact eW
   |(rw[Jq _ _ _ hlt,List.map_append];exact ah _)
 have hke:k=p.channels.length:=by omega
 subst hke;have d0:decide ((p.channels.length:Int)<(p.channels.length:Int))=false:=by simp
 have eT:((p.channels.take p.channels.length).flatMap (·.af)).map dh=(gY p).map dh:=by rw[List.take_length];rfl
 repeat' ((conv=>whnf);first|with_reducible apply aK|((with_reducible refine fk (fun hc=>?_) fun hc=>?_)<;>first|exact absurd hc (by decide)|(exfalso;simp only[*,reduceCtorEq,Bool.not_true,Bool.not_false] at hc;done)|simp only[Bool.not_eq_true',Bool.not_eq_false'] at hc|skip)|rewrite[eT]|rewrite[eH]|(apply fq;(conv=>whnf);refine⟨_,_,cB (cS) ?_,?_⟩;exact qi)|(apply aC;(conv=>whnf);refine⟨_,nA (zB p.version) ?_,?_⟩;exact qi)|(apply aC;(conv=>whnf);refine⟨_,qF _ _ _,?_⟩)|(apply aC;(conv=>whnf);refine⟨_,jC _ _ _,?_⟩)|(apply aC;(conv=>whnf);refine⟨_,cA,?_⟩)|(apply aC;(conv=>whnf);refine⟨_,cR,?_⟩)|(apply aC;(conv=>whnf);refine⟨_,cI,?_⟩)|(apply aC;(conv=>whnf);refine⟨_,cE,?_⟩)|((with_reducible apply And.intro);exact aG)|fail)
 all_goals try (focus (simp only[*,Bool.true_and,Bool.false_and,Bool.and_true,Bool.and_false,Bool.not_true,Bool.not_false,Bool.false_eq_true,↓reduceIte] at hX;subst hX;(repeat' first|((conv=>whnf);with_reducible apply And.intro)|exact aL|fail);(all_goals try (conv=>whnf));done))
 simp only[*,Bool.true_and,Bool.false_and,Bool.and_true,Bool.and_false,Bool.not_true,Bool.not_false,Bool.false_eq_true,↓reduceIte] at hX;rw[←hC] at hX;clear cS cR cA cE cI;refine⟨{k:Nat // k≤p.channels.length∧∀j (hj:j<p.channels.length),j<k→qQ p p.channels[j]=true},fun⟨k,_⟩=>⟨[(1,.ptr 1002 0),(61,.pv (ii p.channels.length)),(62,.pv (ii k))],1000000000,[(1002,.sF p.c)]⟩,fun⟨k,_⟩=>p.channels.length-k,⟨⟨0,by simp⟩,aas [1002] ?_⟩,?_⟩
 ·repeat' first
   |fail
   |with_reducible exact True.intro
   |with_reducible exact rfl
   |with_reducible exact ah _
   |((conv=>whnf);with_reducible apply And.intro)
   |((conv=>whnf);with_reducible exact True.intro)
   |exact rfl
   |exact fun h=>h
   |exact ah _
  all_goals try (conv=>whnf)
  all_goals trace_state
 rintro⟨k,hk,hbk⟩
 by_cases hlt:k<p.channels.length
 ·have d0:decide ((k:Int)<(p.channels.length:Int))=true:=by simp only[kC];omega
  have eW:IntKind.i64.wrap ((k:Int)+1)=((k+1:Nat):Int):=by rw[aO (by omega) (by omega)];omega
  obtain⟨q1,q2⟩:=adO hlt;have cK:=abk p ((k+1:Nat):Int) h q1;rw[q2] at cK;clear q1 q2;cases hq:qQ p p.channels[k] with
  | true=>
    rw[hq] at cK;have hg:∀j (hj:j<p.channels.length),j<k+1→qQ p p.channels[j]=true:=dS hbk fun _=>hq
    clear hq;repeat' ((conv=>whnf);first|with_reducible apply aK|((with_reducible apply fk)<;>intro hc<;>try exact iK)|rewrite[eW]|(apply aC;(conv=>whnf);refine⟨_,cK,?_⟩)|((with_reducible apply And.intro);exact aG)|fail)
    refine⟨⟨k+1,hlt,hg⟩,dec_lt hlt,ak ?_⟩;all_goals exact aL
  | false=>
    rw[hq] at cK;have hCf:C=false:=by
     rw[hC];simp only[List.all_eq_false];exact⟨_,List.getElem_mem hlt,by rw[hq];decide⟩
    rw[hCf,Bool.false_and] at hX;clear hq hC hCf;subst hX;repeat' ((conv=>whnf);first|with_reducible apply aK|((with_reducible apply fk)<;>intro hc<;>try exact iK)|rewrite[eW]|(apply aC;(conv=>whnf);refine⟨_,cK,?_⟩)|((with_reducible apply And.intro);exact aG)|fail)
    all_goals exact aL
 have hke:k=p.channels.length:=by omega
 subst hke;have d0:decide ((p.channels.length:Int)<(p.channels.length:Int))=false:=by simp
 have hCt:C=true:=by
  rw[hC,List.all_eq_true];exact tH hbk
 rw[hCt,Bool.true_and] at hX;clear hC hCt;repeat' ((conv=>whnf);first|with_reducible apply aK|((with_reducible apply fk)<;>intro hc<;>try exact aM)|(apply aC;(conv=>whnf);refine⟨_,cW,?_⟩)|(apply aC;(conv=>whnf);refine⟨_,cP,?_⟩)|((with_reducible apply And.intro);exact aG)|fail)
 all_goals
  simp only[*,Bool.true_and,Bool.false_and,Bool.and_true,Bool.and_false,Bool.false_eq_true,↓reduceIte] at hX;subst hX;all_goals exact aL
def qH (x:Pl):Bool:=decide (x.node≥1)&&(decide (x.node≤15)&&(decide (x.dB≥1)&&decide (x.dB≤4611686018427387903)))
theorem Ov:Mg prog 41 f41:=bZ func41
theorem F4 (x:Pl):bE prog 41 [.agg x.c] (bl (qH x)):=by
 refine PC.le ?_;refine bN Ov ?_;repeat' ((conv=>whnf);first|with_reducible apply aK|((with_reducible apply fk)<;>intro hc<;>try exact aM)|((with_reducible apply And.intro);exact aG)|fail)
 all_goals
  repeat' first|((conv=>whnf);with_reducible apply And.intro)|exact aL|fail
  all_goals try (conv=>whnf)
  unfold qH;simp_all
 all_goals omega
def fC:Int→List PV
 |1=>[ii 17,.fn (.func 124) [] []]
 |2=>[ii 19,.fn (.func 125) [] []]
 |3=>[ii 3,.fn (.func 126) [] []]
 |4=>[ii 195,.fn (.func 127) [] []]
 |5=>[ii 135,.fn (.func 128) [] []]
 |6=>[ii 143,.fn (.func 129) [] []]
 |7=>[ii 11,.fn (.func 130) [] []]
 |8=>[ii 263,.fn (.func 131) [] []]
 |9=>[ii 43,.fn (.func 132) [] []]
 |10=>[ii 43,.fn (.func 133) [] []]
 |11=>[ii 35,.fn (.func 134) [] []]
 |12=>[ii 516,.fn (.func 135) [] []]
 |_=>[ii 0,.sc .nilFunc]
theorem Ow:Mg prog 84 f84:=bZ func84
theorem gB:bE prog 84 [] (.agg ([ii 0,.sc .nilFunc]++fC 1++fC 2++fC 3++fC 4++fC 5++fC 6++fC 7++fC 8++fC 9++fC 10++fC 11++fC 12)):=by
 refine PC.le ?_;refine bN Ow ?_;repeat' ((conv=>whnf);first|with_reducible apply aK|((with_reducible apply fk)<;>intro hc<;>try exact aM)|((with_reducible apply And.intro);exact aG)|fail)
 all_goals
  all_goals exact aL
theorem iT:Mg prog 35 f35:=bZ func35
theorem YC (n:Int)(h:n<1∨12<n):bE prog 35 [ii n] (.agg [ii 0,.sc .nilFunc]):=by
 refine PC.le ?_;refine bN iT ?_;repeat' ((conv=>whnf);first|with_reducible apply aK|((with_reducible apply fk)<;>intro hc<;>try exact aM)|((with_reducible apply And.intro);exact aG)|fail)
 all_goals
  repeat' first|((conv=>whnf);with_reducible apply And.intro)|exact aL|fail
  all_goals try (conv=>whnf)
 all_goals simp_all
 all_goals omega
theorem F5:bE prog 35 [ii 1] (.agg (fC 1)):=by
 refine PC.le ?_;refine bN iT ?_;repeat' ((conv=>whnf);first|with_reducible apply aK|((with_reducible apply fk)<;>intro hc<;>try exact aM)|(apply aC;(conv=>whnf);refine⟨_,gB,?_⟩)|((with_reducible apply And.intro);exact aG)|fail)
 all_goals
  all_goals exact aL
theorem F6:bE prog 35 [ii 2] (.agg (fC 2)):=by
 refine PC.le ?_;refine bN iT ?_;repeat' ((conv=>whnf);first|with_reducible apply aK|((with_reducible apply fk)<;>intro hc<;>try exact aM)|(apply aC;(conv=>whnf);refine⟨_,gB,?_⟩)|((with_reducible apply And.intro);exact aG)|fail)
 all_goals
  all_goals exact aL
theorem F7:bE prog 35 [ii 3] (.agg (fC 3)):=by
 refine PC.le ?_;refine bN iT ?_;repeat' ((conv=>whnf);first|with_reducible apply aK|((with_reducible apply fk)<;>intro hc<;>try exact aM)|(apply aC;(conv=>whnf);refine⟨_,gB,?_⟩)|((with_reducible apply And.intro);exact aG)|fail)
 all_goals
  all_goals exact aL
theorem F8:bE prog 35 [ii 4] (.agg (fC 4)):=by
 refine PC.le ?_;refine bN iT ?_;repeat' ((conv=>whnf);first|with_reducible apply aK|((with_reducible apply fk)<;>intro hc<;>try exact aM)|(apply aC;(conv=>whnf);refine⟨_,gB,?_⟩)|((with_reducible apply And.intro);exact aG)|fail)
 all_goals
  all_goals exact aL
theorem F9:bE prog 35 [ii 5] (.agg (fC 5)):=by
 refine PC.le ?_;refine bN iT ?_;repeat' ((conv=>whnf);first|with_reducible apply aK|((with_reducible apply fk)<;>intro hc<;>try exact aM)|(apply aC;(conv=>whnf);refine⟨_,gB,?_⟩)|((with_reducible apply And.intro);exact aG)|fail)
 all_goals
  all_goals exact aL
theorem Ga:bE prog 35 [ii 6] (.agg (fC 6)):=by
 refine PC.le ?_;refine bN iT ?_;repeat' ((conv=>whnf);first|with_reducible apply aK|((with_reducible apply fk)<;>intro hc<;>try exact aM)|(apply aC;(conv=>whnf);refine⟨_,gB,?_⟩)|((with_reducible apply And.intro);exact aG)|fail)
 all_goals
  all_goals exact aL
theorem Gb:bE prog 35 [ii 7] (.agg (fC 7)):=by
 refine PC.le ?_;refine bN iT ?_;repeat' ((conv=>whnf);first|with_reducible apply aK|((with_reducible apply fk)<;>intro hc<;>try exact aM)|(apply aC;(conv=>whnf);refine⟨_,gB,?_⟩)|((with_reducible apply And.intro);exact aG)|fail)
 all_goals
  all_goals exact aL
theorem Gc:bE prog 35 [ii 8] (.agg (fC 8)):=by
 refine PC.le ?_;refine bN iT ?_;repeat' ((conv=>whnf);first|with_reducible apply aK|((with_reducible apply fk)<;>intro hc<;>try exact aM)|(apply aC;(conv=>whnf);refine⟨_,gB,?_⟩)|((with_reducible apply And.intro);exact aG)|fail)
 all_goals
  all_goals exact aL
theorem Gd:bE prog 35 [ii 9] (.agg (fC 9)):=by
 refine PC.le ?_;refine bN iT ?_;repeat' ((conv=>whnf);first|with_reducible apply aK|((with_reducible apply fk)<;>intro hc<;>try exact aM)|(apply aC;(conv=>whnf);refine⟨_,gB,?_⟩)|((with_reducible apply And.intro);exact aG)|fail)
 all_goals
  all_goals exact aL
theorem Cf:bE prog 35 [ii 10] (.agg (fC 10)):=by
 refine PC.le ?_;refine bN iT ?_;repeat' ((conv=>whnf);first|with_reducible apply aK|((with_reducible apply fk)<;>intro hc<;>try exact aM)|(apply aC;(conv=>whnf);refine⟨_,gB,?_⟩)|((with_reducible apply And.intro);exact aG)|fail)
 all_goals
  all_goals exact aL
theorem Cg:bE prog 35 [ii 11] (.agg (fC 11)):=by
 refine PC.le ?_;refine bN iT ?_;repeat' ((conv=>whnf);first|with_reducible apply aK|((with_reducible apply fk)<;>intro hc<;>try exact aM)|(apply aC;(conv=>whnf);refine⟨_,gB,?_⟩)|((with_reducible apply And.intro);exact aG)|fail)
 all_goals
  all_goals exact aL
theorem xN:bE prog 35 [ii 12] (.agg (fC 12)):=by
 refine PC.le ?_;refine bN iT ?_;repeat' ((conv=>whnf);first|with_reducible apply aK|((with_reducible apply fk)<;>intro hc<;>try exact aM)|(apply aC;(conv=>whnf);refine⟨_,gB,?_⟩)|((with_reducible apply And.intro);exact aG)|fail)
 all_goals
  all_goals exact aL
end Go.Proofs.YtiagceoepkaeoaaGreat.Tb
end
