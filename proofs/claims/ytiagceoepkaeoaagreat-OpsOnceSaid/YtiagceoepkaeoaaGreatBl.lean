/-
  Contracts of functions of the program and of the document, each for every input that its premises name.
-/
import Derived.Test.YtiagceoepkaeoaaGreatBh
set_option linter.unusedSectionVars false
set_option linter.unusedVariables false
set_option linter.unusedSimpArgs false
set_option maxRecDepth 100000
set_option maxHeartbeats 4000000
section
open Go Go.Proofs.Tryz Go.AX
namespace Go.Proofs.YtiagceoepkaeoaaGreat.Tb
theorem lm:Mg prog 6 f6:=bZ func6
theorem Oc.Zn (x:Oc):(!((x.code==x.code)&&((x.aY==x.aY)&&((x.at_==x.at_)&&((x.bA==x.bA)&&(x.owner==x.owner))))))=false:=by simp
theorem O5 {q:Pn}(hq:gF q){o:aV}(hm:jW o=true)(hB:ZK o){x:Oc}(hx:(⟨o.who,o.inc,o.n,x⟩:Pa)∈q.past){i n:Int}(h1:1≤i)(h2:i≤4611686018427387903)(h3:1≤n)(h4:n≤4611686018427387903)(h5:o.inc>i∨(o.inc=i∧o.n>n)) :
  bE prog 13 [.agg q.c,.agg ({ o with inc:=i,n:=n }:aV).c] (.dn [.agg q.c,.agg (ig 9).c]):=by
 have e:=UM (o:={ o with inc:=i,n:=n }) hq hx rfl h5 (UN hm h1 h2 h3 h4);have c:=iM hq (o:={ o with inc:=i,n:=n }) ⟨hB.fr,hB.bk,hB.sn⟩;rw[e] at c;exact c
theorem VW (n:Int)(l:List aV)(o:aV)(more:List aV)(h0:∀z∈l,0≤z.at_)(ho0:0≤o.at_)(hm0:∀z∈more,0≤z.at_):bE prog 6 [ii n,Tx l,.agg o.c,Tx more] (bl true):=by
 refine PC.le ?_;have cP:=wW n l h0;have cL:=lK o;cases hp:yK n l with
 | none=>
   rw[hp] at cP;simp only[Option.getD_none,Option.isSome_none] at cP;clear hp;refine bN lm ?_;repeat' ((conv=>whnf);first|with_reducible apply aK|((with_reducible apply fk)<;>intro hc<;>try exact aM)|(apply aC;(conv=>whnf);refine⟨_,cP,?_⟩)|(apply aC;(conv=>whnf);refine⟨_,bF,?_⟩)|((with_reducible apply And.intro);exact aG)|fail)
   all_goals exact aL
 |some p=>
 rw[hp] at cP;simp only[Option.getD_some,Option.isSome_some] at cP;have hok:=wX hp h0;clear hp;cases hlo:ja o with
 | true=>
   rw[hlo] at cL;clear hlo hok;refine bN lm ?_;repeat' ((conv=>whnf);first|with_reducible apply aK|((with_reducible apply fk)<;>intro hc<;>try exact aM)|(apply aC;(conv=>whnf);refine⟨_,cP,?_⟩)|(apply aC;(conv=>whnf);refine⟨_,cL,?_⟩)|(apply aC;(conv=>whnf);refine⟨_,bF,?_⟩)|((with_reducible apply And.intro);exact aG)|fail)
   all_goals exact aL
 |false=>
 have hB:=um hlo;rw[hlo] at cL;clear hlo;cases hlm:decide (((more.map aV.c).length:Int)>80) with
 | true=>
   clear hok hB;refine bN lm ?_;repeat' ((conv=>whnf);first|with_reducible apply aK|((with_reducible apply fk)<;>intro hc<;>try exact aM)|(apply aC;(conv=>whnf);refine⟨_,cP,?_⟩)|(apply aC;(conv=>whnf);refine⟨_,cL,?_⟩)|(apply aC;(conv=>whnf);refine⟨_,bF,?_⟩)|((with_reducible apply And.intro);exact aG)|fail)
   all_goals exact aL
 |false=>
 have Fh:more.length≤80:=by simp only[List.length_map,decide_eq_false_iff_not] at hlm;omega
 have cS:=GA p o hok.Dc hB;have cM:=ng o hB.fr hB.bk hB.sn;rw[ug] at cM;rw[hok.may] at cS;cases hmo:jW o with
 | false=>
   rw[hmo] at cM cS;simp only[Bool.true_and,Bool.false_and] at cS;clear hok hB Fh hmo;refine bN lm ?_;repeat' ((conv=>whnf);first|with_reducible apply aK|((with_reducible apply fk)<;>intro hc<;>try exact aM)|(apply aC;(conv=>whnf);refine⟨_,cP,?_⟩)|(apply aC;(conv=>whnf);refine⟨_,cL,?_⟩)|(apply aC;(conv=>whnf);refine⟨_,cS,?_⟩)|(apply aC;(conv=>whnf);refine⟨_,cM,?_⟩)|(apply aC;(conv=>whnf);refine⟨_,bF,?_⟩)|((with_reducible apply And.intro);exact aG)|fail)
   all_goals exact aL
 |true=>
 rw[hmo] at cM cS;simp only[Bool.true_and] at cS;cases hst:gJ p o with
 | true=>
   rw[hst] at cS;clear hok hB Fh hmo hst;refine bN lm ?_;repeat' ((conv=>whnf);first|with_reducible apply aK|((with_reducible apply fk)<;>intro hc<;>try exact aM)|(apply aC;(conv=>whnf);refine⟨_,cP,?_⟩)|(apply aC;(conv=>whnf);refine⟨_,cL,?_⟩)|(apply aC;(conv=>whnf);refine⟨_,cS,?_⟩)|(apply aC;(conv=>whnf);refine⟨_,cM,?_⟩)|(apply aC;(conv=>whnf);refine⟨_,bF,?_⟩)|((with_reducible apply And.intro);exact aG)|fail)
   all_goals exact aL
 |false=>
 rw[hst] at cS;have cA:=iM hok hB;have cE:=oV p (aS p o).1 hok.Dc;by_cases hne:(aS p o).1=p
 ·rw[show decide (p=(aS p o).1)=true from by rw[hne];simp] at cE;clear hok hB Fh hmo hst hne;generalize (aS p o).1=q1 at *;generalize (aS p o).2=x1 at *;refine bN lm ?_;repeat' ((conv=>whnf);first|with_reducible apply aK|((with_reducible apply fk)<;>intro hc<;>try exact aM)|(apply aC;(conv=>whnf);refine⟨_,cP,?_⟩)|(apply aC;(conv=>whnf);refine⟨_,cL,?_⟩)|(apply aC;(conv=>whnf);refine⟨_,cS,?_⟩)|(apply aC;(conv=>whnf);refine⟨_,cM,?_⟩)|(apply aC;(conv=>whnf);refine⟨_,cA,?_⟩)|(apply aC;(conv=>whnf);refine⟨_,cE,?_⟩)|(apply aC;(conv=>whnf);refine⟨_,bF,?_⟩)|((with_reducible apply And.intro);exact aG)|fail)
  all_goals exact aL
 rw[show decide (p=(aS p o).1)=false from by rw[decide_eq_false_iff_not];exact fun e=>hne e.symm] at cE;have hq1:=gQ hok ho0;have hx1:=(UL hne).1;have IW:=l7 hmo;clear hst hne hok;generalize (aS p o).1=q1 at *;generalize (aS p o).2=x at *;replace IW:=Hd.mk IW;replace hmo:=Hd.mk hmo;replace Fh:=Hd.mk Fh;replace hx1:=Hd.mk hx1;have V7:=Hd.mk hB;have ag1:=Hd.mk hq1;replace hm0:=Hd.mk hm0;clear hB hq1;refine bN lm ?_;repeat' ((conv=>whnf);first|with_reducible apply aK|((with_reducible apply fk)<;>intro hc<;>try exact aM)|(apply aC;(conv=>whnf);refine⟨_,cP,?_⟩)|(apply aC;(conv=>whnf);refine⟨_,cL,?_⟩)|(apply aC;(conv=>whnf);refine⟨_,cS,?_⟩)|(apply aC;(conv=>whnf);refine⟨_,cM,?_⟩)|(apply aC;(conv=>whnf);refine⟨_,cA,?_⟩)|(apply aC;(conv=>whnf);refine⟨_,cE,?_⟩)|(apply aC;(conv=>whnf);refine⟨_,bF,?_⟩)|((with_reducible apply And.intro);exact aG)|fail)
 refine⟨{z:Nat×Pn // z.1≤more.length∧gF z.2∧(⟨o.who,o.inc,o.n,x⟩:Pa)∈z.2.past},fun⟨z,_⟩=>⟨[(3,.pv (Tx more)),(6,.ptr 1006 0),(11,.ptr 1011 0),(12,.ptr 1012 0),(13,.pv (ii z.1))],1000000000,[(1006,.var (o.c.map .pv)),(1011,.var (z.2.c.map .pv)),(1012,.var (x.c.map .pv))]⟩,fun⟨z,_⟩=>more.length-z.1,⟨⟨(0,q1),Nat.zero_le _,ag1.out,hx1.out⟩,ak ?_⟩,?_⟩
 ·repeat' first
   |fail
   |with_reducible exact True.intro
   |with_reducible exact rfl
   |with_reducible exact ah _
   |((conv=>whnf);with_reducible apply And.intro)
   |((conv=>whnf);with_reducible exact True.intro)
   |exact rfl
   |exact fun h=>h
   |exact ah _
  all_goals try (conv=>whnf)
 rintro⟨⟨k,q⟩,hk,hq,NA⟩
 dsimp only at hk hq NA ⊢
 clear cP cL cS cM cA cE hx1 ag1;have VX:=Fh.out;by_cases hlt:k<more.length
 ·have d0:decide ((k:Int)<((more.map aV.c).length:Int))=true:=by simp only[List.length_map,decide_eq_true_eq];omega
  have eW:IntKind.i64.wrap ((k:Int)+1)=((k+1:Nat):Int):=by rw[aO (by omega) (by omega)];omega
  have hr:=cu aV.c more k hlt;have h0m:=hm0.out _ (List.getElem_mem hlt);have hrw:(List.map aV.c more)[k]? = some (more[k]).c:=hr;generalize more[k]=m at *;have cL:=lK m;cases hlo:ja m with
  | true=>
    rw[hlo] at cL;clear hq NA hlo VX Fh hlm hrw h0m;repeat' ((conv=>whnf);first|with_reducible apply aK|((with_reducible apply fk)<;>intro hc<;>try exact aM)|((refine⟨_,hr,?_⟩))|(apply aC;(conv=>whnf);refine⟨_,cL,?_⟩)|(apply aC;(conv=>whnf);refine⟨_,bF,?_⟩)|(((with_reducible apply And.intro);exact mg))|((with_reducible apply And.intro);exact aG)|fail)
    all_goals exact aL
  | false=>
    rw[hlo] at cL;cases hw:(m.who != o.who) with
    | false=>
      have hnx:(k+1≤more.length∧gF q∧(⟨o.who,o.inc,o.n,x⟩:Pa)∈q.past):=⟨hlt,hq,NA⟩;replace hnx:=Hd.mk hnx;clear hq NA hlo VX Fh hlm hrw h0m;repeat' ((conv=>whnf);first|with_reducible apply aK|((with_reducible apply fk)<;>intro hc<;>try exact aM)|((refine⟨_,hr,?_⟩))|(apply aC;(conv=>whnf);refine⟨_,cL,?_⟩)|(((with_reducible apply And.intro);exact mg))|((with_reducible apply And.intro);exact aG)|fail)
      refine⟨⟨(k+1,q),hnx.out⟩,dec_lt hlt,ak ?_⟩;repeat' first|((conv=>whnf);with_reducible apply And.intro)|exact aL|fail
      all_goals try (conv=>whnf)
      all_goals exact eW
    | true=>
      have cA:=iM hq (um hlo);have hnx:(k+1≤more.length∧gF (aS q m).1∧(⟨o.who,o.inc,o.n,x⟩:Pa)∈(aS q m).1.past):=⟨hlt,gQ hq h0m,QI NA (fun e=>by
       have e:o.who=m.who:=e;rw[←e] at hw;simp at hw)⟩
      replace hnx:=Hd.mk hnx;generalize (aS q m).1=q2 at *;generalize (aS q m).2=x2 at *;clear hq NA hlo VX Fh hlm hrw h0m;repeat' ((conv=>whnf);first|with_reducible apply aK|((with_reducible apply fk)<;>intro hc<;>try exact aM)|((refine⟨_,hr,?_⟩))|(apply aC;(conv=>whnf);refine⟨_,cL,?_⟩)|(apply aC;(conv=>whnf);refine⟨_,cA,?_⟩)|(((with_reducible apply And.intro);exact mg))|((with_reducible apply And.intro);exact aG)|fail)
      refine⟨⟨(k+1,q2),hnx.out⟩,dec_lt hlt,ak ?_⟩;repeat' first|((conv=>whnf);with_reducible apply And.intro)|exact aL|fail
      all_goals try (conv=>whnf)
      all_goals exact eW
 have hke:k=more.length:=by omega
 subst hke;have d0:decide ((more.length:Int)<((more.map aV.c).length:Int))=false:=by simp
 have cR:=iM hq V7.out;rw[Db hq NA hmo.out] at cR;have cE:=oV q q hq.Dc;rw[show decide (q=q)=true from by simp] at cE;have cO:=nQ o V7.out.fr V7.out.bk V7.out.sn;have e1:=Oc.Zn x;have oo:=IW.out;have eN:IntKind.u64.wrap (o.n-1)=o.n-1:=by have:=oo.n1;have:=oo.n2;exact vN (by omega) (by omega)
 have eI:IntKind.u64.wrap (o.inc-1)=o.inc-1:=by have:=oo.i1;have:=oo.i2;exact vN (by omega) (by omega)
 have n1:=oo.n1;have n2:=oo.n2;have i1:=oo.i1;have i2:=oo.i2;by_cases hn:o.n=1
 ·have b1:(IntKind.u64.wrap (o.n-1)==0)=true:=by rw[eN,beq_iff_eq];omega
  by_cases hi:o.inc=1
  ·have b2:(IntKind.u64.wrap (o.inc-1)==0)=true:=by rw[eI,beq_iff_eq];omega
   clear hn hi eN eI n1 n2 i1 i2 oo hq NA hlt hk Fh VX hlm;repeat' ((conv=>whnf);first|with_reducible apply aK|((with_reducible apply fk)<;>intro hc<;>try exact iK)|(apply aC;(conv=>whnf);refine⟨_,cR,?_⟩)|(apply aC;(conv=>whnf);refine⟨_,cE,?_⟩)|(apply aC;(conv=>whnf);refine⟨_,cO,?_⟩)|(apply aC;(conv=>whnf);refine⟨_,bF,?_⟩)|((with_reducible apply And.intro);exact aG)|fail)
   all_goals exact aL
  have b2:(IntKind.u64.wrap (o.inc-1)==0)=false:=by rw[eI,beq_eq_false_iff_ne];omega
  have cX:=O5 hq hmo.out V7.out NA (i:=IntKind.u64.wrap (o.inc-1)) (n:=1) (by omega) (by omega) (by omega) (by omega) (.inl (by omega));clear hn hi eN eI n1 n2 i1 i2 oo hq NA hlt hk Fh VX hlm;repeat' ((conv=>whnf);first|with_reducible apply aK|((with_reducible apply fk)<;>intro hc<;>try exact iK)|(apply aC;(conv=>whnf);refine⟨_,cR,?_⟩)|(apply aC;(conv=>whnf);refine⟨_,cE,?_⟩)|(apply aC;(conv=>whnf);refine⟨_,cO,?_⟩)|(apply aC;(conv=>whnf);refine⟨_,cX,?_⟩)|(apply aC;(conv=>whnf);refine⟨_,bF,?_⟩)|((with_reducible apply And.intro);exact aG)|fail)
  all_goals exact aL
 have b1:(IntKind.u64.wrap (o.n-1)==0)=false:=by rw[eN,beq_eq_false_iff_ne];omega
 have b2:(o.inc==0)=false:=by rw[beq_eq_false_iff_ne];omega
 have cX:=O5 hq hmo.out V7.out NA (i:=o.inc) (n:=IntKind.u64.wrap (o.n-1)) (by omega) (by omega) (by omega) (by omega) (.inr ⟨rfl,by omega⟩);clear hn eN eI n1 n2 i1 i2 oo hq NA hlt hk Fh VX hlm;repeat' ((conv=>whnf);first|with_reducible apply aK|((with_reducible apply fk)<;>intro hc<;>try exact iK)|(apply aC;(conv=>whnf);refine⟨_,cR,?_⟩)|(apply aC;(conv=>whnf);refine⟨_,cE,?_⟩)|(apply aC;(conv=>whnf);refine⟨_,cO,?_⟩)|(apply aC;(conv=>whnf);refine⟨_,cX,?_⟩)|(apply aC;(conv=>whnf);refine⟨_,bF,?_⟩)|((with_reducible apply And.intro);exact aG)|fail)
 all_goals exact aL
end Go.Proofs.YtiagceoepkaeoaaGreat.Tb
end
