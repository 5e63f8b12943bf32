/-
  Contracts of functions of the program and of the document, each for every input that its premises name.
-/
import Derived.Test.YtiagceoepkaeoaaGreatBh
set_option linter.unusedSectionVars false
set_option linter.unusedVariables false
set_option linter.unusedSimpArgs false
set_option maxRecDepth 100000
set_option maxHeartbeats 4000000
section
open Go Go.Proofs.Tryz Go.AX
namespace Go.Proofs.YtiagceoepkaeoaaGreat.Tb
theorem kR:Mg prog 5 f5:=bZ func5
theorem LD (n:Int)(l:List aV)(o:aV)(h0:∀x∈l,0≤x.at_):bE prog 5 [ii n,Tx l,.agg o.c] (bl true):=by
 refine PC.le ?_;have cP:=wW n l h0;have cL:=lK o;cases hp:yK n l with
 | none=>
   rw[hp] at cP;simp only[Option.getD_none,Option.isSome_none] at cP;clear hp;refine bN kR ?_;repeat' ((conv=>whnf);first|with_reducible apply aK|((with_reducible apply fk)<;>intro hc<;>try exact aM)|(apply aC;(conv=>whnf);refine⟨_,cP,?_⟩)|(apply aC;(conv=>whnf);refine⟨_,bF,?_⟩)|((with_reducible apply And.intro);exact aG)|fail)
   all_goals exact aL
 | some p=>
   rw[hp] at cP;simp only[Option.getD_some,Option.isSome_some] at cP;have hok:=wX hp h0;cases hl:ja o with
   | true=>
     rw[hl] at cL;clear hp hl hok;refine bN kR ?_;repeat' ((conv=>whnf);first|with_reducible apply aK|((with_reducible apply fk)<;>intro hc<;>try exact aM)|(apply aC;(conv=>whnf);refine⟨_,cP,?_⟩)|(apply aC;(conv=>whnf);refine⟨_,cL,?_⟩)|(apply aC;(conv=>whnf);refine⟨_,bF,?_⟩)|((with_reducible apply And.intro);exact aG)|fail)
     all_goals exact aL
   | false=>
     have hB:=um hl;rw[hl] at cL;have cA:=iM hok hB;by_cases hc0:(aS p o).2.code=0
     ·have b1:((aS p o).2.code==0)=true:=by simpa using hc0
      clear hp hl hok hB hc0;generalize aS p o=r at *;refine bN kR ?_;repeat' ((conv=>whnf);first|with_reducible apply aK|((with_reducible apply fk)<;>intro hc<;>try exact aM)|(apply aC;(conv=>whnf);refine⟨_,cP,?_⟩)|(apply aC;(conv=>whnf);refine⟨_,cL,?_⟩)|(apply aC;(conv=>whnf);refine⟨_,cA,?_⟩)|(apply aC;(conv=>whnf);refine⟨_,bF,?_⟩)|((with_reducible apply And.intro);exact aG)|fail)
      all_goals exact aL
     have b1:((aS p o).2.code==0)=false:=by simpa using hc0
     obtain⟨f1,f2⟩:=Ia hok hc0;have hpb:=hok.Dc;have hpp:=hok.vW;have cS:=oV p p hpb;rw[show decide (p=p)=true from by simp] at cS;obtain⟨v,pa,hq⟩:∃v pa,(aS p o).1=⟨v,p.next,p.channels,p.af,pa⟩:=by
      refine⟨(aS p o).1.version,(aS p o).1.past,?_⟩;generalize (aS p o).1=q at f2;obtain⟨_,_,_,_,_⟩:=q;obtain⟨_,_,_,_,_⟩:=p;simp only[Pn.mk.injEq] at f2 ⊢;exact⟨trivial,f2.2.1,f2.2.2.1,f2.2.2.2.1,trivial⟩
     rw[hq] at f1 cA;dsimp only at f1
     have hw:IntKind.i64.wrap (((p.past.map Pa.c).length:Int)+1)=((p.past.map Pa.c).length:Int)+1:=by
      rw[aO (by omega) (by simp only[List.length_map];omega)]
     clear hp hl hok hB hc0 f2 hq hpb;generalize (aS p o).2=out at *;rcases f1 with f1|⟨f1,f3,f4⟩
     ·subst f1;obtain⟨v,pn,pc,pl,pp⟩:=p;dsimp only at *
      have b2:(v != v)=false:=by simp
      refine bN kR ?_;repeat' ((conv=>whnf);first|with_reducible apply aK|((with_reducible apply fk)<;>intro hc<;>try exact aM)|(apply aC;(conv=>whnf);refine⟨_,cP,?_⟩)|(apply aC;(conv=>whnf);refine⟨_,cL,?_⟩)|(apply aC;(conv=>whnf);refine⟨_,cA,?_⟩)|(apply aC;(conv=>whnf);refine⟨_,cS,?_⟩)|(apply aC;(conv=>whnf);refine⟨_,bF,?_⟩)|((with_reducible apply And.intro);exact aG)|fail)
      all_goals exact aL
     subst f1;have b3:(dO p.version 1 != dO p.version 1)=false:=by simp
     have b4:decide (((pa.map Pa.c).length:Int)<((p.past.map Pa.c).length:Int))=false:=by simp only[List.length_map,decide_eq_false_iff_not];omega
     have b5:decide (((pa.map Pa.c).length:Int)>((p.past.map Pa.c).length:Int)+1)=false:=by simp only[List.length_map,decide_eq_false_iff_not];omega
     obtain⟨v,pn,pc,pl,pp⟩:=p;dsimp only at *
     have eU:∀a b:Int,IntKind.u64.wrap (a+b)=dO a b:=fun _ _=>rfl
     clear f3 f4 hpp;refine bN kR ?_;repeat' ((conv=>whnf);first|with_reducible apply aK|((with_reducible apply fk)<;>intro hc<;>try exact aM)|rewrite[eU]|rewrite[hw]|(apply aC;(conv=>whnf);refine⟨_,cP,?_⟩)|(apply aC;(conv=>whnf);refine⟨_,cL,?_⟩)|(apply aC;(conv=>whnf);refine⟨_,cA,?_⟩)|(apply aC;(conv=>whnf);refine⟨_,cS,?_⟩)|(apply aC;(conv=>whnf);refine⟨_,bF,?_⟩)|((with_reducible apply And.intro);exact aG)|fail)
     all_goals exact aL
end Go.Proofs.YtiagceoepkaeoaaGreat.Tb
end
