/-
  Contracts of functions of the program and of the document, each for every input that its premises name.
-/
import Derived.Test.YtfoiekbkkbnpkaaGreatBa
import Derived.Test.YtfoiekbkkbnpkaaGreatAf
import Derived.WalkKit
import Derived.Test.YtfoiekbkkbnpkaaGreatProg
set_option linter.unusedSectionVars false
set_option linter.unusedVariables false
set_option linter.unusedSimpArgs false
set_option maxRecDepth 100000
set_option maxHeartbeats 4000000
section
open Go Go.Proofs.Tryz Go.AX
namespace Go.Proofs.YtfoiekbkkbnpkaaGreat.Tb
theorem bP:bE prog 14 f14:=eZ func14
theorem dw:bE prog 17 f17:=eZ func17
theorem Gj (c:Cp)(hf:fB c.l.au)(hn:gL c.n)(hs:(setOf c.l.au c.l.w c.n).length≤1000000):gY prog 58 [.agg (fA c (.pv (gH c.l.au)) (.aG 1 0) (.pv (xC c.body)))] [(1,.arr 27 0 2 (c.none.map Pl.c))] (.aG 1001 0) [(1,.arr 27 0 2 (c.none.map Pl.c)),(1001,.arr 27 0 2 ((others c).map Pl.c))]:=by
 have hse:=zH c.l.au c.l.w c.n hf hn;unfold others;obtain⟨st,hst⟩:∃st,setOf c.l.au c.l.w c.n=st:=⟨_,rfl⟩;rw[hst] at hse hs ⊢;clear hst;refine jY uw ?_;repeat' ((conv=>whnf);first|with_reducible apply aO|((with_reducible apply fk)<;>intro hc<;>try exact bQ)|(apply aX;refine⟨_,hse,?_⟩)|refine aP ?_|fail)
 refine⟨{k:Nat // k≤st.length},fun⟨k,_⟩=>⟨[(1,.ptr 1001 0),(3,.aG 1003 0),(4,.pv (iX st)),(5,.pv (ii k))],1000000000,[(1,.arr 27 0 2 (c.none.map Pl.c)),(1001,.var (fA c (.pv (gH c.l.au)) (.aG 1 0) (.pv (xC c.body)))),(1003,.arr 27 0 2 (((st.take k).filter fun p=>!(p==c.from_)).map Pl.c))]⟩,fun⟨k,_⟩=>st.length-k,⟨⟨0,Nat.zero_le _⟩,aA ?_⟩,?_⟩
 ·all_goals exact aL
 rintro⟨k,hk⟩
 dsimp only
 by_cases hlt:k<st.length
 rotate_left
 ·have hke:k=st.length:=by omega
  subst hke;have d0:decide ((st.length:Int)<((st.map Pl.c).length:Int))=false:=by simp
  rw[List.take_length];repeat' ((conv=>whnf);first|with_reducible apply aO|((with_reducible apply fk)<;>intro hc<;>try exact cu)|refine aP ?_|fail)
  refine⟨_,_,⟨rfl,rfl⟩,?_⟩;all_goals exact aL
 have d0:decide ((k:Int)<((st.map Pl.c).length:Int))=true:=by simp only[jg,l9];omega
 have eW:IntKind.i64.wrap ((k:Int)+1)=((k+1:Nat):Int):=by rw[bI (by omega) (by omega)];omega
 have hr:=eD Pl.c st k hlt;have hfs:=jE (fun p=>!(p==c.from_)) st k hlt;have hfl:=List.length_filter_le (fun p=>!(p==c.from_)) (st.take k);have htl:(st.take k).length=k:=by rw[List.length_take];omega
 have hbq:=xH st[k] c.from_;obtain⟨y,hy⟩:∃y,st[k]=y:=⟨_,rfl⟩;rw[hy] at hr hfs hbq;clear hy hse;cases e1:(y==c.from_) with
 | true=>
   rw[e1] at hbq hfs;simp only[Bool.not_true,Bool.false_eq_true,↓reduceIte,List.append_nil] at hfs;replace hfs:=Hd.mk hfs;clear e1;simp only[Pl.c] at hr;repeat' ((conv=>whnf);first|with_reducible apply aO|((with_reducible apply fk)<;>intro hc<;>try exact cu)|((refine⟨_,hr,?_⟩))|refine aP ?_|fail)
   refine⟨⟨k+1,hlt⟩,dec_lt hlt,aA ?_⟩;dsimp only
   rw[hfs.out];repeat' first|apply And.intro|exact aL|fail
   all_goals try (conv=>whnf)
   all_goals exact eW
 | false=>
   rw[e1] at hbq hfs;simp only[Bool.not_false,↓reduceIte] at hfs;replace hfs:=Hd.mk hfs;clear e1;simp only[Pl.c] at hr;repeat' ((conv=>whnf);first|with_reducible apply aO|((with_reducible apply fk)<;>intro hc<;>try exact cu)|((refine⟨_,hr,?_⟩))|(((with_reducible apply And.intro);focus (simp only[jg,tF,uX];omega)))|refine aP ?_|fail)
   refine⟨⟨k+1,hlt⟩,dec_lt hlt,aA ?_⟩;dsimp only
   rw[hfs.out,List.map_append];repeat' first|apply And.intro|exact aL|fail
   all_goals try (conv=>whnf)
   all_goals first
    |exact eW
    |(refine gU (bH _) ?_;(repeat' first|apply And.intro|exact aL|fail);(all_goals try (conv=>whnf)))
    |skip
theorem LQ (c:Cp)(now:Int)(r:Rs)(h:wL c)(hb:r.body.length≤5000) :
  dH prog 14 [.agg c.c,uu now,.agg r.c] (.fF [.agg (takeC c now r).1.c,BG (takeC c now r).2]):=by
 refine PC.le ?_;have hO:=zG c h;have hsl:(setOf c.l.au c.l.w c.n).length≤1000000:=Nat.le_trans (lH h.fb _ _) (by decide);cases q1:(r.bO != c.l.id) with
 | true=>
   have e:takeC c now r=(c,[]):=by unfold takeC;rw[q1];rfl
   rw[e];refine dA bP ?_;repeat' ((conv=>whnf);first|with_reducible apply aO|((with_reducible apply fk)<;>intro hc<;>try exact cu)|(apply aX;refine⟨_,ai (hO) ?_,?_⟩;exact aZ)|refine aP ?_|fail)
   all_goals exact aL
 |false=>
 cases q2:(r.n != c.n) with
 | true=>
   have e:takeC c now r=(c,[]):=by unfold takeC;rw[q1,q2];rfl
   rw[e];refine dA bP ?_;repeat' ((conv=>whnf);first|with_reducible apply aO|((with_reducible apply fk)<;>intro hc<;>try exact cu)|(apply aX;refine⟨_,ai (hO) ?_,?_⟩;exact aZ)|refine aP ?_|fail)
   all_goals exact aL
 |false=>
 cases q3:(r.dz != 0) with
 | true=>
   have e:takeC c now r=(c,[]):=by unfold takeC;rw[q1,q2,q3];rfl
   rw[e];refine dA bP ?_;repeat' ((conv=>whnf);first|with_reducible apply aO|((with_reducible apply fk)<;>intro hc<;>try exact cu)|(apply aX;refine⟨_,ai (hO) ?_,?_⟩;exact aZ)|refine aP ?_|fail)
   all_goals exact aL
 |false=>
 cases p1:(c.phase==1) with
 | true=>
   have p2:(c.phase==2)=false:=by rw[beq_eq_false_iff_ne];rw[beq_iff_eq] at p1;omega
   cases g3:(r.kind==3) with
   | false=>
     have e:takeC c now r=(c,[]):=by unfold takeC;rw[q1,q2,q3,p1,g3,p2];rfl
     rw[e];refine dA bP ?_;repeat' ((conv=>whnf);first|with_reducible apply aO|((with_reducible apply fk)<;>intro hc<;>try exact cu)|(apply aX;refine⟨_,ai (hO) ?_,?_⟩;exact aZ)|refine aP ?_|fail)
     all_goals exact aL
   |true=>
   have Jg:=wM c h.fr h.n hsl;have hin:=qE (others c) r.from_.node r.from_.aM;rw[show ((others c).any fun y=>y==(⟨r.from_.node,r.from_.aM⟩:Pl))=(others c).any (· == r.from_) from rfl] at hin;cases io:(others c).any (· == r.from_) with
   | false=>
     rw[io] at hin;have e:takeC c now r=(c,[]):=by unfold takeC;rw[q1,q2,q3,p1,g3,io,p2];rfl
     rw[e];refine dA bP ?_;repeat' ((conv=>whnf);first|with_reducible apply aO|((with_reducible apply fk)<;>intro hc<;>try exact cu)|(apply aX;refine⟨_,ai (hO) ?_,?_⟩;exact aZ)|(apply aX;refine⟨_,ai (Jg) ?_,?_⟩;exact aZ)|(apply aX;refine⟨_,ai (hin) ?_,?_⟩;exact aZ)|refine aP ?_|fail)
     all_goals exact aL
   |true=>
   rw[io] at hin;cases c0:(r.code==0) with
   | true=>
     have e:takeC c now r=iC { c with phase:=2,body:=r.body } now:=by unfold takeC;rw[q1,q2,q3,p1,g3,io,c0];rfl
     rw[e];have fI:=zI { c with phase:=2,body:=r.body } now h.fr h.n hsl (by simp only;omega);clear e;generalize iC { c with phase:=2,body:=r.body } now=y at *;refine dA bP ?_;repeat' ((conv=>whnf);first|with_reducible apply aO|((with_reducible apply fk)<;>intro hc<;>try exact cu)|(apply aX;refine⟨_,ai (hO) ?_,?_⟩;exact aZ)|(apply aX;refine⟨_,ai (Jg) ?_,?_⟩;exact aZ)|(apply aX;refine⟨_,ai (hin) ?_,?_⟩;exact aZ)|(apply aX;refine⟨_,ai (fI) ?_,?_⟩;exact aZ)|(((with_reducible apply And.intro);focus (simp only[jg,tF,uX];omega)))|refine aP ?_|fail)
     all_goals exact aL
   |false=>
   cases c3:(r.code==3) with
   | false=>
     have e:takeC c now r=(c,[]):=by unfold takeC;rw[q1,q2,q3,p1,g3,io,c0,c3];rfl
     rw[e];refine dA bP ?_;repeat' ((conv=>whnf);first|with_reducible apply aO|((with_reducible apply fk)<;>intro hc<;>try exact cu)|(apply aX;refine⟨_,ai (hO) ?_,?_⟩;exact aZ)|(apply aX;refine⟨_,ai (Jg) ?_,?_⟩;exact aZ)|(apply aX;refine⟨_,ai (hin) ?_,?_⟩;exact aZ)|refine aP ?_|fail)
     all_goals exact aL
   |true=>
   have hi2:=qE c.none r.from_.node r.from_.aM;rw[show (c.none.any fun y=>y==(⟨r.from_.node,r.from_.aM⟩:Pl))=c.none.any (· == r.from_) from rfl] at hi2;cases no:c.none.any (· == r.from_) with
   | true=>
     rw[no] at hi2;have e:takeC c now r=(c,[]):=by unfold takeC;rw[q1,q2,q3,p1,g3,io,c0,c3,no];rfl
     rw[e];refine dA bP ?_;repeat' ((conv=>whnf);first|with_reducible apply aO|((with_reducible apply fk)<;>intro hc<;>try exact cu)|(apply aX;refine⟨_,ai (hO) ?_,?_⟩;exact aZ)|(apply aX;refine⟨_,ai (Jg) ?_,?_⟩;exact aZ)|(apply aX;refine⟨_,ai (hin) ?_,?_⟩;exact aZ)|(apply aX;refine⟨_,ai (hi2) ?_,?_⟩;exact aZ)|refine aP ?_|fail)
     all_goals exact aL
   | false=>
     rw[no] at hi2;have e:takeC c now r=({ c with none:=c.none++[r.from_] },[]):=by unfold takeC;rw[q1,q2,q3,p1,g3,io,c0,c3,no];rfl
     rw[e];have hON:=LX c h;have hnl:=h.no;have ZV:=Gj c h.fr h.n hsl;refine dA bP ?_;repeat' ((conv=>whnf);first|with_reducible apply aO|((with_reducible apply fk)<;>intro hc<;>try exact cu)|(apply dV;refine⟨_,_,aW (hON) ?_,?_⟩;exact aZ)|(apply dV;refine⟨_,_,ZV,?_⟩)|(apply aX;refine⟨_,ai (hin) ?_,?_⟩;exact aZ)|(apply aX;refine⟨_,ai (hi2) ?_,?_⟩;exact aZ)|(((with_reducible apply And.intro);focus (simp only[jg,tF,uX];omega)))|refine aP ?_|fail)
     repeat' first|apply And.intro|exact aL|fail
     all_goals try (conv=>whnf)
     all_goals first
      |(rw[List.map_append];refine gU (bH _) ?_;(repeat' first|apply And.intro|exact aL|fail);(all_goals try (conv=>whnf)))
      |skip
 |false=>
 cases p2:(c.phase==2) with
 | false=>
   have e:takeC c now r=(c,[]):=by unfold takeC;rw[q1,q2,q3,p1,p2];rfl
   rw[e];refine dA bP ?_;repeat' ((conv=>whnf);first|with_reducible apply aO|((with_reducible apply fk)<;>intro hc<;>try exact cu)|(apply aX;refine⟨_,ai (hO) ?_,?_⟩;exact aZ)|refine aP ?_|fail)
   all_goals exact aL
 |true=>
 cases g1:(r.kind==1) with
 | false=>
   have e:takeC c now r=(c,[]):=by unfold takeC;rw[q1,q2,q3,p1,p2,g1];rfl
   rw[e];refine dA bP ?_;repeat' ((conv=>whnf);first|with_reducible apply aO|((with_reducible apply fk)<;>intro hc<;>try exact cu)|(apply aX;refine⟨_,ai (hO) ?_,?_⟩;exact aZ)|refine aP ?_|fail)
   all_goals exact aL
 |true=>
 have hT:=xH r.from_ c.to;cases nd:(r.from_.node==c.to.node) with
 | false=>
   have nB:(r.from_.node==c.to.node&&r.from_.aM==c.to.aM)=false:=by rw[nd];rfl
   have e:takeC c now r=(c,[]):=by unfold takeC;rw[q1,q2,q3,p1,p2,g1,nd];rfl
   rw[e];clear hT e;cases c0:(r.code==0) with
   | true=>
     have c2:(r.code==2)=false:=by rw[beq_eq_false_iff_ne];rw[beq_iff_eq] at c0;omega
     have c4:(r.code==4)=false:=by rw[beq_eq_false_iff_ne];rw[beq_iff_eq] at c0;omega
     clear nd;refine dA bP ?_;repeat' ((conv=>whnf);first|with_reducible apply aO|((with_reducible apply fk)<;>intro hc<;>try exact cu)|(apply aX;refine⟨_,ai (hO) ?_,?_⟩;exact aZ)|refine aP ?_|fail)
     all_goals exact aL
   |false=>
   cases c2:(r.code==2) with
   | true=>
     have c4:(r.code==4)=false:=by rw[beq_eq_false_iff_ne];rw[beq_iff_eq] at c2;omega
     clear nd;refine dA bP ?_;repeat' ((conv=>whnf);first|with_reducible apply aO|((with_reducible apply fk)<;>intro hc<;>try exact cu)|(apply aX;refine⟨_,ai (hO) ?_,?_⟩;exact aZ)|refine aP ?_|fail)
     all_goals exact aL
   |false=>
   clear nB;refine dA bP ?_;repeat' ((conv=>whnf);first|with_reducible apply aO|((with_reducible apply fk)<;>intro hc<;>try exact cu)|(apply aX;refine⟨_,ai (hO) ?_,?_⟩;exact aZ)|refine aP ?_|fail)
   all_goals exact aL
 |true=>
 cases sd:(r.from_.aM==c.to.aM) with
 | false=>
   rw[nd,sd] at hT;have hT:(r.from_==c.to)=false:=hT.symm;have nB:(r.from_.node==c.to.node&&r.from_.aM==c.to.aM)=false:=by rw[nd,sd];rfl
   cases c4:(r.code==4) with
   | true=>
     have e:takeC c now r=({ c with phase:=4 },[]):=by unfold takeC;rw[q1,q2,q3,p1,p2,g1,nd,hT,c4];cases (r.code==0)<;>rfl
     rw[e];have c0:(r.code==0)=false:=by rw[beq_eq_false_iff_ne];rw[beq_iff_eq] at c4;omega
     have c2:(r.code==2)=false:=by rw[beq_eq_false_iff_ne];rw[beq_iff_eq] at c4;omega
     clear hT e nB;refine dA bP ?_;repeat' ((conv=>whnf);first|with_reducible apply aO|((with_reducible apply fk)<;>intro hc<;>try exact cu)|(apply aX;refine⟨_,ai (hO) ?_,?_⟩;exact aZ)|refine aP ?_|fail)
     all_goals exact aL
   | false=>
     have e:takeC c now r=(c,[]):=by unfold takeC;rw[q1,q2,q3,p1,p2,g1,nd,hT,c4];cases (r.code==0)<;>cases (r.code==2)<;>rfl
     rw[e];clear hT e nd sd;refine dA bP ?_;repeat' ((conv=>whnf);first|with_reducible apply aO|((with_reducible apply fk)<;>intro hc<;>try exact cu)|(apply aX;refine⟨_,ai (hO) ?_,?_⟩;exact aZ)|refine aP ?_|fail)
     all_goals exact aL
 | true=>
   rw[nd,sd] at hT;have hT:(r.from_==c.to)=true:=hT.symm;have nB:(r.from_.node==c.to.node&&r.from_.aM==c.to.aM)=true:=by rw[nd,sd];rfl
   cases c0:(r.code==0) with
   | true=>
     have e:takeC c now r=y8 c now:=by unfold takeC;rw[q1,q2,q3,p1,p2,g1,nd,hT,c0];rfl
     rw[e];have CS:=QW c now h.cl h.fr h.n (fun n=>Nat.le_trans (lH h.fb _ n) (by decide));clear e hT nd sd;generalize y8 c now=y at *;refine dA bP ?_;repeat' ((conv=>whnf);first|with_reducible apply aO|((with_reducible apply fk)<;>intro hc<;>try exact cu)|(apply aX;refine⟨_,ai (hO) ?_,?_⟩;exact aZ)|(apply aX;refine⟨_,ai (CS) ?_,?_⟩;exact aZ)|refine aP ?_|fail)
     all_goals exact aL
   |false=>
   cases c2:(r.code==2) with
   | true=>
     have e:takeC c now r=({ c with phase:=4 },[]):=by unfold takeC;rw[q1,q2,q3,p1,p2,g1,nd,hT,c0,c2];cases (r.code==4)<;>rfl
     rw[e];clear hT e nd sd;refine dA bP ?_;repeat' ((conv=>whnf);first|with_reducible apply aO|((with_reducible apply fk)<;>intro hc<;>try exact cu)|(apply aX;refine⟨_,ai (hO) ?_,?_⟩;exact aZ)|refine aP ?_|fail)
     all_goals exact aL
   |false=>
   cases c4:(r.code==4) with
   | true=>
     have e:takeC c now r=({ c with phase:=4 },[]):=by unfold takeC;rw[q1,q2,q3,p1,p2,g1,nd,hT,c0,c2,c4];rfl
     rw[e];clear hT;refine dA bP ?_;repeat' ((conv=>whnf);first|with_reducible apply aO|((with_reducible apply fk)<;>intro hc<;>try exact cu)|(apply aX;refine⟨_,ai (hO) ?_,?_⟩;exact aZ)|refine aP ?_|fail)
     all_goals exact aL
   | false=>
     have e:takeC c now r=(c,[]):=by unfold takeC;rw[q1,q2,q3,p1,p2,g1,nd,hT,c0,c2,c4];rfl
     rw[e];clear hT;refine dA bP ?_;repeat' ((conv=>whnf);first|with_reducible apply aO|((with_reducible apply fk)<;>intro hc<;>try exact cu)|(apply aX;refine⟨_,ai (hO) ?_,?_⟩;exact aZ)|refine aP ?_|fail)
     all_goals exact aL
theorem qF (now t k:Int)(hn:gL now)(ht:gL t)(hk:1≤k):(decide (now≥t)=false∧decide (iD now t≥k)=false)∨(decide (now≥t)=true∧decide (IntKind.u64.wrap (now-t)≥k)=decide (iD now t≥k)):=by
 obtain⟨n0,n1⟩:=hn;obtain⟨b0,b1⟩:=ht;unfold iD;by_cases hlt:now<t
 ·left
  rw[if_pos hlt];simp only[Gu];omega
 right
 rw[if_neg hlt,lU (by omega) (by omega)];exact⟨by rw[decide_eq_true_eq];omega,rfl⟩
theorem LU (c:Cp)(now:Int)(h:wL c)(hn:gL now)(h1:gL c.born)(h2:gL c.since) :
  dH prog 17 [.agg c.c,uu now] (.fF [.agg (dB c now).1.c,BG (dB c now).2]):=by
 refine PC.le ?_;have hO:=zG c h;have hsl:(setOf c.l.au c.l.w c.n).length≤1000000:=Nat.le_trans (lH h.fb _ _) (by decide);have fI:=zI c now h.fr h.n hsl (by have:=h.bo;omega);cases p1:(c.phase != 1) with
 | true=>
   cases p2:(c.phase != 2) with
   | true=>
     have e:dB c now=(c,[]):=by unfold dB;rw[p1,p2];rfl
     rw[e];clear fI;refine dA dw ?_;repeat' ((conv=>whnf);first|with_reducible apply aO|((with_reducible apply fk)<;>intro hc<;>try exact cu)|(apply aX;refine⟨_,ai (hO) ?_,?_⟩;exact aZ)|refine aP ?_|fail)
     all_goals exact aL
   | false=>
     have hb:=qF now c.born 9 hn h1 (by omega);have hs:=qF now c.since 3 hn h2 (by omega);cases e1:decide (iD now c.born≥9) with
     | true=>
       have e:dB c now=({ c with phase:=4 },[]):=by unfold dB;rw[p1,p2,e1];rfl
       rw[e];rw[e1] at hb;rcases hb with ⟨d1,d2⟩|⟨d1,d2⟩
       ·exact absurd d2 (by decide)
       clear hs e e1 fI;refine dA dw ?_;repeat' ((conv=>whnf);first|with_reducible apply aO|((with_reducible apply fk)<;>intro hc<;>try exact cu)|(apply aX;refine⟨_,ai (hO) ?_,?_⟩;exact aZ)|refine aP ?_|fail)
       all_goals exact aL
     |false=>
     rw[e1] at hb;cases e2:decide (iD now c.since≥3) with
     | true=>
       have e:dB c now=iC c now:=by unfold dB;rw[p1,p2,e1,e2];rfl
       rw[e];rw[e2] at hs;rcases hs with ⟨g1,g2⟩|⟨g1,g2⟩
       ·exact absurd g2 (by decide)
       clear e e1 e2;generalize iC c now=y at *;rcases hb with ⟨d1,d2⟩|⟨d1,d2⟩
       ·clear d2;refine dA dw ?_;repeat' ((conv=>whnf);first|with_reducible apply aO|((with_reducible apply fk)<;>intro hc<;>try exact cu)|(apply aX;refine⟨_,ai (hO) ?_,?_⟩;exact aZ)|(apply aX;refine⟨_,ai (fI) ?_,?_⟩;exact aZ)|refine aP ?_|fail)
        all_goals exact aL
       skip
       refine dA dw ?_;repeat' ((conv=>whnf);first|with_reducible apply aO|((with_reducible apply fk)<;>intro hc<;>try exact cu)|(apply aX;refine⟨_,ai (hO) ?_,?_⟩;exact aZ)|(apply aX;refine⟨_,ai (fI) ?_,?_⟩;exact aZ)|refine aP ?_|fail)
       all_goals exact aL
     | false=>
       have e:dB c now=(c,[]):=by unfold dB;rw[p1,p2,e1,e2];rfl
       rw[e];rw[e2] at hs;clear e e1 e2 fI;rcases hb with ⟨d1,d2⟩|⟨d1,d2⟩
       ·clear d2;rcases hs with ⟨g1,g2⟩|⟨g1,g2⟩
        ·clear g2;refine dA dw ?_;repeat' ((conv=>whnf);first|with_reducible apply aO|((with_reducible apply fk)<;>intro hc<;>try exact cu)|(apply aX;refine⟨_,ai (hO) ?_,?_⟩;exact aZ)|refine aP ?_|fail)
         all_goals exact aL
        skip
        refine dA dw ?_;repeat' ((conv=>whnf);first|with_reducible apply aO|((with_reducible apply fk)<;>intro hc<;>try exact cu)|(apply aX;refine⟨_,ai (hO) ?_,?_⟩;exact aZ)|refine aP ?_|fail)
        all_goals exact aL
       skip
       rcases hs with ⟨g1,g2⟩|⟨g1,g2⟩
       ·clear g2;refine dA dw ?_;repeat' ((conv=>whnf);first|with_reducible apply aO|((with_reducible apply fk)<;>intro hc<;>try exact cu)|(apply aX;refine⟨_,ai (hO) ?_,?_⟩;exact aZ)|refine aP ?_|fail)
        all_goals exact aL
       skip
       refine dA dw ?_;repeat' ((conv=>whnf);first|with_reducible apply aO|((with_reducible apply fk)<;>intro hc<;>try exact cu)|(apply aX;refine⟨_,ai (hO) ?_,?_⟩;exact aZ)|refine aP ?_|fail)
       all_goals exact aL
 | false=>
   have hb:=qF now c.born 9 hn h1 (by omega);have hs:=qF now c.since 3 hn h2 (by omega);cases e1:decide (iD now c.born≥9) with
   | true=>
     have e:dB c now=({ c with phase:=4 },[]):=by unfold dB;rw[p1,e1];rfl
     rw[e];rw[e1] at hb;rcases hb with ⟨d1,d2⟩|⟨d1,d2⟩
     ·exact absurd d2 (by decide)
     clear hs e e1 fI;refine dA dw ?_;repeat' ((conv=>whnf);first|with_reducible apply aO|((with_reducible apply fk)<;>intro hc<;>try exact cu)|(apply aX;refine⟨_,ai (hO) ?_,?_⟩;exact aZ)|refine aP ?_|fail)
     all_goals exact aL
   |false=>
   rw[e1] at hb;cases e2:decide (iD now c.since≥3) with
   | true=>
     have e:dB c now=iC c now:=by unfold dB;rw[p1,e1,e2];rfl
     rw[e];rw[e2] at hs;rcases hs with ⟨g1,g2⟩|⟨g1,g2⟩
     ·exact absurd g2 (by decide)
     clear e e1 e2;generalize iC c now=y at *;rcases hb with ⟨d1,d2⟩|⟨d1,d2⟩
     ·clear d2;refine dA dw ?_;repeat' ((conv=>whnf);first|with_reducible apply aO|((with_reducible apply fk)<;>intro hc<;>try exact cu)|(apply aX;refine⟨_,ai (hO) ?_,?_⟩;exact aZ)|(apply aX;refine⟨_,ai (fI) ?_,?_⟩;exact aZ)|refine aP ?_|fail)
      all_goals exact aL
     skip
     refine dA dw ?_;repeat' ((conv=>whnf);first|with_reducible apply aO|((with_reducible apply fk)<;>intro hc<;>try exact cu)|(apply aX;refine⟨_,ai (hO) ?_,?_⟩;exact aZ)|(apply aX;refine⟨_,ai (fI) ?_,?_⟩;exact aZ)|refine aP ?_|fail)
     all_goals exact aL
   | false=>
     have e:dB c now=(c,[]):=by unfold dB;rw[p1,e1,e2];rfl
     rw[e];rw[e2] at hs;clear e e1 e2 fI;rcases hb with ⟨d1,d2⟩|⟨d1,d2⟩
     ·clear d2;rcases hs with ⟨g1,g2⟩|⟨g1,g2⟩
      ·clear g2;refine dA dw ?_;repeat' ((conv=>whnf);first|with_reducible apply aO|((with_reducible apply fk)<;>intro hc<;>try exact cu)|(apply aX;refine⟨_,ai (hO) ?_,?_⟩;exact aZ)|refine aP ?_|fail)
       all_goals exact aL
      skip
      refine dA dw ?_;repeat' ((conv=>whnf);first|with_reducible apply aO|((with_reducible apply fk)<;>intro hc<;>try exact cu)|(apply aX;refine⟨_,ai (hO) ?_,?_⟩;exact aZ)|refine aP ?_|fail)
      all_goals exact aL
     skip
     rcases hs with ⟨g1,g2⟩|⟨g1,g2⟩
     ·clear g2;refine dA dw ?_;repeat' ((conv=>whnf);first|with_reducible apply aO|((with_reducible apply fk)<;>intro hc<;>try exact cu)|(apply aX;refine⟨_,ai (hO) ?_,?_⟩;exact aZ)|refine aP ?_|fail)
      all_goals exact aL
     skip
     refine dA dw ?_;repeat' ((conv=>whnf);first|with_reducible apply aO|((with_reducible apply fk)<;>intro hc<;>try exact cu)|(apply aX;refine⟨_,ai (hO) ?_,?_⟩;exact aZ)|refine aP ?_|fail)
     all_goals exact aL
theorem Us {α:Type}[DecidableEq α]{a b:List α}(h:a.length≠b.length):decide (a=b)=false:=by
 rw[decide_eq_false_iff_not];rintro rfl;exact h rfl
theorem Xw {α:Type}[DecidableEq α]{a b:List α}{k:Nat}(h1:k<a.length)(h2:k<b.length)(h:a[k]≠b[k]):decide (a=b)=false:=by
 rw[decide_eq_false_iff_not];rintro rfl;exact h rfl
theorem Ut {α:Type}[DecidableEq α]{a b:List α}(hl:a.length=b.length)(h:∀j (hj:j<a.length),j<a.length→a[j]=b[j]'(hl▸hj)):decide (a=b)=true:=by
 rw[decide_eq_true_eq];exact List.ext_getElem hl fun i h1 h2=>h i h1 h1
theorem oI:bE prog 104 f104:=eZ func104
theorem zJ (a b:List Fr)(ha:a.length≤1000000)(hab:∀x∈a,x.ak.length≤1000000):dH prog 104 [gH a,gH b] (bl (decide (a=b))):=by
 refine PC.le ?_;obtain⟨X,hX⟩:∃X,X=decide (a=b):=⟨_,rfl⟩;rw[←hX];by_cases hl:a.length=b.length
 ·have d1:(((a.map Fr.c).length:Int) != ((b.map Fr.c).length:Int))=false:=by simp[hl]
  refine dA oI ?_;repeat' ((conv=>whnf);first|with_reducible apply aO|((with_reducible apply fk)<;>intro hc<;>try exact bQ)|refine aP ?_|fail)
  refine⟨{k:Nat // k≤a.length∧∀j (hj:j<a.length),j<k→a[j]=b[j]'(hl▸hj)},fun⟨k,_⟩=>⟨[(0,.pv (gH a)),(1,.pv (gH b)),(5,.pv (ii k))],1000000000,[]⟩,fun⟨k,_⟩=>a.length-k,⟨⟨0,by simp⟩,aA ?_⟩,?_⟩
  ·all_goals exact aL
  rintro⟨k,hk,hn⟩
  dsimp only
  clear d1;by_cases hlt:k<a.length
  ·have d0:decide ((k:Int)<((a.map Fr.c).length:Int))=true:=by simp only[jg,l9];omega
   have eW:IntKind.i64.wrap ((k:Int)+1)=((k+1:Nat):Int):=by rw[bI (by omega) (by omega)];omega
   have hr1:=eD Fr.c a k hlt;have hr2:=eD Fr.c b k (hl▸hlt);have FH:=hab _ (List.getElem_mem hlt);have hnx:a[k]=b[k]'(hl▸hlt)→∀j (hj:j<a.length),j<k+1→a[j]=b[j]'(hl▸hj):=fun he=>eX hn fun _=>he
   have QX:a[k]≠b[k]'(hl▸hlt)→X=false:=fun he=>by rw[hX];exact Xw hlt (hl▸hlt) he
   replace hnx:=Hd.mk hnx;replace QX:=Hd.mk QX;generalize hx:a[k]=x at *;generalize hy:b[k]'(hl▸hlt)=y at *;clear hn hX hx hy;simp only[Fr.c,iX] at hr1 hr2;repeat' ((conv=>whnf);first|with_reducible apply aO|((with_reducible apply fk)<;>intro hc<;>try exact bQ)|((refine⟨_,hr1,?_⟩))|((refine⟨_,hr2,?_⟩))|(refine UJ ?_)|refine aP ?_|fail)
   ·rename_i hq1;have hX2:=QX.out (fun e=>by rw[e] at hq1;simp at hq1);subst hX2;all_goals exact aL
   ·have hX2:=QX.out (fun e=>by rw[e] at hc;simp at hc);subst hX2;all_goals exact aL
   rename_i hfe;have Ji:x.first=y.first:=by simpa using hfe
   have hlb:x.ak.length=y.ak.length:=by
    have:(x.ak.length:Int)=(y.ak.length:Int):=by simpa using hc
    omega
   clear hfe hc;refine⟨{m:Nat // m≤x.ak.length∧∀i (hi:i<x.ak.length),i<m→x.ak[i]=y.ak[i]'(hlb▸hi)},fun⟨m,_⟩=>⟨[(0,.pv (gH a)),(1,.pv (gH b)),(5,.pv (ii k)),(6,.pv (ii m))],1000000000,[]⟩,fun⟨m,_⟩=>x.ak.length-m,⟨⟨0,by simp⟩,aA ?_⟩,?_⟩
   ·all_goals exact aL
   rintro⟨m,hm,hq⟩
   dsimp only
   by_cases hmt:m<x.ak.length
   ·have d2:decide ((m:Int)<((x.ak.map Pl.c).length:Int))=true:=by simp only[jg,l9];omega
    have eM:IntKind.i64.wrap ((m:Int)+1)=((m+1:Nat):Int):=by rw[bI (by omega) (by omega)];omega
    have hp1:=eD Pl.c x.ak m hmt;have hp2:=eD Pl.c y.ak m (hlb▸hmt);have hbq:=Pl.beq x.ak[m] (y.ak[m]'(hlb▸hmt));simp only[Pl.c] at hp1 hp2;by_cases he:x.ak[m]=y.ak[m]'(hlb▸hmt)
    ·have hmx:=eX hq fun _=>he
     rw[beq_iff_eq.2 he] at hbq;replace hmx:=Hd.mk hmx;replace Ji:=Hd.mk Ji;clear he hq;repeat' ((conv=>whnf);first|with_reducible apply aO|((with_reducible apply fk)<;>intro hc<;>try exact bQ)|((refine⟨_,hr1,?_⟩))|((refine⟨_,hr2,?_⟩))|((refine⟨_,hp1,?_⟩))|((refine⟨_,hp2,?_⟩))|(refine UJ ?_)|refine aP ?_|fail)
     all_goals first
      |(exfalso;simp only[hbq,Bool.not_true,Bool.not_false,reduceCtorEq] at hc;done)
      |skip
     refine⟨⟨m+1,hmt,hmx.out⟩,dec_lt hmt,aA ?_⟩;repeat' first|apply And.intro|exact aL|fail
     all_goals try (conv=>whnf)
     all_goals exact eM
    have hX2:=QX.out (fun e=>by subst e;exact he rfl);subst hX2;rw[beq_eq_false_iff_ne.2 he] at hbq;replace Ji:=Hd.mk Ji;clear he hq;repeat' ((conv=>whnf);first|with_reducible apply aO|((with_reducible apply fk)<;>intro hc<;>try exact bQ)|((refine⟨_,hr1,?_⟩))|((refine⟨_,hr2,?_⟩))|((refine⟨_,hp1,?_⟩))|((refine⟨_,hp2,?_⟩))|(refine UJ ?_)|refine aP ?_|fail)
    all_goals first
     |(exfalso;simp only[hbq,Bool.not_true,Bool.not_false,reduceCtorEq] at hc;done)
     |skip
    all_goals exact aL
   have Uu:m=x.ak.length:=by omega
   subst Uu;have hxy:x=y:=by
    have oz:x.ak=y.ak:=List.ext_getElem hlb fun i h1 h2=>hq i h1 h1
    obtain⟨_,_⟩:=x;obtain⟨_,_⟩:=y;simp only at Ji oz;rw[Ji,oz]
   have hnx2:=hnx.out hxy;have d2:decide ((x.ak.length:Int)<((x.ak.map Pl.c).length:Int))=false:=by simp
   replace hnx2:=Hd.mk hnx2;clear hq hmt hm Ji hxy;replace hlb:=Hd.mk hlb;repeat' ((conv=>whnf);first|with_reducible apply aO|((with_reducible apply fk)<;>intro hc<;>try exact bQ)|((refine⟨_,hr1,?_⟩))|(refine UJ ?_)|refine aP ?_|fail)
   all_goals first
    |(exfalso;rw[d2] at hc;cases hc;done)
    |skip
   refine⟨⟨k+1,hlt,hnx2.out⟩,dec_lt hlt,aA ?_⟩;repeat' first|apply And.intro|exact aL|fail
   all_goals try (conv=>whnf)
   all_goals exact eW
  have hke:k=a.length:=by omega
  subst hke;have d0:decide ((a.length:Int)<((a.map Fr.c).length:Int))=false:=by simp
  have hX2:X=true:=by rw[hX];exact Ut hl hn
  subst hX2;clear hX hn hlt hk;repeat' ((conv=>whnf);first|with_reducible apply aO|((with_reducible apply fk)<;>intro hc<;>try exact bQ)|refine aP ?_|fail)
  ·exfalso;rw[d0] at hc;cases hc
  all_goals exact aL
 have d1:(((a.map Fr.c).length:Int) != ((b.map Fr.c).length:Int))=true:=by simp only[jg,bne_iff_ne,ne_eq];omega
 have hX2:X=false:=by rw[hX];exact Us hl
 subst hX2;clear hX hl;refine dA oI ?_;repeat' ((conv=>whnf);first|with_reducible apply aO|((with_reducible apply fk)<;>intro hc<;>try exact bQ)|refine aP ?_|fail)
 all_goals exact aL
theorem vC:bE prog 50 f50:=eZ func50
theorem w9 (a b:Lg)(s:Bool)(c:dH prog 104 [gH a.au,gH b.au] (bl (decide (a.au=b.au)))):dH prog 50 [.agg a.c,.agg b.c] (bl (decide (a=b))):=by
 refine PC.le ?_;have e:decide (a=b)=((a.id==b.id)&&((a.w==b.w)&&((a.a==b.a)&&((a.closed==b.closed)&&((a.last==b.last)&&decide (a.au=b.au)))))):=by
  rw[Bool.eq_iff_iff];obtain⟨_,_,_,_,_,_⟩:=a;obtain⟨_,_,_,_,_,_⟩:=b;simp;grind
 obtain⟨X,hX⟩:∃X,X=decide (a=b):=⟨_,rfl⟩;rw[←hX];rw[e] at hX;clear e;generalize decide (a.au=b.au)=z at *;refine dA vC ?_;repeat' ((conv=>whnf);first|with_reducible apply aO|((with_reducible apply fk)<;>intro hc<;>try exact bQ)|(apply aX;refine⟨_,c,?_⟩)|refine aP ?_|fail)
 all_goals
  simp only[*,Bool.true_and,Bool.false_and,Bool.and_true,Bool.and_false] at hX;subst hX;all_goals exact aL
theorem qV:bE prog 48 f48:=eZ func48
theorem uz (l m:List Pl):dH prog 48 [iX l,iX m] (bl (decide (l=m))):=by
 refine PC.le (jN qV fun hb=>?_);have hb:l.length≤9223372036854775807∧m.length≤9223372036854775807:=by simpa[Br,wV,iX] using hb
 refine dA qV ?_;repeat' ((conv=>whnf);first|with_reducible apply aO|((with_reducible refine (⟨fun h=>?_,fun h=>?_⟩:(_=true→_)∧(_=false→_)))<;>first|exact absurd h (by decide)|(exfalso;simp only[*,reduceCtorEq] at h;done)|skip)|refine aP ?_|fail)
 ·rename_i h;repeat' first|apply And.intro|exact aL|fail
  all_goals try (conv=>whnf)
  simp at h;simp;rintro rfl;exact h rfl
 rename_i h;have hlen:l.length=m.length:=by simp at h;omega
 refine⟨{k:Nat // k≤l.length∧∀j (hj:j<l.length),j<k→l[j]=m[j]},fun⟨k,_⟩=>⟨[(0,.pv (iX l)),(1,.pv (iX m)),(12,.pv (ii l.length)),(13,.pv (ii k))],1000000000,[]⟩,fun⟨k,_⟩=>l.length-k,⟨⟨0,by simp⟩,aA ?_⟩,?_⟩
 ·repeat' first|apply And.intro|exact aL|fail
  all_goals try (conv=>whnf)
  simp
 rintro⟨k,hk,hn⟩
 repeat' ((conv=>whnf);first|with_reducible apply aO|((with_reducible refine (⟨fun h=>?_,fun h=>?_⟩:(_=true→_)∧(_=false→_)))<;>first|exact absurd h (by decide)|(exfalso;simp only[*,reduceCtorEq] at h;done)|skip)|refine aP ?_|fail)
 ·rename_i h;have hlt:k<l.length:=by simpa using h
  refine⟨_,eD _ _ _ hlt,?_⟩;repeat' ((conv=>whnf);first|with_reducible apply aO|((with_reducible refine (⟨fun h=>?_,fun h=>?_⟩:(_=true→_)∧(_=false→_)))<;>first|exact absurd h (by decide)|(exfalso;simp only[*,reduceCtorEq] at h;done)|skip)|refine aP ?_|fail)
  refine⟨_,eD _ _ _ (hlen▸hlt),?_⟩;repeat' ((conv=>whnf);first|with_reducible apply aO|((with_reducible refine (⟨fun h=>?_,fun h=>?_⟩:(_=true→_)∧(_=false→_)))<;>first|exact absurd h (by decide)|(exfalso;simp only[*,reduceCtorEq] at h;done)|skip)|refine aP ?_|fail)
  ·rename_i h2 h;repeat' first|apply And.intro|exact aL|fail
   all_goals try (conv=>whnf)
   rw[Pl.beq] at h;simp at h ⊢;rintro rfl
   exact h rfl
  rename_i h2 h;repeat' ((conv=>whnf);first|with_reducible apply aO|((with_reducible refine (⟨fun h=>?_,fun h=>?_⟩:(_=true→_)∧(_=false→_)))<;>first|exact absurd h (by decide)|(exfalso;simp only[*,reduceCtorEq] at h;done)|skip)|refine aP ?_|fail)
  refine⟨⟨k+1,hlt,eX hn fun _=>?_⟩,dec_lt hlt,aA ?_⟩
  ·rw[Pl.beq] at h;simpa using h
  repeat' first|apply And.intro|exact aL|fail
  all_goals try (conv=>whnf)
  exact bI (by omega) (by omega)
 rename_i h;repeat' first|apply And.intro|exact aL|fail
 all_goals try (conv=>whnf)
 have:k=l.length:=by simp at h;omega
 subst this;simp;exact List.ext_getElem hlen fun i h1 h2=>hn i h1 h1
theorem O9 (x y:UInt8):(((x.toNat:Int)==(y.toNat:Int)):Bool)=decide (x=y):=by
 by_cases h:x=y
 ·subst h;simp
 have:(x.toNat:Int)≠(y.toNat:Int):=fun e=>h (UInt8.toNat_inj.1 (by omega))
 simp[h,this]
theorem uy:bE prog 49 f49:=eZ func49
theorem Gl (l m:List UInt8):dH prog 49 [xC l,xC m] (bl (decide (l=m))):=by
 refine PC.le (jN uy fun hb=>?_);have hb:l.length≤9223372036854775807∧m.length≤9223372036854775807:=by simpa[Br,wV,xC] using hb
 refine dA uy ?_;repeat' ((conv=>whnf);first|with_reducible apply aO|((with_reducible apply fk)<;>intro hc<;>try exact bQ)|refine aP ?_|fail)
 ·repeat' first|apply And.intro|exact aL|fail
  all_goals try (conv=>whnf)
  simp at hc;simp;rintro rfl;exact hc rfl
 have hlen:l.length=m.length:=by simp at hc;omega
 refine⟨{k:Nat // k≤l.length∧∀j (hj:j<l.length),j<k→l[j]=m[j]},fun⟨k,_⟩=>⟨[(0,.pv (xC l)),(1,.pv (xC m)),(12,.pv (ii l.length)),(13,.pv (ii k))],1000000000,[]⟩,fun⟨k,_⟩=>l.length-k,⟨⟨0,by simp⟩,aA ?_⟩,?_⟩
 ·repeat' first|apply And.intro|exact aL|fail
  all_goals try (conv=>whnf)
  simp
 rintro⟨k,hk,hn⟩
 repeat' ((conv=>whnf);first|with_reducible apply aO|((with_reducible apply fk)<;>intro hc<;>try exact bQ)|refine aP ?_|fail)
 ·have hlt:k<l.length:=by simpa using hc
  refine⟨_,eD _ _ _ hlt,?_⟩;repeat' ((conv=>whnf);first|with_reducible apply aO|((with_reducible apply fk)<;>intro hc<;>try exact bQ)|refine aP ?_|fail)
  refine⟨_,eD _ _ _ (hlen▸hlt),?_⟩;repeat' ((conv=>whnf);first|with_reducible apply aO|((with_reducible apply fk)<;>intro hc<;>try exact bQ)|refine aP ?_|fail)
  ·repeat' first|apply And.intro|exact aL|fail
   all_goals try (conv=>whnf)
   rw[bne,O9] at hc;simp at hc ⊢;rintro rfl
   exact hc rfl
  repeat' ((conv=>whnf);first|with_reducible apply aO|((with_reducible apply fk)<;>intro hc<;>try exact bQ)|refine aP ?_|fail)
  refine⟨⟨k+1,hlt,eX hn fun _=>?_⟩,dec_lt hlt,aA ?_⟩
  ·rw[bne,O9] at hc;simpa using hc
  repeat' first|apply And.intro|exact aL|fail
  all_goals try (conv=>whnf)
  exact bI (by omega) (by omega)
 repeat' first|apply And.intro|exact aL|fail
 all_goals try (conv=>whnf)
 have:k=l.length:=by simp at hc;omega
 subst this;simp;exact List.ext_getElem hlen fun i h1 h2=>hn i h1 h1
theorem LY:bE prog 47 f47:=eZ func47
theorem Pb (x y:Fr):dH prog 47 ([]++([.agg x.c,.agg y.c]++[])) (bl (decide (x=y))):=by
 refine PC.le ?_;refine dA LY ?_;repeat' ((conv=>whnf);first|with_reducible apply aO|((with_reducible apply fk)<;>intro hc<;>try exact bQ)|(apply aX;refine⟨_,uz _ _,?_⟩)|refine aP ?_|fail)
 all_goals
  repeat' first|apply And.intro|exact aL|fail
  all_goals try (conv=>whnf)
  cases x;cases y;simp_all
theorem qU:bE prog 46 f46:=eZ func46
theorem DT (l m:List Fr):dH prog 46 [gH l,gH m,.fn (.func 47) [] []] (bl (decide (l=m))):=by
 refine PC.le (jN qU fun hb=>?_);have hb:l.length≤9223372036854775807∧m.length≤9223372036854775807:=by simp[Br,wV,gH] at hb;omega
 refine dA qU ?_;repeat' ((conv=>whnf);first|with_reducible apply aO|((with_reducible apply fk)<;>intro hc<;>try exact bQ)|refine aP ?_|fail)
 ·repeat' first|apply And.intro|exact aL|fail
  all_goals try (conv=>whnf)
  simp at hc;simp;rintro rfl;exact hc rfl
 have hlen:l.length=m.length:=by simp at hc;omega
 refine⟨{k:Nat // k≤l.length∧∀j (hj:j<l.length),j<k→l[j]=m[j]},fun⟨k,_⟩=>⟨[(1,.pv (gH m)),(2,.pv (.fn (.func 47) [] [])),(15,.pv (gH l)),(16,.pv (ii l.length)),(17,.pv (ii k))],1000000000,[]⟩,fun⟨k,_⟩=>l.length-k,⟨⟨0,by simp⟩,aA ?_⟩,?_⟩
 ·repeat' first|apply And.intro|exact aL|fail
  all_goals try (conv=>whnf)
  simp
 rintro⟨k,hk,hn⟩
 repeat' ((conv=>whnf);first|with_reducible apply aO|((with_reducible apply fk)<;>intro hc<;>try exact bQ)|refine aP ?_|fail)
 ·have hlt:k<l.length:=by simpa using hc
  refine⟨_,eD _ _ _ hlt,?_⟩;repeat' ((conv=>whnf);first|with_reducible apply aO|((with_reducible apply fk)<;>intro hc<;>try exact bQ)|refine aP ?_|fail)
  refine⟨_,eD _ _ _ (hlen▸hlt),?_⟩;repeat' ((conv=>whnf);first|with_reducible apply aO|((with_reducible apply fk)<;>intro hc<;>try exact bQ)|(apply aX;refine⟨_,Pb (l[k]) (m[k]),?_⟩)|refine aP ?_|fail)
  ·repeat' first|apply And.intro|exact aL|fail
   all_goals try (conv=>whnf)
   simp at hc ⊢;rintro rfl
   exact hc rfl
  repeat' ((conv=>whnf);first|with_reducible apply aO|((with_reducible apply fk)<;>intro hc<;>try exact bQ)|refine aP ?_|fail)
  refine⟨⟨k+1,hlt,eX hn fun _=>?_⟩,dec_lt hlt,aA ?_⟩
  ·simpa using hc
  repeat' first|apply And.intro|exact aL|fail
  all_goals try (conv=>whnf)
  exact bI (by omega) (by omega)
 repeat' first|apply And.intro|exact aL|fail
 all_goals try (conv=>whnf)
 have:k=l.length:=by simp at hc;omega
 subst this;simp;exact List.ext_getElem hlen fun i h1 h2=>hn i h1 h1
def Pd (a b:Cp):Bool:=
 decide (a.l.au=b.l.au)&&((a.l.id==b.l.id)&&((a.l.w==b.l.w)&&((a.l.a==b.l.a)&&((a.l.closed==b.l.closed)&&((a.l.last==b.l.last)&&((a.from_==b.from_)&&((a.to==b.to)&&((a.phase==b.phase)&&((a.n==b.n)&&((a.born==b.born)&&((a.since==b.since)&&(decide (a.none=b.none)&&decide (a.body=b.body)))))))))))))
theorem LZ (a b:Cp):Pd a b=decide (a=b):=by
 rw[Bool.eq_iff_iff];obtain⟨⟨_,_,_,_,_,_⟩,_,_,_,_,_,_,_,_⟩:=a;obtain⟨⟨_,_,_,_,_,_⟩,_,_,_,_,_,_,_,_⟩:=b;simp[Pd];grind
theorem Pe:bE prog 11 f11:=eZ func11
theorem Kb (a b:Cp):dH prog 11 [.agg a.c,.agg b.c] (bl (decide (a=b))):=by
 refine PC.le ?_;rw[←LZ];refine dA Pe ?_;repeat' ((conv=>whnf);first|with_reducible apply aO|((with_reducible apply fk)<;>intro hc<;>try exact bQ)|(apply aX;refine⟨_,DT _ _,?_⟩)|(apply aX;refine⟨_,uz _ _,?_⟩)|(apply aX;refine⟨_,Gl _ _,?_⟩)|refine aP ?_|fail)
 all_goals
  repeat' first|apply And.intro|exact aL|fail
  all_goals try (conv=>whnf)
  simp only[Pl.beq] at *;simp only[Pd, *,Bool.true_and,Bool.false_and,Bool.and_true,Bool.and_false]
theorem zK:bE prog 12 f12:=eZ func12
theorem qB (a b:Cp)(ha:a.none.length≤1000000)(hab:a.body.length≤1000000)(oz:b.body.length≤1000000)(hf:a.l.au.length≤1000000)(Qy:∀x∈a.l.au,x.ak.length≤1000000):dH prog 12 [.agg a.c,.agg b.c] (bl (decide (a=b))):=by
 refine PC.le ?_;have hsl:=w9 a.l b.l true (zJ a.l.au b.l.au hf Qy);obtain⟨X,hX⟩:∃X,X=decide (a=b):=⟨_,rfl⟩;rw[←hX];by_cases hl:a.none.length=b.none.length
 rotate_left
 ·have d1:(((a.none.map Pl.c).length:Int) != ((b.none.map Pl.c).length:Int))=true:=by simp only[jg,bne_iff_ne,ne_eq];omega
  have hX2:X=false:=by rw[hX,decide_eq_false_iff_not];intro e;rw[e] at hl;exact hl rfl
  subst hX2;clear hX hl;refine dA zK ?_;repeat' ((conv=>whnf);first|with_reducible apply aO|((with_reducible apply fk)<;>intro hc<;>try exact bQ)|refine aP ?_|fail)
  all_goals exact aL
 have d1:(((a.none.map Pl.c).length:Int) != ((b.none.map Pl.c).length:Int))=false:=by simp[hl]
 refine dA zK ?_;repeat' ((conv=>whnf);first|with_reducible apply aO|((with_reducible apply fk)<;>intro hc<;>try exact bQ)|refine aP ?_|fail)
 refine⟨{k:Nat // k≤a.none.length∧∀j (hj:j<a.none.length),j<k→a.none[j]=b.none[j]'(hl▸hj)},fun⟨k,_⟩=>⟨[(2,.ptr 1002 0),(3,.ptr 1003 0),(5,.pv (ii k))],1000000000,[(1002,.var (a.c.map .pv)),(1003,.var (b.c.map .pv))]⟩,fun⟨k,_⟩=>a.none.length-k,⟨⟨0,by simp⟩,aA ?_⟩,?_⟩
 ·all_goals exact aL
 rintro⟨k,hk,hn⟩
 dsimp only
 clear d1;by_cases hlt:k<a.none.length
 ·have d0:decide ((k:Int)<((a.none.map Pl.c).length:Int))=true:=by simp only[jg,l9];omega
  have eW:IntKind.i64.wrap ((k:Int)+1)=((k+1:Nat):Int):=by rw[bI (by omega) (by omega)];omega
  have hr1:=eD Pl.c a.none k hlt;have hr2:=eD Pl.c b.none k (hl▸hlt);have hnx:a.none[k]=b.none[k]'(hl▸hlt)→∀j (hj:j<a.none.length),j<k+1→a.none[j]=b.none[j]'(hl▸hj):=fun he=>eX hn fun _=>he
  have QX:a.none[k]≠b.none[k]'(hl▸hlt)→X=false:=fun he=>by rw[hX,decide_eq_false_iff_not];intro e;subst e;exact he rfl
  have hbq:=Pl.beq a.none[k] (b.none[k]'(hl▸hlt));replace hnx:=Hd.mk hnx;replace QX:=Hd.mk QX;generalize a.none[k]=x at *;generalize b.none[k]'(hl▸hlt)=y at *;clear hn hX hsl;simp only[Pl.c] at hr1 hr2;by_cases he:x=y
  ·have hmx:=Hd.mk (hnx.out he);rw[beq_iff_eq.2 he] at hbq;clear he;repeat' ((conv=>whnf);first|with_reducible apply aO|((with_reducible apply fk)<;>intro hc<;>try exact bQ)|((refine⟨_,hr1,?_⟩))|((refine⟨_,hr2,?_⟩))|refine aP ?_|fail)
   all_goals first
    |(exfalso;simp only[hbq,Bool.not_true,Bool.not_false,reduceCtorEq] at hc;done)
    |skip
   refine⟨⟨k+1,hlt,hmx.out⟩,dec_lt hlt,aA ?_⟩;repeat' first|apply And.intro|exact aL|fail
   all_goals try (conv=>whnf)
   all_goals exact eW
  have hX2:=QX.out he;subst hX2;rw[beq_eq_false_iff_ne.2 he] at hbq;clear he;repeat' ((conv=>whnf);first|with_reducible apply aO|((with_reducible apply fk)<;>intro hc<;>try exact bQ)|((refine⟨_,hr1,?_⟩))|((refine⟨_,hr2,?_⟩))|refine aP ?_|fail)
  all_goals first
   |(exfalso;simp only[hbq,Bool.not_true,Bool.not_false,reduceCtorEq] at hc;done)
   |skip
  all_goals exact aL
 have hke:k=a.none.length:=by omega
 subst hke;have d0:decide ((a.none.length:Int)<((a.none.map Pl.c).length:Int))=false:=by simp
 have e:decide (a=b)=(decide (a.l=b.l)&&((a.from_==b.from_)&&((a.to==b.to)&&((a.phase==b.phase)&&((a.n==b.n)&&(decide (a.body=b.body)&&((a.born==b.born)&&(a.since==b.since)))))))):=by
  have hnn:a.none=b.none:=List.ext_getElem hl fun i h1 h2=>hn i h1 h1
  rw[Bool.eq_iff_iff];obtain⟨_,_,_,_,_,_,_,_,_⟩:=a;obtain⟨_,_,_,_,_,_,_,_,_⟩:=b;simp only at hnn;simp[hnn]
 rw[e,←Pl.beq a.from_ b.from_,←Pl.beq a.to b.to] at hX;clear e hlt ha hf Qy;generalize decide (a.l=b.l)=z at *;repeat' ((conv=>whnf);first|with_reducible apply aO|((with_reducible apply fk)<;>intro hc<;>try exact bQ)|refine aP ?_|fail)
 ·exfalso;rw[d0] at hc;cases hc
 repeat' ((conv=>whnf);first|with_reducible apply aO|((with_reducible apply fk)<;>intro hc<;>try exact bQ)|(apply aX;refine⟨_,hsl,?_⟩)|((refine⟨_,rfl,?_⟩))|refine aP ?_|fail)
 all_goals
  try simp only[Qr] at *
  simp only[*,Bool.true_and,Bool.false_and,Bool.and_true,Bool.and_false] at hX;subst hX;all_goals exact aL
theorem zL:bE prog 61 f61:=eZ func61
theorem qW (a:List Rq)(ha:a.length≤1000000)(hb:∀x∈a,x.body.length≤1000000):dH prog 61 [BG a,BG a] (bl true):=by
 refine PC.le ?_;have d1:(((a.map Rq.c).length:Int) != ((a.map Rq.c).length:Int))=false:=by simp
 refine dA zL ?_;repeat' ((conv=>whnf);first|with_reducible apply aO|((with_reducible apply fk)<;>intro hc<;>try exact cu)|refine aP ?_|fail)
 refine⟨{k:Nat // k≤a.length},fun⟨k,_⟩=>⟨[(0,.pv (BG a)),(1,.pv (BG a)),(5,.pv (ii k))],1000000000,[]⟩,fun⟨k,_⟩=>a.length-k,⟨⟨0,Nat.zero_le _⟩,aA ?_⟩,?_⟩
 ·all_goals exact aL
 rintro⟨k,hk⟩
 dsimp only
 clear d1;by_cases hlt:k<a.length
 rotate_left
 ·have hke:k=a.length:=by omega
  subst hke;have d0:decide ((a.length:Int)<((a.map Rq.c).length:Int))=false:=by simp
  repeat' ((conv=>whnf);first|with_reducible apply aO|((with_reducible apply fk)<;>intro hc<;>try exact cu)|refine aP ?_|fail)
  all_goals exact aL
 have d0:decide ((k:Int)<((a.map Rq.c).length:Int))=true:=by simp only[jg,l9];omega
 have eW:IntKind.i64.wrap ((k:Int)+1)=((k+1:Nat):Int):=by rw[bI (by omega) (by omega)];omega
 have hr:=eD Rq.c a k hlt;have hbx:=hb _ (List.getElem_mem hlt);generalize a[k]=x at *;clear hb ha;have q1:∀t:Int,(t==t)=true:=fun t=>by simp
 have q2:(true&&true)=true:=rfl;have q3:∀t:Int,(t != t)=false:=fun t=>by simp
 have q4:∀t:List UInt8,(t != t)=false:=fun t=>by simp
 have q5:∀t:List UInt8,(!(t==t))=false:=fun t=>by simp
 repeat' ((conv=>whnf);first|with_reducible apply aO|((with_reducible apply fk)<;>intro hc<;>try exact cu)|((refine⟨_,hr,?_⟩))|((refine⟨_,rfl,?_⟩))|refine aP ?_|fail)
 refine⟨⟨k+1,hlt⟩,dec_lt hlt,aA ?_⟩;repeat' first|apply And.intro|exact aL|fail
 all_goals try (conv=>whnf)
 all_goals exact eW
def ZW:Tab:=Y4 tab
theorem Pf:bC prog ZW:=LA zy
def own (l:List (List PV)):List (Bool×List PV):=l.map fun r=>(true,r)
theorem jJ (l:List (List PV)):(own l).map (·.2)=l:=by
 induction l with
 |nil=>rfl
 |cons x l ih=>simp only[own,XM] at ih ⊢;rw[ih]
theorem zM {α:Type}(f:α→List PV)(l:List α)(k:Nat)(h:k<l.length):own ((l.take (k+1)).map f)=own ((l.take k).map f)++[(true,f l[k])]:=by
 unfold own;rw[List.take_succ_eq_append_getElem h,List.map_append,List.map_append];rfl
theorem uD {α:Type}(f:α→List PV)(l:List α)(k:Nat)(h:k<l.length):own ((l.drop k).map f)=(true,f l[k])::own ((l.drop (k+1)).map f):=by
 unfold own;rw[List.drop_eq_getElem_cons h];rfl
def Gm (l:List (List PV)):List (Bool×List PV):=l.map fun r=>(false,r)
theorem Ce {α:Type}(f:α→List PV)(l:List α)(k:Nat)(h:k<l.length):Gm ((l.drop k).map f)=(false,f l[k])::Gm ((l.drop (k+1)).map f):=by
 unfold Gm;rw[List.drop_eq_getElem_cons h];rfl
theorem DU:bE prog 106 f106:=eZ func106
theorem Gn (l:List Fr)(h:l.length*32≤140737488355328):gY prog 106 [.pv (gH l)] [] (.aG 1001 0) [(1001,.arr 48 0 2 (l.map Fr.c))]:=by
 refine Nz [] ?_ fun h0=>?_
 all_goals
  refine jY DU ?_;repeat' ((conv=>whnf);first|with_reducible apply aO|((with_reducible apply fk)<;>intro hc<;>try exact bQ)|refine aP ?_|fail)
  refine⟨_,_,⟨rfl,rfl⟩,?_⟩;repeat' first|apply And.intro|exact aL|fail
  all_goals try (conv=>whnf)
 exact h0
theorem QY:bE prog 51 f51:=eZ func51
theorem Jc (c:Cp)(h:wL c):gY prog 51 [.pv (.agg c.c)] [] (.agg (fA c (.aG 1001 0) (.aG 1002 0) (.aG 1003 0)))
  [(1001,.bR 48 0 2 1 27 2 (own (c.l.au.map Fr.c)) [] []),(1002,.arr 27 0 2 (c.none.map Pl.c)),(1003,.arr 5 0 1 (c.body.map aB))]:=by
 have h1:=h.no;have h2:=h.bo;have h3:=h.fl;have h4:=h.fb;clear h;refine jY QY ?_;repeat' ((conv=>whnf);first|with_reducible apply aO|((with_reducible apply fk)<;>intro hc<;>try exact bQ)|(apply dV;refine⟨_,_,fZ _ (by omega),?_⟩)|(apply dV;refine⟨_,_,qb _ (by omega),?_⟩)|(apply dV;refine⟨_,_,Gn _ (by omega),?_⟩)|refine aP ?_|fail)
 obtain⟨F,hF⟩:∃F,F=c.l.au:=⟨_,rfl⟩;simp only[←hF] at h3 h4 ⊢;replace hF:=Hd.mk hF;refine⟨{k:Nat // k<F.length} ⊕ Unit,fun i=>match i with
   |.inl ⟨k,hk⟩=>⟨[(1,.ptr 1009 0),(2,.ptr 1010 0),(21,.aG 1001 0),(22,.pv (ii (F.length:Nat))),(23,.pv (ii k))],1000000000,[(1009,.var (fA c (.aG 1001 0) (.aG 1002 0) (.aG 1003 0))),(1010,.var Cp.z),(1001,.bR 48 0 2 1 27 2 (own ((F.take k).map Fr.c)) ((Fr.c F[k]).map .pv) (Gm ((F.drop (k+1)).map Fr.c))),(1002,.arr 27 0 2 (c.none.map Pl.c)),(1003,.arr 5 0 1 (c.body.map aB))]⟩
   |.inr _=>⟨[(1,.ptr 1009 0),(2,.ptr 1010 0),(21,.aG 1001 0),(22,.pv (ii (F.length:Nat))),(23,.pv (ii (F.length:Nat)))],1000000000,[(1009,.var (fA c (.aG 1001 0) (.aG 1002 0) (.aG 1003 0))),(1010,.var Cp.z),(1001,.bR 48 0 2 1 27 2 (own (F.map Fr.c)) [] []),(1002,.arr 27 0 2 (c.none.map Pl.c)),(1003,.arr 5 0 1 (c.body.map aB))]⟩,fun i=>match i with
   |.inl ⟨k,_⟩=>F.length-k
   |.inr _=>0,?_,?_⟩
 ·by_cases hn:0<F.length
  ·refine⟨.inl ⟨0,hn⟩,?_⟩;refine zu 1001004003 1 27 2 rfl ?_;refine dZ 1001004003 [] ((false,Fr.c (F[0]'hn))::Gm ((F.drop 1).map Fr.c)) rfl ?_ ?_
   ·have:=Ce Fr.c F 0 hn;rw[List.drop_zero] at this;exact this
   refine wG 1001004003 (by simp[Fr.c]) rfl ?_;refine aA ?_;repeat' first|apply And.intro|exact aL|fail
   all_goals try (conv=>whnf)
   all_goals first
    |rfl
    |simp
  refine⟨.inr (),?_⟩;have RY:F=[]:=List.eq_nil_of_length_eq_zero (by omega);refine zu 1001004003 1 27 2 rfl ?_;refine aA ?_;clear hF;subst RY;all_goals exact aL
 rintro (⟨k,hk⟩|⟨⟩)
 ·dsimp only
  have d1:decide ((k:Int)<(F.length:Int))=true:=by simp only[l9];omega
  have eW:IntKind.i64.wrap ((k:Int)+1)=((k+1:Nat):Int):=by rw[bI (by omega) (by omega)];omega
  have hpre:own ((F.take k).map Fr.c)++[(true,Fr.c F[k])]=own ((F.take (k+1)).map Fr.c):=(zM Fr.c F k hk).symm;have hbk:=h4 _ (List.getElem_mem hk);clear h4;repeat' ((conv=>whnf);first|with_reducible apply aO|((with_reducible apply fk)<;>intro hc<;>try exact bQ)|(apply dV;refine⟨_,_,fZ _ (by omega),?_⟩)|(((with_reducible apply And.intro);focus (simp only[own,Gm,Fr.c,XM,zmn,bJ,Int.toNat_natCast,jg,List.length_take,List.length_drop,JL,tF,uX];omega)))|refine aP ?_|fail)
  by_cases hn:k+1<F.length
  ·refine⟨.inl ⟨k+1,hn⟩,by simp only;omega,?_⟩;refine jB (rr:=F[k].ak.map Pl.c) (vd:=0) 1001 1001008006 (Fr.c F[k]) rfl rfl rfl rfl ?_;refine dZ 1001 (own ((F.take (k+1)).map Fr.c)) ((false,Fr.c F[k+1])::Gm ((F.drop (k+1+1)).map Fr.c)) rfl ?_ ?_
   ·rw[Ce Fr.c F (k+1) hn,hpre]
   refine wG 1001 (by simp[Fr.c]) rfl ?_;refine aA ?_;repeat' first|apply And.intro|exact aL|fail
   all_goals try (conv=>whnf)
   all_goals first
    |exact eW
    |trace_state
  have hke:k+1=F.length:=by omega
  refine⟨.inr (),by simp only;omega,?_⟩;refine jB (rr:=F[k].ak.map Pl.c) (vd:=0) 1001 1001008006 (Fr.c F[k]) rfl rfl rfl rfl ?_;refine dZ 1001 (own (F.map Fr.c)) [] rfl ?_ ?_
  ·rw[List.drop_eq_nil_of_le (by omega),hpre,hke,List.take_length];simp[Gm]
  refine aA ?_;repeat' first|apply And.intro|exact aL|fail
  all_goals try (conv=>whnf)
  all_goals first
   |(rw[eW,hke])
   |trace_state
 dsimp only
 have d1:decide ((F.length:Int)<(F.length:Int))=false:=by simp
 repeat' ((conv=>whnf);first|with_reducible apply aO|((with_reducible apply fk)<;>intro hc<;>try exact bQ)|refine aP ?_|fail)
 refine⟨_,_,⟨rfl,rfl⟩,?_⟩;all_goals exact aL
theorem zN:bE prog 15 f15:=eZ func15
def iL {α:Type}(f g:α→List PV)(l:List α)(k:Nat):List (List PV):=(l.take k).map f++(l.drop k).map g
theorem bY {α:Type}(f g:α→List PV)(l:List α)(k:Nat):(iL f g l k).length=l.length:=by
 simp only[iL,JL,jg,List.length_take,List.length_drop];omega
theorem oq {α:Type}(f g:α→List PV)(l:List α)(k:Nat)(h:k<l.length):(iL f g l k)[k]? = some (g l[k]):=by
 unfold iL;rw[List.getElem?_append_right (by simp;omega),List.drop_eq_getElem_cons h];rw[List.map_cons,List.length_map,List.length_take,Nat.min_eq_left (Nat.le_of_lt h),Nat.sub_self];rfl
theorem lI {α:Type}(f g:α→List PV)(l:List α)(k:Nat)(h:k<l.length):(iL f g l k).set k (f l[k])=iL f g l (k+1):=by
 unfold iL;rw[List.set_append,if_neg (by simp;omega),List.drop_eq_getElem_cons h,List.take_succ_eq_append_getElem h,List.map_append,List.map_cons,List.length_map,List.length_take,Nat.min_eq_left (Nat.le_of_lt h),Nat.sub_self,List.append_assoc];rfl
theorem rX {α:Type}(f g:α→List PV)(l:List α):iL f g l 0=l.map g:=by simp[iL]
theorem rZ {α:Type}(f g:α→List PV)(l:List α):iL f g l l.length=l.map f:=by simp[iL]
def qX (x:UInt8):List PV:=[.sc (.int .u8 (IntKind.u8.wrap ((x.toNat:Int)+1)))]
def qI (p:Pl):List PV:=[ii (IntKind.i64.wrap (p.node+1)),uu p.aM]
def uF (x:Fr):List PV:=[uu x.first,.sl false 2 (x.ak.map qI)]
theorem Pg (a:Cp):a.c=[uu a.l.id,ii a.l.w,ii a.l.a,.sl false 2 ((own (a.l.au.map Fr.c)).map (·.2)++([]:List (Bool×List PV)).map (·.2)),ii a.l.closed,uu a.l.last,ii a.from_.node,uu a.from_.aM,ii a.to.node,uu a.to.aM,ii a.phase,uu a.n,iX a.none,xC a.body,uu a.born,uu a.since]:=by
 rw[jJ,List.map_nil,List.append_nil];rfl
theorem qC (a:Cp)(q:List Rq)(h:wL a)(hq:q.length≤1000)(hb:∀x∈q,x.body=[]):gY prog 15 [.agg (fA a (.aG 1 0) (.aG 2 0) (.aG 3 0)),.pv (BG q),.pv (.agg a.c),.pv (BG q)]
  [(1,.bR 48 0 2 1 27 2 (own (a.l.au.map Fr.c)) [] []),(2,.arr 27 0 2 (a.none.map Pl.c)),(3,.arr 5 0 1 (a.body.map aB))] (.pv (bl true))
  [(1,.bR 48 0 2 1 27 2 (own (a.l.au.map uF)) [] []),(2,.arr 27 0 2 (a.none.map qI)),(3,.arr 5 0 1 (a.body.map qX))]:=by
 have h1:=h.no;have h2:=h.bo;have h3:=h.fl;have h4:=h.fb;clear h;have hs:=qB a a (by omega) (by omega) (by omega) (by omega) (fun x hx=>by have:=h4 x hx;omega);rw[decide_eq_true (rfl:a=a)] at hs;have hs2:dH prog 12 [.agg [uu a.l.id,ii a.l.w,ii a.l.a,.sl false 2 ((own (a.l.au.map Fr.c)).map (·.2)++([]:List (Bool×List PV)).map (·.2)),ii a.l.closed,uu a.l.last,ii a.from_.node,uu a.from_.aM,ii a.to.node,uu a.to.aM,ii a.phase,uu a.n,iX a.none,xC a.body,uu a.born,uu a.since],.agg a.c] (bl true):=by
  rw[←Pg];exact hs
 have hr:=qW q (by omega) (fun x hx=>by rw[hb x hx];simp);clear hs;refine jY zN ?_;repeat' ((conv=>whnf);first|with_reducible apply aO|((with_reducible apply fk)<;>intro hc<;>try exact cu)|(apply aX;refine⟨_,ai (hs2) ?_,?_⟩;exact aZ)|(apply aX;refine⟨_,ai (hr) ?_,?_⟩;exact aZ)|refine aP ?_|fail)
 clear hs2 hr;refine⟨{k:Nat // k≤q.length},fun⟨k,_⟩=>⟨[(1,.pv (BG q)),(4,.ptr 1004 0),(9,.pv (bl true)),(10,.pv (ii k))],1000000000,[(1004,.var (fA a (.aG 1 0) (.aG 2 0) (.aG 3 0))),(1,.bR 48 0 2 1 27 2 (own (a.l.au.map Fr.c)) [] []),(2,.arr 27 0 2 (a.none.map Pl.c)),(3,.arr 5 0 1 (a.body.map aB))]⟩,fun⟨k,_⟩=>q.length-k,⟨⟨0,Nat.zero_le _⟩,aA ?_⟩,?_⟩
 ·all_goals exact aL
 rintro⟨k,hk⟩
 dsimp only
 by_cases hlt:k<q.length
 ·have d0:decide ((k:Int)<((q.map Rq.c).length:Int))=true:=by simp only[jg,l9];omega
  have eW:IntKind.i64.wrap ((k:Int)+1)=((k+1:Nat):Int):=by rw[bI (by omega) (by omega)];omega
  have hr:=eD Rq.c q k hlt;have hx:=hb _ (List.getElem_mem hlt);generalize q[k]=x at *;simp only[Rq.c,hx] at hr;clear hb hx;repeat' ((conv=>whnf);first|with_reducible apply aO|((with_reducible apply fk)<;>intro hc<;>try exact cu)|refine aP ?_|fail)
  refine⟨Unit,fun _=>⟨[(1,.pv (BG q)),(4,.ptr 1004 0),(9,.pv (bl true)),(10,.pv (ii k)),(11,.pv (ii 0))],1000000000,[(1004,.var (fA a (.aG 1 0) (.aG 2 0) (.aG 3 0))),(1,.bR 48 0 2 1 27 2 (own (a.l.au.map Fr.c)) [] []),(2,.arr 27 0 2 (a.none.map Pl.c)),(3,.arr 5 0 1 (a.body.map aB))]⟩,fun _=>0,⟨(),aA ?_⟩,?_⟩
  ·all_goals exact aL
  rintro⟨⟩
  dsimp only
  repeat' ((conv=>whnf);first|with_reducible apply aO|((with_reducible apply fk)<;>intro hc<;>try exact cu)|((refine⟨_,hr,?_⟩))|refine aP ?_|fail)
  refine⟨⟨k+1,hlt⟩,dec_lt hlt,aA ?_⟩;repeat' first|apply And.intro|exact aL|fail
  all_goals try (conv=>whnf)
  all_goals exact eW
 have hke:k=q.length:=by omega
 subst hke;have d0:decide ((q.length:Int)<((q.map Rq.c).length:Int))=false:=by simp
 repeat' ((conv=>whnf);first|with_reducible apply aO|((with_reducible apply fk)<;>intro hc<;>try exact cu)|refine aP ?_|fail)
 clear d0 hk hlt hb hq;refine⟨{k:Nat // k≤a.body.length},fun⟨k,_⟩=>⟨[(4,.ptr 1004 0),(9,.pv (bl true)),(12,.pv (ii k))],1000000000,[(1004,.var (fA a (.aG 1 0) (.aG 2 0) (.aG 3 0))),(1,.bR 48 0 2 1 27 2 (own (a.l.au.map Fr.c)) [] []),(2,.arr 27 0 2 (a.none.map Pl.c)),(3,.arr 5 0 1 (iL qX aB a.body k))]⟩,fun⟨k,_⟩=>a.body.length-k,⟨⟨0,Nat.zero_le _⟩,aA ?_⟩,?_⟩
 ·dsimp only
  rw[rX];all_goals exact aL
 rintro⟨k,hk⟩
 dsimp only
 by_cases hlt:k<a.body.length
 ·have d0:decide ((k:Int)<((iL qX aB a.body k).length:Int))=true:=by simp only[bY,l9];omega
  have eW:IntKind.i64.wrap ((k:Int)+1)=((k+1:Nat):Int):=by rw[bI (by omega) (by omega)];omega
  have hr:=oq qX aB a.body k hlt;have hset:=Hd.mk (lI qX aB a.body k hlt);generalize a.body[k]=x at *;simp only[aB] at hr;repeat' ((conv=>whnf);first|with_reducible apply aO|((with_reducible apply fk)<;>intro hc<;>try exact cu)|((refine⟨_,hr,?_⟩))|(((with_reducible apply And.intro);focus (simp only[bY,Int.toNat_natCast];omega)))|refine aP ?_|fail)
  refine⟨⟨k+1,hlt⟩,dec_lt hlt,aA ?_⟩;dsimp only
  rw[←hset.out];repeat' first|apply And.intro|exact aL|fail
  all_goals try (conv=>whnf)
  all_goals first
   |exact eW
   |trace_state
 have hke:k=a.body.length:=by omega
 subst hke;have d0:decide ((a.body.length:Int)<((iL qX aB a.body a.body.length).length:Int))=false:=by simp[bY]
 repeat' ((conv=>whnf);first|with_reducible apply aO|((with_reducible apply fk)<;>intro hc<;>try exact cu)|refine aP ?_|fail)
 rw[rZ];clear d0 hk hlt;refine⟨{k:Nat // k≤a.none.length},fun⟨k,_⟩=>⟨[(4,.ptr 1004 0),(9,.pv (bl true)),(13,.pv (ii k))],1000000000,[(1004,.var (fA a (.aG 1 0) (.aG 2 0) (.aG 3 0))),(1,.bR 48 0 2 1 27 2 (own (a.l.au.map Fr.c)) [] []),(2,.arr 27 0 2 (iL qI Pl.c a.none k)),(3,.arr 5 0 1 (a.body.map qX))]⟩,fun⟨k,_⟩=>a.none.length-k,⟨⟨0,Nat.zero_le _⟩,aA ?_⟩,?_⟩
 ·dsimp only
  rw[rX];all_goals exact aL
 rintro⟨k,hk⟩
 dsimp only
 by_cases hlt:k<a.none.length
 ·have d0:decide ((k:Int)<((iL qI Pl.c a.none k).length:Int))=true:=by simp only[bY,l9];omega
  have eW:IntKind.i64.wrap ((k:Int)+1)=((k+1:Nat):Int):=by rw[bI (by omega) (by omega)];omega
  have hr:=oq qI Pl.c a.none k hlt;have hset:=Hd.mk (lI qI Pl.c a.none k hlt);generalize a.none[k]=x at *;simp only[Pl.c] at hr;repeat' ((conv=>whnf);first|with_reducible apply aO|((with_reducible apply fk)<;>intro hc<;>try exact cu)|((refine⟨_,hr,?_⟩))|(((with_reducible apply And.intro);focus (simp only[bY,Int.toNat_natCast];omega)))|refine aP ?_|fail)
  refine⟨⟨k+1,hlt⟩,dec_lt hlt,aA ?_⟩;dsimp only
  rw[←hset.out];repeat' first|apply And.intro|exact aL|fail
  all_goals try (conv=>whnf)
  all_goals first
   |exact eW
   |trace_state
 have hke:k=a.none.length:=by omega
 subst hke;have d0:decide ((a.none.length:Int)<((iL qI Pl.c a.none a.none.length).length:Int))=false:=by simp[bY]
 repeat' ((conv=>whnf);first|with_reducible apply aO|((with_reducible apply fk)<;>intro hc<;>try exact cu)|refine aP ?_|fail)
 rw[rZ];clear d0 hk hlt;obtain⟨F,hF⟩:∃F,F=a.l.au:=⟨_,rfl⟩;simp only[←hF] at h3 h4 ⊢;replace hF:=Hd.mk hF;refine⟨{k:Nat // k<F.length} ⊕ Unit,fun i=>match i with
   |.inl ⟨k,hk⟩=>⟨[(4,.ptr 1004 0),(9,.pv (bl true)),(14,.pv (ii k))],1000000000,[(1004,.var (fA a (.aG 1 0) (.aG 2 0) (.aG 3 0))),(1,.bR 48 0 2 1 27 2 (own ((F.take k).map uF)) [.pv (uu F[k].first),.aG 1005 0] (own ((F.drop (k+1)).map Fr.c))),(1005,.arr 27 0 2 (F[k].ak.map Pl.c)),(2,.arr 27 0 2 (a.none.map qI)),(3,.arr 5 0 1 (a.body.map qX))]⟩
   |.inr _=>⟨[(4,.ptr 1004 0),(9,.pv (bl true)),(14,.pv (ii (F.length:Nat)))],1000000000,[(1004,.var (fA a (.aG 1 0) (.aG 2 0) (.aG 3 0))),(1,.bR 48 0 2 1 27 2 (own (F.map uF)) [] []),(2,.arr 27 0 2 (a.none.map qI)),(3,.arr 5 0 1 (a.body.map qX))]⟩,fun i=>match i with
   |.inl ⟨k,_⟩=>F.length-k
   |.inr _=>0,?_,?_⟩
 ·by_cases hn:0<F.length
  ·refine⟨.inl ⟨0,hn⟩,?_⟩;refine dZ 1 [] ((true,Fr.c (F[0]'hn))::own ((F.drop 1).map Fr.c)) rfl ?_ ?_
   ·have:=uD Fr.c F 0 hn;rw[List.drop_zero] at this;rw[this,List.append_nil];rfl
   refine nZ (rr:=(F[0]'hn).ak.map Pl.c) 1 900000000 rfl rfl rfl ?_;refine aA ?_;repeat' first|apply And.intro|exact aL|fail
   all_goals try (conv=>whnf)
   all_goals first
    |rfl
    |simp
    |trace_state
  refine⟨.inr (),?_⟩;have RY:F=[]:=List.eq_nil_of_length_eq_zero (by omega);refine aA ?_;clear hF;subst RY;all_goals exact aL
 rintro (⟨k,hk⟩|⟨⟩)
 ·dsimp only
  have eW:IntKind.i64.wrap ((k:Int)+1)=((k+1:Nat):Int):=by rw[bI (by omega) (by omega)];omega
  have d0:decide ((k:Int)<(((own ((F.take k).map uF)).length+(bJ [AV.pv (uu F[k].first),AV.aG 1005 0]+(own ((F.drop (k+1)).map Fr.c)).length):Nat):Int))=true:=by simp only[own,bJ,jg,List.length_take,List.length_drop,l9];omega
  have hbk:=h4 _ (List.getElem_mem hk);have hpre:own ((F.take k).map uF)++[(true,uF F[k])]=own ((F.take (k+1)).map uF):=(zM uF F k hk).symm;replace hpre:=Hd.mk hpre;clear h4;repeat' ((conv=>whnf);first|with_reducible apply aO|((with_reducible apply fk)<;>intro hc<;>try exact cu)|(((with_reducible apply And.intro);focus (simp only[own,bJ,Int.toNat_natCast,jg,List.length_take,List.length_drop,JL,tF,uX];omega)))|refine aP ?_|fail)
  clear d0;refine⟨{m:Nat // m≤F[k].ak.length},fun⟨m,_⟩=>⟨[(4,.ptr 1004 0),(9,.pv (bl true)),(14,.pv (ii k)),(15,.pv (ii m))],1000000000,[(1004,.var (fA a (.aG 1 0) (.aG 2 0) (.aG 3 0))),(1,.bR 48 0 2 1 27 2 (own ((F.take k).map uF)) [.pv (uu F[k].first),.aG 1005 0] (own ((F.drop (k+1)).map Fr.c))),(1005,.arr 27 0 2 (iL qI Pl.c F[k].ak m)),(2,.arr 27 0 2 (a.none.map qI)),(3,.arr 5 0 1 (a.body.map qX))]⟩,fun⟨m,_⟩=>F[k].ak.length-m,⟨⟨0,Nat.zero_le _⟩,aA ?_⟩,?_⟩
  ·dsimp only
   rw[rX];all_goals exact aL
  rintro⟨m,hm⟩
  dsimp only
  by_cases hmt:m<F[k].ak.length
  ·have d0:decide ((m:Int)<((iL qI Pl.c F[k].ak m).length:Int))=true:=by simp only[bY,l9];omega
   have eM:IntKind.i64.wrap ((m:Int)+1)=((m+1:Nat):Int):=by rw[bI (by omega) (by omega)];omega
   have hr:=oq qI Pl.c F[k].ak m hmt;have hset:=Hd.mk (lI qI Pl.c F[k].ak m hmt);generalize F[k].ak[m]=x at *;simp only[Pl.c] at hr;repeat' ((conv=>whnf);first|with_reducible apply aO|((with_reducible apply fk)<;>intro hc<;>try exact cu)|((refine⟨_,hr,?_⟩))|(((with_reducible apply And.intro);focus (simp only[own,bY,bJ,Int.toNat_natCast,jg,List.length_take,List.length_drop,JL,tF,uX];omega)))|refine aP ?_|fail)
   refine⟨⟨m+1,hmt⟩,dec_lt hmt,aA ?_⟩;dsimp only
   rw[←hset.out];repeat' first|apply And.intro|exact aL|fail
   all_goals try (conv=>whnf)
   all_goals first
    |exact eM
    |trace_state
  have Uu:m=F[k].ak.length:=by omega
  subst Uu;have d0:decide ((F[k].ak.length:Int)<((iL qI Pl.c F[k].ak F[k].ak.length).length:Int))=false:=by simp[bY]
  rw[rZ] at d0 ⊢;repeat' ((conv=>whnf);first|with_reducible apply aO|((with_reducible apply fk)<;>intro hc<;>try exact cu)|(((with_reducible apply And.intro);focus (simp only[own,bY,bJ,Int.toNat_natCast,jg,List.length_take,List.length_drop,JL,tF,uX];omega)))|refine aP ?_|fail)
  by_cases hn:k+1<F.length
  ·refine⟨.inl ⟨k+1,hn⟩,by simp only;omega,?_⟩;refine jB (rr:=F[k].ak.map qI) (vd:=0) 1 1005 (uF F[k]) rfl rfl rfl rfl ?_;refine dZ 1 (own ((F.take (k+1)).map uF)) ((true,Fr.c F[k+1])::own ((F.drop (k+1+1)).map Fr.c)) rfl ?_ ?_
   ·rw[uD Fr.c F (k+1) hn,hpre.out]
   refine nZ (rr:=F[k+1].ak.map Pl.c) 1 900000000 rfl rfl rfl ?_;refine aA ?_;repeat' first|apply And.intro|exact aL|fail
   all_goals try (conv=>whnf)
   all_goals first
    |exact eW
    |trace_state
  have hke:k+1=F.length:=by omega
  refine⟨.inr (),by simp only;omega,?_⟩;refine jB (rr:=F[k].ak.map qI) (vd:=0) 1 1005 (uF F[k]) rfl rfl rfl rfl ?_;refine dZ 1 (own (F.map uF)) [] rfl ?_ ?_
  ·rw[List.drop_eq_nil_of_le (by omega),hpre.out,hke,List.take_length];simp[own]
  refine aA ?_;repeat' first|apply And.intro|exact aL|fail
  all_goals try (conv=>whnf)
  all_goals first
   |(rw[eW,hke])
   |trace_state
 dsimp only
 have d0:decide ((F.length:Int)<(((own (F.map uF)).length+(bJ ([]:List AV)+([]:List (Bool×List PV)).length):Nat):Int))=false:=by simp[own,bJ]
 repeat' ((conv=>whnf);first|with_reducible apply aO|((with_reducible apply fk)<;>intro hc<;>try exact cu)|refine aP ?_|fail)
 refine⟨_,_,⟨rfl,rfl⟩,?_⟩;all_goals exact aL
theorem qD (a:Cp)(x:Rq)(h:wL a)(FH:x.body.length≤6000):gY prog 15 [.agg (fA a (.aG 1 0) (.aG 2 0) (.aG 3 0)),.aG 4 0,.pv (.agg a.c),.pv (BG [x])]
  [(1,.bR 48 0 2 1 27 2 (own (a.l.au.map Fr.c)) [] []),(2,.arr 27 0 2 (a.none.map Pl.c)),(3,.arr 5 0 1 (a.body.map aB)),(4,.dL 93 0 10 [] [.pv (ii x.to.node),.pv (uu x.to.aM),.pv (ii x.kind),.pv (uu x.bO),.pv (uu x.n),.pv (uu x.dz),.pv (uu x.sure),.pv (ii x.copy),.aG 5 0,.pv (xD x.keep)] []),(5,.arr 5 0 1 (x.body.map aB))] (.pv (bl true))
  [(1,.bR 48 0 2 1 27 2 (own (a.l.au.map uF)) [] []),(2,.arr 27 0 2 (a.none.map qI)),(3,.arr 5 0 1 (a.body.map qX)),(4,.dL 93 0 10 [] [.pv (ii x.to.node),.pv (uu x.to.aM),.pv (ii x.kind),.pv (uu x.bO),.pv (uu x.n),.pv (uu x.dz),.pv (uu x.sure),.pv (ii x.copy),.aG 5 0,.pv (xD x.keep)] []),(5,.arr 5 0 1 (x.body.map qX))]:=by
 have h1:=h.no;have h2:=h.bo;have h3:=h.fl;have h4:=h.fb;clear h;have hs:=qB a a (by omega) (by omega) (by omega) (by omega) (fun x hx=>by have:=h4 x hx;omega);rw[decide_eq_true (rfl:a=a)] at hs;have hs2:dH prog 12 [.agg [uu a.l.id,ii a.l.w,ii a.l.a,.sl false 2 ((own (a.l.au.map Fr.c)).map (·.2)++([]:List (Bool×List PV)).map (·.2)),ii a.l.closed,uu a.l.last,ii a.from_.node,uu a.from_.aM,ii a.to.node,uu a.to.aM,ii a.phase,uu a.n,iX a.none,xC a.body,uu a.born,uu a.since],.agg a.c] (bl true):=by
  rw[←Pg];exact hs
 have hr:=qW [x] (by simp) (fun y hy=>by rw[List.mem_singleton.1 hy];omega);clear hs;refine jY zN ?_;repeat' ((conv=>whnf);first|with_reducible apply aO|((with_reducible apply fk)<;>intro hc<;>try exact cu)|(apply aX;refine⟨_,ai (hs2) ?_,?_⟩;exact aZ)|(apply aX;refine⟨_,ai (hr) ?_,?_⟩;exact aZ)|refine aP ?_|fail)
 clear hs2 hr;refine⟨Bool,fun i=>match i with
   |false=>⟨[(1,.aG 4 0),(4,.ptr 1004 0),(9,.pv (bl true)),(10,.pv (ii 0))],1000000000,[(1004,.var (fA a (.aG 1 0) (.aG 2 0) (.aG 3 0))),(4,.dL 93 0 10 [] [.pv (ii x.to.node),.pv (uu x.to.aM),.pv (ii x.kind),.pv (uu x.bO),.pv (uu x.n),.pv (uu x.dz),.pv (uu x.sure),.pv (ii x.copy),.aG 5 0,.pv (xD x.keep)] []),(5,.arr 5 0 1 (x.body.map aB)),(1,.bR 48 0 2 1 27 2 (own (a.l.au.map Fr.c)) [] []),(2,.arr 27 0 2 (a.none.map Pl.c)),(3,.arr 5 0 1 (a.body.map aB))]⟩
   |true=>⟨[(1,.aG 4 0),(4,.ptr 1004 0),(9,.pv (bl true)),(10,.pv (ii 1))],1000000000,[(1004,.var (fA a (.aG 1 0) (.aG 2 0) (.aG 3 0))),(4,.dL 93 0 10 [] [.pv (ii x.to.node),.pv (uu x.to.aM),.pv (ii x.kind),.pv (uu x.bO),.pv (uu x.n),.pv (uu x.dz),.pv (uu x.sure),.pv (ii x.copy),.aG 5 0,.pv (xD x.keep)] []),(5,.arr 5 0 1 (x.body.map qX)),(1,.bR 48 0 2 1 27 2 (own (a.l.au.map Fr.c)) [] []),(2,.arr 27 0 2 (a.none.map Pl.c)),(3,.arr 5 0 1 (a.body.map aB))]⟩,fun i=>match i with
   |false=>1
   |true=>0,⟨false,aA ?_⟩,?_⟩
 ·all_goals exact aL
 rintro (_|_)
 ·dsimp only
  repeat' ((conv=>whnf);first|with_reducible apply aO|((with_reducible apply fk)<;>intro hc<;>try exact cu)|refine aP ?_|fail)
  refine⟨{m:Nat // m≤x.body.length},fun⟨m,_⟩=>⟨[(1,.aG 4 0),(4,.ptr 1004 0),(9,.pv (bl true)),(10,.pv (ii 0)),(11,.pv (ii m))],1000000000,[(1004,.var (fA a (.aG 1 0) (.aG 2 0) (.aG 3 0))),(4,.dL 93 0 10 [] [.pv (ii x.to.node),.pv (uu x.to.aM),.pv (ii x.kind),.pv (uu x.bO),.pv (uu x.n),.pv (uu x.dz),.pv (uu x.sure),.pv (ii x.copy),.aG 5 0,.pv (xD x.keep)] []),(5,.arr 5 0 1 (iL qX aB x.body m)),(1,.bR 48 0 2 1 27 2 (own (a.l.au.map Fr.c)) [] []),(2,.arr 27 0 2 (a.none.map Pl.c)),(3,.arr 5 0 1 (a.body.map aB))]⟩,fun⟨m,_⟩=>x.body.length-m,⟨⟨0,Nat.zero_le _⟩,aA ?_⟩,?_⟩
  ·dsimp only
   rw[rX];all_goals exact aL
  rintro⟨m,hm⟩
  dsimp only
  by_cases hmt:m<x.body.length
  ·have d0:decide ((m:Int)<((iL qX aB x.body m).length:Int))=true:=by simp only[bY,l9];omega
   have eM:IntKind.i64.wrap ((m:Int)+1)=((m+1:Nat):Int):=by rw[bI (by omega) (by omega)];omega
   have hr:=oq qX aB x.body m hmt;have hset:=Hd.mk (lI qX aB x.body m hmt);generalize x.body[m]=y at *;simp only[aB] at hr;repeat' ((conv=>whnf);first|with_reducible apply aO|((with_reducible apply fk)<;>intro hc<;>try exact cu)|((refine⟨_,hr,?_⟩))|(((with_reducible apply And.intro);focus (simp only[bY,Int.toNat_natCast];omega)))|refine aP ?_|fail)
   refine⟨⟨m+1,hmt⟩,dec_lt hmt,aA ?_⟩;dsimp only
   rw[←hset.out];repeat' first|apply And.intro|exact aL|fail
   all_goals try (conv=>whnf)
   all_goals first
    |exact eM
    |trace_state
  have Uu:m=x.body.length:=by omega
  subst Uu;have d0:decide ((x.body.length:Int)<((iL qX aB x.body x.body.length).length:Int))=false:=by simp[bY]
  rw[rZ] at d0 ⊢;repeat' ((conv=>whnf);first|with_reducible apply aO|((with_reducible apply fk)<;>intro hc<;>try exact cu)|refine aP ?_|fail)
  refine⟨true,by decide,aA ?_⟩;all_goals exact aL
 dsimp only
 repeat' ((conv=>whnf);first|with_reducible apply aO|((with_reducible apply fk)<;>intro hc<;>try exact cu)|refine aP ?_|fail)
 refine⟨{k:Nat // k≤a.body.length},fun⟨k,_⟩=>⟨[(4,.ptr 1004 0),(9,.pv (bl true)),(12,.pv (ii k))],1000000000,[(1004,.var (fA a (.aG 1 0) (.aG 2 0) (.aG 3 0))),(4,.dL 93 0 10 [] [.pv (ii x.to.node),.pv (uu x.to.aM),.pv (ii x.kind),.pv (uu x.bO),.pv (uu x.n),.pv (uu x.dz),.pv (uu x.sure),.pv (ii x.copy),.aG 5 0,.pv (xD x.keep)] []),(5,.arr 5 0 1 (x.body.map qX)),(1,.bR 48 0 2 1 27 2 (own (a.l.au.map Fr.c)) [] []),(2,.arr 27 0 2 (a.none.map Pl.c)),(3,.arr 5 0 1 (iL qX aB a.body k))]⟩,fun⟨k,_⟩=>a.body.length-k,⟨⟨0,Nat.zero_le _⟩,aA ?_⟩,?_⟩
 ·dsimp only
  rw[rX];all_goals exact aL
 rintro⟨k,hk⟩
 dsimp only
 by_cases hlt:k<a.body.length
 ·have d0:decide ((k:Int)<((iL qX aB a.body k).length:Int))=true:=by simp only[bY,l9];omega
  have eW:IntKind.i64.wrap ((k:Int)+1)=((k+1:Nat):Int):=by rw[bI (by omega) (by omega)];omega
  have hr:=oq qX aB a.body k hlt;have hset:=Hd.mk (lI qX aB a.body k hlt);generalize a.body[k]=x at *;simp only[aB] at hr;repeat' ((conv=>whnf);first|with_reducible apply aO|((with_reducible apply fk)<;>intro hc<;>try exact cu)|((refine⟨_,hr,?_⟩))|(((with_reducible apply And.intro);focus (simp only[bY,Int.toNat_natCast];omega)))|refine aP ?_|fail)
  refine⟨⟨k+1,hlt⟩,dec_lt hlt,aA ?_⟩;dsimp only
  rw[←hset.out];repeat' first|apply And.intro|exact aL|fail
  all_goals try (conv=>whnf)
  all_goals first
   |exact eW
   |trace_state
 have hke:k=a.body.length:=by omega
 subst hke;have d0:decide ((a.body.length:Int)<((iL qX aB a.body a.body.length).length:Int))=false:=by simp[bY]
 repeat' ((conv=>whnf);first|with_reducible apply aO|((with_reducible apply fk)<;>intro hc<;>try exact cu)|refine aP ?_|fail)
 rw[rZ];clear d0 hk hlt;refine⟨{k:Nat // k≤a.none.length},fun⟨k,_⟩=>⟨[(4,.ptr 1004 0),(9,.pv (bl true)),(13,.pv (ii k))],1000000000,[(1004,.var (fA a (.aG 1 0) (.aG 2 0) (.aG 3 0))),(4,.dL 93 0 10 [] [.pv (ii x.to.node),.pv (uu x.to.aM),.pv (ii x.kind),.pv (uu x.bO),.pv (uu x.n),.pv (uu x.dz),.pv (uu x.sure),.pv (ii x.copy),.aG 5 0,.pv (xD x.keep)] []),(5,.arr 5 0 1 (x.body.map qX)),(1,.bR 48 0 2 1 27 2 (own (a.l.au.map Fr.c)) [] []),(2,.arr 27 0 2 (iL qI Pl.c a.none k)),(3,.arr 5 0 1 (a.body.map qX))]⟩,fun⟨k,_⟩=>a.none.length-k,⟨⟨0,Nat.zero_le _⟩,aA ?_⟩,?_⟩
 ·dsimp only
  rw[rX];all_goals exact aL
 rintro⟨k,hk⟩
 dsimp only
 by_cases hlt:k<a.none.length
 ·have d0:decide ((k:Int)<((iL qI Pl.c a.none k).length:Int))=true:=by simp only[bY,l9];omega
  have eW:IntKind.i64.wrap ((k:Int)+1)=((k+1:Nat):Int):=by rw[bI (by omega) (by omega)];omega
  have hr:=oq qI Pl.c a.none k hlt;have hset:=Hd.mk (lI qI Pl.c a.none k hlt);generalize a.none[k]=x at *;simp only[Pl.c] at hr;repeat' ((conv=>whnf);first|with_reducible apply aO|((with_reducible apply fk)<;>intro hc<;>try exact cu)|((refine⟨_,hr,?_⟩))|(((with_reducible apply And.intro);focus (simp only[bY,Int.toNat_natCast];omega)))|refine aP ?_|fail)
  refine⟨⟨k+1,hlt⟩,dec_lt hlt,aA ?_⟩;dsimp only
  rw[←hset.out];repeat' first|apply And.intro|exact aL|fail
  all_goals try (conv=>whnf)
  all_goals first
   |exact eW
   |trace_state
 have hke:k=a.none.length:=by omega
 subst hke;have d0:decide ((a.none.length:Int)<((iL qI Pl.c a.none a.none.length).length:Int))=false:=by simp[bY]
 repeat' ((conv=>whnf);first|with_reducible apply aO|((with_reducible apply fk)<;>intro hc<;>try exact cu)|refine aP ?_|fail)
 rw[rZ];clear d0 hk hlt;obtain⟨F,hF⟩:∃F,F=a.l.au:=⟨_,rfl⟩;simp only[←hF] at h3 h4 ⊢;replace hF:=Hd.mk hF;refine⟨{k:Nat // k<F.length} ⊕ Unit,fun i=>match i with
   |.inl ⟨k,hk⟩=>⟨[(4,.ptr 1004 0),(9,.pv (bl true)),(14,.pv (ii k))],1000000000,[(1004,.var (fA a (.aG 1 0) (.aG 2 0) (.aG 3 0))),(4,.dL 93 0 10 [] [.pv (ii x.to.node),.pv (uu x.to.aM),.pv (ii x.kind),.pv (uu x.bO),.pv (uu x.n),.pv (uu x.dz),.pv (uu x.sure),.pv (ii x.copy),.aG 5 0,.pv (xD x.keep)] []),(5,.arr 5 0 1 (x.body.map qX)),(1,.bR 48 0 2 1 27 2 (own ((F.take k).map uF)) [.pv (uu F[k].first),.aG 1005 0] (own ((F.drop (k+1)).map Fr.c))),(1005,.arr 27 0 2 (F[k].ak.map Pl.c)),(2,.arr 27 0 2 (a.none.map qI)),(3,.arr 5 0 1 (a.body.map qX))]⟩
   |.inr _=>⟨[(4,.ptr 1004 0),(9,.pv (bl true)),(14,.pv (ii (F.length:Nat)))],1000000000,[(1004,.var (fA a (.aG 1 0) (.aG 2 0) (.aG 3 0))),(4,.dL 93 0 10 [] [.pv (ii x.to.node),.pv (uu x.to.aM),.pv (ii x.kind),.pv (uu x.bO),.pv (uu x.n),.pv (uu x.dz),.pv (uu x.sure),.pv (ii x.copy),.aG 5 0,.pv (xD x.keep)] []),(5,.arr 5 0 1 (x.body.map qX)),(1,.bR 48 0 2 1 27 2 (own (F.map uF)) [] []),(2,.arr 27 0 2 (a.none.map qI)),(3,.arr 5 0 1 (a.body.map qX))]⟩,fun i=>match i with
   |.inl ⟨k,_⟩=>F.length-k
   |.inr _=>0,?_,?_⟩
 ·by_cases hn:0<F.length
  ·refine⟨.inl ⟨0,hn⟩,?_⟩;refine dZ 1 [] ((true,Fr.c (F[0]'hn))::own ((F.drop 1).map Fr.c)) rfl ?_ ?_
   ·have:=uD Fr.c F 0 hn;rw[List.drop_zero] at this;rw[this,List.append_nil];rfl
   refine nZ (rr:=(F[0]'hn).ak.map Pl.c) 1 900000000 rfl rfl rfl ?_;refine aA ?_;repeat' first|apply And.intro|exact aL|fail
   all_goals try (conv=>whnf)
   all_goals first
    |rfl
    |simp
    |trace_state
  refine⟨.inr (),?_⟩;have RY:F=[]:=List.eq_nil_of_length_eq_zero (by omega);refine aA ?_;clear hF;subst RY;all_goals exact aL
 rintro (⟨k,hk⟩|⟨⟩)
 ·dsimp only
  have eW:IntKind.i64.wrap ((k:Int)+1)=((k+1:Nat):Int):=by rw[bI (by omega) (by omega)];omega
  have d0:decide ((k:Int)<(((own ((F.take k).map uF)).length+(bJ [AV.pv (uu F[k].first),AV.aG 1005 0]+(own ((F.drop (k+1)).map Fr.c)).length):Nat):Int))=true:=by simp only[own,bJ,jg,List.length_take,List.length_drop,l9];omega
  have hbk:=h4 _ (List.getElem_mem hk);have hpre:own ((F.take k).map uF)++[(true,uF F[k])]=own ((F.take (k+1)).map uF):=(zM uF F k hk).symm;replace hpre:=Hd.mk hpre;clear h4;repeat' ((conv=>whnf);first|with_reducible apply aO|((with_reducible apply fk)<;>intro hc<;>try exact cu)|(((with_reducible apply And.intro);focus (simp only[own,bJ,Int.toNat_natCast,jg,List.length_take,List.length_drop,JL,tF,uX];omega)))|refine aP ?_|fail)
  clear d0;refine⟨{m:Nat // m≤F[k].ak.length},fun⟨m,_⟩=>⟨[(4,.ptr 1004 0),(9,.pv (bl true)),(14,.pv (ii k)),(15,.pv (ii m))],1000000000,[(1004,.var (fA a (.aG 1 0) (.aG 2 0) (.aG 3 0))),(4,.dL 93 0 10 [] [.pv (ii x.to.node),.pv (uu x.to.aM),.pv (ii x.kind),.pv (uu x.bO),.pv (uu x.n),.pv (uu x.dz),.pv (uu x.sure),.pv (ii x.copy),.aG 5 0,.pv (xD x.keep)] []),(5,.arr 5 0 1 (x.body.map qX)),(1,.bR 48 0 2 1 27 2 (own ((F.take k).map uF)) [.pv (uu F[k].first),.aG 1005 0] (own ((F.drop (k+1)).map Fr.c))),(1005,.arr 27 0 2 (iL qI Pl.c F[k].ak m)),(2,.arr 27 0 2 (a.none.map qI)),(3,.arr 5 0 1 (a.body.map qX))]⟩,fun⟨m,_⟩=>F[k].ak.length-m,⟨⟨0,Nat.zero_le _⟩,aA ?_⟩,?_⟩
  ·dsimp only
   rw[rX];all_goals exact aL
  rintro⟨m,hm⟩
  dsimp only
  by_cases hmt:m<F[k].ak.length
  ·have d0:decide ((m:Int)<((iL qI Pl.c F[k].ak m).length:Int))=true:=by simp only[bY,l9];omega
   have eM:IntKind.i64.wrap ((m:Int)+1)=((m+1:Nat):Int):=by rw[bI (by omega) (by omega)];omega
   have hr:=oq qI Pl.c F[k].ak m hmt;have hset:=Hd.mk (lI qI Pl.c F[k].ak m hmt);generalize F[k].ak[m]=x at *;simp only[Pl.c] at hr;repeat' ((conv=>whnf);first|with_reducible apply aO|((with_reducible apply fk)<;>intro hc<;>try exact cu)|((refine⟨_,hr,?_⟩))|(((with_reducible apply And.intro);focus (simp only[own,bY,bJ,Int.toNat_natCast,jg,List.length_take,List.length_drop,JL,tF,uX];omega)))|refine aP ?_|fail)
   refine⟨⟨m+1,hmt⟩,dec_lt hmt,aA ?_⟩;dsimp only
   rw[←hset.out];repeat' first|apply And.intro|exact aL|fail
   all_goals try (conv=>whnf)
   all_goals first
    |exact eM
    |trace_state
  have Uu:m=F[k].ak.length:=by omega
  subst Uu;have d0:decide ((F[k].ak.length:Int)<((iL qI Pl.c F[k].ak F[k].ak.length).length:Int))=false:=by simp[bY]
  rw[rZ] at d0 ⊢;repeat' ((conv=>whnf);first|with_reducible apply aO|((with_reducible apply fk)<;>intro hc<;>try exact cu)|(((with_reducible apply And.intro);focus (simp only[own,bY,bJ,Int.toNat_natCast,jg,List.length_take,List.length_drop,JL,tF,uX];omega)))|refine aP ?_|fail)
  by_cases hn:k+1<F.length
  ·refine⟨.inl ⟨k+1,hn⟩,by simp only;omega,?_⟩;refine jB (rr:=F[k].ak.map qI) (vd:=0) 1 1005 (uF F[k]) rfl rfl rfl rfl ?_;refine dZ 1 (own ((F.take (k+1)).map uF)) ((true,Fr.c F[k+1])::own ((F.drop (k+1+1)).map Fr.c)) rfl ?_ ?_
   ·rw[uD Fr.c F (k+1) hn,hpre.out]
   refine nZ (rr:=F[k+1].ak.map Pl.c) 1 900000000 rfl rfl rfl ?_;refine aA ?_;repeat' first|apply And.intro|exact aL|fail
   all_goals try (conv=>whnf)
   all_goals first
    |exact eW
    |trace_state
  have hke:k+1=F.length:=by omega
  refine⟨.inr (),by simp only;omega,?_⟩;refine jB (rr:=F[k].ak.map qI) (vd:=0) 1 1005 (uF F[k]) rfl rfl rfl rfl ?_;refine dZ 1 (own (F.map uF)) [] rfl ?_ ?_
  ·rw[List.drop_eq_nil_of_le (by omega),hpre.out,hke,List.take_length];simp[own]
  refine aA ?_;repeat' first|apply And.intro|exact aL|fail
  all_goals try (conv=>whnf)
  all_goals first
   |(rw[eW,hke])
   |trace_state
 dsimp only
 have d0:decide ((F.length:Int)<(((own (F.map uF)).length+(bJ ([]:List AV)+([]:List (Bool×List PV)).length):Nat):Int))=false:=by simp[own,bJ]
 repeat' ((conv=>whnf);first|with_reducible apply aO|((with_reducible apply fk)<;>intro hc<;>try exact cu)|refine aP ?_|fail)
 refine⟨_,_,⟨rfl,rfl⟩,?_⟩;all_goals exact aL
end Go.Proofs.YtfoiekbkkbnpkaaGreat.Tb
end
section
namespace Go.Proofs
open Go.Shelf
def Tryz.sortPl_ren:Go.Shelf.Ren:=⟨fun|6=>179|15=>188|14=>187|28=>200|29=>201|20=>192|21=>193|22=>194|23=>195|24=>196|25=>197|26=>198|27=>199|46=>202|47=>203|48=>204|49=>205|50=>206|57=>207|n=>n,fun|22=>28|24=>27|25=>226|3=>3|39=>234|0=>0|53=>245|55=>22|4=>4|46=>238|45=>237|50=>242|5=>5|9=>9|66=>247|70=>251|76=>253|77=>254|n=>n,fun|n=>n⟩
theorem Tryz.sortPl:Go.Proofs.SlLaysF0.n6 Tryz.prog Tryz.sortPl_ren:={
 mixed:=by kernel_rfl
 f6:=⟨Tryz.f179.name,by decide,Tryz.func179.trans (congrArg some (by kernel_rfl))⟩
 f14:=⟨Tryz.f187.name,by decide,Tryz.func187.trans (congrArg some (by kernel_rfl))⟩
 f15:=Tryz.func188.trans (congrArg some (by kernel_rfl))
 f20:=⟨Tryz.f192.name,by decide,Tryz.func192.trans (congrArg some (by kernel_rfl))⟩
 f21:=⟨Tryz.f193.name,by decide,Tryz.func193.trans (congrArg some (by kernel_rfl))⟩
 f22:=⟨Tryz.f194.name,by decide,Tryz.func194.trans (congrArg some (by kernel_rfl))⟩
 f23:=⟨Tryz.f195.name,by decide,Tryz.func195.trans (congrArg some (by kernel_rfl))⟩
 f24:=⟨Tryz.f196.name,by decide,Tryz.func196.trans (congrArg some (by kernel_rfl))⟩
 f25:=⟨Tryz.f197.name,by decide,Tryz.func197.trans (congrArg some (by kernel_rfl))⟩
 f26:=⟨Tryz.f198.name,by decide,Tryz.func198.trans (congrArg some (by kernel_rfl))⟩
 f27:=⟨Tryz.f199.name,by decide,Tryz.func199.trans (congrArg some (by kernel_rfl))⟩
 f28:=Tryz.func200.trans (congrArg some (by kernel_rfl))
 f29:=Tryz.func201.trans (congrArg some (by kernel_rfl))
 f46:=⟨Tryz.f202.name,by decide,Tryz.func202.trans (congrArg some (by kernel_rfl))⟩
 f47:=Tryz.func203.trans (congrArg some (by kernel_rfl))
 f48:=Tryz.func204.trans (congrArg some (by kernel_rfl))
 f49:=⟨Tryz.f205.name,by decide,Tryz.func205.trans (congrArg some (by kernel_rfl))⟩
 f50:=⟨Tryz.f206.name,by decide,Tryz.func206.trans (congrArg some (by kernel_rfl))⟩
 f57:=⟨Tryz.f207.name,by decide,Tryz.func207.trans (congrArg some (by kernel_rfl))⟩
 t0:=Tryz.underlying0
 a0:=Tryz.isAgg0
 z0:=Tryz.sizeOf0
 v0:=Tryz.zeroValue0
 t3:=Tryz.underlying3
 a3:=Tryz.isAgg3
 z3:=Tryz.sizeOf3
 v3:=Tryz.zeroValue3
 t4:=Tryz.underlying4
 a4:=Tryz.isAgg4
 z4:=Tryz.sizeOf4
 v4:=Tryz.zeroValue4
 t5:=Tryz.underlying5
 a5:=Tryz.isAgg5
 z5:=Tryz.sizeOf5
 v5:=Tryz.zeroValue5
 t9:=Tryz.underlying9
 a9:=Tryz.isAgg9
 z9:=Tryz.sizeOf9
 v9:=Tryz.zeroValue9
 t22:=Tryz.underlying28
 a22:=Tryz.isAgg28
 z22:=Tryz.sizeOf28
 v22:=Tryz.zeroValue28
 t25:=Tryz.underlying226
 a25:=Tryz.isAgg226
 z25:=Tryz.sizeOf226
 v25:=Tryz.zeroValue226
 t39:=Tryz.underlying234
 a39:=Tryz.isAgg234
 z39:=Tryz.sizeOf234
 v39:=Tryz.zeroValue234
 t45:=Tryz.underlying237
 a45:=Tryz.isAgg237
 z45:=Tryz.sizeOf237
 v45:=Tryz.zeroValue237
 t46:=Tryz.underlying238
 a46:=Tryz.isAgg238
 z46:=Tryz.sizeOf238
 v46:=Tryz.zeroValue238
 t50:=Tryz.underlying242
 a50:=Tryz.isAgg242
 z50:=Tryz.sizeOf242
 v50:=Tryz.zeroValue242
 t53:=Tryz.underlying245
 a53:=Tryz.isAgg245
 z53:=Tryz.sizeOf245
 v53:=Tryz.zeroValue245
 t55:=Tryz.underlying22
 a55:=Tryz.isAgg22
 z55:=Tryz.sizeOf22
 v55:=Tryz.zeroValue22
 t66:=Tryz.underlying247
 a66:=Tryz.isAgg247
 z66:=Tryz.sizeOf247
 v66:=Tryz.zeroValue247
 t70:=Tryz.underlying251
 a70:=Tryz.isAgg251
 z70:=Tryz.sizeOf251
 v70:=Tryz.zeroValue251
 t76:=Tryz.underlying253
 a76:=Tryz.isAgg253
 z76:=Tryz.sizeOf253
 v76:=Tryz.zeroValue253
 t77:=Tryz.underlying254
 a77:=Tryz.isAgg254
 z77:=Tryz.sizeOf254
 v77:=Tryz.zeroValue254 }
end Go.Proofs
end
section
open Go Go.Proofs.Tryz Go.AX Go.Sort Go.Shelf Go.RowKit Go.Lib
namespace Go.Proofs.YtfoiekbkkbnpkaaGreat.Tb
def LK (x:Pl):List Value:=[.int .i64 x.node,.int .u64 x.aM]
theorem Ui (a b c d:Int)(W:World):Calls prog 180 #[.agg #[.int .i64 a,.int .u64 b],.agg #[.int .i64 c,.int .u64 d]] W fun e w'=>e=.returned (.int .i64 (Lib.compareInt a c))∧∃q os',w'=grow (W.drewN q) os':=by
 go_enter func180,Tryz.ntmps180
 go_wp2
 all_goals
  go_ret
  refine⟨?_,0,_,by rw[alloc_eq_grow,alloc_eq_grow,grow_grow];rfl⟩;simp_all [Lib.compareInt];try omega
theorem WK (x y:Pl)(W:World):Calls prog 180 #[.agg (LK x).toArray,.agg (LK y).toArray] W fun e w'=>e=.returned (.int .i64 (vY x y))∧∃q os',w'=grow (W.drewN q) os':=
 Ui x.node x.aM y.node y.aM W
theorem LM:dH prog 188 [.sc (.int .u64 0)] (.sc (.int .i64 0)):=by
 refine⟨⟨_,func188,rfl,by decide⟩,fun F w bG _ ha=>?_⟩;obtain⟨v,r,e,hv,hr⟩:=ha;simp only[aU] at hv;subst hv;simp only[cZ] at hr;subst hr;have:bG = #[.int .u64 0]:=by rw[←Array.toList_inj,e]
 subst this;have h:=Any.bits_Len (SlLaysF0.n15.bits (P:=prog) (ρ:=Tryz.sortPl_ren) { Tryz.sortPl with }) 0 w (by omega) (by omega);refine h.mono fun e w' ⟨he,hw⟩=>⟨_,_,he,rfl,by simp only[aU];rfl,by subst hw;exact iZ.refl _ _⟩
theorem I6:bE prog 192 f192:=eZ func192
theorem Dy (f:Fn):dH prog 192 [.sc (.slice none 0 0),ii 0,ii 0,.fn f [] []] unit:=by
 refine PC.le ?_;refine dA I6 ?_;repeat' ((conv=>whnf);first|with_reducible apply aO|((with_reducible apply fk)<;>intro hc<;>try exact bQ)|refine aP ?_|fail)
 refine⟨Unit,fun _=>⟨[(0,.pv (.sc (.slice none 0 0))),(1,.pv (ii 0)),(2,.pv (ii 0)),(3,.pv (.fn f [] [])),(8,.pv (ii 1))],1000000000,[]⟩,fun _=>0,⟨(),aA ?_⟩,?_⟩
 ·all_goals exact aL
 rintro⟨⟩
 repeat' ((conv=>whnf);first|with_reducible apply aO|((with_reducible apply fk)<;>intro hc<;>try exact bQ)|refine aP ?_|fail)
 all_goals exact aL
theorem I7:bE prog 187 f187:=eZ func187
theorem OU (f:Fn):dH prog 187 [.sc (.slice none 0 0),ii 0,ii 0,ii 0,.fn f [] []] unit:=by
 refine PC.le ?_;refine dA I7 ?_;repeat' ((conv=>whnf);first|with_reducible apply aO|((with_reducible apply fk)<;>intro hc<;>try exact bQ)|refine aP ?_|fail)
 refine⟨Unit,fun _=>⟨[(0,.pv (.sc (.slice none 0 0))),(1,.pv (ii 0)),(2,.pv (ii 0)),(3,.pv (ii 0)),(4,.pv (.fn f [] [])),(10,.pv (bl true)),(11,.pv (bl true))],1000000000,[]⟩,fun _=>0,⟨(),aA ?_⟩,?_⟩
 ·all_goals exact aL
 rintro⟨⟩
 repeat' ((conv=>whnf);first|with_reducible apply aO|((with_reducible apply fk)<;>intro hc<;>try exact bQ)|(apply aX;refine⟨_,Dy f,?_⟩)|refine aP ?_|fail)
 all_goals exact aL
theorem OV:bE prog 179 f179:=eZ func179
theorem LP (f:Fn):dH prog 179 [.sc (.slice none 0 0),.fn f [] []] unit:=by
 refine PC.le ?_;refine dA OV ?_;repeat' ((conv=>whnf);first|with_reducible apply aO|((with_reducible apply fk)<;>intro hc<;>try exact bQ)|(apply aX;refine⟨_,LM,?_⟩)|(apply aX;refine⟨_,OU f,?_⟩)|refine aP ?_|fail)
 all_goals exact aL
theorem FX (l:List Pl)(h:l.length≤8796093022208):gY prog 179 [.aG 1 0,.pv (.fn (.func 180) [] [])] [(1,.arr 27 0 2 (l.map Pl.c))] (.pv unit)
  [(1,.arr 27 0 2 ((sortPl l).map Pl.c))]:=by
 have eg:∀args w,(callFunc 180 args).run prog w=.ok (.enter 180 args) w:=enters_of func180 (by kernel_rfl) rfl;exact Qg (enc:=LK) (st:=2) tO (by decide) (fun _=>rfl) (fun x v hv=>by simp[LK] at hv;rcases hv with rfl|rfl<;>rfl) yY
  (fun blk cap d w hH hblk hsz=>AnyQ.slices_SortFunc_eq Tryz.sortPl 2 Tryz.isAgg27 Tryz.sizeOf27 LK (fun _=>rfl) (fun x v hv=>by simp[LK] at hv;rcases hv with rfl|rfl<;>rfl) vY RO 180 #[] blk 0 cap d w eg
   (fun _ _ _ _ x y=>WK x y _) hH hblk hsz) (LP _) l (by omega)
end Go.Proofs.YtfoiekbkkbnpkaaGreat.Tb
end
