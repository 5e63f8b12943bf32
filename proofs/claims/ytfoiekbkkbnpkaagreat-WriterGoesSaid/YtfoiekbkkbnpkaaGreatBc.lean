/-
  Contracts of functions of the program and of the document, each for every input that its premises name.
-/
import Derived.Test.YtfoiekbkkbnpkaaGreatBb
import Derived.Test.YtfoiekbkkbnpkaaGreatAf
import Derived.Test.YtfoiekbkkbnpkaaGreatBa
import Derived.Test.YtfoiekbkkbnpkaaGreatAg
set_option linter.unusedSectionVars false
set_option linter.unusedVariables false
set_option linter.unusedSimpArgs false
set_option maxRecDepth 100000
set_option maxHeartbeats 4000000
section
open Go Go.Proofs.Tryz Go.AX
namespace Go.Proofs.YtfoiekbkkbnpkaaGreat.Tb
def late1 (w:Wr)(x:Wt)(b:List Pl)(y:Pl):List Pl:=if bI x.from_ y then b else (nk { w with bad:=b } fun z=>z==y).bad
def nU (w:Wr)(x:Wt)(l b:List Pl):List Pl:=l.foldl (late1 w x) b
theorem Mh (w:Wr)(x:Wt)(l b:List Pl)(k:Nat)(h:k<l.length):nU w x (l.take (k+1)) b=late1 w x (nU w x (l.take k) b) l[k]:=by
 unfold nU;rw[List.take_succ_eq_append_getElem h,List.foldl_append];rfl
theorem Qj (w:Wr)(x:Wt)(b:List Pl)(y:Pl)(iH:(aO w.l.aj).ah.length≤5):(late1 w x b y).length≤b.length+5:=by
 unfold late1;split
 ·omega
 rw[xL];have:=qy (fun z=>z==y) (aO w.l.aj).ah b;simp only at this ⊢;omega
theorem uj (w:Wr)(x:Wt)(iH:(aO w.l.aj).ah.length≤5):∀(l b:List Pl),(nU w x l b).length≤b.length+5*l.length
 |[],b=>by simp[nU]
 | y::l,b=>by
   have h1:=uj w x iH l (late1 w x b y);have h2:=Qj w x b y iH;show (nU w x l (late1 w x b y)).length≤_
   rw[List.length_cons];omega
theorem NT (w:Wr)(x:Wt):∀(l b:List Pl),l.foldl (fun w y=>if bI x.from_ y then w else nk w fun z=>z==y) { w with bad:=b }={ w with bad:=nU w x l b }
 |[],b=>rfl
 | y::l,b=>by
   rw[List.foldl_cons];have:(if bI x.from_ y then ({ w with bad:=b }:Wr) else nk { w with bad:=b } fun z=>z==y)={ w with bad:=late1 w x b y }:=by
    unfold late1;split<;>rfl
   rw[this,NT w x l];rfl
abbrev TD:=List Wt×List Pl×List Rq
def CX (w:Wr)(now:Int)(D:TD)(i:Nat):TD:=
 let x:=D.1[i]!
 let b:=if eF now x.born 9 then nU w x (bJ w x.n) D.2.1 else D.2.1
 if eF now x.since 3 then (D.1.set i { x with since:=now },b,D.2.2++gM w x) else (D.1,b,D.2.2)
def ja (w:Wr)(now:Int)(i:Nat):TD:=(List.range i).foldl (CX w now) (w.waits,w.bad,[])
theorem qH (w:Wr)(now:Int)(i:Nat):ja w now (i+1)=CX w now (ja w now i) i:=by
 unfold ja;rw[List.range_succ,List.foldl_append];rfl
theorem pU (w:Wr)(now:Int):∀i,(List.range i).foldl (pF now) (w,[])=({ w with waits:=(ja w now i).1,bad:=(ja w now i).2.1 },(ja w now i).2.2)
 |0=>rfl
 | i+1=>by
   rw[List.range_succ,List.foldl_append,pU w now i,qH];generalize ja w now i=D;simp only[List.foldl_cons,List.foldl_nil,pF,CX];generalize D.1[i]! = x;have e:zO { w with waits:=D.1,bad:=D.2.1 } x={ w with waits:=D.1,bad:=nU w x (bJ w x.n) D.2.1 }:=by
    exact NT { w with waits:=D.1 } x (bJ w x.n) D.2.1
   rw[e];cases eF now x.born 9<;>cases eF now x.since 3<;>rfl
structure Zg (w:Wr)(i:Nat)(D:TD):Prop where
 len:D.1.length=w.waits.length
 ok:∀x∈D.1,NC x∧(bJ w x.n).length≤5
 bad:D.2.1.length≤w.bad.length+25*i
 q:D.2.2.length≤5*i
theorem WU {w:Wr}{now:Int}{i:Nat}{D:TD}(h:Zg w i D)(hi:i<w.waits.length)(hn:eD now)(iH:(aO w.l.aj).ah.length≤5):Zg w (i+1) (CX w now D i):=by
 have XH:i<D.1.length:=by rw[h.len];exact hi
 obtain⟨x,hx⟩:∃x,D.1[i]! = x:=⟨_,rfl⟩;have hm:x∈D.1:=by rw[←hx,getElem!_pos D.1 i XH];exact List.getElem_mem XH
 obtain⟨h1,h2⟩:=h.ok x hm;have hb:(if eF now x.born 9 then nU w x (bJ w x.n) D.2.1 else D.2.1).length≤w.bad.length+25*(i+1):=by
  have:=uj w x iH (bJ w x.n) D.2.1;have:=h.bad;split<;>omega
 have hq:=pR w x (bJ w x.n);rw[pQ] at hq;have h3:=h.q;unfold CX;simp only[hx];split
 ·refine⟨by rw[List.length_set];exact h.len,fun y hy=>?_,hb,by rw[List.length_append];omega⟩;rcases List.mem_or_eq_of_mem_set hy with hy|rfl
  ·exact h.ok y hy
  exact⟨⟨h1.n,h1.body,h1.from_,h1.born,hn⟩,h2⟩
 exact⟨h.len,h.ok,hb,by show D.2.2.length≤_;omega⟩
theorem GH {w:Wr}{now:Int}(h0:∀x∈w.waits,NC x∧(bJ w x.n).length≤5)(hn:eD now)(iH:(aO w.l.aj).ah.length≤5):∀i,i≤w.waits.length→Zg w i (ja w now i)
 |0,_=>⟨rfl,h0,by simp[ja],by simp[ja]⟩
 | i+1,hi=>by
   rw[qH];exact WU (GH h0 hn iH i (by omega)) (by omega) hn iH
theorem JR:bG prog 26 f26:=fF func26
def tkS (w:Wr)(W B Q:List (List PV)):List (Nat×au):=[(1004,.var (wr0.c.map .pv)),(1006,.var (nC w (.pv (eT w.l.aj)) (.aZ 1007 0) (.aZ 1008 0) (.aZ 1009 0))),(1007,.arr 145 0 5 W),(1008,.arr 27 0 2 B),(1009,.arr 93 0 10 Q)]
theorem Gx (w:Wr)(now:Int)(h:U8 w)(Ae:eD now)(hs:∀x∈w.waits,(bJ w x.n).length≤5)(iH:(aO w.l.aj).ah.length≤5) :
  dP prog 26 [.agg w.c,uu now] (.fM [.agg (dw w now).1.c,Qz (dw w now).2]):=by
 refine PC.le ?_;cases e1:(w.fenced==1) with
 | true=>
   have e:dw w now=(w,[]):=by unfold dw;rw[if_pos (by simpa using e1)]
   rw[e];have hN:=qF w h;refine dW JR ?_;repeat' ((conv=>whnf);first|with_reducible apply aQ|((with_reducible apply fk)<;>intro hc<;>try exact bF)|(apply iC;refine⟨_,_,aN (hN) ?_,?_⟩;exact dx)|refine aM ?_|fail)
   all_goals exact aK
 |false=>
 have e:dw w now=({ w with waits:=(ja w now w.waits.length).1,bad:=(ja w now w.waits.length).2.1 },(ja w now w.waits.length).2.2):=by
  unfold dw;rw[if_neg (by simpa using e1)];exact pU w now _
 rw[e];clear e;have hT:=WK w h;have hall:=GH (now:=now) (fun x hx=>⟨h.wx x hx,hs x hx⟩) Ae iH;have hwl:=h.wl;have hfr:=h.fr;have hfl:=h.fl;have hbl:=h.bl;clear h hs;refine dW JR ?_;repeat' ((conv=>whnf);first|with_reducible apply aQ|((with_reducible apply fk)<;>intro hc<;>try exact bF)|rewrite[qO]|rewrite[qP]|(apply iC;refine⟨_,_,aN (hT) ?_,?_⟩;exact dx)|refine aM ?_|fail)
 clear hT;refine⟨{i:Nat // i≤w.waits.length},fun⟨i,_⟩=>⟨[(1,.pv (uu now)),(4,.ptr 1004 0),(6,.ptr 1006 0),(25,.pv (ii w.waits.length)),(26,.pv (ii i))],1000000000,tkS w ((ja w now i).1.map Wt.c) ((ja w now i).2.1.map Pl.c) ((ja w now i).2.2.map Rq.c)⟩,fun⟨i,_⟩=>w.waits.length-i,⟨⟨0,Nat.zero_le _⟩,ay ?_⟩,?_⟩
 ·repeat' first|apply And.intro|exact aK|fail
  all_goals try (conv=>whnf)
  all_goals simp
 rintro⟨i,hi⟩
 dsimp only
 by_cases hlt:i<w.waits.length
 rotate_left
 ·have hke:i=w.waits.length:=by omega
  subst hke;have d0:decide ((w.waits.length:Int)<(w.waits.length:Int))=false:=by simp
  repeat' ((conv=>whnf);first|with_reducible apply aQ|((with_reducible apply fk)<;>intro hc<;>try exact bF)|refine aM ?_|fail)
  all_goals exact aK
 have d0:decide ((i:Int)<(w.waits.length:Int))=true:=by simp only[kU];omega
 have eW:IntKind.i64.wrap ((i:Int)+1)=((i+1:Nat):Int):=by rw[bE (by omega) (by omega)];omega
 have hok:=hall i hi;have hS:=qH w now i;obtain⟨D,hD⟩:∃D,ja w now i=D:=⟨_,rfl⟩;rw[hD] at hok hS ⊢;clear hD hall;have XH:i<D.1.length:=by rw[hok.len];exact hlt
 have hr:=dJ Wt.c D.1 i XH;obtain⟨x,hx⟩:∃x,D.1[i]=x:=⟨_,rfl⟩;have hxx:D.1[i]! = x:=by rw[getElem!_pos D.1 i XH];exact hx
 obtain⟨hB,hs5⟩:=hok.ok x (by rw[←hx];exact List.getElem_mem XH);rw[hx] at hr;have vM:=hok.bad;have hqq:=hok.q;have hnn:i<(D.1.map Wt.c).length:=by rw[List.length_map];exact XH
 clear hok hx;unfold CX at hS;simp only[hxx] at hS;obtain⟨W,B,Q⟩:=D;simp only at hS hr vM hqq hnn hxx XH ⊢;have hg1:=NK now x.born 9 Ae hB.born;have hg2:=NK now x.since 3 Ae hB.since;obtain⟨g1,ach⟩:∃g,eF now x.born 9=g:=⟨_,rfl⟩;obtain⟨g2,aci⟩:∃g,eF now x.since 3=g:=⟨_,rfl⟩;rw[ach] at hg1 hS;rw[aci] at hg2 hS;clear ach aci hxx;obtain⟨b,hb⟩:∃b,(if g1=true then nU w x (bJ w x.n) B else B)=b:=⟨_,rfl⟩;rw[hb] at hS;replace hS:=Hd.mk hS;repeat' ((conv=>whnf);first|fail|((with_reducible apply fk)<;>intro hc<;>try exact bF)|(apply bC;refine⟨_,hg1,?_⟩)|((with_reducible refine (Or.inl ?_:VC _ _ (Code.block _ _) _ _∨_)))|((refine⟨_,hr,?_⟩))|(((with_reducible apply And.intro);focus (rw[Int.toNat_natCast];exact hnn)))|refine aM ?_|fail)
 refine Or.inl ?_;repeat' ((conv=>whnf);first|fail|((with_reducible apply fk)<;>intro hc<;>try exact bF)|(apply bC;refine⟨_,hg1,?_⟩)|((with_reducible refine (Or.inl ?_:VC _ _ (Code.block _ _) _ _∨_)))|((refine⟨_,hr,?_⟩))|(((with_reducible apply And.intro);focus (rw[Int.toNat_natCast];exact hnn)))|refine aM ?_|fail)
 refine Or.inr ⟨Unit,fun _=>⟨[(1,.pv (uu now)),(4,.ptr 1004 0),(6,.ptr 1006 0),(8,.bU 1007 0 i 0),(25,.pv (ii w.waits.length)),(26,.pv (ii i))],1000000000,tkS w (W.map Wt.c) (b.map Pl.c) (Q.map Rq.c)⟩,?_,fun _=>?_⟩
 ·clear hS hg2;cases g1 with
  | false=>
    simp only[Bool.false_eq_true,↓reduceIte] at hb;subst hb;repeat' ((conv=>whnf);first|with_reducible apply aQ|((with_reducible apply fk)<;>intro hc<;>try exact bF)|(apply bC;refine⟨_,hg1,?_⟩)|((refine⟨_,hr,?_⟩))|(((with_reducible apply And.intro);focus (rw[Int.toNat_natCast];exact hnn)))|refine aM ?_|fail)
    refine⟨(),ay ?_⟩;all_goals exact aK
  |true=>
  simp only[↓reduceIte] at hb;have hse:=CJ w.l.aj w.l.w x.n hfr hB.n;obtain⟨st,hst⟩:∃st,bJ w x.n=st:=⟨_,rfl⟩;rw[show setOf w.l.aj w.l.w x.n=st from hst] at hse;rw[hst] at hb hs5;clear hst;replace hb:=Hd.mk hb;repeat' ((conv=>whnf);first|with_reducible apply aQ|((with_reducible apply fk)<;>intro hc<;>try exact bF)|(apply bC;refine⟨_,hg1,?_⟩)|(refine Or.inr ?_;(conv=>whnf);refine⟨_,o7 nR (jU mixed nR) xJ rfl ?_,fun _ _ h=>h⟩)|(apply bC;refine⟨_,hse,?_⟩)|((refine⟨_,hr,?_⟩))|(((with_reducible apply And.intro);focus (rw[Int.toNat_natCast];exact hnn)))|refine aM ?_|fail)
  clear hse hg1;refine⟨{k:Nat // k≤st.length},fun⟨k,_⟩=>⟨[(1,.pv (uu now)),(4,.ptr 1004 0),(6,.ptr 1006 0),(8,.bU 1007 0 i 0),(25,.pv (ii w.waits.length)),(26,.pv (ii i)),(47,.pv (dO st)),(48,.pv (ii st.length)),(49,.pv (ii k))],1000000000,tkS w (W.map Wt.c) ((nU w x (st.take k) B).map Pl.c) (Q.map Rq.c)⟩,fun⟨k,_⟩=>st.length-k,⟨⟨0,Nat.zero_le _⟩,ay ?_⟩,?_⟩
  ·repeat' first|apply And.intro|exact aK|fail
   all_goals try (conv=>whnf)
   all_goals first
    |exact aC _
    |simp
  rintro⟨k,hk⟩
  dsimp only
  by_cases hkl:k<st.length
  rotate_left
  ·have hke:k=st.length:=by omega
   subst hke;have d1:decide ((st.length:Int)<(st.length:Int))=false:=by simp
   rw[List.take_length];rw[hb.out];repeat' ((conv=>whnf);first|with_reducible apply aQ|((with_reducible apply fk)<;>intro hc<;>try exact bF)|refine aM ?_|fail)
   refine⟨(),ay ?_⟩;all_goals exact aK
  have d1:decide ((k:Int)<(st.length:Int))=true:=by simp only[kU];omega
  have eV:IntKind.i64.wrap ((k:Int)+1)=((k+1:Nat):Int):=by rw[bE (by omega) (by omega)];omega
  have hq:=Mh w x st B k hkl;have hcl:=uj w x iH (st.take k) B;have htl:(st.take k).length≤5:=by rw[List.length_take];omega
  have Qb:=dJ Pl.c st k hkl;obtain⟨y,hy⟩:∃y,st[k]=y:=⟨_,rfl⟩;rw[hy] at hq Qb;obtain⟨cu,Xa⟩:∃cu,nU w x (st.take k) B=cu:=⟨_,rfl⟩;rw[Xa] at hq hcl ⊢;clear Xa hy;have hco:=bS x.from_ y.node y.bf;rw[show (x.from_.any fun z=>z==(⟨y.node,y.bf⟩:Pl))=bI x.from_ y from rfl] at hco;unfold late1 at hq;obtain⟨bb,acj⟩:∃bb,bI x.from_ y=bb:=⟨_,rfl⟩;rw[acj] at hco hq;clear acj;cases bb with
  | true=>
    simp only[↓reduceIte] at hq;replace hq:=Hd.mk hq;repeat' ((conv=>whnf);first|with_reducible apply aQ|((with_reducible apply fk)<;>intro hc<;>try exact dK)|((refine⟨_,Qb,?_⟩))|((refine⟨_,hr,?_⟩))|(apply bC;refine⟨_,hco,?_⟩)|refine aM ?_|fail)
    refine⟨⟨k+1,hkl⟩,dec_lt hkl,ay ?_⟩;dsimp only
    rw[hq.out];repeat' first|apply And.intro|exact aK|fail
    all_goals try (conv=>whnf)
    all_goals exact eV
  | false=>
    simp only[Bool.false_eq_true,↓reduceIte] at hq;have hba:=WS { w with bad:=cu } (W.map Wt.c) (Q.map Rq.c) 79 y.c (fun z=>z==y) (fun z=>Uu y z) (by simp only;omega) (by simp only;omega) (by simp only;omega);replace hq:=Hd.mk hq;repeat' ((conv=>whnf);first|with_reducible apply aQ|((with_reducible apply fk)<;>intro hc<;>try exact dK)|rewrite[qO]|rewrite[qP]|((refine⟨_,Qb,?_⟩))|((refine⟨_,hr,?_⟩))|(apply bC;refine⟨_,hco,?_⟩)|(apply iC;refine⟨_,_,aN (hba) ?_,?_⟩;exact dx)|refine aM ?_|fail)
    refine⟨⟨k+1,hkl⟩,dec_lt hkl,ay ?_⟩;dsimp only
    rw[hq.out];repeat' first|apply And.intro|exact aK|fail
    all_goals try (conv=>whnf)
    all_goals exact eV
 clear hb hg1;cases g2 with
 | false=>
   simp only[Bool.false_eq_true,↓reduceIte] at hS;repeat' ((conv=>whnf);first|with_reducible apply aQ|((with_reducible apply fk)<;>intro hc<;>try exact bF)|(apply bC;refine⟨_,hg2,?_⟩)|((refine⟨_,hr,?_⟩))|refine aM ?_|fail)
   refine⟨⟨i+1,hlt⟩,dec_lt hlt,ay ?_⟩;dsimp only
   rw[hS.out];repeat' first|apply And.intro|exact aK|fail
   all_goals try (conv=>whnf)
   all_goals exact eW
 | true=>
   simp only[↓reduceIte] at hS;have hse:=UC w x now i (W.map Wt.c) (b.map Pl.c) Q hr (by omega) hfr hB (by omega);repeat' ((conv=>whnf);first|with_reducible apply aQ|((with_reducible apply fk)<;>intro hc<;>try exact bF)|rewrite[qO]|rewrite[qP]|(apply bC;refine⟨_,hg2,?_⟩)|((refine⟨_,hr,?_⟩))|(apply iC;refine⟨_,_,aN (hse) ?_,?_⟩;exact dx)|refine aM ?_|fail)
   refine⟨⟨i+1,hlt⟩,dec_lt hlt,ay ?_⟩;dsimp only
   rw[hS.out];repeat' first|apply And.intro|exact aK|fail
   all_goals try (conv=>whnf)
   all_goals first
    |exact eW
    |(rw[List.map_set];exact aC _)
    |skip
theorem xO:bG prog 28 f28:=fF func28
theorem GI {w:Wr}{e:Int}{known:List Pl}(h:((w.fenced==1)||((w.change.first != 0)||(((w.bad.map Pl.c).length:Int)==0)))=true):j4 w e known=(w,jI,false):=by
 unfold j4;rw[if_pos];simp only[Bool.or_eq_true,beq_iff_eq,bne_iff_ne,ne_eq,fe] at h;rcases h with h|h|h
 ·exact .inl h
 ·exact .inr (.inl h)
 exact .inr (.inr (List.eq_nil_of_length_eq_zero (by omega)))
theorem UK {w:Wr}{e:Int}{known:List Pl}{g:Fr}{ok:Bool}(h1:(w.fenced==1)=false)(h2:(w.change.first != 0)=false)(h3:(((w.bad.map Pl.c).length:Int)==0)=false)(hX:gU (aO w.l.aj) w.l.w e w.bad known=(g,ok)) :
  j4 w e known=if (!ok||((((w.l.aj.map Fr.c).length:Int)==6)&&decide (w.sure+1>(aO w.l.aj).first)))=true then ({ w with bad:=[] },jI,false) else ({ w with change:=⟨w.sure+1,g.ah⟩ },⟨w.sure+1,g.ah⟩,true):=by
 unfold j4 mR;rw[hX];rw[if_neg]
 ·simp only[fe];rfl
 simp only[beq_eq_false_iff_ne,ne_eq,bne_eq_false_iff_eq,fe] at h1 h2 h3;rintro (h|h|h)
 ·exact h1 h
 ·exact h h2
 rw[h] at h3;exact h3 rfl
theorem Md (w:Wr)(e:Int)(known:List Pl)(h:U8 w)(hk:known.length≤1000)(iH:(aO w.l.aj).ah.length≤5)(Ak:0≤w.sure∧w.sure<18446744073709551615) :
  dP prog 28 [.agg w.c,ii e,dO known] (.fM [.agg (j4 w e known).1.c,.agg (j4 w e known).2.1.c,bl (j4 w e known).2.2]):=by
 refine PC.le ?_;have hN:=qF w h;cases c1:(w.fenced==1) with
 | true=>
   rw[GI (by rw[c1];rfl)];refine dW xO ?_;repeat' ((conv=>whnf);first|with_reducible apply aQ|((with_reducible apply fk)<;>intro hc<;>try exact dK)|(apply iC;refine⟨_,_,aN (hN) ?_,?_⟩;exact dx)|refine aM ?_|fail)
   all_goals exact aK
 |false=>
 cases c2:(w.change.first != 0) with
 | true=>
   rw[GI (by rw[c1,c2];rfl)];refine dW xO ?_;repeat' ((conv=>whnf);first|with_reducible apply aQ|((with_reducible apply fk)<;>intro hc<;>try exact dK)|(apply iC;refine⟨_,_,aN (hN) ?_,?_⟩;exact dx)|refine aM ?_|fail)
   all_goals exact aK
 |false=>
 cases c3:(((w.bad.map Pl.c).length:Int)==0) with
 | true=>
   rw[GI (by rw[c1,c2,c3];rfl)];refine dW xO ?_;repeat' ((conv=>whnf);first|with_reducible apply aQ|((with_reducible apply fk)<;>intro hc<;>try exact dK)|(apply iC;refine⟨_,_,aN (hN) ?_,?_⟩;exact dx)|refine aM ?_|fail)
   all_goals exact aK
 |false=>
 have hre:=Uf (aO w.l.aj) w.l.w e w.bad known (by omega) hk;have hg5:=BX iH w.l.w e w.bad known;have hla:=Ux w (w.waits.map Wt.c) (w.bad.map Pl.c) (by have:=h.fl;omega);obtain⟨⟨g,ok⟩,hX⟩:∃X,gU (aO w.l.aj) w.l.w e w.bad known=X:=⟨_,rfl⟩;rw[UK c1 c2 c3 hX];rw[hX] at hre hg5;simp only at hre hg5;have eS:IntKind.u64.wrap (w.sure+1)=w.sure+1:=kT (by omega) (by omega);have hof:=qE ⟨w.sure+1,g.ah⟩ (by simp only;omega);clear hX h hk Ak hg5 iH;obtain⟨lf,iH⟩:∃lf,aO w.l.aj=lf:=⟨_,rfl⟩;rw[iH] at hre hla ⊢;clear iH;cases ok with
 | false=>
   simp only[Bool.not_false,Bool.true_or,↓reduceIte];refine dW xO ?_;repeat' ((conv=>whnf);first|with_reducible apply aQ|((with_reducible apply fk)<;>intro hc<;>try exact dK)|rewrite[qO]|rewrite[qP]|rewrite[eS]|(apply iC;refine⟨_,_,aN (hN) ?_,?_⟩;exact dx)|(refine Or.inr ?_;(conv=>whnf);refine⟨_,_,aN (hla) ?_,?_⟩;exact dx)|(apply bC;refine⟨_,aL (hre) ?_,?_⟩;exact dx)|refine aM ?_|fail)
   all_goals exact aK
 |true=>
 cases c6:(((w.l.aj.map Fr.c).length:Int)==6)<;>cases c7:decide (w.sure+1>lf.first)
 all_goals
  simp only[Bool.not_true,Bool.false_or,Bool.and_true,Bool.and_false,Bool.true_and,Bool.false_and,Bool.false_eq_true,↓reduceIte];refine dW xO ?_;repeat' ((conv=>whnf);first|with_reducible apply aQ|((with_reducible apply fk)<;>intro hc<;>try exact dK)|rewrite[qO]|rewrite[qP]|rewrite[eS]|(apply iC;refine⟨_,_,aN (hN) ?_,?_⟩;exact dx)|(refine Or.inr ?_;(conv=>whnf);refine⟨_,_,aN (hla) ?_,?_⟩;exact dx)|(apply bC;refine⟨_,aL (hre) ?_,?_⟩;exact dx)|(apply bC;refine⟨_,aL (hof) ?_,?_⟩;exact dx)|refine aM ?_|fail)
  all_goals exact aK
theorem zW:bG prog 29 f29:=fF func29
theorem kV (l:List Fr)(w n:Int):(setOf l w n).length≤w.toNat:=by
 unfold setOf;split
 ·simp
 split
 ·simp[dZ]
 simp
theorem Qk {l:List Fr}{f:Fr}(h:iN l)(hf:f.ok):iN (bn l f):=by
 intro x hx;unfold bn at hx;rw[List.mem_append,List.mem_singleton] at hx;rcases hx with hx|rfl
 ·split at hx
  ·exact h x (List.dropLast_subset _ hx)
  exact h x hx
 exact hf
def upW (now:Int)(x:Wt):Wt:={ x with born:=now,since:=now }
def NU (P L:List Wt)(now:Int)(i:Nat):List Wt:=P++((L.take i).map (upW now)++L.drop i)
theorem WV (P L:List Wt)(now:Int)(i:Nat)(h:i<L.length):(NU P L now i)[P.length+i]? = some L[i]:=by
 unfold NU;rw[List.getElem?_append_right (by omega),Nat.add_sub_cancel_left,List.getElem?_append_right (by simp;omega)];simp only[fe,List.length_take];rw[Nat.min_eq_left (by omega),Nat.sub_self,List.getElem?_drop,Nat.add_zero,List.getElem?_eq_getElem h]
theorem UL (P L:List Wt)(now:Int)(i:Nat)(h:i<L.length):(NU P L now i).set (P.length+i) (upW now L[i])=NU P L now (i+1):=by
 unfold NU;rw[List.set_append_right _ _ (by omega),Nat.add_sub_cancel_left];congr 1
 have e:((L.take i).map (upW now)).length=i:=by simp;omega
 rw[List.set_append_right _ _ (by omega),e,Nat.sub_self,List.take_succ_eq_append_getElem h,List.map_append,List.append_assoc];congr 1
 rw[List.drop_eq_getElem_cons h];rfl
theorem vK (w:Wr)(now:Int)(ok:Bool)(h:(w.change.first==0)=false)(wD:Wr)(hD:wD={ w with l:={ w.l with aj:=if ok then bn w.l.aj w.change else w.l.aj },change:=jI,bad:=[] })(j:Nat)(hj:(wD.waits.takeWhile (bX wD)).length=j) :
  bM w now ok=({ wD with sure:=nT wD j,waits:=(wD.waits.drop j).map (upW now) },(wD.waits.drop j).flatMap (gM { wD with sure:=nT wD j })):=by
 unfold bM;rw[if_neg (by simpa using h)];have e:jr w ok={ wD with sure:=nT wD j,waits:=wD.waits.drop j }:=by
  unfold jr;rw[←hD];exact NS wD j hj
 rw[e];rfl
theorem vH (w:Wr)(now:Int)(ok:Bool)(h:U8 w)(Ae:eD now)(hw:w.l.w≤5)(hch:w.change.ok) :
  dP prog 29 [.agg w.c,uu now,bl ok] (.fM [.agg (bM w now ok).1.c,Qz (bM w now ok).2]):=by
 refine PC.le ?_;cases c1:(w.change.first==0) with
 | true=>
   have hN:=qF w h;have e:bM w now ok=(w,[]):=by unfold bM;rw[if_pos (by simpa using c1)]
   rw[e];refine dW zW ?_;repeat' ((conv=>whnf);first|with_reducible apply aQ|((with_reducible apply fk)<;>intro hc<;>try exact bF)|(apply iC;refine⟨_,_,aN (hN) ?_,?_⟩;exact dx)|refine aM ?_|fail)
   all_goals exact aK
 |false=>
 obtain⟨F,hF⟩:∃F,(if ok then bn w.l.aj w.change else w.l.aj)=F:=⟨_,rfl⟩;obtain⟨j,hj⟩:∃j,(w.waits.takeWhile (bX { w with l:={ w.l with aj:=F },change:=jI,bad:=[] })).length=j:=⟨_,rfl⟩;rw[vK w now ok c1 { w with l:={ w.l with aj:=F },change:=jI,bad:=[] } (by rw[hF]) j hj];have hC:=WL w h;have hla:=UA w (w.waits.map Wt.c) (w.bad.map Pl.c) (by have:=h.fl;omega);have Zh:iN F:=by
  rw[←hF];cases ok
  ·exact h.fr
  exact Qk h.fr hch
 have Zf:=h.wx;have hwl:=h.wl;have hfl:=h.fl;have hm:=UI { w with l:={ w.l with aj:=F },change:=jI,bad:=[] } Zh (fun x hx=>(Zf x hx).n) hwl j hj;refine dW zW ?_;repeat' ((conv=>whnf);first|fail|((with_reducible apply fk)<;>intro hc<;>try exact dK)|rewrite[qO]|rewrite[qP]|(apply iC;refine⟨_,_,aN (hC) ?_,?_⟩;exact dx)|refine aM ?_|fail)
 refine Or.inl ?_;repeat' ((conv=>whnf);first|fail|((with_reducible apply fk)<;>intro hc<;>try exact dK)|refine aM ?_|fail)
 clear hC;refine Or.inr ⟨Unit,fun _=>⟨[(1,.pv (uu now)),(6,.ptr 1006 0),(8,.ptr 1008 0)],1000000000,[(1006,.var (wr0.c.map .pv)),(1008,.var (nC w (.pv (eT F)) (.aZ 1009 0) (.pv (dO w.bad)) (.pv dV))),(1009,.arr 145 0 5 (w.waits.map Wt.c))]⟩,?_,fun _=>?_⟩
 ·clear hm Zf hwl Zh;cases ok with
  | false=>
    simp only[Bool.false_eq_true,↓reduceIte] at hF;rw[←hF];repeat' ((conv=>whnf);first|with_reducible apply aQ|((with_reducible apply fk)<;>intro hc<;>try exact dK)|refine aM ?_|fail)
    refine⟨(),pu [1002003001] ?_⟩;all_goals exact aK
  | true=>
    simp only[↓reduceIte] at hF;rw[←hF];unfold bn;cases e37:((aO w.l.aj).first==w.change.first) with
    | false=>
      simp only[Bool.false_eq_true,↓reduceIte];obtain⟨lf,iH⟩:∃lf,aO w.l.aj=lf:=⟨_,rfl⟩;rw[iH] at hla e37;repeat' ((conv=>whnf);first|with_reducible apply aQ|((with_reducible apply fk)<;>intro hc<;>try exact dK)|(refine Or.inr ?_;(conv=>whnf);refine⟨_,_,aN (hla) ?_,?_⟩;exact dx)|(((with_reducible apply And.intro);focus (simp only[fe,mH,mI];omega)))|refine aM ?_|fail)
      refine⟨(),pu [1002003001] ?_⟩;repeat' first|apply And.intro|exact aK|fail
      all_goals try (conv=>whnf)
      all_goals first
       |(rw[List.map_append];exact aC _)
    | true=>
      simp only[↓reduceIte];obtain⟨lf,iH⟩:∃lf,aO w.l.aj=lf:=⟨_,rfl⟩;have h0:0<w.l.aj.length:=by
       rcases Nat.eq_zero_or_pos w.l.aj.length with h0|h0
       ·rw[List.eq_nil_of_length_eq_zero h0,mX] at e37;simp only[jI,beq_iff_eq] at e37;rw[←e37] at c1;cases c1
       exact h0
      rw[iH] at hla e37;obtain⟨k,hk⟩:∃k,w.l.aj.length=k+1:=⟨w.l.aj.length-1,by omega⟩;have eI:IntKind.i64.wrap (((w.l.aj.map Fr.c).length:Int)-1)=((k:Nat):Int):=by rw[List.length_map,bE (by omega) (by omega)];omega
      repeat' ((conv=>whnf);first|with_reducible apply aQ|((with_reducible apply fk)<;>intro hc<;>try exact dK)|rewrite[eI]|(refine Or.inr ?_;(conv=>whnf);refine⟨_,_,aN (hla) ?_,?_⟩;exact dx)|(((with_reducible apply And.intro);focus (simp only[fe,mH,mI,Int.toNat_natCast];omega)))|refine aM ?_|fail)
      refine⟨(),pu [1002003001] ?_⟩;repeat' first|apply And.intro|exact aK|fail
      all_goals try (conv=>whnf)
      simp only[jM,List.drop_zero,Int.toNat_natCast,List.length_singleton,Nat.sub_zero];rw[List.drop_eq_nil_of_le (by rw[List.length_map];omega),List.append_nil,List.take_of_length_le (by simp only[mZ,List.length_take,fe,List.length_singleton];omega),List.map_append,List.dropLast_eq_take,hk,Nat.add_sub_cancel,List.map_take];exact aC _
 clear hla hfl;obtain⟨L,hL⟩:∃L,w.waits.drop j=L:=⟨_,rfl⟩;obtain⟨P,hP⟩:∃P,w.waits.take j=P:=⟨_,rfl⟩;have hjl:j≤w.waits.length:=by rw[←hj];exact (List.takeWhile_prefix _).length_le
 have hPL:w.waits=P++L:=by rw[←hP,←hL,List.take_append_drop]
 have hPl:P.length=j:=by rw[←hP,List.length_take];omega
 obtain⟨su,Ak⟩:∃su,nT { w with l:={ w.l with aj:=F },change:=jI,bad:=[] } j=su:=⟨_,rfl⟩;rw[Ak] at hm ⊢;simp only[hL];have hLx:∀x∈L,NC x:=fun x hx=>Zf x (by rw[hPL];simp[hx])
 clear hL hP hj Zf hF Ak hjl h;simp only[hPL,mZ] at hm hwl ⊢;clear hPL;subst hPl;repeat' ((conv=>whnf);first|with_reducible apply aQ|((with_reducible apply fk)<;>intro hc<;>try exact dK)|rewrite[qO]|rewrite[qP]|(apply iC;refine⟨_,_,aN (hm) ?_,?_⟩;exact dx)|refine aM ?_|fail)
 refine⟨{i:Nat // i≤L.length},fun⟨i,_⟩=>⟨[(1,.pv (uu now)),(6,.ptr 1006 0),(8,.ptr 1008 0),(72,.pv (ii L.length)),(73,.pv (ii i))],1000000000,[(1006,.var (wr0.c.map .pv)),(1008,.var (nC { w with l:={ w.l with aj:=F },change:=jI,bad:=[],sure:=su } (.pv (eT F)) (.sub 1009 0 5 P.length (P.length+L.length)) (.pv dV) (.aZ 1010 0))),(1009,.arr 145 0 5 ((NU P L now i).map Wt.c)),(1010,.arr 93 0 10 (((L.take i).flatMap (gM { w with l:={ w.l with aj:=F },change:=jI,bad:=[],sure:=su })).map Rq.c))]⟩,fun⟨i,_⟩=>L.length-i,⟨⟨0,Nat.zero_le _⟩,ay ?_⟩,?_⟩
 ·repeat' first|apply And.intro|exact aK|fail
  all_goals try (conv=>whnf)
  all_goals first
   |(simp only[jM,List.length_take,List.length_drop,fe,mZ];omega)
   |skip
 rintro⟨i,hi⟩
 dsimp only
 clear hm;by_cases hlt:i<L.length
 rotate_left
 ·have hke:i=L.length:=by omega
  subst hke;have d0:decide ((L.length:Int)<(L.length:Int))=false:=by simp
  have eC:NU P L now L.length=P++L.map (upW now):=by unfold NU;rw[List.take_length,List.drop_length,List.append_nil]
  rw[eC,List.take_length];repeat' ((conv=>whnf);first|with_reducible apply aQ|((with_reducible apply fk)<;>intro hc<;>try exact bF)|refine aM ?_|fail)
  repeat' first|apply And.intro|exact aK|fail
  all_goals try (conv=>whnf)
  all_goals first
   |(rw[jM,List.map_append,List.drop_left' (by rw[List.length_map]),List.take_of_length_le (by simp only[fe];omega)];exact aC _)
   |skip
 have d0:decide ((i:Int)<(L.length:Int))=true:=by simp only[kU];omega
 have eW:IntKind.i64.wrap ((i:Int)+1)=((i+1:Nat):Int):=by rw[bE (by omega) (by omega)];omega
 have hx0:((NU P L now i).map Wt.c)[P.length+i]? = some (L[i]).c:=by rw[List.getElem?_map,WV P L now i hlt];rfl
 have hcs:=UL P L now i hlt;have hB:=hLx _ (List.getElem_mem hlt);have hts:L.take (i+1)=L.take i++[L[i]]:=List.take_succ_eq_append_getElem hlt;obtain⟨x,hx⟩:∃x,L[i]=x:=⟨_,rfl⟩;rw[hx] at hx0 hcs hB hts;have hil:P.length+i<((NU P L now i).map Wt.c).length:=(List.getElem?_eq_some_iff.1 hx0).1;obtain⟨q,hq⟩:∃q,(L.take i).flatMap (gM { w with l:={ w.l with aj:=F },change:=jI,bad:=[],sure:=su })=q:=⟨_,rfl⟩;have hql:q.length≤5*i:=by
  rw[←hq];have hg:∀(l:List Wt),(l.flatMap (gM { w with l:={ w.l with aj:=F },change:=jI,bad:=[],sure:=su })).length≤5*l.length:=fun l=>by
   induction l with
   |nil=>simp
   | cons y l ih=>
     rw[List.flatMap_cons,List.length_append,List.length_cons];have h1:=pR { w with l:={ w.l with aj:=F },change:=jI,bad:=[],sure:=su } y (bJ { w with l:={ w.l with aj:=F },change:=jI,bad:=[],sure:=su } y.n);rw[pQ] at h1;have h2:=kV F w.l.w y.n;have h3:(bJ { w with l:={ w.l with aj:=F },change:=jI,bad:=[],sure:=su } y.n).length≤w.l.w.toNat:=h2;omega
  have:=hg (L.take i);rw[List.length_take] at this;omega
 have hqs:(L.take (i+1)).flatMap (gM { w with l:={ w.l with aj:=F },change:=jI,bad:=[],sure:=su })=q++gM { w with l:={ w.l with aj:=F },change:=jI,bad:=[],sure:=su } { x with born:=now }:=by
  rw[hts,List.flatMap_append,hq];simp only[List.flatMap_cons,List.flatMap_nil,List.append_nil];rfl
 rw[hq];have hx1:(((NU P L now i).map Wt.c).set (P.length+i) ({ x with born:=now }:Wt).c)[P.length+i]? = some ({ x with born:=now }:Wt).c:=List.getElem?_set_self hil;have hse:=UD { w with l:={ w.l with aj:=F },change:=jI,bad:=[],sure:=su } { x with born:=now } now (P.length+i) P.length (P.length+L.length) (((NU P L now i).map Wt.c).set (P.length+i) ({ x with born:=now }:Wt).c) q hx1 (by omega) Zh ⟨hB.n,hB.body,hB.from_,Ae,hB.since⟩ (by
  have h2:=kV F w.l.w x.n;have h3:(bJ { w with l:={ w.l with aj:=F },change:=jI,bad:=[],sure:=su } ({ x with born:=now }:Wt).n).length≤w.l.w.toNat:=h2;omega)
 rw[List.set_set] at hse;have aco:((NU P L now i).map Wt.c).set (P.length+i) ({ x with born:=now,since:=now }:Wt).c=(NU P L now (i+1)).map Wt.c:=by
  rw[←hcs,List.map_set];rfl
 rw[aco,←hqs] at hse;clear hcs aco hqs hts hx hq hx1;repeat' ((conv=>whnf);first|with_reducible apply aQ|((with_reducible apply fk)<;>intro hc<;>try exact dK)|rewrite[qO]|rewrite[qP]|((refine⟨_,hx0,?_⟩))|(apply iC;refine⟨_,_,aN (hse) ?_,?_⟩;exact dx)|(((with_reducible apply And.intro);focus (rw[Int.toNat_natCast];omega)))|refine aM ?_|fail)
 refine⟨⟨i+1,hlt⟩,dec_lt hlt,ay ?_⟩;repeat' first|apply And.intro|exact aK|fail
 all_goals try (conv=>whnf)
 all_goals first
  |exact eW
  |skip
def QB (s:Sg):List (Nat×au):=[(1,.var (stA s (.aZ 2 0) (.aZ 3 0) (.aZ 4 0))),(2,.arr 136 0 20 (s.cO.map Lt.c)),(3,.arr 140 0 4 (s.had.map Hp.c)),(4,.arr 9 0 1 (s.bK.map Ai))]
def Ql (s:Sg):List (Nat×au):=[(1,.var (stA s (.aZ 1001 0) (.aZ 1002 0) (.aZ 1003 0))),(2,.gD 1 20 []),(3,.gD 1 4 []),(4,.gD 1 1 []),(1001,.arr 136 0 20 (s.cO.map Lt.c)),(1002,.arr 140 0 4 (s.had.map Hp.c)),(1003,.arr 9 0 1 (s.bK.map Ai))]
def stM (s:Sg):List (Nat×au):=[(1779,.arr 9 0 1 (s.bK.map Ai)),(1778,.arr 140 0 4 (s.had.map Hp.c)),(1777,.arr 136 0 20 (s.cO.map Lt.c)),(1,.var (stA s (.aZ 1777 0) (.aZ 1778 0) (.aZ 1779 0))),(2,.gD 1 20 []),(3,.gD 1 4 []),(4,.gD 1 1 [])]
theorem xP {f:FuncId}{r:List AV}{s:Sg}{Q:AV→List (Nat×au)→Prop}(h:GC prog f (.ptr 1 0::r) (stM s) Q)(hr:Cb 4 1779 (Cb 3 1778 (Cb 2 1777 r))=r):GC prog f (.ptr 1 0::r) (QB s) Q:=by
 refine Ce 2 1777 rfl (Ce 3 1778 rfl (Ce 4 1779 rfl ?_));show GC _ _ (.ptr 1 0::Cb 4 1779 (Cb 3 1778 (Cb 2 1777 r))) (stM s) Q
 rw[hr];exact h
theorem Mi:bG prog 70 f70:=fF func70
theorem CY:bG prog 71 f71:=fF func71
theorem yV (s:Sg)(l:List Rq)(hl:l.length≤1000000)(hb:s.cO.length≤1000000):lg prog 70 [.ptr 1 0,.pv (Qz l)] (QB s) (.pv (.fM [])) (Ql (jc s l)):=by
 refine xP ?_ rfl;refine nD Mi ?_;repeat' ((conv=>whnf);first|with_reducible apply aQ|((with_reducible apply fk)<;>intro hc<;>try exact bF)|refine aM ?_|fail)
 refine⟨{k:Nat // k≤l.length∧k≤80-s.cO.length},fun⟨k,_⟩=>⟨[(0,.ptr 1 0),(1,.pv (Qz l)),(4,.pv (ii k))],1000000000,Ql { s with cO:=s.cO++(l.take k).map U9 }⟩,fun⟨k,_⟩=>l.length-k,⟨⟨0,Nat.zero_le _,Nat.zero_le _⟩,ay ?_⟩,?_⟩
 ·repeat' first|apply And.intro|exact aK|fail
  all_goals try (conv=>whnf)
  all_goals first
   |(simp only[List.take_zero,Yk,List.append_nil];exact aC _)
   |skip
 rintro⟨k,hk,hk2⟩
 dsimp only
 have hlen:(((s.cO++(l.take k).map U9).map Lt.c).length:Int)=((s.cO.length+k:Nat):Int):=by simp only[fe,mZ,List.length_take];omega
 cases d1:decide ((k:Int)<((l.map Rq.c).length:Int)) with
 | false=>
   have hke:k=l.length:=by rw[List.length_map,decide_eq_false_iff_not] at d1;omega
   have e:jc s l={ s with cO:=s.cO++(l.take k).map U9 }:=by
    unfold jc;rw[List.take_of_length_le (by omega),List.take_of_length_le (by omega)];rfl
   rw[e];clear e hke hlen;repeat' ((conv=>whnf);first|with_reducible apply aQ|((with_reducible apply fk)<;>intro hc<;>try exact dK)|refine aM ?_|fail)
   refine⟨_,_,⟨rfl,rfl⟩,?_⟩;all_goals exact aK
 |true=>
 have hkl:k<l.length:=by rw[List.length_map,decide_eq_true_eq] at d1;omega
 cases d2:decide ((((s.cO++(l.take k).map U9).map Lt.c).length:Int)<80) with
 | false=>
   have e:jc s l={ s with cO:=s.cO++(l.take k).map U9 }:=by
    rw[hlen,decide_eq_false_iff_not] at d2;have:80-s.cO.length=k:=by omega
    unfold jc;rw[this];rfl
   rw[e];clear e hlen;repeat' ((conv=>whnf);first|with_reducible apply aQ|((with_reducible apply fk)<;>intro hc<;>try exact dK)|refine aM ?_|fail)
   refine⟨_,_,⟨rfl,rfl⟩,?_⟩;all_goals exact aK
 | true=>
   have h80:s.cO.length+k<80:=by rw[hlen,decide_eq_true_eq] at d2;omega
   have eW:IntKind.i64.wrap ((k:Int)+1)=((k+1:Nat):Int):=by rw[bE (by omega) (by omega)];omega
   have Zi:s.cO++List.map U9 (List.take (k+1) l)=(s.cO++List.map U9 (List.take k l))++[U9 l[k]]:=by rw[List.take_succ_eq_append_getElem hkl,List.map_append,List.append_assoc];rfl
   replace Zi:=Hd.mk Zi;have hr:=dJ Rq.c l k hkl;have Zt:k<(l.map Rq.c).length:=by rw[List.length_map];exact hkl
   clear hlen;repeat' ((conv=>whnf);first|with_reducible apply aQ|((with_reducible apply fk)<;>intro hc<;>try exact dK)|((refine⟨_,hr,?_⟩))|(((with_reducible apply And.intro);focus (rw[Int.toNat_natCast];exact Zt)))|(((with_reducible apply And.intro);focus (simp only[fe,mH,mI,mZ,List.length_take];omega)))|refine aM ?_|fail)
   refine⟨⟨k+1,hkl,by omega⟩,dec_lt hkl,ay ?_⟩;repeat' first|apply And.intro|exact aK|fail
   all_goals try (conv=>whnf)
   all_goals first
    |exact eW
    | (show gu (List.map Lt.c (s.cO++List.map U9 (List.take (k+1) l))) (List.map Lt.c (s.cO++List.map U9 (List.take k l))++_)
       rw[Zi.out,List.map_append];refine dH (aC _) ?_
       (repeat' first|apply And.intro|exact aK|fail);(all_goals try (conv=>whnf)))
    |skip
theorem Qm (s:Sg)(n:Int)(h:0<s.cO.length)(hb:s.cO.length≤1000000):dP prog 71 [.dh (stP s) 0,ii n] (ii (if n.tmod (s.cO.length:Int)<0 then n.tmod (s.cO.length:Int)+s.cO.length else n.tmod (s.cO.length:Int))):=by
 have eL:((s.cO.map Lt.c).length:Int)=(s.cO.length:Int):=by rw[List.length_map]
 have hlo : -(s.cO.length:Int)<n.tmod (s.cO.length:Int):=by
  rcases Int.lt_or_le n 0 with hn|hn
  ·have:=Int.tmod_lt_of_pos (-n) (b:=(s.cO.length:Int)) (by omega);rw[Int.neg_tmod] at this;omega
  have:=Int.tmod_nonneg (s.cO.length:Int) hn;omega
 have hhi:n.tmod (s.cO.length:Int)<s.cO.length:=Int.tmod_lt_of_pos _ (by omega);rw[←eL] at hlo hhi ⊢;refine PC.le ?_;obtain⟨L,hL⟩:∃L,s.cO.map Lt.c=L:=⟨_,rfl⟩;have hL0:((L.length:Int)==0)=false:=by rw[←hL,List.length_map,beq_eq_false_iff_ne];omega
 have hn0:(L.length:Int)≠0:=by simpa using hL0
 have hLb:L.length≤1000000:=by rw[←hL,List.length_map];exact hb
 rw[hL] at hlo hhi ⊢;have hs:stP s=[uu s.w.l.id,ii s.w.l.w,ii s.w.l.a,eT s.w.l.aj,ii s.w.l.closed,uu s.w.l.last,uu s.w.aX,uu s.w.next,uu s.w.sure,nA s.w.waits,dO s.w.bad,uu s.w.change.first,dO s.w.change.ah,ii s.w.fenced,eT s.bZ,uu s.ask.first,dO s.ask.ah,ii s.taken,uu s.now,.sl false 20 L,.sl false 4 (s.had.map Hp.c),.sl false 1 (s.bK.map Ai)]:=by rw[←hL];rfl
 rw[hs];clear hL hs eL hL0 h hb;have eW:n.tmod (L.length:Int)<0→IntKind.i64.wrap (n.tmod (L.length:Int)+(L.length:Int))=n.tmod (L.length:Int)+(L.length:Int):=fun h=>bE (by omega) (by omega)
 cases d0:decide (n.tmod (L.length:Int)<0) with
 | true=>
   have h0:n.tmod (L.length:Int)<0:=by simpa using d0
   rw[if_pos h0];have eW:=eW h0;clear h0 hlo hhi;refine dW CY ?_;repeat' ((conv=>whnf);first|with_reducible apply aQ|((with_reducible apply fk)<;>intro hc<;>try exact bF)|((refine⟨hn0,?_⟩))|refine aM ?_|fail)
   repeat' first|apply And.intro|exact aK|fail
   all_goals try (conv=>whnf)
   all_goals exact eW
 | false=>
   rw[if_neg (by simpa using d0)];clear hlo hhi eW;refine dW CY ?_;repeat' ((conv=>whnf);first|with_reducible apply aQ|((with_reducible apply fk)<;>intro hc<;>try exact bF)|((refine⟨hn0,?_⟩))|refine aM ?_|fail)
   all_goals exact aK
theorem jC:bG prog 72 f72:=fF func72
theorem Qn (s:Sg)(x:Lt)(code:Int)(h:U8 s.w)(iH:(aO s.w.l.aj).ah.length≤1000)(hb:s.cO.length≤1000000)(hh:s.had.length≤1000000) :
  lg prog 72 [.ptr 1 0,.pv (.agg x.c),.pv (ii code)] (QB s) (.pv (.fM [])) (Ql (eZ s x (jd code 7))):=by
 refine xP ?_ rfl;cases d0:x.ask with
 | false=>
   have e:eZ s x (jd code 7)={ s with w:=fw s.w x.r }:=by unfold eZ;rw[if_pos d0]
   rw[e];have ht:=qG s.w s.now x.r h iH;obtain⟨w',hw'⟩:∃w',fw s.w x.r=w':=⟨_,rfl⟩;rw[hw'] at ht ⊢;clear e hw' h iH hb hh;refine nD jC ?_;repeat' ((conv=>whnf);first|with_reducible apply aQ|((with_reducible apply fk)<;>intro hc<;>try exact dK)|(apply bC;refine⟨_,aL (ht) ?_,?_⟩;exact dx)|refine aM ?_|fail)
   refine⟨_,_,⟨rfl,rfl⟩,?_⟩;all_goals exact aK
 |true=>
 clear h iH;cases d3:decide (((s.cO.map Lt.c).length:Int)<80)
 ·have hbk:∀(t:Sg) (r:Rs),t.cO=s.cO→iP t r={ t with cO:=s.cO }:=fun t r ht=>by
   unfold iP;rw[List.length_map] at d3;rw[ht];first
    |(rw[if_neg (by simpa using d3)];cases t;simp only at ht;rw[ht])
    |rw[if_pos (by simpa using d3)]
  cases d1:(jd code 7==6)
  ·cases d2:(jd code 7==7)
   ·have e:eZ s x (jd code 7)=iP { s with had:=s.had++[⟨x.q.to,x.q.n,x.q.body⟩] } (jO x.q):=by unfold eZ;rw[if_neg (by rw[d0];decide),if_neg (by simpa using d1),if_neg (by simpa using d2)]
    rw[e,hbk ({ s with had:=s.had++[⟨x.q.to,x.q.n,x.q.body⟩] }:Sg) _ rfl];unfold jd at d1 d2;clear e hbk;refine nD jC ?_;repeat' ((conv=>whnf);first|with_reducible apply aQ|((with_reducible apply fk)<;>intro hc<;>try exact dK)|((refine⟨_,rfl,?_⟩))|(((with_reducible apply And.intro);focus (simp only[fe,mH,mI];omega)))|refine aM ?_|fail)
    refine⟨_,_,⟨rfl,rfl⟩,?_⟩;repeat' first|apply And.intro|exact aK|fail
    all_goals try (conv=>whnf)
    all_goals first
     |(rw[List.map_append];refine dH (aC _) ?_;(repeat' first|apply And.intro|exact aK|fail);(all_goals try (conv=>whnf)))
     |skip
   have e:eZ s x (jd code 7)=iP s { jO x.q with code:=4,from_:=⟨x.q.to.node,IntKind.u64.wrap (x.q.to.bf+1)⟩ }:=by unfold eZ;rw[if_neg (by rw[d0];decide),if_neg (by simpa using d1),if_pos (by simpa using d2)]
   rw[e,hbk _ _ rfl];unfold jd at d1 d2;clear e hbk;refine nD jC ?_;repeat' ((conv=>whnf);first|with_reducible apply aQ|((with_reducible apply fk)<;>intro hc<;>try exact dK)|((refine⟨_,rfl,?_⟩))|(((with_reducible apply And.intro);focus (simp only[fe,mH,mI];omega)))|refine aM ?_|fail)
   refine⟨_,_,⟨rfl,rfl⟩,?_⟩;repeat' first|apply And.intro|exact aK|fail
   all_goals try (conv=>whnf)
   all_goals first
    |(rw[List.map_append];refine dH (aC _) ?_;(repeat' first|apply And.intro|exact aK|fail);(all_goals try (conv=>whnf)))
    |skip
  have e:eZ s x (jd code 7)=iP s { jO x.q with code:=2 }:=by unfold eZ;rw[if_neg (by rw[d0];decide),if_pos (by simpa using d1)]
  rw[e,hbk _ _ rfl];unfold jd at d1;clear e hbk;refine nD jC ?_;repeat' ((conv=>whnf);first|with_reducible apply aQ|((with_reducible apply fk)<;>intro hc<;>try exact dK)|((refine⟨_,rfl,?_⟩))|(((with_reducible apply And.intro);focus (simp only[fe,mH,mI];omega)))|refine aM ?_|fail)
  refine⟨_,_,⟨rfl,rfl⟩,?_⟩;repeat' first|apply And.intro|exact aK|fail
  all_goals try (conv=>whnf)
  all_goals first
   |(rw[List.map_append];refine dH (aC _) ?_;(repeat' first|apply And.intro|exact aK|fail);(all_goals try (conv=>whnf)))
   |skip
 have hbk:∀(t:Sg) (r:Rs),t.cO=s.cO→iP t r={ t with cO:=s.cO++[⟨false,rq0,r⟩] }:=fun t r ht=>by
  unfold iP;rw[List.length_map] at d3;rw[ht];first
   |(rw[if_neg (by simpa using d3)];cases t;simp only at ht;rw[ht])
   |rw[if_pos (by simpa using d3)]
 cases d1:(jd code 7==6)
 ·cases d2:(jd code 7==7)
  ·have e:eZ s x (jd code 7)=iP { s with had:=s.had++[⟨x.q.to,x.q.n,x.q.body⟩] } (jO x.q):=by unfold eZ;rw[if_neg (by rw[d0];decide),if_neg (by simpa using d1),if_neg (by simpa using d2)]
   rw[e,hbk ({ s with had:=s.had++[⟨x.q.to,x.q.n,x.q.body⟩] }:Sg) _ rfl];unfold jd at d1 d2;clear e hbk;refine nD jC ?_;repeat' ((conv=>whnf);first|with_reducible apply aQ|((with_reducible apply fk)<;>intro hc<;>try exact dK)|((refine⟨_,rfl,?_⟩))|(((with_reducible apply And.intro);focus (simp only[fe,mH,mI];omega)))|refine aM ?_|fail)
   refine⟨_,_,⟨rfl,rfl⟩,?_⟩;repeat' first|apply And.intro|exact aK|fail
   all_goals try (conv=>whnf)
   all_goals first
    |(rw[List.map_append];refine dH (aC _) ?_;(repeat' first|apply And.intro|exact aK|fail);(all_goals try (conv=>whnf)))
    |skip
  have e:eZ s x (jd code 7)=iP s { jO x.q with code:=4,from_:=⟨x.q.to.node,IntKind.u64.wrap (x.q.to.bf+1)⟩ }:=by unfold eZ;rw[if_neg (by rw[d0];decide),if_neg (by simpa using d1),if_pos (by simpa using d2)]
  rw[e,hbk _ _ rfl];unfold jd at d1 d2;clear e hbk;refine nD jC ?_;repeat' ((conv=>whnf);first|with_reducible apply aQ|((with_reducible apply fk)<;>intro hc<;>try exact dK)|((refine⟨_,rfl,?_⟩))|(((with_reducible apply And.intro);focus (simp only[fe,mH,mI];omega)))|refine aM ?_|fail)
  refine⟨_,_,⟨rfl,rfl⟩,?_⟩;repeat' first|apply And.intro|exact aK|fail
  all_goals try (conv=>whnf)
  all_goals first
   |(rw[List.map_append];refine dH (aC _) ?_;(repeat' first|apply And.intro|exact aK|fail);(all_goals try (conv=>whnf)))
   |skip
 have e:eZ s x (jd code 7)=iP s { jO x.q with code:=2 }:=by unfold eZ;rw[if_neg (by rw[d0];decide),if_pos (by simpa using d1)]
 rw[e,hbk _ _ rfl];unfold jd at d1;clear e hbk;refine nD jC ?_;repeat' ((conv=>whnf);first|with_reducible apply aQ|((with_reducible apply fk)<;>intro hc<;>try exact dK)|((refine⟨_,rfl,?_⟩))|(((with_reducible apply And.intro);focus (simp only[fe,mH,mI];omega)))|refine aM ?_|fail)
 refine⟨_,_,⟨rfl,rfl⟩,?_⟩;repeat' first|apply And.intro|exact aK|fail
 all_goals try (conv=>whnf)
 all_goals first
  |(rw[List.map_append];refine dH (aC _) ?_;(repeat' first|apply And.intro|exact aK|fail);(all_goals try (conv=>whnf)))
  |skip
theorem JH:bG prog 75 f75:=fF func75
theorem LV (a b:Int):dP prog 75 [.agg [ii a,uu b]] (bl (rY ⟨a,b⟩)):=by
 refine PC.le ?_;refine dW JH ?_;repeat' ((conv=>whnf);first|with_reducible apply aQ|((with_reducible apply fk)<;>intro hc<;>try exact bF)|refine aM ?_|fail)
 all_goals
  repeat' first|apply And.intro|exact aK|fail
  all_goals try (conv=>whnf)
  simp only[rY,bR];simp only[kU,Au] at *;first
   |(symm;simp only[Bool.and_eq_false_iff,Au];omega)
   |(rw[Bool.eq_iff_iff];simp only[Bool.and_eq_true,kU];omega)
theorem zR:bG prog 25 f25:=fF func25
theorem vG (w:Int)(l:List Fr):dP prog 25 [ii w,eT l] (bl (bL w l)):=by
 refine PC.le (nL zR fun hb=>?_);have hb:l.length≤9223372036854775807:=by simpa[F6,Ar,eT] using hb
 refine dW zR ?_;cases hf1:oh l with
 | false=>
   cases l with
   | nil=>
     repeat' ((conv=>whnf);first|with_reducible apply aQ|((with_reducible apply fk)<;>intro hc<;>try exact bF)|refine aM ?_|fail)
     repeat' first|apply And.intro|exact aK|fail
     all_goals try (conv=>whnf)
     all_goals simp[bL,bR]
   | cons x r=>
     repeat' ((conv=>whnf);first|with_reducible apply aQ|((with_reducible apply fk)<;>intro hc<;>try exact bF)|((refine⟨_,rfl,?_⟩))|refine aM ?_|fail)
     all_goals try (exfalso;simp[oh] at hf1 hc;exact hf1 hc)
     all_goals
      repeat' first|apply And.intro|exact aK|fail
      all_goals try (conv=>whnf)
      all_goals (simp only[bL,hf1,Bool.false_and,Bool.and_false])
 | true=>
   obtain⟨h0,e0⟩:=(vg l).1 hf1;have hrow:(l.map Fr.c)[(0:Int).toNat]? = some l[0].c:=dJ Fr.c l 0 h0;have hlen:(¬(1≤l.length∧l.length≤6))→bL w l=false:=fun h=>by
    cases e:bL w l with
    |false=>rfl
    |true=>exact absurd ⟨((jw w l).1 e).1,((jw w l).1 e).2.1⟩ h
   repeat' ((conv=>whnf);first|with_reducible apply aQ|((with_reducible apply fk)<;>intro hc<;>try exact bF)|((refine⟨_,hrow,?_⟩))|refine aM ?_|fail)
   ·repeat' first|apply And.intro|exact aK|fail
    all_goals try (conv=>whnf)
    exact (hlen (by simp at *;omega)).symm
   ·repeat' first|apply And.intro|exact aK|fail
    all_goals try (conv=>whnf)
    exact (hlen (by simp at *;omega)).symm
   ·exfalso;simp[e0] at hc
   have h6:1≤l.length∧l.length≤6:=by simp at *;omega
   refine⟨{k:Nat // k≤l.length∧∀j (hj:j<l.length),j<k→sj w l j hj},fun⟨k,_⟩=>⟨[(0,.pv (ii w)),(1,.pv (eT l)),(5,.pv (ii k))],1000000000,[]⟩,fun⟨k,_⟩=>l.length-k,⟨⟨0,by simp⟩,ay ?_⟩,?_⟩
   ·all_goals exact aK
   rintro⟨k,hk,hn⟩
   repeat' ((conv=>whnf);first|with_reducible apply aQ|((with_reducible apply fk)<;>intro hc<;>try exact bF)|refine aM ?_|fail)
   ·have hlt:k<l.length:=by simpa using hc
    have hbad:¬sj w l k hlt→bL w l=false:=K8 hlt;have e1 (h:0<k):IntKind.i64.wrap (((k:Nat):Int)-1)=((k-1:Nat):Int):=by rw[bE (by omega) (by omega)];omega
    refine⟨_,dJ _ _ _ hlt,?_⟩;repeat' ((conv=>whnf);first|with_reducible apply aQ|((with_reducible apply fk)<;>intro hc<;>try exact bF)|((refine⟨_,dJ _ _ _ hlt,?_⟩))|((refine⟨by rw[e1 (by simp at hc;omega)];omega,_,RY _ _ (e1 (by simp at hc;omega)) (by omega),?_⟩))|refine aM ?_|fail)
    all_goals
     first
      |(have hgood:(∀x∈l[k].ah,rY x=true)→(l[k].ah.map (·.node)).Nodup→sj w l k hlt:=(by intro h1 h2;simp only[kU,Au,fe] at *;exact⟨by omega,fun h=>by omega,by omega,by omega,List.all_eq_true.2 h1,h2⟩))
      |((repeat' first|apply And.intro|exact aK|fail);(all_goals try (conv=>whnf));exact (hbad (by rintro⟨g1,g2,g3,g4,_⟩;simp only[kU,Au,fe] at *;by_cases hk0:0<k<;>first|omega|(have g2:=g2 hk0;omega))).symm)
    all_goals
     repeat' ((conv=>whnf);first|with_reducible apply aQ|((with_reducible apply fk)<;>intro hc<;>try exact bF)|refine aM ?_|fail)
     generalize hbk:l[k].ah=bk at *;have hbl:bk.length≤5:=by simp only[kU,Au,fe] at *;omega
     refine⟨{j:Nat // j≤bk.length∧(∀i (hi:i<bk.length),i<j→rY bk[i]=true)∧((bk.take j).map (·.node)).Nodup},fun⟨j,_⟩=>⟨[(0,.pv (ii w)),(1,.pv (eT l)),(5,.pv (ii k)),(6,.pv (dO bk)),(7,.pv (ii j))],1000000000,[]⟩,fun⟨j,_⟩=>bk.length-j,⟨⟨0,by simp⟩,ay ?_⟩,?_⟩
     ·all_goals exact aK
     rintro⟨j,hj,hm,hd⟩
     repeat' ((conv=>whnf);first|with_reducible apply aQ|((with_reducible apply fk)<;>intro hc<;>try exact bF)|refine aM ?_|fail)
     ·have hjl:j<bk.length:=by simpa using hc
      refine⟨_,dJ _ _ _ hjl,?_⟩;repeat' ((conv=>whnf);first|with_reducible apply aQ|((with_reducible apply fk)<;>intro hc<;>try exact bF)|(apply bC;refine⟨_,LV _ _,?_⟩)|refine aM ?_|fail)
      ·repeat' first|apply And.intro|exact aK|fail
       all_goals try (conv=>whnf)
       refine (hbad fun g=>?_).symm;have:=List.all_eq_true.1 g.2.2.2.2.1 bk[j] (by rw[hbk];exact List.getElem_mem hjl);rw[Pl.eta] at hc;rw[this] at hc;cases hc
      repeat' ((conv=>whnf);first|with_reducible apply aQ|((with_reducible apply fk)<;>intro hc<;>try exact bF)|refine aM ?_|fail)
      refine⟨{i:Nat // i≤j∧∀x (hx:x<bk.length),x<i→bk[x].node≠bk[j].node},fun⟨i,_⟩=>⟨[(0,.pv (ii w)),(1,.pv (eT l)),(5,.pv (ii k)),(6,.pv (dO bk)),(7,.pv (ii j)),(8,.pv (ii i))],1000000000,[]⟩,fun⟨i,_⟩=>j-i,⟨⟨0,by simp⟩,ay ?_⟩,?_⟩
      ·all_goals exact aK
      have hpl:rY bk[j]=true:=by rw[Pl.eta] at hc;simpa using hc
      rintro⟨i,hi,hx⟩
      repeat' ((conv=>whnf);first|with_reducible apply aQ|((with_reducible apply fk)<;>intro hc<;>try exact bF)|refine aM ?_|fail)
      ·have hij:i<j:=by simpa using hc
       refine⟨_,dJ _ _ _ (by omega:i<bk.length),?_⟩;repeat' ((conv=>whnf);first|with_reducible apply aQ|((with_reducible apply fk)<;>intro hc<;>try exact bF)|((refine⟨_,dJ _ _ _ hjl,?_⟩))|refine aM ?_|fail)
       ·repeat' first|apply And.intro|exact aK|fail
        all_goals try (conv=>whnf)
        refine (hbad fun g=>?_).symm;have:=g.2.2.2.2.2;rw[hbk] at this;have:=List.pairwise_iff_getElem.1 this i j (by simp;omega) (by simp;omega) hij;simp at this hc;exact this hc
       repeat' ((conv=>whnf);first|with_reducible apply aQ|((with_reducible apply fk)<;>intro hc<;>try exact bF)|refine aM ?_|fail)
       refine⟨⟨i+1,hij,lJ hx fun _=>by simpa using hc⟩,dec_lt hij,ay ?_⟩;repeat' first|apply And.intro|exact aK|fail
       all_goals try (conv=>whnf)
       exact bE (by omega) (by omega)
      have hij:i=j:=by simp at hc;omega
      subst hij;repeat' ((conv=>whnf);first|with_reducible apply aQ|((with_reducible apply fk)<;>intro hc<;>try exact bF)|refine aM ?_|fail)
      refine⟨⟨i+1,hjl,lJ hm fun _=>hpl,K9 hjl hd hx⟩,dec_lt hjl,ay ?_⟩;repeat' first|apply And.intro|exact aK|fail
      all_goals try (conv=>whnf)
      exact bE (by omega) (by omega)
     have hj:j=bk.length:=by simp at hc;omega
     subst hj;repeat' ((conv=>whnf);first|with_reducible apply aQ|((with_reducible apply fk)<;>intro hc<;>try exact bF)|refine aM ?_|fail)
     refine⟨⟨k+1,hlt,lJ hn fun _=>hgood (ve hm) (by simpa using hd)⟩,dec_lt hlt,ay ?_⟩;repeat' first|apply And.intro|exact aK|fail
     all_goals try (conv=>whnf)
     exact bE (by omega) (by omega)
   repeat' first|apply And.intro|exact aK|fail
   all_goals try (conv=>whnf)
   have:k=l.length:=by simp at hc;omega
   subst this;exact ((jw w l).2 ⟨h6.1,h6.2,hf1,fun j hj=>hn j hj hj⟩).symm
theorem Gv:bG prog 21 f21:=fF func21
theorem zS (l:Lg)(hr : -9223372036854775808≤l.closed∧l.closed≤9223372036854775807∧0≤l.last):dP prog 21 [.agg l.c] (bl (eH l)):=by
 refine PC.le ?_;obtain⟨X,hX⟩:∃X,X=eH l:=⟨_,rfl⟩;rw[←hX];refine dW Gv ?_;repeat' ((conv=>whnf);first|with_reducible apply aQ|((with_reducible apply fk)<;>intro hc<;>try exact bF)|(apply bC;refine⟨_,vG _ _,?_⟩)|refine aM ?_|fail)
 all_goals
  repeat' first|apply And.intro|exact aK|fail
  all_goals try (conv=>whnf)
  subst hX;simp only[eH,bR];grind
theorem CS:bG prog 126 f126:=fF func126
theorem Fj (l:List Fr)(n:Int):dP prog 126 [eT l,uu n] (ii (lu (fun f=>decide (f.first≤n)) l)):=by
 refine PC.le (nL CS fun hb=>?_);have hb:l.length≤9223372036854775807:=by simpa[F6,Ar,eT] using hb
 refine dW CS ?_;repeat' ((conv=>whnf);first|with_reducible apply aQ|((with_reducible apply fk)<;>intro hc<;>try exact bF)|refine aM ?_|fail)
 refine⟨{k:Nat // k≤l.length∧∀j (hj:j<l.length),k≤j→decide (l[j].first≤n)=false},fun⟨k,_⟩=>⟨[(0,.pv (eT l)),(1,.pv (uu n)),(5,.pv (ii (((k:Nat):Int)-1)))],1000000000,[]⟩,fun⟨k,_⟩=>k,⟨⟨l.length,Nat.le_refl _,fun j hj h=>by omega⟩,ay ?_⟩,?_⟩
 ·repeat' first|apply And.intro|exact aK|fail
  all_goals try (conv=>whnf)
  rw[bE (by simp;omega) (by simp;omega),List.length_map]
 rintro⟨k,hk,hn⟩
 repeat' ((conv=>whnf);first|with_reducible apply aQ|((with_reducible apply fk)<;>intro hc<;>try exact bF)|refine aM ?_|fail)
 ·have hlt:k-1<l.length∧1≤k:=by simp at hc;omega
  repeat' ((conv=>whnf);first|with_reducible apply aQ|((with_reducible apply fk)<;>intro hc<;>try exact bF)|((refine⟨by simp at hc;omega,_,RY _ _ (k:=k-1) (by omega) hlt.1,?_⟩))|refine aM ?_|fail)
  ·repeat' first|apply And.intro|exact aK|fail
   all_goals try (conv=>whnf)
   rw[EJ _ hlt.1 (fun j hj h=>hn j hj (by omega)) hc];omega
  repeat' ((conv=>whnf);first|with_reducible apply aQ|((with_reducible apply fk)<;>intro hc<;>try exact bF)|refine aM ?_|fail)
  refine⟨⟨k-1,by omega,fun j hj h=>?_⟩,(show k-1<k by omega),ay ?_⟩
  ·by_cases e:j=k-1
   ·subst e;exact hc
   exact hn j hj (by omega)
  repeat' first|apply And.intro|exact aK|fail
  all_goals try (conv=>whnf)
  rw[bE (by omega) (by omega)];omega
 repeat' first|apply And.intro|exact aK|fail
 all_goals try (conv=>whnf)
 rw[r9 _ (fun x hx=>?_)];obtain⟨j,hj,rfl⟩:=List.getElem_of_mem hx;exact hn j hj (by simp at hc;omega)
theorem Fp:bG prog 73 f73:=fF func73
theorem Ul (l:List Fr)(w n:Int)(h:iN l)(hn:0≤n∧n≤18446744073709551615):dP prog 73 [eT l,ii w,uu n] (dO (setOf l w n)):=by
 refine PC.le (nL Fp fun hb=>?_);have hb:l.length≤9223372036854775807:=by simpa[F6,Ar,eT] using hb
 refine dW Fp ?_;rcases wU (fun f:Fr=>decide (f.first≤n)) l with ⟨e1,e2⟩|⟨k,hk,e1,e2⟩
 ·have hF:dP prog 126 [eT l,uu n] (ii (-1)):=e1▸Fj l n;repeat' ((conv=>whnf);first|with_reducible apply aQ|((with_reducible apply fk)<;>intro hc<;>try exact bF)|(apply bC;refine⟨_,hF,?_⟩)|refine aM ?_|fail)
  repeat' first|apply And.intro|exact aK|fail
  all_goals try (conv=>whnf)
  simp[setOf,gT,e2]
 have hF:dP prog 126 [eT l,uu n] (ii (k:Nat)):=e1▸Fj l n;have hf:gT l n=some l[k]:=e2;obtain⟨⟨f1,f2,f3⟩,f4⟩:=yH h hf;repeat' ((conv=>whnf);first|with_reducible apply aQ|((with_reducible apply fk)<;>intro hc<;>try exact bF)|(apply bC;refine⟨_,hF,?_⟩)|((refine⟨_,dJ _ _ _ hk,?_⟩))|refine aM ?_|fail)
 all_goals try (exfalso;grind)
 ·repeat' first|apply And.intro|exact aK|fail
  all_goals try (conv=>whnf)
  simp only[kU,Au,fe] at *;simp only[setOf,hf];rw[if_neg (by omega)];rfl
 ·repeat' first|apply And.intro|exact aK|fail
  all_goals try (conv=>whnf)
  simp only[kU,Au,fe] at *;simp only[setOf,hf];rw[if_neg (by omega)];rfl
 have hw:1≤w∧w≤l[k].ah.length:=by simp only[kU,Au,fe] at *;omega
 have hpos:0<l[k].ah.length:=by omega
 have hlow:=Int.emod_nonneg (n-l[k].first) (b:=(l[k].ah.length:Int)) (by omega);have hup:=Int.emod_lt_of_pos (n-l[k].first) (b:=(l[k].ah.length:Int)) (by omega);have eI:IntKind.i64.wrap ((IntKind.u64.wrap (n-l[k].first)).tmod (IntKind.u64.wrap ((l[k].ah.map Pl.c).length:Int)))=(n-l[k].first)%(l[k].ah.length:Int):=by
  rw[kT (by omega) (by omega),List.length_map,kT (by omega) (by omega),Int.tmod_eq_emod_of_nonneg (by omega)];exact bE (by omega) (by omega)
 obtain⟨c,hc0⟩:∃c:Nat,c=((n-l[k].first)%(l[k].ah.length:Int)).toNat:=⟨_,rfl⟩;have hcl:c<l[k].ah.length:=by omega
 have hset:setOf l w n=dZ l[k].ah c w.toNat:=by simp only[setOf,hf];rw[if_pos hw,hc0]
 have hcs:∀i,dZ l[k].ah c (i+1)=dZ l[k].ah c i++[l[k].ah[(c+i)%l[k].ah.length]!]:=fun i=>by simp[dZ,List.range_succ]
 have hfl:∀i,(dZ l[k].ah c i).length=i:=fun i=>by simp[dZ]
 rw[hset];generalize hbk:l[k].ah=bk at *;repeat' ((conv=>whnf);first|with_reducible apply aQ|((with_reducible apply fk)<;>intro hc<;>try exact bF)|(((with_reducible apply And.intro);focus (rw[List.length_map,kT (by omega) (by omega)];omega)))|refine aM ?_|fail)
 refine⟨{i:Nat // i≤w.toNat},fun⟨i,_⟩=>⟨[(1,.pv (ii w)),(8,.aZ 1008 0),(9,.pv (dO bk)),(10,.pv (ii (((c+i)%bk.length:Nat):Int)))],1000000000,[(1008,.arr 27 0 2 ((dZ bk c i).map Pl.c))]⟩,fun⟨i,_⟩=>w.toNat-i,⟨⟨0,Nat.zero_le _⟩,ay ?_⟩,?_⟩
 ·repeat' first|apply And.intro|exact aK|fail
  all_goals try (conv=>whnf)
  rw[eI,Nat.add_zero,Nat.mod_eq_of_lt hcl];omega
 rintro⟨i,hi⟩
 have hm:(c+i)%bk.length<bk.length:=Nat.mod_lt _ hpos;have hwr:IntKind.i64.wrap ((((c+i)%bk.length:Nat):Int)+1)=(((c+i)%bk.length+1:Nat):Int):=by rw[bE (by omega) (by omega)];omega
 have hrow:[(bk[(c+i)%bk.length]).c]=[bk[(c+i)%bk.length]!].map Pl.c:=by rw[getElem!_pos bk _ hm];rfl
 have hms:=mod_succ (c+i) bk.length hpos;repeat' ((conv=>whnf);first|with_reducible apply aQ|((with_reducible apply fk)<;>intro hc<;>try exact bF)|refine aM ?_|fail)
 ·have hiw:i<w.toNat:=by simp[hfl] at hc;omega
  refine⟨_,dJ _ _ _ hm,?_⟩;repeat' ((conv=>whnf);first|with_reducible apply aQ|((with_reducible apply fk)<;>intro hc<;>try exact bF)|(((with_reducible apply And.intro);focus (simp[hfl];omega)))|refine aM ?_|fail)
  ·rw[hwr] at hc;rw[beq_iff_eq,List.length_map,Int.ofNat_inj] at hc;rw[if_pos hc] at hms;refine⟨⟨i+1,hiw⟩,dec_lt hiw,ay ?_⟩;repeat' first|apply And.intro|exact aK|fail
   all_goals try (conv=>whnf)
   all_goals first
    |(refine gN ?_;rw[hcs,List.map_append,←hrow];rfl)
    |(rw[←Nat.add_assoc,hms];rfl)
  rw[hwr] at hc;rw[beq_eq_false_iff_ne,ne_eq,List.length_map,Int.ofNat_inj] at hc;rw[if_neg hc] at hms;refine⟨⟨i+1,hiw⟩,dec_lt hiw,ay ?_⟩;repeat' first|apply And.intro|exact aK|fail
  all_goals try (conv=>whnf)
  all_goals first
   |(refine gN ?_;rw[hcs,List.map_append,←hrow];rfl)
   |(rw[←Nat.add_assoc,hms];exact hwr)
 have:i=w.toNat:=by simp[hfl] at hc;omega
 subst this;all_goals exact aK
theorem JK:bG prog 127 f127:=fF func127
theorem JL:bG prog 74 f74:=fF func74
theorem CU (l:List Pl)(k:Nat)(h:k<l.length)(p:Pl):(l.take (k+1)).any (· == p)=((l.take k).any (· == p)||(l[k]==p)):=by
 rw[List.take_succ_eq_append_getElem h,List.any_append];simp
theorem Gy (x y:Pl):((x.node==y.node)&&(x.bf==y.bf))=(x==y):=by
 rw[Bool.eq_iff_iff];obtain⟨_,_⟩:=x;obtain⟨_,_⟩:=y;simp
theorem Me (set bW:List Pl)(h1:set.length≤1000000)(h2:bW.length≤1000000):dP prog 127 [dO set,dO bW] (ii (Le set bW)):=by
 refine PC.le ?_;refine dW JK ?_;repeat' ((conv=>whnf);first|with_reducible apply aQ|((with_reducible apply fk)<;>intro hc<;>try exact bF)|refine aM ?_|fail)
 refine⟨{i:Nat // i≤set.length},fun⟨i,_⟩=>⟨[(0,.pv (dO set)),(1,.pv (dO bW)),(5,.pv (ii (om set bW i))),(6,.pv (ii i))],1000000000,[]⟩,fun⟨i,_⟩=>set.length-i,⟨⟨0,Nat.zero_le _⟩,ay ?_⟩,?_⟩
 ·all_goals exact aK
 rintro⟨i,hi⟩
 dsimp only
 have hcl:=Nc set bW i;by_cases hlt:i<set.length
 ·have d0:decide ((i:Int)<((set.map Pl.c).length:Int))=true:=by simp only[fe,kU];omega
  have eW:IntKind.i64.wrap ((i:Int)+1)=((i+1:Nat):Int):=by rw[bE (by omega) (by omega)];omega
  have NH:=dJ Pl.c set i hlt;have Ze:=yJ set bW i hlt;replace Ze:=Hd.mk Ze;obtain⟨c,hc0⟩:∃c,c=om set bW i:=⟨_,rfl⟩;rw[←hc0];replace hc0:=Hd.mk hc0;have ahD:c≤i:=by rw[hc0.out];exact hcl
  have eC:IntKind.i64.wrap ((c:Int)+1)=((c+1:Nat):Int):=by rw[bE (by omega) (by omega)];omega
  clear hcl;repeat' ((conv=>whnf);first|with_reducible apply aQ|((with_reducible apply fk)<;>intro hc<;>try exact bF)|refine aM ?_|fail)
  refine⟨{k:Nat // k≤i},fun⟨k,_⟩=>⟨[(0,.pv (dO set)),(1,.pv (dO bW)),(5,.pv (ii c)),(6,.pv (ii i)),(7,.pv (bl (!(set.take k).any (· == set[i])))),(8,.pv (ii k))],1000000000,[]⟩,fun⟨k,_⟩=>i-k,⟨⟨0,Nat.zero_le _⟩,ay ?_⟩,?_⟩
  ·all_goals exact aK
  rintro⟨k,hk⟩
  dsimp only
  by_cases hkt:k<i
  ·have d1:decide ((k:Int)<(i:Int))=true:=by simp only[kU];omega
   have eV:IntKind.i64.wrap ((k:Int)+1)=((k+1:Nat):Int):=by rw[bE (by omega) (by omega)];omega
   have Qb:=dJ Pl.c set k (by omega);have hst:=CU set k (by omega) set[i];have hbq:=Gy (set[k]'(by omega)) set[i];simp only[Pl.c] at NH Qb;cases hF:(set.take k).any (· == set[i]) with
   | true=>
     have hnx:(!(set.take (k+1)).any (· == set[i]))=false:=by rw[hst,hF];rfl
     replace hnx:=Hd.mk hnx;clear hst hbq hF;repeat' ((conv=>whnf);first|with_reducible apply aQ|((with_reducible apply fk)<;>intro hc<;>try exact bF)|((refine⟨_,NH,?_⟩))|((refine⟨_,Qb,?_⟩))|(refine VB ?_)|refine aM ?_|fail)
     refine⟨⟨k+1,hkt⟩,dec_lt hkt,ay ?_⟩;dsimp only
     rw[hnx.out];repeat' first|apply And.intro|exact aK|fail
     all_goals try (conv=>whnf)
     all_goals exact eV
   | false=>
     cases he:(set[k]'(by omega)==set[i]) with
     | true=>
       have hnx:(!(set.take (k+1)).any (· == set[i]))=false:=by rw[hst,hF,he];rfl
       rw[he] at hbq;replace hnx:=Hd.mk hnx;clear hst hF he;repeat' ((conv=>whnf);first|with_reducible apply aQ|((with_reducible apply fk)<;>intro hc<;>try exact dK)|((refine⟨_,NH,?_⟩))|((refine⟨_,Qb,?_⟩))|(refine VB ?_)|refine aM ?_|fail)
       all_goals
        refine⟨⟨k+1,hkt⟩,dec_lt hkt,ay ?_⟩;dsimp only
        rw[hnx.out];try simp only[hbq,Bool.not_true]
        repeat' first|apply And.intro|exact aK|fail
        all_goals try (conv=>whnf)
        all_goals exact eV
     | false=>
       have hnx:(!(set.take (k+1)).any (· == set[i]))=true:=by rw[hst,hF,he];rfl
       rw[he] at hbq;replace hnx:=Hd.mk hnx;clear hst hF he;repeat' ((conv=>whnf);first|with_reducible apply aQ|((with_reducible apply fk)<;>intro hc<;>try exact dK)|((refine⟨_,NH,?_⟩))|((refine⟨_,Qb,?_⟩))|(refine VB ?_)|refine aM ?_|fail)
       all_goals
        refine⟨⟨k+1,hkt⟩,dec_lt hkt,ay ?_⟩;dsimp only
        rw[hnx.out];try simp only[hbq,Bool.not_false]
        repeat' first|apply And.intro|exact aK|fail
        all_goals try (conv=>whnf)
        all_goals exact eV
  have hke:k=i:=by omega
  subst hke;have d1:decide ((k:Int)<(k:Int))=false:=by simp
  obtain⟨F,hF⟩:∃F,(!(set.take k).any (· == set[k]))=F:=⟨_,rfl⟩;rw[hF];replace hF:=Hd.mk hF;repeat' ((conv=>whnf);first|with_reducible apply aQ|((with_reducible apply fk)<;>intro hc<;>try exact dK)|refine aM ?_|fail)
  refine⟨{m:Nat // m≤bW.length},fun⟨m,_⟩=>⟨[(0,.pv (dO set)),(1,.pv (dO bW)),(5,.pv (ii c)),(6,.pv (ii k)),(7,.pv (bl F)),(9,.pv (bl ((bW.take m).any (· == set[k])))),(10,.pv (ii m))],1000000000,[]⟩,fun⟨m,_⟩=>bW.length-m,⟨⟨0,Nat.zero_le _⟩,ay ?_⟩,?_⟩
  ·all_goals exact aK
  rintro⟨m,hm⟩
  dsimp only
  by_cases hmt:m<bW.length
  ·have d2:decide ((m:Int)<((bW.map Pl.c).length:Int))=true:=by simp only[fe,kU];omega
   have eV:IntKind.i64.wrap ((m:Int)+1)=((m+1:Nat):Int):=by rw[bE (by omega) (by omega)];omega
   have hrm:=dJ Pl.c bW m hmt;have hst:=CU bW m hmt set[k];have hbq:=Gy (bW[m]) set[k];simp only[Pl.c] at NH hrm;cases hG:(bW.take m).any (· == set[k]) with
   | true=>
     have hnx:(bW.take (m+1)).any (· == set[k])=true:=by rw[hst,hG];rfl
     replace hnx:=Hd.mk hnx;clear hst hbq hG;repeat' ((conv=>whnf);first|with_reducible apply aQ|((with_reducible apply fk)<;>intro hc<;>try exact dK)|((refine⟨_,NH,?_⟩))|((refine⟨_,hrm,?_⟩))|refine aM ?_|fail)
     refine⟨⟨m+1,hmt⟩,dec_lt hmt,ay ?_⟩;dsimp only
     rw[hnx.out];repeat' first|apply And.intro|exact aK|fail
     all_goals try (conv=>whnf)
     all_goals exact eV
   | false=>
     cases he:(bW[m]==set[k]) with
     | true=>
       have hnx:(bW.take (m+1)).any (· == set[k])=true:=by rw[hst,hG,he];rfl
       rw[he] at hbq;replace hnx:=Hd.mk hnx;clear hst hG he;repeat' ((conv=>whnf);first|with_reducible apply aQ|((with_reducible apply fk)<;>intro hc<;>try exact dK)|((refine⟨_,NH,?_⟩))|((refine⟨_,hrm,?_⟩))|(refine VB ?_)|refine aM ?_|fail)
       all_goals
        refine⟨⟨m+1,hmt⟩,dec_lt hmt,ay ?_⟩;dsimp only
        rw[hnx.out];try simp only[hbq]
        repeat' first|apply And.intro|exact aK|fail
        all_goals try (conv=>whnf)
        all_goals exact eV
     | false=>
       have hnx:(bW.take (m+1)).any (· == set[k])=false:=by rw[hst,hG,he];rfl
       rw[he] at hbq;replace hnx:=Hd.mk hnx;clear hst hG he;repeat' ((conv=>whnf);first|with_reducible apply aQ|((with_reducible apply fk)<;>intro hc<;>try exact dK)|((refine⟨_,NH,?_⟩))|((refine⟨_,hrm,?_⟩))|(refine VB ?_)|refine aM ?_|fail)
       all_goals
        refine⟨⟨m+1,hmt⟩,dec_lt hmt,ay ?_⟩;dsimp only
        rw[hnx.out];try simp only[hbq]
        repeat' first|apply And.intro|exact aK|fail
        all_goals try (conv=>whnf)
        all_goals exact eV
  have hme:m=bW.length:=by omega
  subst hme;have d2:decide ((bW.length:Int)<((bW.map Pl.c).length:Int))=false:=by simp
  rw[List.take_length];obtain⟨G,hG⟩:∃G,bW.any (· == set[k])=G:=⟨_,rfl⟩;rw[hG];have hs2:om set bW (k+1)=c+(if G&&F then 1 else 0):=by rw[Ze.out,←hG,←hF.out,hc0.out]
  clear hG;cases F<;>cases G
  all_goals
   simp only[Bool.and_true,Bool.and_false,Bool.true_and,Bool.false_and,Bool.false_eq_true,↓reduceIte,Nat.add_zero] at hs2;replace hs2:=Hd.mk hs2;repeat' ((conv=>whnf);first|with_reducible apply aQ|((with_reducible apply fk)<;>intro hc<;>try exact dK)|refine aM ?_|fail)
   refine⟨⟨k+1,hlt⟩,dec_lt hlt,ay ?_⟩;dsimp only
   rw[hs2.out];repeat' first|apply And.intro|exact aK|fail
   all_goals try (conv=>whnf)
   all_goals first
    |exact eW
    |exact eC
 have hke:i=set.length:=by omega
 subst hke;have d0:decide ((set.length:Int)<((set.map Pl.c).length:Int))=false:=by simp
 clear hlt hi hcl;repeat' ((conv=>whnf);first|with_reducible apply aQ|((with_reducible apply fk)<;>intro hc<;>try exact bF)|refine aM ?_|fail)
 all_goals exact aK
theorem Mf (set:List Pl)(a:Int)(from_:List Pl)(h1:set.length≤1000000)(h2:from_.length≤1000000):dP prog 74 [dO set,ii a,dO from_] (bl (fT set a from_)):=by
 have ha:=Me set from_ h1 h2;refine PC.le ?_;unfold fT;generalize Le set from_=n at *;cases e1:decide (a>0)<;>cases e2:decide ((n:Int)≥a)
 all_goals
  refine dW JL ?_;repeat' ((conv=>whnf);first|with_reducible apply aQ|((with_reducible apply fk)<;>intro hc<;>try exact dK)|(apply bC;refine⟨_,ha,?_⟩)|refine aM ?_|fail)
  repeat' first|apply And.intro|exact aK|fail
  all_goals try (conv=>whnf)
 all_goals simp_all
 all_goals omega
theorem Qo:bG prog 24 f24:=fF func24
def gdH (s:Sg)(n:Int)(h:Hp):Bool:=!(h.n==n)||(decide (1≤n)&&(decide (n≤(s.bK.length:Int))&&(h.body==s.bK[(n-1).toNat]!)))
theorem acr (s:Sg)(l:List Fr)(n:Int):Np s l n=(s.had.all (gdH s n)&&fT (setOf l s.w.l.w n) s.w.l.a (dL s.had n)):=rfl
def WX (had:List Hp)(n:Int)(k:Nat):List Pl:=dL (had.take k) n
theorem UM (had:List Hp)(n:Int)(k:Nat)(h:k<had.length):WX had n (k+1)=if had[k].n==n then WX had n k++[had[k].x] else WX had n k:=by
 unfold WX dL;rw[List.take_succ_eq_append_getElem h,List.filter_append,List.map_append];cases e:(had[k].n==n)<;>simp[e]
theorem UN (s:Sg)(l:List Fr)(n:Int)(hl:iN l)(hn:1≤n∧n≤(s.bK.length:Int))(hs:s.bK.length≤1000000)(hh:s.had.length≤1000000)(hw:s.w.l.w≤5)(hall:∀h∈s.had,gdH s n h=true) :
  dP prog 24 [.dh (stP s) 0,eT l,uu n] (bl (Np s l n)):=by
 have hse:=Ul l s.w.l.w n hl (by omega);have hsl:=kV l s.w.l.w n;have hac:=fun (f:List Pl) (hf:f.length≤1000000)=>Mf (setOf l s.w.l.w n) s.w.l.a f (by omega) hf
 rw[acr,show s.had.all (gdH s n)=true from List.all_eq_true.2 hall,Bool.true_and];generalize setOf l s.w.l.w n=st at *;obtain⟨hn1,hn2⟩:=hn;refine PC.le ?_;refine dW Qo ?_;repeat' ((conv=>whnf);first|with_reducible apply aQ|((with_reducible apply fk)<;>intro hc<;>try exact bF)|(apply bC;refine⟨_,hse,?_⟩)|refine aM ?_|fail)
 refine⟨{k:Nat // k≤s.had.length},fun⟨k,_⟩=>⟨[(0,.pv (.dh (stP s) 0)),(2,.pv (uu n)),(7,.pv (dO st)),(8,.aZ 1008 0),(9,.pv (ii k))],1000000000,[(1008,.arr 27 0 2 ((WX s.had n k).map Pl.c))]⟩,fun⟨k,_⟩=>s.had.length-k,⟨⟨0,Nat.zero_le _⟩,ay ?_⟩,?_⟩
 ·all_goals exact aK
 rintro⟨k,hk⟩
 dsimp only
 have hpl:(WX s.had n k).length≤k:=by
  unfold WX dL;rw[List.length_map];refine Nat.le_trans (List.length_filter_le _ _) ?_;rw[List.length_take];omega
 by_cases hlt:k<s.had.length
 rotate_left
 ·have hke:k=s.had.length:=by omega
  subst hke;have d0:decide ((s.had.length:Int)<((s.had.map Hp.c).length:Int))=false:=by simp
  have hpe:WX s.had n s.had.length=dL s.had n:=by unfold WX;rw[List.take_length]
  rw[hpe] at hpl ⊢;have hac:=hac (dL s.had n) (by omega);clear hpe hpl;repeat' ((conv=>whnf);first|with_reducible apply aQ|((with_reducible apply fk)<;>intro hc<;>try exact bF)|(apply bC;refine⟨_,aL (hac) ?_,?_⟩;exact dx)|refine aM ?_|fail)
  all_goals exact aK
 have d0:decide ((k:Int)<((s.had.map Hp.c).length:Int))=true:=by simp only[fe,kU];omega
 have eW:IntKind.i64.wrap ((k:Int)+1)=((k+1:Nat):Int):=by rw[bE (by omega) (by omega)];omega
 have hr:=dJ Hp.c s.had k hlt;have Ak:=UM s.had n k hlt;have hg:=hall _ (List.getElem_mem hlt);obtain⟨h,hh0⟩:∃h,s.had[k]=h:=⟨_,rfl⟩;rw[hh0] at hr Ak hg;clear hh0 hall hac hse;cases e1:(h.n==n) with
 | false=>
   rw[e1] at Ak;simp only[Bool.false_eq_true,↓reduceIte] at Ak;replace Ak:=Hd.mk Ak;clear hg;repeat' ((conv=>whnf);first|with_reducible apply aQ|((with_reducible apply fk)<;>intro hc<;>try exact dK)|((refine⟨_,hr,?_⟩))|refine aM ?_|fail)
   refine⟨⟨k+1,hlt⟩,dec_lt hlt,ay ?_⟩;dsimp only
   rw[Ak.out];repeat' first|apply And.intro|exact aK|fail
   all_goals try (conv=>whnf)
   all_goals exact eW
 | true=>
   rw[e1] at Ak;simp only[↓reduceIte] at Ak;unfold gdH at hg;rw[e1] at hg;simp only[Bool.not_true,Bool.false_or,Bool.and_eq_true,kU,beq_iff_eq] at hg;have hi:(n-1).toNat<s.bK.length:=by omega
   have hbd:h.body=s.bK[(n-1).toNat]:=by rw[hg.2.2,getElem!_pos s.bK _ hi]
   have hrs:=dJ Ai s.bK (n-1).toNat hi;rw[←hbd] at hrs;have eS:IntKind.u64.wrap (n-1)=(((n-1).toNat:Nat):Int):=by rw[kT (by omega) (by omega)];omega
   have d1:decide (n<1)=false:=by simp only[Au];omega
   have eU:IntKind.u64.wrap (((s.bK.map Ai).length:Int))=(s.bK.length:Int):=by rw[List.length_map,kT (by omega) (by omega)]
   have d2:decide (n>(s.bK.length:Int))=false:=by simp only[Au];omega
   have hsl2:(n-1).toNat<(s.bK.map Ai).length:=by rw[List.length_map];exact hi
   replace Ak:=Hd.mk Ak;have d3:((⟨h.body.toArray⟩:ByteArray).toList==(⟨h.body.toArray⟩:ByteArray).toList)=true:=by simp
   clear hg hbd;repeat' ((conv=>whnf);first|with_reducible apply aQ|((with_reducible apply fk)<;>intro hc<;>try exact dK)|rewrite[eS]|rewrite[eU]|((refine⟨_,hr,?_⟩))|((refine⟨_,hrs,?_⟩))|(((with_reducible apply And.intro);focus (simp only[fe,mH,mI];omega)))|refine aM ?_|fail)
   refine⟨⟨k+1,hlt⟩,dec_lt hlt,ay ?_⟩;dsimp only
   rw[Ak.out,List.map_append];repeat' first|apply And.intro|exact aK|fail
   all_goals try (conv=>whnf)
   all_goals exact eW
theorem GJ:bG prog 22 f22:=fF func22
theorem sV (l:List Fr)(hl:l.length≤1000000)(hb:∀f∈l,f.ah.length≤1000000):lg prog 22 [.pv (eT l)] [] (.aZ 1001 0) [(1001,.arr 48 0 2 (l.map Fr.c))]:=by
 refine nD GJ ?_;repeat' ((conv=>whnf);first|with_reducible apply aQ|((with_reducible apply fk)<;>intro hc<;>try exact bF)|refine aM ?_|fail)
 refine⟨{k:Nat // k≤l.length},fun⟨k,_⟩=>⟨[(0,.pv (eT l)),(3,.aZ 1001 0),(4,.pv (ii k))],1000000000,[(1001,.arr 48 0 2 ((l.take k).map Fr.c))]⟩,fun⟨k,_⟩=>l.length-k,⟨⟨0,Nat.zero_le _⟩,ay ?_⟩,?_⟩
 ·all_goals exact aK
 rintro⟨k,hk⟩
 dsimp only
 by_cases hlt:k<l.length
 rotate_left
 ·have hke:k=l.length:=by omega
  subst hke;have d0:decide ((l.length:Int)<((l.map Fr.c).length:Int))=false:=by simp
  rw[List.take_length];repeat' ((conv=>whnf);first|with_reducible apply aQ|((with_reducible apply fk)<;>intro hc<;>try exact bF)|refine aM ?_|fail)
  refine⟨_,_,⟨rfl,rfl⟩,?_⟩;all_goals exact aK
 have d0:decide ((k:Int)<((l.map Fr.c).length:Int))=true:=by simp only[fe,kU];omega
 have eW:IntKind.i64.wrap ((k:Int)+1)=((k+1:Nat):Int):=by rw[bE (by omega) (by omega)];omega
 have hr:=dJ Fr.c l k hlt;have hbk:=hb _ (List.getElem_mem hlt);have hts:=List.take_succ_eq_append_getElem hlt;obtain⟨f,hf⟩:∃f,l[k]=f:=⟨_,rfl⟩;rw[hf] at hr hbk hts;replace hts:=Hd.mk hts;clear hf hb;repeat' ((conv=>whnf);first|with_reducible apply aQ|((with_reducible apply fk)<;>intro hc<;>try exact dK)|((refine⟨_,hr,?_⟩))|(((with_reducible apply And.intro);focus (simp only[fe,mH,mI,List.length_take];omega)))|refine aM ?_|fail)
 refine⟨⟨k+1,hlt⟩,dec_lt hlt,ay ?_⟩;dsimp only
 rw[hts.out,List.map_append];repeat' first|apply And.intro|exact aK|fail
 all_goals try (conv=>whnf)
 all_goals first
  |exact eW
  |(refine dH (aC _) ?_;(repeat' first|apply And.intro|exact aK|fail);(all_goals try (conv=>whnf)))
  |skip
theorem eP:bG prog 23 f23:=fF func23
def cZ (n:Int):Int:=(IntKind.i64.wrap (n.tmod 10+10)).tmod 10
structure WB (s:Sg):Prop where
 w:U8 s.w
 lf:(aO s.w.l.aj).ah.length≤5
 ww:s.w.l.w≤5
 ch:s.w.change.ok
 cO:s.cO.length≤100000
 had:s.had.length≤100000
 bK:s.bK.length≤100000
 now:eD s.now
 nx:eD s.w.next
 su:0≤s.w.sure∧s.w.sure<18446744073709551615
theorem kg {l:List Fr}{w n:Int}(h:w≤5):(setOf l w n).length≤5:=by
 have:=kV l w n;omega
theorem Fs (w:Wr)(x:Wt):(gM w x).length≤w.l.w.toNat:=by
 have h1:=pR w x (bJ w x.n);rw[pQ] at h1;exact Nat.le_trans h1 (kV _ _ _)
theorem Mj {w:Wr}{now:Int}{b:List UInt8}(h:w.l.w≤5):(fV w now b).2.1.length≤5:=by
 unfold fV;split
 ·simp
 split
 ·simp
 split
 ·simp
 have:=Fs w ⟨w.next,b,[],now,now⟩;simp only;omega
theorem xH (s:Sg)(x:Stp)(h:WB s)(hb:x.body.length≤3000)(hm:cZ x.what=0∨cZ x.what=1) :
  lg prog 23 [.ptr 1 0,.pv (.agg x.c)] (QB s) (.pv (.fM [])) (Ql (sK s x.body)):=by
 refine xP ?_ rfl;have hq:=Mj (now:=s.now) (b:=x.body) h.ww;have hp:=GD s.w s.now x.body h.w h.now h.nx (by omega) (Nat.le_trans (kg h.ww) (by omega));have hbl:=h.cO;have hsl:=h.bK;unfold sK;obtain⟨⟨w',q,er⟩,hy⟩:∃y,fV s.w s.now x.body=y:=⟨_,rfl⟩;rw[hy] at hp hq ⊢;simp only at hp hq ⊢;clear hy h hb;have hf:∀m:Int,cZ x.what=m→∀i:Int,(cZ x.what==i)=(m==i):=fun m e i=>by rw[e]
 unfold cZ at hm hf;cases d1:(er==0) with
 | false=>
   rw[if_neg (by simpa using d1)];rcases hm with hm|hm
   all_goals
    have f0:=hf _ hm 0;have f1:=hf _ hm 1;simp only[Int.reduceBEq] at f0 f1;clear hm hf;refine nD eP ?_;repeat' ((conv=>whnf);first|with_reducible apply aQ|((with_reducible apply fk)<;>intro hc<;>try exact dK)|((refine⟨by decide,?_⟩))|(apply bC;refine⟨_,aL (hp) ?_,?_⟩;exact dx)|refine aM ?_|fail)
    refine⟨_,_,⟨rfl,rfl⟩,?_⟩;all_goals exact aK
 | true=>
   rw[if_pos (by simpa using d1)];have hse:=yV { s with w:=w',bK:=s.bK++[x.body] } q (by omega) (by simp only;omega);simp only[QB,zma,zmc,Yk,Ai] at hse;rcases hm with hm|hm
   all_goals
    have f0:=hf _ hm 0;have f1:=hf _ hm 1;simp only[Int.reduceBEq] at f0 f1;clear hm hf;refine nD eP ?_;repeat' ((conv=>whnf);first|with_reducible apply aQ|((with_reducible apply fk)<;>intro hc<;>try exact dK)|((refine⟨by decide,?_⟩))|rewrite[qO]|rewrite[qP]|(apply bC;refine⟨_,aL (hp) ?_,?_⟩;exact dx)|(apply iC;refine⟨_,_,aN (hse) ?_,?_⟩;exact dx)|((refine⟨_,rfl,?_⟩))|(((with_reducible apply And.intro);focus (simp only[fe,mH,mI];omega)))|refine aM ?_|fail)
    refine⟨_,_,⟨rfl,rfl⟩,?_⟩;all_goals exact aK
theorem NV (n:Int):eD (IntKind.u64.wrap n):=by
 have h:(18446744073709551616:Int)≠0:=by decide
 have e:IntKind.u64.wrap n=n%18446744073709551616:=by
  simp[IntKind.wrap,IntKind.bits,IntKind.signed]
 rw[e];exact⟨Int.emod_nonneg _ h,by have:=Int.emod_lt_of_pos n (b:=18446744073709551616) (by decide);omega⟩
theorem CZ {w:Wr}(h:w.l.w≤5):∀(l:List Wt),(l.flatMap (gM w)).length≤5*l.length
 |[]=>by simp
 | y::l=>by
   have h1:=Fs w y;have h2:=CZ h l;rw[List.flatMap_cons,List.length_append,List.length_cons];omega
theorem GK {w:Wr}(h:U8 w)(hw:w.l.w≤5)(now:Int)(ok:Bool):(bM w now ok).2.length≤5000:=by
 cases c1:(w.change.first==0) with
 |true=>unfold bM;rw[if_pos (by simpa using c1)];simp
 | false=>
   rw[vK w now ok c1 _ rfl _ rfl];simp only;refine Nat.le_trans (CZ ?_ _) ?_
   ·exact hw
   rw[List.length_drop];have:=h.wl;omega
def DT (s:Sg)(b:Int):Int:=IntKind.u64.wrap (s.now+IntKind.u64.wrap (jd b 15))
theorem GL (s:Sg)(x:Stp)(h:WB s)(hm:cZ x.what=6) :
  lg prog 23 [.ptr 1 0,.pv (.agg x.c)] (QB s) (.pv (.fM [])) (Ql (Ct s (DT s x.M4))):=by
 refine xP ?_ rfl;have hn:=NV (s.now+IntKind.u64.wrap (jd x.M4 15));have hp:=Gx s.w (DT s x.M4) h.w hn (fun y _=>kg h.ww) h.lf;have hq:(dw s.w (DT s x.M4)).2.length≤5000:=by
  unfold dw;split
  ·simp
  have:=(GH (now:=DT s x.M4) (fun y hy=>⟨h.w.wx y hy,kg h.ww⟩) hn h.lf s.w.waits.length (Nat.le_refl _)).q;rw[pU];have:=h.w.wl;simp only;omega
 have hbl:=h.cO;unfold Ct;obtain⟨⟨w',q⟩,hy⟩:∃y,dw s.w (DT s x.M4)=y:=⟨_,rfl⟩;rw[hy] at hp hq ⊢;simp only at hp hq ⊢;have hse:=yV { s with w:=w',now:=DT s x.M4 } q (by omega) (by simp only;omega);clear hy h hn;have hf:∀i:Int,(cZ x.what==i)=(6==i):=fun i=>by rw[hm]
 unfold cZ at hm hf;have f0:=hf 0;have f1:=hf 1;have f6:=hf 6;simp only[Int.reduceBEq] at f0 f1 f6;unfold DT jd at hp hse ⊢;clear hm hf;refine nD eP ?_;repeat' ((conv=>whnf);first|with_reducible apply aQ|((with_reducible apply fk)<;>intro hc<;>try exact dK)|((refine⟨by decide,?_⟩))|rewrite[qO]|rewrite[qP]|(apply bC;refine⟨_,aL (hp) ?_,?_⟩;exact dx)|(apply iC;refine⟨_,_,aN (hse) ?_,?_⟩;exact dx)|refine aM ?_|fail)
 refine⟨_,_,⟨rfl,rfl⟩,?_⟩;all_goals exact aK
theorem JS (s:Sg)(x:Stp)(h:WB s)(hk:x.known.length≤1000)(hm:cZ x.what=7) :
  lg prog 23 [.ptr 1 0,.pv (.agg x.c)] (QB s) (.pv (.fM [])) (Ql (LA s x.e x.known)):=by
 refine xP ?_ rfl;have hp:=Md s.w x.e x.known h.w hk h.lf h.su;unfold LA;obtain⟨⟨w',f,ok⟩,hy⟩:∃y,j4 s.w x.e x.known=y:=⟨_,rfl⟩;rw[hy] at hp ⊢;simp only at hp ⊢;clear hy h hk;have hf:∀i:Int,(cZ x.what==i)=(7==i):=fun i=>by rw[hm]
 unfold cZ at hm hf;have f0:=hf 0;have f1:=hf 1;have f6:=hf 6;have f7:=hf 7;simp only[Int.reduceBEq] at f0 f1 f6 f7;clear hm hf;cases ok;all_goals
  simp only[Bool.false_eq_true,↓reduceIte];refine nD eP ?_;repeat' ((conv=>whnf);first|with_reducible apply aQ|((with_reducible apply fk)<;>intro hc<;>try exact dK)|((refine⟨by decide,?_⟩))|(apply bC;refine⟨_,aL (hp) ?_,?_⟩;exact dx)|refine aM ?_|fail)
  refine⟨_,_,⟨rfl,rfl⟩,?_⟩;all_goals exact aK
theorem GN (s:Sg)(x:Stp)(h:WB s)(hm:cZ x.what=9) :
  lg prog 23 [.ptr 1 0,.pv (.agg x.c)] (QB s) (.pv (.fM [])) (Ql (qN s)):=by
 refine xP ?_ rfl;have hp:=vH s.w s.now (s.taken==1) h.w h.now h.ww h.ch;have hq:(bM s.w s.now (s.taken==1)).2.length≤5000:=GK h.w h.ww _ _;have hbl:=h.cO;have hf:∀i:Int,(cZ x.what==i)=(9==i):=fun i=>by rw[hm]
 unfold cZ at hm hf;have f0:=hf 0;have f1:=hf 1;have f6:=hf 6;have f7:=hf 7;have f8:=hf 8;have f9:=hf 9;simp only[Int.reduceBEq] at f0 f1 f6 f7 f8 f9;clear hm hf h;cases a1:(s.ask.first==0) with
 | true=>
   have e:qN s=s:=by unfold qN;rw[if_pos (.inl (by simpa using a1))]
   rw[e];clear hp hq;refine nD eP ?_;repeat' ((conv=>whnf);first|with_reducible apply aQ|((with_reducible apply fk)<;>intro hc<;>try exact dK)|((refine⟨by decide,?_⟩))|refine aM ?_|fail)
   refine⟨_,_,⟨rfl,rfl⟩,?_⟩;all_goals exact aK
 |false=>
 cases a2:(s.taken==0) with
 | true=>
   have e:qN s=s:=by unfold qN;rw[if_pos (.inr (by simpa using a2))]
   rw[e];clear hp hq;refine nD eP ?_;repeat' ((conv=>whnf);first|with_reducible apply aQ|((with_reducible apply fk)<;>intro hc<;>try exact dK)|((refine⟨by decide,?_⟩))|refine aM ?_|fail)
   refine⟨_,_,⟨rfl,rfl⟩,?_⟩;all_goals exact aK
 | false=>
   have e:qN s=jc { s with w:=(bM s.w s.now (s.taken==1)).1,ask:=jI } (bM s.w s.now (s.taken==1)).2:=by
    unfold qN;rw[if_neg (by simp at a1 a2;omega)]
   rw[e];clear e;obtain⟨⟨w',q⟩,hy⟩:∃y,bM s.w s.now (s.taken==1)=y:=⟨_,rfl⟩;rw[hy] at hp hq ⊢;simp only at hp hq ⊢;have hse:=yV { s with w:=w',ask:=jI } q (by omega) (by simp only;omega);clear hy;refine nD eP ?_;repeat' ((conv=>whnf);first|with_reducible apply aQ|((with_reducible apply fk)<;>intro hc<;>try exact dK)|((refine⟨by decide,?_⟩))|rewrite[qO]|rewrite[qP]|(apply bC;refine⟨_,aL (hp) ?_,?_⟩;exact dx)|(apply iC;refine⟨_,_,aN (hse) ?_,?_⟩;exact dx)|refine aM ?_|fail)
   refine⟨_,_,⟨rfl,rfl⟩,?_⟩;all_goals exact aK
end Go.Proofs.YtfoiekbkkbnpkaaGreat.Tb
end
