/-
  Contracts of functions of the program and of the document, each for every input that its premises name.
-/
import Derived.Test.YtfoiekbkkbnpkaaGreatBb
import Derived.Test.YtfoiekbkkbnpkaaGreatAf
import Derived.Test.YtfoiekbkkbnpkaaGreatAg
import Derived.Test.YtfoiekbkkbnpkaaGreatBa
set_option linter.unusedSectionVars false
set_option linter.unusedVariables false
set_option linter.unusedSimpArgs false
set_option maxRecDepth 100000
set_option maxHeartbeats 4000000
section
open Go Go.Proofs.Tryz Go.AX
namespace Go.Proofs.YtfoiekbkkbnpkaaGreat.Tb
def late1 (w:Wr)(x:Wt)(b:List Pl)(y:Pl):List Pl:=if gY x.from_ y then b else (vB { w with bad:=b } fun z=>z==y).bad
def qy (w:Wr)(x:Wt)(l b:List Pl):List Pl:=l.foldl (late1 w x) b
theorem QV (w:Wr)(x:Wt)(l b:List Pl)(k:Nat)(h:k<l.length):qy w x (l.take (k+1)) b=late1 w x (qy w x (l.take k) b) l[k]:=by
 unfold qy;rw[List.take_succ_eq_append_getElem h,List.foldl_append];rfl
theorem V4 (w:Wr)(x:Wt)(b:List Pl)(y:Pl)(gT:(bH w.l.af).ah.length≤5):(late1 w x b y).length≤b.length+5:=by
 unfold late1;split
 ·omega
 rw[Ak];have:=jZ (fun z=>z==y) (bH w.l.af).ah b;simp only at this ⊢;omega
theorem wO (w:Wr)(x:Wt)(gT:(bH w.l.af).ah.length≤5):∀(l b:List Pl),(qy w x l b).length≤b.length+5*l.length
 |[],b=>by simp[qy]
 | y::l,b=>by
   have h1:=wO w x gT l (late1 w x b y);have h2:=V4 w x b y gT;show (qy w x l (late1 w x b y)).length≤_
   rw[List.length_cons];omega
theorem SL (w:Wr)(x:Wt):∀(l b:List Pl),l.foldl (fun w y=>if gY x.from_ y then w else vB w fun z=>z==y) { w with bad:=b }={ w with bad:=qy w x l b }
 |[],b=>rfl
 | y::l,b=>by
   rw[List.foldl_cons];have:(if gY x.from_ y then ({ w with bad:=b }:Wr) else vB { w with bad:=b } fun z=>z==y)={ w with bad:=late1 w x b y }:=by
    unfold late1;split<;>rfl
   rw[this,SL w x l];rfl
abbrev TD:=List Wt×List Pl×List Rq
def F6 (w:Wr)(now:Int)(D:TD)(i:Nat):TD:=
 let x:=D.1[i]!
 let b:=if pF now x.born 9 then qy w x (eT w x.n) D.2.1 else D.2.1
 if pF now x.since 3 then (D.1.set i { x with since:=now },b,D.2.2++kJ w x) else (D.1,b,D.2.2)
def kL (w:Wr)(now:Int)(i:Nat):TD:=(List.range i).foldl (F6 w now) (w.waits,w.bad,[])
theorem tX (w:Wr)(now:Int)(i:Nat):kL w now (i+1)=F6 w now (kL w now i) i:=by
 unfold kL;rw[List.range_succ,List.foldl_append];rfl
theorem Aa (w:Wr)(now:Int):∀i,(List.range i).foldl (mq now) (w,[])=({ w with waits:=(kL w now i).1,bad:=(kL w now i).2.1 },(kL w now i).2.2)
 |0=>rfl
 | i+1=>by
   rw[List.range_succ,List.foldl_append,Aa w now i,tX];generalize kL w now i=D;simp only[List.foldl_cons,List.foldl_nil,mq,F6];generalize D.1[i]! = x;have e:CG { w with waits:=D.1,bad:=D.2.1 } x={ w with waits:=D.1,bad:=qy w x (eT w x.n) D.2.1 }:=by
    exact SL { w with waits:=D.1 } x (eT w x.n) D.2.1
   rw[e];cases pF now x.born 9<;>cases pF now x.since 3<;>rfl
structure afo (w:Wr)(i:Nat)(D:TD):Prop where
 len:D.1.length=w.waits.length
 ok:∀x∈D.1,Sq x∧(eT w x.n).length≤5
 bad:D.2.1.length≤w.bad.length+25*i
 q:D.2.2.length≤5*i
theorem ac8 {w:Wr}{now:Int}{i:Nat}{D:TD}(h:afo w i D)(hi:i<w.waits.length)(hn:gF now)(gT:(bH w.l.af).ah.length≤5):afo w (i+1) (F6 w now D i):=by
 have hiD:i<D.1.length:=by rw[h.len];exact hi
 obtain⟨x,hx⟩:∃x,D.1[i]! = x:=⟨_,rfl⟩;have hm:x∈D.1:=by rw[←hx,getElem!_pos D.1 i hiD];exact List.getElem_mem hiD
 obtain⟨h1,h2⟩:=h.ok x hm;have hb:(if pF now x.born 9 then qy w x (eT w x.n) D.2.1 else D.2.1).length≤w.bad.length+25*(i+1):=by
  have:=wO w x gT (eT w x.n) D.2.1;have:=h.bad;split<;>omega
 have hq:=rZ w x (eT w x.n);rw[rY] at hq;have h3:=h.q;unfold F6;simp only[hx];split
 ·refine⟨by rw[List.length_set];exact h.len,fun y hy=>?_,hb,by rw[List.length_append];omega⟩;rcases List.mem_or_eq_of_mem_set hy with hy|rfl
  ·exact h.ok y hy
  exact⟨⟨h1.n,h1.body,h1.from_,h1.born,hn⟩,h2⟩
 exact⟨h.len,h.ok,hb,by show D.2.2.length≤_;omega⟩
theorem Ql {w:Wr}{now:Int}(h0:∀x∈w.waits,Sq x∧(eT w x.n).length≤5)(hn:gF now)(gT:(bH w.l.af).ah.length≤5):∀i,i≤w.waits.length→afo w i (kL w now i)
 |0,_=>⟨rfl,h0,by simp[kL],by simp[kL]⟩
 | i+1,hi=>by
   rw[tX];exact ac8 (Ql h0 hn gT i (by omega)) (by omega) hn gT
theorem NM:bR prog 26 f26:=fC func26
def tkS (w:Wr)(W B Q:List (List PV)):List (Nat×aF):=[(1004,.var (wr0.c.map .pv)),(1006,.var (pX w (.pv (cB w.l.af)) (.aO 1007 0) (.aO 1008 0) (.aO 1009 0))),(1007,.arr 145 0 5 W),(1008,.arr 27 0 2 B),(1009,.arr 93 0 10 Q)]
theorem acw (w:Wr)(now:Int)(h:WrB w)(dx:gF now)(hs:∀x∈w.waits,(eT w x.n).length≤5)(gT:(bH w.l.af).ah.length≤5) :
  dB prog 26 [.agg w.c,uu now] (.cO [.agg (jv w now).1.c,kD (jv w now).2]):=by
 refine PC.le ?_;cases e1:(w.fenced==1) with
 | true=>
   have e:jv w now=(w,[]):=by unfold jv;rw[if_pos (by simpa using e1)]
   rw[e];have hN:=tV w h;refine dP NM ?_;repeat' ((conv=>whnf);first|with_reducible apply aP|((with_reducible apply fk)<;>intro hc<;>try exact aZ)|(apply dn;refine⟨_,_,av (hN) ?_,?_⟩;exact bD)|refine aN ?_|fail)
   all_goals exact aM
 |false=>
 have e:jv w now=({ w with waits:=(kL w now w.waits.length).1,bad:=(kL w now w.waits.length).2.1 },(kL w now w.waits.length).2.2):=by
  unfold jv;rw[if_neg (by simpa using e1)];exact Aa w now _
 rw[e];clear e;have hT:=ac0 w h;have hall:=Ql (now:=now) (fun x hx=>⟨h.wx x hx,hs x hx⟩) dx gT;have hwl:=h.wl;have hfr:=h.fr;have hfl:=h.fl;have hbl:=h.bl;clear h hs;refine dP NM ?_;repeat' ((conv=>whnf);first|with_reducible apply aP|((with_reducible apply fk)<;>intro hc<;>try exact aZ)|rewrite[pY]|rewrite[p8]|(apply dn;refine⟨_,_,av (hT) ?_,?_⟩;exact bD)|refine aN ?_|fail)
 clear hT;refine⟨{i:Nat // i≤w.waits.length},fun⟨i,_⟩=>⟨[(1,.pv (uu now)),(4,.ptr 1004 0),(6,.ptr 1006 0),(25,.pv (ii w.waits.length)),(26,.pv (ii i))],1000000000,tkS w ((kL w now i).1.map Wt.c) ((kL w now i).2.1.map Pl.c) ((kL w now i).2.2.map Rq.c)⟩,fun⟨i,_⟩=>w.waits.length-i,⟨⟨0,Nat.zero_le _⟩,aH ?_⟩,?_⟩
 ·repeat' first|apply And.intro|exact aM|fail
  all_goals try (conv=>whnf)
  all_goals simp
 rintro⟨i,hi⟩
 dsimp only
 by_cases hlt:i<w.waits.length
 rotate_left
 ·have hke:i=w.waits.length:=by omega
  subst hke;have d0:decide ((w.waits.length:Int)<(w.waits.length:Int))=false:=by simp
  repeat' ((conv=>whnf);first|with_reducible apply aP|((with_reducible apply fk)<;>intro hc<;>try exact aZ)|refine aN ?_|fail)
  all_goals exact aM
 have d0:decide ((i:Int)<(w.waits.length:Int))=true:=by simp only[iO];omega
 have eW:IntKind.i64.wrap ((i:Int)+1)=((i+1:Nat):Int):=by rw[bN (by omega) (by omega)];omega
 have hok:=hall i hi;have hS:=tX w now i;obtain⟨D,hD⟩:∃D,kL w now i=D:=⟨_,rfl⟩;rw[hD] at hok hS ⊢;clear hD hall;have hiD:i<D.1.length:=by rw[hok.len];exact hlt
 have hr:=dR Wt.c D.1 i hiD;obtain⟨x,hx⟩:∃x,D.1[i]=x:=⟨_,rfl⟩;have hxx:D.1[i]! = x:=by rw[getElem!_pos D.1 i hiD];exact hx
 obtain⟨hB,hs5⟩:=hok.ok x (by rw[←hx];exact List.getElem_mem hiD);rw[hx] at hr;have uM:=hok.bad;have hqq:=hok.q;have hnn:i<(D.1.map Wt.c).length:=by rw[List.length_map];exact hiD
 clear hok hx;unfold F6 at hS;simp only[hxx] at hS;obtain⟨W,B,Q⟩:=D;simp only at hS hr uM hqq hnn hxx hiD ⊢;have hg1:=SE now x.born 9 dx hB.born;have hg2:=SE now x.since 3 dx hB.since;obtain⟨g1,ah6⟩:∃g,pF now x.born 9=g:=⟨_,rfl⟩;obtain⟨g2,ah7⟩:∃g,pF now x.since 3=g:=⟨_,rfl⟩;rw[ah6] at hg1 hS;rw[ah7] at hg2 hS;clear ah6 ah7 hxx;obtain⟨b,hb⟩:∃b,(if g1=true then qy w x (eT w x.n) B else B)=b:=⟨_,rfl⟩;rw[hb] at hS;replace hS:=Hd.mk hS;repeat' ((conv=>whnf);first|fail|((with_reducible apply fk)<;>intro hc<;>try exact aZ)|(apply bA;refine⟨_,hg1,?_⟩)|((with_reducible refine (Or.inl ?_:VC _ _ (Code.block _ _) _ _∨_)))|((refine⟨_,hr,?_⟩))|(((with_reducible apply And.intro);focus (rw[Int.toNat_natCast];exact hnn)))|refine aN ?_|fail)
 refine Or.inl ?_;repeat' ((conv=>whnf);first|fail|((with_reducible apply fk)<;>intro hc<;>try exact aZ)|(apply bA;refine⟨_,hg1,?_⟩)|((with_reducible refine (Or.inl ?_:VC _ _ (Code.block _ _) _ _∨_)))|((refine⟨_,hr,?_⟩))|(((with_reducible apply And.intro);focus (rw[Int.toNat_natCast];exact hnn)))|refine aN ?_|fail)
 refine Or.inr ⟨Unit,fun _=>⟨[(1,.pv (uu now)),(4,.ptr 1004 0),(6,.ptr 1006 0),(8,.dM 1007 0 i 0),(25,.pv (ii w.waits.length)),(26,.pv (ii i))],1000000000,tkS w (W.map Wt.c) (b.map Pl.c) (Q.map Rq.c)⟩,?_,fun _=>?_⟩
 ·clear hS hg2;cases g1 with
  | false=>
    simp only[Bool.false_eq_true,↓reduceIte] at hb;subst hb;repeat' ((conv=>whnf);first|with_reducible apply aP|((with_reducible apply fk)<;>intro hc<;>try exact aZ)|(apply bA;refine⟨_,hg1,?_⟩)|((refine⟨_,hr,?_⟩))|(((with_reducible apply And.intro);focus (rw[Int.toNat_natCast];exact hnn)))|refine aN ?_|fail)
    refine⟨(),aH ?_⟩;all_goals exact aM
  |true=>
  simp only[↓reduceIte] at hb;have hse:=iU w.l.af w.l.w x.n hfr hB.n;obtain⟨st,hst⟩:∃st,eT w x.n=st:=⟨_,rfl⟩;rw[show setOf w.l.af w.l.w x.n=st from hst] at hse;rw[hst] at hb hs5;clear hst;replace hb:=Hd.mk hb;repeat' ((conv=>whnf);first|with_reducible apply aP|((with_reducible apply fk)<;>intro hc<;>try exact aZ)|(apply bA;refine⟨_,hg1,?_⟩)|(refine Or.inr ?_;(conv=>whnf);refine⟨_,bZ bU (cZ mixed bU) Ai rfl ?_,fun _ _ h=>h⟩)|(apply bA;refine⟨_,hse,?_⟩)|((refine⟨_,hr,?_⟩))|(((with_reducible apply And.intro);focus (rw[Int.toNat_natCast];exact hnn)))|refine aN ?_|fail)
  clear hse hg1;refine⟨{k:Nat // k≤st.length},fun⟨k,_⟩=>⟨[(1,.pv (uu now)),(4,.ptr 1004 0),(6,.ptr 1006 0),(8,.dM 1007 0 i 0),(25,.pv (ii w.waits.length)),(26,.pv (ii i)),(47,.pv (ax st)),(48,.pv (ii st.length)),(49,.pv (ii k))],1000000000,tkS w (W.map Wt.c) ((qy w x (st.take k) B).map Pl.c) (Q.map Rq.c)⟩,fun⟨k,_⟩=>st.length-k,⟨⟨0,Nat.zero_le _⟩,aH ?_⟩,?_⟩
  ·repeat' first|apply And.intro|exact aM|fail
   all_goals try (conv=>whnf)
   all_goals first
    |exact aB _
    |simp
  rintro⟨k,hk⟩
  dsimp only
  by_cases hkl:k<st.length
  rotate_left
  ·have hke:k=st.length:=by omega
   subst hke;have d1:decide ((st.length:Int)<(st.length:Int))=false:=by simp
   rw[List.take_length];rw[hb.out];repeat' ((conv=>whnf);first|with_reducible apply aP|((with_reducible apply fk)<;>intro hc<;>try exact aZ)|refine aN ?_|fail)
   refine⟨(),aH ?_⟩;all_goals exact aM
  have d1:decide ((k:Int)<(st.length:Int))=true:=by simp only[iO];omega
  have eV:IntKind.i64.wrap ((k:Int)+1)=((k+1:Nat):Int):=by rw[bN (by omega) (by omega)];omega
  have hq:=QV w x st B k hkl;have hcl:=wO w x gT (st.take k) B;have htl:(st.take k).length≤5:=by rw[List.length_take];omega
  have hrk:=dR Pl.c st k hkl;obtain⟨y,hy⟩:∃y,st[k]=y:=⟨_,rfl⟩;rw[hy] at hq hrk;obtain⟨cu,hcu⟩:∃cu,qy w x (st.take k) B=cu:=⟨_,rfl⟩;rw[hcu] at hq hcl ⊢;clear hcu hy;have hco:=aA x.from_ y.node y.aI;rw[show (x.from_.any fun z=>z==(⟨y.node,y.aI⟩:Pl))=gY x.from_ y from rfl] at hco;unfold late1 at hq;obtain⟨bb,ah8⟩:∃bb,gY x.from_ y=bb:=⟨_,rfl⟩;rw[ah8] at hco hq;clear ah8;cases bb with
  | true=>
    simp only[↓reduceIte] at hq;replace hq:=Hd.mk hq;repeat' ((conv=>whnf);first|with_reducible apply aP|((with_reducible apply fk)<;>intro hc<;>try exact gK)|((refine⟨_,hrk,?_⟩))|((refine⟨_,hr,?_⟩))|(apply bA;refine⟨_,hco,?_⟩)|refine aN ?_|fail)
    refine⟨⟨k+1,hkl⟩,dec_lt hkl,aH ?_⟩;dsimp only
    rw[hq.out];repeat' first|apply And.intro|exact aM|fail
    all_goals try (conv=>whnf)
    all_goals exact eV
  | false=>
    simp only[Bool.false_eq_true,↓reduceIte] at hq;have hba:=ac6 { w with bad:=cu } (W.map Wt.c) (Q.map Rq.c) 79 y.c (fun z=>z==y) (fun z=>aaH y z) (by simp only;omega) (by simp only;omega) (by simp only;omega);replace hq:=Hd.mk hq;repeat' ((conv=>whnf);first|with_reducible apply aP|((with_reducible apply fk)<;>intro hc<;>try exact gK)|rewrite[pY]|rewrite[p8]|((refine⟨_,hrk,?_⟩))|((refine⟨_,hr,?_⟩))|(apply bA;refine⟨_,hco,?_⟩)|(apply dn;refine⟨_,_,av (hba) ?_,?_⟩;exact bD)|refine aN ?_|fail)
    refine⟨⟨k+1,hkl⟩,dec_lt hkl,aH ?_⟩;dsimp only
    rw[hq.out];repeat' first|apply And.intro|exact aM|fail
    all_goals try (conv=>whnf)
    all_goals exact eV
 clear hb hg1;cases g2 with
 | false=>
   simp only[Bool.false_eq_true,↓reduceIte] at hS;repeat' ((conv=>whnf);first|with_reducible apply aP|((with_reducible apply fk)<;>intro hc<;>try exact aZ)|(apply bA;refine⟨_,hg2,?_⟩)|((refine⟨_,hr,?_⟩))|refine aN ?_|fail)
   refine⟨⟨i+1,hlt⟩,dec_lt hlt,aH ?_⟩;dsimp only
   rw[hS.out];repeat' first|apply And.intro|exact aM|fail
   all_goals try (conv=>whnf)
   all_goals exact eW
 | true=>
   simp only[↓reduceIte] at hS;have hse:=aaL w x now i (W.map Wt.c) (b.map Pl.c) Q hr (by omega) hfr hB (by omega);repeat' ((conv=>whnf);first|with_reducible apply aP|((with_reducible apply fk)<;>intro hc<;>try exact aZ)|rewrite[pY]|rewrite[p8]|(apply bA;refine⟨_,hg2,?_⟩)|((refine⟨_,hr,?_⟩))|(apply dn;refine⟨_,_,av (hse) ?_,?_⟩;exact bD)|refine aN ?_|fail)
   refine⟨⟨i+1,hlt⟩,dec_lt hlt,aH ?_⟩;dsimp only
   rw[hS.out];repeat' first|apply And.intro|exact aM|fail
   all_goals try (conv=>whnf)
   all_goals first
    |exact eW
    |(rw[List.map_set];exact aB _)
    |skip
theorem Ao:bR prog 28 f28:=fC func28
theorem KC {w:Wr}{e:Int}{known:List Pl}(h:((w.fenced==1)||((w.change.first != 0)||(((w.bad.map Pl.c).length:Int)==0)))=true):gL w e known=(w,kQ,false):=by
 unfold gL;rw[if_pos];simp only[Bool.or_eq_true,beq_iff_eq,bne_iff_ne,ne_eq,fE] at h;rcases h with h|h|h
 ·exact .inl h
 ·exact .inr (.inl h)
 exact .inr (.inr (List.eq_nil_of_length_eq_zero (by omega)))
theorem aaT {w:Wr}{e:Int}{known:List Pl}{g:Fr}{ok:Bool}(h1:(w.fenced==1)=false)(h2:(w.change.first != 0)=false)(h3:(((w.bad.map Pl.c).length:Int)==0)=false)(hX:jI (bH w.l.af) w.l.w e w.bad known=(g,ok)) :
  gL w e known=if (!ok||((((w.l.af.map Fr.c).length:Int)==6)&&decide (w.sure+1>(bH w.l.af).first)))=true then ({ w with bad:=[] },kQ,false) else ({ w with change:=⟨w.sure+1,g.ah⟩ },⟨w.sure+1,g.ah⟩,true):=by
 unfold gL FI;rw[hX];rw[if_neg]
 ·simp only[fE];rfl
 simp only[beq_eq_false_iff_ne,ne_eq,bne_eq_false_iff_eq,fE] at h1 h2 h3;rintro (h|h|h)
 ·exact h1 h
 ·exact h h2
 rw[h] at h3;exact h3 rfl
theorem afe (w:Wr)(e:Int)(known:List Pl)(h:WrB w)(hk:known.length≤1000)(gT:(bH w.l.af).ah.length≤5)(tq:0≤w.sure∧w.sure<18446744073709551615) :
  dB prog 28 [.agg w.c,ii e,ax known] (.cO [.agg (gL w e known).1.c,.agg (gL w e known).2.1.c,bl (gL w e known).2.2]):=by
 refine PC.le ?_;have hN:=tV w h;cases c1:(w.fenced==1) with
 | true=>
   rw[KC (by rw[c1];rfl)];refine dP Ao ?_;repeat' ((conv=>whnf);first|with_reducible apply aP|((with_reducible apply fk)<;>intro hc<;>try exact gK)|(apply dn;refine⟨_,_,av (hN) ?_,?_⟩;exact bD)|refine aN ?_|fail)
   all_goals exact aM
 |false=>
 cases c2:(w.change.first != 0) with
 | true=>
   rw[KC (by rw[c1,c2];rfl)];refine dP Ao ?_;repeat' ((conv=>whnf);first|with_reducible apply aP|((with_reducible apply fk)<;>intro hc<;>try exact gK)|(apply dn;refine⟨_,_,av (hN) ?_,?_⟩;exact bD)|refine aN ?_|fail)
   all_goals exact aM
 |false=>
 cases c3:(((w.bad.map Pl.c).length:Int)==0) with
 | true=>
   rw[KC (by rw[c1,c2,c3];rfl)];refine dP Ao ?_;repeat' ((conv=>whnf);first|with_reducible apply aP|((with_reducible apply fk)<;>intro hc<;>try exact gK)|(apply dn;refine⟨_,_,av (hN) ?_,?_⟩;exact bD)|refine aN ?_|fail)
   all_goals exact aM
 |false=>
 have hre:=vO (bH w.l.af) w.l.w e w.bad known (by omega) hk;have hg5:=pz gT w.l.w e w.bad known;have hla:=VX w (w.waits.map Wt.c) (w.bad.map Pl.c) (by have:=h.fl;omega);obtain⟨⟨g,ok⟩,hX⟩:∃X,jI (bH w.l.af) w.l.w e w.bad known=X:=⟨_,rfl⟩;rw[aaT c1 c2 c3 hX];rw[hX] at hre hg5;simp only at hre hg5;have eS:IntKind.u64.wrap (w.sure+1)=w.sure+1:=gX (by omega) (by omega);have hof:=tT ⟨w.sure+1,g.ah⟩ (by simp only;omega);clear hX h hk tq hg5 gT;obtain⟨lf,gT⟩:∃lf,bH w.l.af=lf:=⟨_,rfl⟩;rw[gT] at hre hla ⊢;clear gT;cases ok with
 | false=>
   simp only[Bool.not_false,Bool.true_or,↓reduceIte];refine dP Ao ?_;repeat' ((conv=>whnf);first|with_reducible apply aP|((with_reducible apply fk)<;>intro hc<;>try exact gK)|rewrite[pY]|rewrite[p8]|rewrite[eS]|(apply dn;refine⟨_,_,av (hN) ?_,?_⟩;exact bD)|(refine Or.inr ?_;(conv=>whnf);refine⟨_,_,av (hla) ?_,?_⟩;exact bD)|(apply bA;refine⟨_,aG (hre) ?_,?_⟩;exact bD)|refine aN ?_|fail)
   all_goals exact aM
 |true=>
 cases c6:(((w.l.af.map Fr.c).length:Int)==6)<;>cases c7:decide (w.sure+1>lf.first)
 all_goals
  simp only[Bool.not_true,Bool.false_or,Bool.and_true,Bool.and_false,Bool.true_and,Bool.false_and,Bool.false_eq_true,↓reduceIte];refine dP Ao ?_;repeat' ((conv=>whnf);first|with_reducible apply aP|((with_reducible apply fk)<;>intro hc<;>try exact gK)|rewrite[pY]|rewrite[p8]|rewrite[eS]|(apply dn;refine⟨_,_,av (hN) ?_,?_⟩;exact bD)|(refine Or.inr ?_;(conv=>whnf);refine⟨_,_,av (hla) ?_,?_⟩;exact bD)|(apply bA;refine⟨_,aG (hre) ?_,?_⟩;exact bD)|(apply bA;refine⟨_,aG (hof) ?_,?_⟩;exact bD)|refine aN ?_|fail)
  all_goals exact aM
theorem Di:bR prog 29 f29:=fC func29
theorem jr (l:List Fr)(w n:Int):(setOf l w n).length≤w.toNat:=by
 unfold setOf;split
 ·simp
 split
 ·simp[fF]
 simp
theorem V5 {l:List Fr}{f:Fr}(h:bg l)(hf:f.ok):bg (dX l f):=by
 intro x hx;unfold dX at hx;rw[List.mem_append,List.mem_singleton] at hx;rcases hx with hx|rfl
 ·split at hx
  ·exact h x (List.dropLast_subset _ hx)
  exact h x hx
 exact hf
def upW (now:Int)(x:Wt):Wt:={ x with born:=now,since:=now }
def SN (P L:List Wt)(now:Int)(i:Nat):List Wt:=P++((L.take i).map (upW now)++L.drop i)
theorem ac9 (P L:List Wt)(now:Int)(i:Nat)(h:i<L.length):(SN P L now i)[P.length+i]? = some L[i]:=by
 unfold SN;rw[List.getElem?_append_right (by omega),Nat.add_sub_cancel_left,List.getElem?_append_right (by simp;omega)];simp only[fE,List.length_take];rw[Nat.min_eq_left (by omega),Nat.sub_self,List.getElem?_drop,Nat.add_zero,List.getElem?_eq_getElem h]
theorem aaU (P L:List Wt)(now:Int)(i:Nat)(h:i<L.length):(SN P L now i).set (P.length+i) (upW now L[i])=SN P L now (i+1):=by
 unfold SN;rw[List.set_append_right _ _ (by omega),Nat.add_sub_cancel_left];congr 1
 have e:((L.take i).map (upW now)).length=i:=by simp;omega
 rw[List.set_append_right _ _ (by omega),e,Nat.sub_self,List.take_succ_eq_append_getElem h,List.map_append,List.append_assoc];congr 1
 rw[List.drop_eq_getElem_cons h];rfl
theorem F7 (w:Wr)(now:Int)(ok:Bool)(h:(w.change.first==0)=false)(wD:Wr)(hD:wD={ w with l:={ w.l with af:=if ok then dX w.l.af w.change else w.l.af },change:=kQ,bad:=[] })(j:Nat)(hj:(wD.waits.takeWhile (fI wD)).length=j) :
  dK w now ok=({ wD with sure:=qx wD j,waits:=(wD.waits.drop j).map (upW now) },(wD.waits.drop j).flatMap (kJ { wD with sure:=qx wD j })):=by
 unfold dK;rw[if_neg (by simpa using h)];have e:jO w ok={ wD with sure:=qx wD j,waits:=wD.waits.drop j }:=by
  unfold jO;rw[←hD];exact SK wD j hj
 rw[e];rfl
theorem Qm (w:Wr)(now:Int)(ok:Bool)(h:WrB w)(dx:gF now)(hw:w.l.w≤5)(hch:w.change.ok) :
  dB prog 29 [.agg w.c,uu now,bl ok] (.cO [.agg (dK w now ok).1.c,kD (dK w now ok).2]):=by
 refine PC.le ?_;cases c1:(w.change.first==0) with
 | true=>
   have hN:=tV w h;have e:dK w now ok=(w,[]):=by unfold dK;rw[if_pos (by simpa using c1)]
   rw[e];refine dP Di ?_;repeat' ((conv=>whnf);first|with_reducible apply aP|((with_reducible apply fk)<;>intro hc<;>try exact aZ)|(apply dn;refine⟨_,_,av (hN) ?_,?_⟩;exact bD)|refine aN ?_|fail)
   all_goals exact aM
 |false=>
 obtain⟨F,hF⟩:∃F,(if ok then dX w.l.af w.change else w.l.af)=F:=⟨_,rfl⟩;obtain⟨j,hj⟩:∃j,(w.waits.takeWhile (fI { w with l:={ w.l with af:=F },change:=kQ,bad:=[] })).length=j:=⟨_,rfl⟩;rw[F7 w now ok c1 { w with l:={ w.l with af:=F },change:=kQ,bad:=[] } (by rw[hF]) j hj];have hC:=ac1 w h;have hla:=V3 w (w.waits.map Wt.c) (w.bad.map Pl.c) (by have:=h.fl;omega);have afp:bg F:=by
  rw[←hF];cases ok
  ·exact h.fr
  exact V5 h.fr hch
 have hwx:=h.wx;have hwl:=h.wl;have hfl:=h.fl;have hm:=aaR { w with l:={ w.l with af:=F },change:=kQ,bad:=[] } afp (fun x hx=>(hwx x hx).n) hwl j hj;refine dP Di ?_;repeat' ((conv=>whnf);first|fail|((with_reducible apply fk)<;>intro hc<;>try exact gK)|rewrite[pY]|rewrite[p8]|(apply dn;refine⟨_,_,av (hC) ?_,?_⟩;exact bD)|refine aN ?_|fail)
 refine Or.inl ?_;repeat' ((conv=>whnf);first|fail|((with_reducible apply fk)<;>intro hc<;>try exact gK)|refine aN ?_|fail)
 clear hC;refine Or.inr ⟨Unit,fun _=>⟨[(1,.pv (uu now)),(6,.ptr 1006 0),(8,.ptr 1008 0)],1000000000,[(1006,.var (wr0.c.map .pv)),(1008,.var (pX w (.pv (cB F)) (.aO 1009 0) (.pv (ax w.bad)) (.pv fQ))),(1009,.arr 145 0 5 (w.waits.map Wt.c))]⟩,?_,fun _=>?_⟩
 ·clear hm hwx hwl afp;cases ok with
  | false=>
    simp only[Bool.false_eq_true,↓reduceIte] at hF;rw[←hF];repeat' ((conv=>whnf);first|with_reducible apply aP|((with_reducible apply fk)<;>intro hc<;>try exact gK)|refine aN ?_|fail)
    refine⟨(),BB [1002003001] ?_⟩;all_goals exact aM
  | true=>
    simp only[↓reduceIte] at hF;rw[←hF];unfold dX;cases e37:((bH w.l.af).first==w.change.first) with
    | false=>
      simp only[Bool.false_eq_true,↓reduceIte];obtain⟨lf,gT⟩:∃lf,bH w.l.af=lf:=⟨_,rfl⟩;rw[gT] at hla e37;repeat' ((conv=>whnf);first|with_reducible apply aP|((with_reducible apply fk)<;>intro hc<;>try exact gK)|(refine Or.inr ?_;(conv=>whnf);refine⟨_,_,av (hla) ?_,?_⟩;exact bD)|(((with_reducible apply And.intro);focus (simp only[fE,jQ,jR];omega)))|refine aN ?_|fail)
      refine⟨(),BB [1002003001] ?_⟩;repeat' first|apply And.intro|exact aM|fail
      all_goals try (conv=>whnf)
      all_goals first
       |(rw[List.map_append];exact aB _)
    | true=>
      simp only[↓reduceIte];obtain⟨lf,gT⟩:∃lf,bH w.l.af=lf:=⟨_,rfl⟩;have h0:0<w.l.af.length:=by
       rcases Nat.eq_zero_or_pos w.l.af.length with h0|h0
       ·rw[List.eq_nil_of_length_eq_zero h0,pU] at e37;simp only[kQ,beq_iff_eq] at e37;rw[←e37] at c1;cases c1
       exact h0
      rw[gT] at hla e37;obtain⟨k,hk⟩:∃k,w.l.af.length=k+1:=⟨w.l.af.length-1,by omega⟩;have eI:IntKind.i64.wrap (((w.l.af.map Fr.c).length:Int)-1)=((k:Nat):Int):=by rw[List.length_map,bN (by omega) (by omega)];omega
      repeat' ((conv=>whnf);first|with_reducible apply aP|((with_reducible apply fk)<;>intro hc<;>try exact gK)|rewrite[eI]|(refine Or.inr ?_;(conv=>whnf);refine⟨_,_,av (hla) ?_,?_⟩;exact bD)|(((with_reducible apply And.intro);focus (simp only[fE,jQ,jR,Int.toNat_natCast];omega)))|refine aN ?_|fail)
      refine⟨(),BB [1002003001] ?_⟩;repeat' first|apply And.intro|exact aM|fail
      all_goals try (conv=>whnf)
      simp only[jF,List.drop_zero,Int.toNat_natCast,List.length_singleton,Nat.sub_zero];rw[List.drop_eq_nil_of_le (by rw[List.length_map];omega),List.append_nil,List.take_of_length_le (by simp only[rq,List.length_take,fE,List.length_singleton];omega),List.map_append,List.dropLast_eq_take,hk,Nat.add_sub_cancel,List.map_take];exact aB _
 clear hla hfl;obtain⟨L,hL⟩:∃L,w.waits.drop j=L:=⟨_,rfl⟩;obtain⟨P,hP⟩:∃P,w.waits.take j=P:=⟨_,rfl⟩;have hjl:j≤w.waits.length:=by rw[←hj];exact (List.takeWhile_prefix _).length_le
 have hPL:w.waits=P++L:=by rw[←hP,←hL,List.take_append_drop]
 have hPl:P.length=j:=by rw[←hP,List.length_take];omega
 obtain⟨su,tq⟩:∃su,qx { w with l:={ w.l with af:=F },change:=kQ,bad:=[] } j=su:=⟨_,rfl⟩;rw[tq] at hm ⊢;simp only[hL];have hLx:∀x∈L,Sq x:=fun x hx=>hwx x (by rw[hPL];simp[hx])
 clear hL hP hj hwx hF tq hjl h;simp only[hPL,rq] at hm hwl ⊢;clear hPL;subst hPl;repeat' ((conv=>whnf);first|with_reducible apply aP|((with_reducible apply fk)<;>intro hc<;>try exact gK)|rewrite[pY]|rewrite[p8]|(apply dn;refine⟨_,_,av (hm) ?_,?_⟩;exact bD)|refine aN ?_|fail)
 refine⟨{i:Nat // i≤L.length},fun⟨i,_⟩=>⟨[(1,.pv (uu now)),(6,.ptr 1006 0),(8,.ptr 1008 0),(72,.pv (ii L.length)),(73,.pv (ii i))],1000000000,[(1006,.var (wr0.c.map .pv)),(1008,.var (pX { w with l:={ w.l with af:=F },change:=kQ,bad:=[],sure:=su } (.pv (cB F)) (.sub 1009 0 5 P.length (P.length+L.length)) (.pv fQ) (.aO 1010 0))),(1009,.arr 145 0 5 ((SN P L now i).map Wt.c)),(1010,.arr 93 0 10 (((L.take i).flatMap (kJ { w with l:={ w.l with af:=F },change:=kQ,bad:=[],sure:=su })).map Rq.c))]⟩,fun⟨i,_⟩=>L.length-i,⟨⟨0,Nat.zero_le _⟩,aH ?_⟩,?_⟩
 ·repeat' first|apply And.intro|exact aM|fail
  all_goals try (conv=>whnf)
  all_goals first
   |(simp only[jF,List.length_take,List.length_drop,fE,rq];omega)
   |skip
 rintro⟨i,hi⟩
 dsimp only
 clear hm;by_cases hlt:i<L.length
 rotate_left
 ·have hke:i=L.length:=by omega
  subst hke;have d0:decide ((L.length:Int)<(L.length:Int))=false:=by simp
  have eC:SN P L now L.length=P++L.map (upW now):=by unfold SN;rw[List.take_length,List.drop_length,List.append_nil]
  rw[eC,List.take_length];repeat' ((conv=>whnf);first|with_reducible apply aP|((with_reducible apply fk)<;>intro hc<;>try exact aZ)|refine aN ?_|fail)
  repeat' first|apply And.intro|exact aM|fail
  all_goals try (conv=>whnf)
  all_goals first
   |(rw[jF,List.map_append,List.drop_left' (by rw[List.length_map]),List.take_of_length_le (by simp only[fE];omega)];exact aB _)
   |skip
 have d0:decide ((i:Int)<(L.length:Int))=true:=by simp only[iO];omega
 have eW:IntKind.i64.wrap ((i:Int)+1)=((i+1:Nat):Int):=by rw[bN (by omega) (by omega)];omega
 have hx0:((SN P L now i).map Wt.c)[P.length+i]? = some (L[i]).c:=by rw[List.getElem?_map,ac9 P L now i hlt];rfl
 have hcs:=aaU P L now i hlt;have hB:=hLx _ (List.getElem_mem hlt);have hts:L.take (i+1)=L.take i++[L[i]]:=List.take_succ_eq_append_getElem hlt;obtain⟨x,hx⟩:∃x,L[i]=x:=⟨_,rfl⟩;rw[hx] at hx0 hcs hB hts;have hil:P.length+i<((SN P L now i).map Wt.c).length:=(List.getElem?_eq_some_iff.1 hx0).1;obtain⟨q,hq⟩:∃q,(L.take i).flatMap (kJ { w with l:={ w.l with af:=F },change:=kQ,bad:=[],sure:=su })=q:=⟨_,rfl⟩;have hql:q.length≤5*i:=by
  rw[←hq];have hg:∀(l:List Wt),(l.flatMap (kJ { w with l:={ w.l with af:=F },change:=kQ,bad:=[],sure:=su })).length≤5*l.length:=fun l=>by
   induction l with
   |nil=>simp
   | cons y l ih=>
     rw[List.flatMap_cons,List.length_append,List.length_cons];have h1:=rZ { w with l:={ w.l with af:=F },change:=kQ,bad:=[],sure:=su } y (eT { w with l:={ w.l with af:=F },change:=kQ,bad:=[],sure:=su } y.n);rw[rY] at h1;have h2:=jr F w.l.w y.n;have h3:(eT { w with l:={ w.l with af:=F },change:=kQ,bad:=[],sure:=su } y.n).length≤w.l.w.toNat:=h2;omega
  have:=hg (L.take i);rw[List.length_take] at this;omega
 have hqs:(L.take (i+1)).flatMap (kJ { w with l:={ w.l with af:=F },change:=kQ,bad:=[],sure:=su })=q++kJ { w with l:={ w.l with af:=F },change:=kQ,bad:=[],sure:=su } { x with born:=now }:=by
  rw[hts,List.flatMap_append,hq];simp only[List.flatMap_cons,List.flatMap_nil,List.append_nil];rfl
 rw[hq];have hx1:(((SN P L now i).map Wt.c).set (P.length+i) ({ x with born:=now }:Wt).c)[P.length+i]? = some ({ x with born:=now }:Wt).c:=List.getElem?_set_self hil;have hse:=aaM { w with l:={ w.l with af:=F },change:=kQ,bad:=[],sure:=su } { x with born:=now } now (P.length+i) P.length (P.length+L.length) (((SN P L now i).map Wt.c).set (P.length+i) ({ x with born:=now }:Wt).c) q hx1 (by omega) afp ⟨hB.n,hB.body,hB.from_,dx,hB.since⟩ (by
  have h2:=jr F w.l.w x.n;have h3:(eT { w with l:={ w.l with af:=F },change:=kQ,bad:=[],sure:=su } ({ x with born:=now }:Wt).n).length≤w.l.w.toNat:=h2;omega)
 rw[List.set_set] at hse;have aia:((SN P L now i).map Wt.c).set (P.length+i) ({ x with born:=now,since:=now }:Wt).c=(SN P L now (i+1)).map Wt.c:=by
  rw[←hcs,List.map_set];rfl
 rw[aia,←hqs] at hse;clear hcs aia hqs hts hx hq hx1;repeat' ((conv=>whnf);first|with_reducible apply aP|((with_reducible apply fk)<;>intro hc<;>try exact gK)|rewrite[pY]|rewrite[p8]|((refine⟨_,hx0,?_⟩))|(apply dn;refine⟨_,_,av (hse) ?_,?_⟩;exact bD)|(((with_reducible apply And.intro);focus (rw[Int.toNat_natCast];omega)))|refine aN ?_|fail)
 refine⟨⟨i+1,hlt⟩,dec_lt hlt,aH ?_⟩;repeat' first|apply And.intro|exact aM|fail
 all_goals try (conv=>whnf)
 all_goals first
  |exact eW
  |skip
def Ar (s:Sk):List (Nat×aF):=[(1,.var (skA s (.aO 2 0) (.aO 3 0) (.aO 4 0) (.aO 5 0) (.aO 6 0))),(2,.arr 95 0 21 (s.eG.map Lk.c)),(3,.arr 202 0 4 (s.has.map Hp.c)),(4,.arr 202 0 4 (s.told.map Hp.c)),(5,.arr 221 0 4 (s.aQ.map Fk.c)),(6,.arr 9 0 1 (s.bT.map zW))]
def NV (s:Sk):List (Nat×aF):=[(1,.var (skA s (.aO 1001 0) (.aO 1002 0) (.aO 1003 0) (.aO 1004 0) (.aO 1005 0))),(2,.dS 1 21 []),(3,.dS 1 4 []),(4,.dS 1 4 []),(5,.dS 1 4 []),(6,.dS 1 1 []),(1001,.arr 95 0 21 (s.eG.map Lk.c)),(1002,.arr 202 0 4 (s.has.map Hp.c)),(1003,.arr 202 0 4 (s.told.map Hp.c)),(1004,.arr 221 0 4 (s.aQ.map Fk.c)),(1005,.arr 9 0 1 (s.bT.map zW))]
def skM (s:Sk):List (Nat×aF):=[(1781,.arr 9 0 1 (s.bT.map zW)),(1780,.arr 221 0 4 (s.aQ.map Fk.c)),(1779,.arr 202 0 4 (s.told.map Hp.c)),(1778,.arr 202 0 4 (s.has.map Hp.c)),(1777,.arr 95 0 21 (s.eG.map Lk.c)),(1,.var (skA s (.aO 1777 0) (.aO 1778 0) (.aO 1779 0) (.aO 1780 0) (.aO 1781 0))),(2,.dS 1 21 []),(3,.dS 1 4 []),(4,.dS 1 4 []),(5,.dS 1 4 []),(6,.dS 1 1 [])]
theorem lG {f:FuncId}{r:List AV}{s:Sk}{Q:AV→List (Nat×aF)→Prop}(h:GC prog f (.ptr 1 0::r) (skM s) Q)(hr:Bv 6 1781 (Bv 5 1780 (Bv 4 1779 (Bv 3 1778 (Bv 2 1777 r))))=r):GC prog f (.ptr 1 0::r) (Ar s) Q:=by
 refine nD 2 1777 rfl (nD 3 1778 rfl (nD 4 1779 rfl (nD 5 1780 rfl (nD 6 1781 rfl ?_))));show GC _ _ (.ptr 1 0::(Bv 6 1781 (Bv 5 1780 (Bv 4 1779 (Bv 3 1778 (Bv 2 1777 r)))))) (skM s) Q
 rw[hr];exact h
theorem Qf:bR prog 90 f90:=fC func90
theorem oD (s:Sk)(to:Int)(l:List Rq)(hl:l.length≤1000000)(hb:s.eG.length≤1000000):dU prog 90 [.ptr 1 0,.pv (uu to),.pv (kD l)] (Ar s) (.pv (.cO [])) (NV (jJ s to l)):=by
 refine lG ?_ rfl;refine eO Qf ?_;repeat' ((conv=>whnf);first|with_reducible apply aP|((with_reducible apply fk)<;>intro hc<;>try exact aZ)|refine aN ?_|fail)
 refine⟨{k:Nat // k≤l.length∧k≤90-s.eG.length},fun⟨k,_⟩=>⟨[(0,.ptr 1 0),(1,.pv (uu to)),(2,.pv (kD l)),(6,.pv (ii k))],1000000000,NV { s with eG:=s.eG++(l.take k).map (lkQ to) }⟩,fun⟨k,_⟩=>l.length-k,⟨⟨0,Nat.zero_le _,Nat.zero_le _⟩,aH ?_⟩,?_⟩
 ·repeat' first|apply And.intro|exact aM|fail
  all_goals try (conv=>whnf)
  all_goals first
   |(simp only[List.take_zero,zmn,List.append_nil];exact aB _)
   |skip
 rintro⟨k,hk,hk2⟩
 dsimp only
 have hlen:(((s.eG++(l.take k).map (lkQ to)).map Lk.c).length:Int)=((s.eG.length+k:Nat):Int):=by simp only[fE,rq,List.length_take];omega
 cases d1:decide ((k:Int)<((l.map Rq.c).length:Int)) with
 | false=>
   have hke:k=l.length:=by rw[List.length_map,decide_eq_false_iff_not] at d1;omega
   have e:jJ s to l={ s with eG:=s.eG++(l.take k).map (lkQ to) }:=by
    unfold jJ;rw[List.take_of_length_le (by omega),List.take_of_length_le (by omega)];rfl
   rw[e];clear e hke hlen;repeat' ((conv=>whnf);first|with_reducible apply aP|((with_reducible apply fk)<;>intro hc<;>try exact gK)|refine aN ?_|fail)
   refine⟨_,_,⟨rfl,rfl⟩,?_⟩;all_goals exact aM
 |true=>
 have hkl:k<l.length:=by rw[List.length_map,decide_eq_true_eq] at d1;omega
 cases d2:decide ((((s.eG++(l.take k).map (lkQ to)).map Lk.c).length:Int)<90) with
 | false=>
   have e:jJ s to l={ s with eG:=s.eG++(l.take k).map (lkQ to) }:=by
    rw[hlen,decide_eq_false_iff_not] at d2;have:90-s.eG.length=k:=by omega
    unfold jJ;rw[this];rfl
   rw[e];clear e hlen;repeat' ((conv=>whnf);first|with_reducible apply aP|((with_reducible apply fk)<;>intro hc<;>try exact gK)|refine aN ?_|fail)
   refine⟨_,_,⟨rfl,rfl⟩,?_⟩;all_goals exact aM
 | true=>
   have h90:s.eG.length+k<90:=by rw[hlen,decide_eq_true_eq] at d2;omega
   have eW:IntKind.i64.wrap ((k:Int)+1)=((k+1:Nat):Int):=by rw[bN (by omega) (by omega)];omega
   have afd:s.eG++List.map (lkQ to) (List.take (k+1) l)=(s.eG++List.map (lkQ to) (List.take k l))++[lkQ to l[k]]:=by rw[List.take_succ_eq_append_getElem hkl,List.map_append,List.append_assoc];rfl
   replace afd:=Hd.mk afd;have hr:=dR Rq.c l k hkl;have hmm:k<(l.map Rq.c).length:=by rw[List.length_map];exact hkl
   clear hlen;repeat' ((conv=>whnf);first|with_reducible apply aP|((with_reducible apply fk)<;>intro hc<;>try exact gK)|((refine⟨_,hr,?_⟩))|(((with_reducible apply And.intro);focus (rw[Int.toNat_natCast];exact hmm)))|(((with_reducible apply And.intro);focus (simp only[fE,jQ,jR,rq,List.length_take];omega)))|refine aN ?_|fail)
   refine⟨⟨k+1,hkl,by omega⟩,dec_lt hkl,aH ?_⟩;repeat' first|apply And.intro|exact aM|fail
   all_goals try (conv=>whnf)
   all_goals first
    |exact eW
    | (show iR (List.map Lk.c (s.eG++List.map (lkQ to) (List.take (k+1) l))) (List.map Lk.c (s.eG++List.map (lkQ to) (List.take k l))++_)
       rw[afd.out,List.map_append];refine bW (aB _) ?_
       (repeat' first|apply And.intro|exact aM|fail);(all_goals try (conv=>whnf)))
    |skip
theorem M7:bR prog 75 f75:=fC func75
theorem Qc (a b:Int):dB prog 75 [.agg [ii a,uu b]] (bl (vg ⟨a,b⟩)):=by
 refine PC.le ?_;refine dP M7 ?_;repeat' ((conv=>whnf);first|with_reducible apply aP|((with_reducible apply fk)<;>intro hc<;>try exact aZ)|refine aN ?_|fail)
 all_goals
  repeat' first|apply And.intro|exact aM|fail
  all_goals try (conv=>whnf)
  simp only[vg,dI];simp only[iO,w9] at *;first
   |(symm;simp only[Bool.and_eq_false_iff,w9];omega)
   |(rw[Bool.eq_iff_iff];simp only[Bool.and_eq_true,iO];omega)
theorem Dc:bR prog 25 f25:=fC func25
theorem tN (w:Int)(l:List Fr):dB prog 25 [ii w,cB l] (bl (dA w l)):=by
 refine PC.le (qg Dc fun hb=>?_);have hb:l.length≤9223372036854775807:=by simpa[JF,DL,cB] using hb
 refine dP Dc ?_;cases hf1:qE l with
 | false=>
   cases l with
   | nil=>
     repeat' ((conv=>whnf);first|with_reducible apply aP|((with_reducible apply fk)<;>intro hc<;>try exact aZ)|refine aN ?_|fail)
     repeat' first|apply And.intro|exact aM|fail
     all_goals try (conv=>whnf)
     all_goals simp[dA,dI]
   | cons x r=>
     repeat' ((conv=>whnf);first|with_reducible apply aP|((with_reducible apply fk)<;>intro hc<;>try exact aZ)|((refine⟨_,rfl,?_⟩))|refine aN ?_|fail)
     all_goals try (exfalso;simp[qE] at hf1 hc;exact hf1 hc)
     all_goals
      repeat' first|apply And.intro|exact aM|fail
      all_goals try (conv=>whnf)
      all_goals (simp only[dA,hf1,Bool.false_and,Bool.and_false])
 | true=>
   obtain⟨h0,e0⟩:=(xW l).1 hf1;have hrow:(l.map Fr.c)[(0:Int).toNat]? = some l[0].c:=dR Fr.c l 0 h0;have hlen:(¬(1≤l.length∧l.length≤6))→dA w l=false:=fun h=>by
    cases e:dA w l with
    |false=>rfl
    |true=>exact absurd ⟨((jX w l).1 e).1,((jX w l).1 e).2.1⟩ h
   repeat' ((conv=>whnf);first|with_reducible apply aP|((with_reducible apply fk)<;>intro hc<;>try exact aZ)|((refine⟨_,hrow,?_⟩))|refine aN ?_|fail)
   ·repeat' first|apply And.intro|exact aM|fail
    all_goals try (conv=>whnf)
    exact (hlen (by simp at *;omega)).symm
   ·repeat' first|apply And.intro|exact aM|fail
    all_goals try (conv=>whnf)
    exact (hlen (by simp at *;omega)).symm
   ·exfalso;simp[e0] at hc
   have h6:1≤l.length∧l.length≤6:=by simp at *;omega
   refine⟨{k:Nat // k≤l.length∧∀j (hj:j<l.length),j<k→xV w l j hj},fun⟨k,_⟩=>⟨[(0,.pv (ii w)),(1,.pv (cB l)),(5,.pv (ii k))],1000000000,[]⟩,fun⟨k,_⟩=>l.length-k,⟨⟨0,by simp⟩,aH ?_⟩,?_⟩
   ·all_goals exact aM
   rintro⟨k,hk,hn⟩
   repeat' ((conv=>whnf);first|with_reducible apply aP|((with_reducible apply fk)<;>intro hc<;>try exact aZ)|refine aN ?_|fail)
   ·have hlt:k<l.length:=by simpa using hc
    have hbad:¬xV w l k hlt→dA w l=false:=Pg hlt;have e1 (h:0<k):IntKind.i64.wrap (((k:Nat):Int)-1)=((k-1:Nat):Int):=by rw[bN (by omega) (by omega)];omega
    refine⟨_,dR _ _ _ hlt,?_⟩;repeat' ((conv=>whnf);first|with_reducible apply aP|((with_reducible apply fk)<;>intro hc<;>try exact aZ)|((refine⟨_,dR _ _ _ hlt,?_⟩))|((refine⟨by rw[e1 (by simp at hc;omega)];omega,_,O6 _ _ (e1 (by simp at hc;omega)) (by omega),?_⟩))|refine aN ?_|fail)
    all_goals
     first
      |(have hgood:(∀x∈l[k].ah,vg x=true)→(l[k].ah.map (·.node)).Nodup→xV w l k hlt:=(by intro h1 h2;simp only[iO,w9,fE] at *;exact⟨by omega,fun h=>by omega,by omega,by omega,List.all_eq_true.2 h1,h2⟩))
      |((repeat' first|apply And.intro|exact aM|fail);(all_goals try (conv=>whnf));exact (hbad (by rintro⟨g1,g2,g3,g4,_⟩;simp only[iO,w9,fE] at *;by_cases hk0:0<k<;>first|omega|(have g2:=g2 hk0;omega))).symm)
    all_goals
     repeat' ((conv=>whnf);first|with_reducible apply aP|((with_reducible apply fk)<;>intro hc<;>try exact aZ)|refine aN ?_|fail)
     generalize hbk:l[k].ah=bk at *;have hbl:bk.length≤5:=by simp only[iO,w9,fE] at *;omega
     refine⟨{j:Nat // j≤bk.length∧(∀i (hi:i<bk.length),i<j→vg bk[i]=true)∧((bk.take j).map (·.node)).Nodup},fun⟨j,_⟩=>⟨[(0,.pv (ii w)),(1,.pv (cB l)),(5,.pv (ii k)),(6,.pv (ax bk)),(7,.pv (ii j))],1000000000,[]⟩,fun⟨j,_⟩=>bk.length-j,⟨⟨0,by simp⟩,aH ?_⟩,?_⟩
     ·all_goals exact aM
     rintro⟨j,hj,hm,hd⟩
     repeat' ((conv=>whnf);first|with_reducible apply aP|((with_reducible apply fk)<;>intro hc<;>try exact aZ)|refine aN ?_|fail)
     ·have hjl:j<bk.length:=by simpa using hc
      refine⟨_,dR _ _ _ hjl,?_⟩;repeat' ((conv=>whnf);first|with_reducible apply aP|((with_reducible apply fk)<;>intro hc<;>try exact aZ)|(apply bA;refine⟨_,Qc _ _,?_⟩)|refine aN ?_|fail)
      ·repeat' first|apply And.intro|exact aM|fail
       all_goals try (conv=>whnf)
       refine (hbad fun g=>?_).symm;have:=List.all_eq_true.1 g.2.2.2.2.1 bk[j] (by rw[hbk];exact List.getElem_mem hjl);rw[Pl.eta] at hc;rw[this] at hc;cases hc
      repeat' ((conv=>whnf);first|with_reducible apply aP|((with_reducible apply fk)<;>intro hc<;>try exact aZ)|refine aN ?_|fail)
      refine⟨{i:Nat // i≤j∧∀x (hx:x<bk.length),x<i→bk[x].node≠bk[j].node},fun⟨i,_⟩=>⟨[(0,.pv (ii w)),(1,.pv (cB l)),(5,.pv (ii k)),(6,.pv (ax bk)),(7,.pv (ii j)),(8,.pv (ii i))],1000000000,[]⟩,fun⟨i,_⟩=>j-i,⟨⟨0,by simp⟩,aH ?_⟩,?_⟩
      ·all_goals exact aM
      have hpl:vg bk[j]=true:=by rw[Pl.eta] at hc;simpa using hc
      rintro⟨i,hi,hx⟩
      repeat' ((conv=>whnf);first|with_reducible apply aP|((with_reducible apply fk)<;>intro hc<;>try exact aZ)|refine aN ?_|fail)
      ·have hij:i<j:=by simpa using hc
       refine⟨_,dR _ _ _ (by omega:i<bk.length),?_⟩;repeat' ((conv=>whnf);first|with_reducible apply aP|((with_reducible apply fk)<;>intro hc<;>try exact aZ)|((refine⟨_,dR _ _ _ hjl,?_⟩))|refine aN ?_|fail)
       ·repeat' first|apply And.intro|exact aM|fail
        all_goals try (conv=>whnf)
        refine (hbad fun g=>?_).symm;have:=g.2.2.2.2.2;rw[hbk] at this;have:=List.pairwise_iff_getElem.1 this i j (by simp;omega) (by simp;omega) hij;simp at this hc;exact this hc
       repeat' ((conv=>whnf);first|with_reducible apply aP|((with_reducible apply fk)<;>intro hc<;>try exact aZ)|refine aN ?_|fail)
       refine⟨⟨i+1,hij,lX hx fun _=>by simpa using hc⟩,dec_lt hij,aH ?_⟩;repeat' first|apply And.intro|exact aM|fail
       all_goals try (conv=>whnf)
       exact bN (by omega) (by omega)
      have hij:i=j:=by simp at hc;omega
      subst hij;repeat' ((conv=>whnf);first|with_reducible apply aP|((with_reducible apply fk)<;>intro hc<;>try exact aZ)|refine aN ?_|fail)
      refine⟨⟨i+1,hjl,lX hm fun _=>hpl,Ph hjl hd hx⟩,dec_lt hjl,aH ?_⟩;repeat' first|apply And.intro|exact aM|fail
      all_goals try (conv=>whnf)
      exact bN (by omega) (by omega)
     have hj:j=bk.length:=by simp at hc;omega
     subst hj;repeat' ((conv=>whnf);first|with_reducible apply aP|((with_reducible apply fk)<;>intro hc<;>try exact aZ)|refine aN ?_|fail)
     refine⟨⟨k+1,hlt,lX hn fun _=>hgood (xU hm) (by simpa using hd)⟩,dec_lt hlt,aH ?_⟩;repeat' first|apply And.intro|exact aM|fail
     all_goals try (conv=>whnf)
     exact bN (by omega) (by omega)
   repeat' first|apply And.intro|exact aM|fail
   all_goals try (conv=>whnf)
   have:k=l.length:=by simp at hc;omega
   subst this;exact ((jX w l).2 ⟨h6.1,h6.2,hf1,fun j hj=>hn j hj hj⟩).symm
theorem Kk:bR prog 21 f21:=fC func21
theorem Df (l:Lg)(hr : -9223372036854775808≤l.closed∧l.closed≤9223372036854775807∧0≤l.last):dB prog 21 [.agg l.c] (bl (AX.d9 l)):=by
 refine PC.le ?_;obtain⟨X,hX⟩:∃X,X=AX.d9 l:=⟨_,rfl⟩;rw[←hX];refine dP Kk ?_;repeat' ((conv=>whnf);first|with_reducible apply aP|((with_reducible apply fk)<;>intro hc<;>try exact aZ)|(apply bA;refine⟨_,tN _ _,?_⟩)|refine aN ?_|fail)
 all_goals
  repeat' first|apply And.intro|exact aM|fail
  all_goals try (conv=>whnf)
  subst hX;simp only[AX.d9,dI];grind
theorem F3:bR prog 126 f126:=fC func126
theorem Ja (l:List Fr)(n:Int):dB prog 126 [cB l,uu n] (ii (nK (fun f=>decide (f.first≤n)) l)):=by
 refine PC.le (qg F3 fun hb=>?_);have hb:l.length≤9223372036854775807:=by simpa[JF,DL,cB] using hb
 refine dP F3 ?_;repeat' ((conv=>whnf);first|with_reducible apply aP|((with_reducible apply fk)<;>intro hc<;>try exact aZ)|refine aN ?_|fail)
 refine⟨{k:Nat // k≤l.length∧∀j (hj:j<l.length),k≤j→decide (l[j].first≤n)=false},fun⟨k,_⟩=>⟨[(0,.pv (cB l)),(1,.pv (uu n)),(5,.pv (ii (((k:Nat):Int)-1)))],1000000000,[]⟩,fun⟨k,_⟩=>k,⟨⟨l.length,Nat.le_refl _,fun j hj h=>by omega⟩,aH ?_⟩,?_⟩
 ·repeat' first|apply And.intro|exact aM|fail
  all_goals try (conv=>whnf)
  rw[bN (by simp;omega) (by simp;omega),List.length_map]
 rintro⟨k,hk,hn⟩
 repeat' ((conv=>whnf);first|with_reducible apply aP|((with_reducible apply fk)<;>intro hc<;>try exact aZ)|refine aN ?_|fail)
 ·have hlt:k-1<l.length∧1≤k:=by simp at hc;omega
  repeat' ((conv=>whnf);first|with_reducible apply aP|((with_reducible apply fk)<;>intro hc<;>try exact aZ)|((refine⟨by simp at hc;omega,_,O6 _ _ (k:=k-1) (by omega) hlt.1,?_⟩))|refine aN ?_|fail)
  ·repeat' first|apply And.intro|exact aM|fail
   all_goals try (conv=>whnf)
   rw[Ih _ hlt.1 (fun j hj h=>hn j hj (by omega)) hc];omega
  repeat' ((conv=>whnf);first|with_reducible apply aP|((with_reducible apply fk)<;>intro hc<;>try exact aZ)|refine aN ?_|fail)
  refine⟨⟨k-1,by omega,fun j hj h=>?_⟩,(show k-1<k by omega),aH ?_⟩
  ·by_cases e:j=k-1
   ·subst e;exact hc
   exact hn j hj (by omega)
  repeat' first|apply And.intro|exact aM|fail
  all_goals try (conv=>whnf)
  rw[bN (by omega) (by omega)];omega
 repeat' first|apply And.intro|exact aM|fail
 all_goals try (conv=>whnf)
 rw[vo _ (fun x hx=>?_)];obtain⟨j,hj,rfl⟩:=List.getElem_of_mem hx;exact hn j hj (by simp at hc;omega)
theorem Jb:bR prog 73 f73:=fC func73
theorem Nb (l:List Fr)(w n:Int)(h:bg l)(hn:0≤n∧n≤18446744073709551615):dB prog 73 [cB l,ii w,uu n] (ax (setOf l w n)):=by
 refine PC.le (qg Jb fun hb=>?_);have hb:l.length≤9223372036854775807:=by simpa[JF,DL,cB] using hb
 refine dP Jb ?_;rcases zC (fun f:Fr=>decide (f.first≤n)) l with ⟨e1,e2⟩|⟨k,hk,e1,e2⟩
 ·have hF:dB prog 126 [cB l,uu n] (ii (-1)):=e1▸Ja l n;repeat' ((conv=>whnf);first|with_reducible apply aP|((with_reducible apply fk)<;>intro hc<;>try exact aZ)|(apply bA;refine⟨_,hF,?_⟩)|refine aN ?_|fail)
  repeat' first|apply And.intro|exact aM|fail
  all_goals try (conv=>whnf)
  simp[setOf,eD,e2]
 have hF:dB prog 126 [cB l,uu n] (ii (k:Nat)):=e1▸Ja l n;have hf:eD l n=some l[k]:=e2;obtain⟨⟨f1,f2,f3⟩,f4⟩:=wC h hf;repeat' ((conv=>whnf);first|with_reducible apply aP|((with_reducible apply fk)<;>intro hc<;>try exact aZ)|(apply bA;refine⟨_,hF,?_⟩)|((refine⟨_,dR _ _ _ hk,?_⟩))|refine aN ?_|fail)
 all_goals try (exfalso;grind)
 ·repeat' first|apply And.intro|exact aM|fail
  all_goals try (conv=>whnf)
  simp only[iO,w9,fE] at *;simp only[setOf,hf];rw[if_neg (by omega)];rfl
 ·repeat' first|apply And.intro|exact aM|fail
  all_goals try (conv=>whnf)
  simp only[iO,w9,fE] at *;simp only[setOf,hf];rw[if_neg (by omega)];rfl
 have hw:1≤w∧w≤l[k].ah.length:=by simp only[iO,w9,fE] at *;omega
 have hpos:0<l[k].ah.length:=by omega
 have hlow:=Int.emod_nonneg (n-l[k].first) (b:=(l[k].ah.length:Int)) (by omega);have hup:=Int.emod_lt_of_pos (n-l[k].first) (b:=(l[k].ah.length:Int)) (by omega);have eI:IntKind.i64.wrap ((IntKind.u64.wrap (n-l[k].first)).tmod (IntKind.u64.wrap ((l[k].ah.map Pl.c).length:Int)))=(n-l[k].first)%(l[k].ah.length:Int):=by
  rw[gX (by omega) (by omega),List.length_map,gX (by omega) (by omega),Int.tmod_eq_emod_of_nonneg (by omega)];exact bN (by omega) (by omega)
 obtain⟨c,hc0⟩:∃c:Nat,c=((n-l[k].first)%(l[k].ah.length:Int)).toNat:=⟨_,rfl⟩;have hcl:c<l[k].ah.length:=by omega
 have hset:setOf l w n=fF l[k].ah c w.toNat:=by simp only[setOf,hf];rw[if_pos hw,hc0]
 have hcs:∀i,fF l[k].ah c (i+1)=fF l[k].ah c i++[l[k].ah[(c+i)%l[k].ah.length]!]:=fun i=>by simp[fF,List.range_succ]
 have hfl:∀i,(fF l[k].ah c i).length=i:=fun i=>by simp[fF]
 rw[hset];generalize hbk:l[k].ah=bk at *;repeat' ((conv=>whnf);first|with_reducible apply aP|((with_reducible apply fk)<;>intro hc<;>try exact aZ)|(((with_reducible apply And.intro);focus (rw[List.length_map,gX (by omega) (by omega)];omega)))|refine aN ?_|fail)
 refine⟨{i:Nat // i≤w.toNat},fun⟨i,_⟩=>⟨[(1,.pv (ii w)),(8,.aO 1008 0),(9,.pv (ax bk)),(10,.pv (ii (((c+i)%bk.length:Nat):Int)))],1000000000,[(1008,.arr 27 0 2 ((fF bk c i).map Pl.c))]⟩,fun⟨i,_⟩=>w.toNat-i,⟨⟨0,Nat.zero_le _⟩,aH ?_⟩,?_⟩
 ·repeat' first|apply And.intro|exact aM|fail
  all_goals try (conv=>whnf)
  rw[eI,Nat.add_zero,Nat.mod_eq_of_lt hcl];omega
 rintro⟨i,hi⟩
 have hm:(c+i)%bk.length<bk.length:=Nat.mod_lt _ hpos;have hwr:IntKind.i64.wrap ((((c+i)%bk.length:Nat):Int)+1)=(((c+i)%bk.length+1:Nat):Int):=by rw[bN (by omega) (by omega)];omega
 have hrow:[(bk[(c+i)%bk.length]).c]=[bk[(c+i)%bk.length]!].map Pl.c:=by rw[getElem!_pos bk _ hm];rfl
 have hms:=mod_succ (c+i) bk.length hpos;repeat' ((conv=>whnf);first|with_reducible apply aP|((with_reducible apply fk)<;>intro hc<;>try exact aZ)|refine aN ?_|fail)
 ·have hiw:i<w.toNat:=by simp[hfl] at hc;omega
  refine⟨_,dR _ _ _ hm,?_⟩;repeat' ((conv=>whnf);first|with_reducible apply aP|((with_reducible apply fk)<;>intro hc<;>try exact aZ)|(((with_reducible apply And.intro);focus (simp[hfl];omega)))|refine aN ?_|fail)
  ·rw[hwr] at hc;rw[beq_iff_eq,List.length_map,Int.ofNat_inj] at hc;rw[if_pos hc] at hms;refine⟨⟨i+1,hiw⟩,dec_lt hiw,aH ?_⟩;repeat' first|apply And.intro|exact aM|fail
   all_goals try (conv=>whnf)
   all_goals first
    |(refine fZ ?_;rw[hcs,List.map_append,←hrow];rfl)
    |(rw[←Nat.add_assoc,hms];rfl)
  rw[hwr] at hc;rw[beq_eq_false_iff_ne,ne_eq,List.length_map,Int.ofNat_inj] at hc;rw[if_neg hc] at hms;refine⟨⟨i+1,hiw⟩,dec_lt hiw,aH ?_⟩;repeat' first|apply And.intro|exact aM|fail
  all_goals try (conv=>whnf)
  all_goals first
   |(refine fZ ?_;rw[hcs,List.map_append,←hrow];rfl)
   |(rw[←Nat.add_assoc,hms];exact hwr)
 have:i=w.toNat:=by simp[hfl] at hc;omega
 subst this;all_goals exact aM
theorem ND:bR prog 127 f127:=fC func127
theorem NE:bR prog 74 f74:=fC func74
theorem NF (l:List Pl)(k:Nat)(h:k<l.length)(p:Pl):(l.take (k+1)).any (· == p)=((l.take k).any (· == p)||(l[k]==p)):=by
 rw[List.take_succ_eq_append_getElem h,List.any_append];simp
theorem DW (x y:Pl):((x.node==y.node)&&(x.aI==y.aI))=(x==y):=by
 rw[Bool.eq_iff_iff];obtain⟨_,_⟩:=x;obtain⟨_,_⟩:=y;simp
theorem QT (set dV:List Pl)(h1:set.length≤1000000)(h2:dV.length≤1000000):dB prog 127 [ax set,ax dV] (ii (JP set dV)):=by
 refine PC.le ?_;refine dP ND ?_;repeat' ((conv=>whnf);first|with_reducible apply aP|((with_reducible apply fk)<;>intro hc<;>try exact aZ)|refine aN ?_|fail)
 refine⟨{i:Nat // i≤set.length},fun⟨i,_⟩=>⟨[(0,.pv (ax set)),(1,.pv (ax dV)),(5,.pv (ii (nL set dV i))),(6,.pv (ii i))],1000000000,[]⟩,fun⟨i,_⟩=>set.length-i,⟨⟨0,Nat.zero_le _⟩,aH ?_⟩,?_⟩
 ·all_goals exact aM
 rintro⟨i,hi⟩
 dsimp only
 have hcl:=RF set dV i;by_cases hlt:i<set.length
 ·have d0:decide ((i:Int)<((set.map Pl.c).length:Int))=true:=by simp only[fE,iO];omega
  have eW:IntKind.i64.wrap ((i:Int)+1)=((i+1:Nat):Int):=by rw[bN (by omega) (by omega)];omega
  have hri:=dR Pl.c set i hlt;have afm:=Bd set dV i hlt;replace afm:=Hd.mk afm;obtain⟨c,hc0⟩:∃c,c=nL set dV i:=⟨_,rfl⟩;rw[←hc0];replace hc0:=Hd.mk hc0;have anm:c≤i:=by rw[hc0.out];exact hcl
  have eC:IntKind.i64.wrap ((c:Int)+1)=((c+1:Nat):Int):=by rw[bN (by omega) (by omega)];omega
  clear hcl;repeat' ((conv=>whnf);first|with_reducible apply aP|((with_reducible apply fk)<;>intro hc<;>try exact aZ)|refine aN ?_|fail)
  refine⟨{k:Nat // k≤i},fun⟨k,_⟩=>⟨[(0,.pv (ax set)),(1,.pv (ax dV)),(5,.pv (ii c)),(6,.pv (ii i)),(7,.pv (bl (!(set.take k).any (· == set[i])))),(8,.pv (ii k))],1000000000,[]⟩,fun⟨k,_⟩=>i-k,⟨⟨0,Nat.zero_le _⟩,aH ?_⟩,?_⟩
  ·all_goals exact aM
  rintro⟨k,hk⟩
  dsimp only
  by_cases hkt:k<i
  ·have d1:decide ((k:Int)<(i:Int))=true:=by simp only[iO];omega
   have eV:IntKind.i64.wrap ((k:Int)+1)=((k+1:Nat):Int):=by rw[bN (by omega) (by omega)];omega
   have hrk:=dR Pl.c set k (by omega);have hst:=NF set k (by omega) set[i];have hbq:=DW (set[k]'(by omega)) set[i];simp only[Pl.c] at hri hrk;cases hF:(set.take k).any (· == set[i]) with
   | true=>
     have hnx:(!(set.take (k+1)).any (· == set[i]))=false:=by rw[hst,hF];rfl
     replace hnx:=Hd.mk hnx;clear hst hbq hF;repeat' ((conv=>whnf);first|with_reducible apply aP|((with_reducible apply fk)<;>intro hc<;>try exact aZ)|((refine⟨_,hri,?_⟩))|((refine⟨_,hrk,?_⟩))|(refine zxb ?_)|refine aN ?_|fail)
     refine⟨⟨k+1,hkt⟩,dec_lt hkt,aH ?_⟩;dsimp only
     rw[hnx.out];repeat' first|apply And.intro|exact aM|fail
     all_goals try (conv=>whnf)
     all_goals exact eV
   | false=>
     cases he:(set[k]'(by omega)==set[i]) with
     | true=>
       have hnx:(!(set.take (k+1)).any (· == set[i]))=false:=by rw[hst,hF,he];rfl
       rw[he] at hbq;replace hnx:=Hd.mk hnx;clear hst hF he;repeat' ((conv=>whnf);first|with_reducible apply aP|((with_reducible apply fk)<;>intro hc<;>try exact gK)|((refine⟨_,hri,?_⟩))|((refine⟨_,hrk,?_⟩))|(refine zxb ?_)|refine aN ?_|fail)
       all_goals
        refine⟨⟨k+1,hkt⟩,dec_lt hkt,aH ?_⟩;dsimp only
        rw[hnx.out];try simp only[hbq,Bool.not_true]
        repeat' first|apply And.intro|exact aM|fail
        all_goals try (conv=>whnf)
        all_goals exact eV
     | false=>
       have hnx:(!(set.take (k+1)).any (· == set[i]))=true:=by rw[hst,hF,he];rfl
       rw[he] at hbq;replace hnx:=Hd.mk hnx;clear hst hF he;repeat' ((conv=>whnf);first|with_reducible apply aP|((with_reducible apply fk)<;>intro hc<;>try exact gK)|((refine⟨_,hri,?_⟩))|((refine⟨_,hrk,?_⟩))|(refine zxb ?_)|refine aN ?_|fail)
       all_goals
        refine⟨⟨k+1,hkt⟩,dec_lt hkt,aH ?_⟩;dsimp only
        rw[hnx.out];try simp only[hbq,Bool.not_false]
        repeat' first|apply And.intro|exact aM|fail
        all_goals try (conv=>whnf)
        all_goals exact eV
  have hke:k=i:=by omega
  subst hke;have d1:decide ((k:Int)<(k:Int))=false:=by simp
  obtain⟨F,hF⟩:∃F,(!(set.take k).any (· == set[k]))=F:=⟨_,rfl⟩;rw[hF];replace hF:=Hd.mk hF;repeat' ((conv=>whnf);first|with_reducible apply aP|((with_reducible apply fk)<;>intro hc<;>try exact gK)|refine aN ?_|fail)
  refine⟨{m:Nat // m≤dV.length},fun⟨m,_⟩=>⟨[(0,.pv (ax set)),(1,.pv (ax dV)),(5,.pv (ii c)),(6,.pv (ii k)),(7,.pv (bl F)),(9,.pv (bl ((dV.take m).any (· == set[k])))),(10,.pv (ii m))],1000000000,[]⟩,fun⟨m,_⟩=>dV.length-m,⟨⟨0,Nat.zero_le _⟩,aH ?_⟩,?_⟩
  ·all_goals exact aM
  rintro⟨m,hm⟩
  dsimp only
  by_cases hmt:m<dV.length
  ·have d2:decide ((m:Int)<((dV.map Pl.c).length:Int))=true:=by simp only[fE,iO];omega
   have eV:IntKind.i64.wrap ((m:Int)+1)=((m+1:Nat):Int):=by rw[bN (by omega) (by omega)];omega
   have hrm:=dR Pl.c dV m hmt;have hst:=NF dV m hmt set[k];have hbq:=DW (dV[m]) set[k];simp only[Pl.c] at hri hrm;cases hG:(dV.take m).any (· == set[k]) with
   | true=>
     have hnx:(dV.take (m+1)).any (· == set[k])=true:=by rw[hst,hG];rfl
     replace hnx:=Hd.mk hnx;clear hst hbq hG;repeat' ((conv=>whnf);first|with_reducible apply aP|((with_reducible apply fk)<;>intro hc<;>try exact gK)|((refine⟨_,hri,?_⟩))|((refine⟨_,hrm,?_⟩))|refine aN ?_|fail)
     refine⟨⟨m+1,hmt⟩,dec_lt hmt,aH ?_⟩;dsimp only
     rw[hnx.out];repeat' first|apply And.intro|exact aM|fail
     all_goals try (conv=>whnf)
     all_goals exact eV
   | false=>
     cases he:(dV[m]==set[k]) with
     | true=>
       have hnx:(dV.take (m+1)).any (· == set[k])=true:=by rw[hst,hG,he];rfl
       rw[he] at hbq;replace hnx:=Hd.mk hnx;clear hst hG he;repeat' ((conv=>whnf);first|with_reducible apply aP|((with_reducible apply fk)<;>intro hc<;>try exact gK)|((refine⟨_,hri,?_⟩))|((refine⟨_,hrm,?_⟩))|(refine zxb ?_)|refine aN ?_|fail)
       all_goals
        refine⟨⟨m+1,hmt⟩,dec_lt hmt,aH ?_⟩;dsimp only
        rw[hnx.out];try simp only[hbq]
        repeat' first|apply And.intro|exact aM|fail
        all_goals try (conv=>whnf)
        all_goals exact eV
     | false=>
       have hnx:(dV.take (m+1)).any (· == set[k])=false:=by rw[hst,hG,he];rfl
       rw[he] at hbq;replace hnx:=Hd.mk hnx;clear hst hG he;repeat' ((conv=>whnf);first|with_reducible apply aP|((with_reducible apply fk)<;>intro hc<;>try exact gK)|((refine⟨_,hri,?_⟩))|((refine⟨_,hrm,?_⟩))|(refine zxb ?_)|refine aN ?_|fail)
       all_goals
        refine⟨⟨m+1,hmt⟩,dec_lt hmt,aH ?_⟩;dsimp only
        rw[hnx.out];try simp only[hbq]
        repeat' first|apply And.intro|exact aM|fail
        all_goals try (conv=>whnf)
        all_goals exact eV
  have hme:m=dV.length:=by omega
  subst hme;have d2:decide ((dV.length:Int)<((dV.map Pl.c).length:Int))=false:=by simp
  rw[List.take_length];obtain⟨G,hG⟩:∃G,dV.any (· == set[k])=G:=⟨_,rfl⟩;rw[hG];have hs2:nL set dV (k+1)=c+(if G&&F then 1 else 0):=by rw[afm.out,←hG,←hF.out,hc0.out]
  clear hG;cases F<;>cases G
  all_goals
   simp only[Bool.and_true,Bool.and_false,Bool.true_and,Bool.false_and,Bool.false_eq_true,↓reduceIte,Nat.add_zero] at hs2;replace hs2:=Hd.mk hs2;repeat' ((conv=>whnf);first|with_reducible apply aP|((with_reducible apply fk)<;>intro hc<;>try exact gK)|refine aN ?_|fail)
   refine⟨⟨k+1,hlt⟩,dec_lt hlt,aH ?_⟩;dsimp only
   rw[hs2.out];repeat' first|apply And.intro|exact aM|fail
   all_goals try (conv=>whnf)
   all_goals first
    |exact eW
    |exact eC
 have hke:i=set.length:=by omega
 subst hke;have d0:decide ((set.length:Int)<((set.map Pl.c).length:Int))=false:=by simp
 clear hlt hi hcl;repeat' ((conv=>whnf);first|with_reducible apply aP|((with_reducible apply fk)<;>intro hc<;>try exact aZ)|refine aN ?_|fail)
 all_goals exact aM
theorem FU (set:List Pl)(a:Int)(from_:List Pl)(h1:set.length≤1000000)(h2:from_.length≤1000000):dB prog 74 [ax set,ii a,ax from_] (bl (bI set a from_)):=by
 have ha:=QT set from_ h1 h2;refine PC.le ?_;unfold bI;generalize JP set from_=n at *;cases e1:decide (a>0)<;>cases e2:decide ((n:Int)≥a)
 all_goals
  refine dP NE ?_;repeat' ((conv=>whnf);first|with_reducible apply aP|((with_reducible apply fk)<;>intro hc<;>try exact gK)|(apply bA;refine⟨_,ha,?_⟩)|refine aN ?_|fail)
  repeat' first|apply And.intro|exact aM|fail
  all_goals try (conv=>whnf)
 all_goals simp_all
 all_goals omega
theorem Qg:bR prog 174 f174:=fC func174
theorem UY (s:Sk)(p:Pl)(hb:s.aQ.length≤100000):dU prog 174 [.ptr 1 0,.pv (.agg p.c)] (Ar s) (.dM 1004 0 (jN s.aQ p) 0) (NV { s with aQ:=iN s.aQ p }):=by
 refine lG ?_ rfl;refine eO Qg ?_;repeat' ((conv=>whnf);first|with_reducible apply aP|((with_reducible apply fk)<;>intro hc<;>try exact aZ)|refine aN ?_|fail)
 refine⟨{k:Nat // k≤s.aQ.length∧∀j (hj:j<s.aQ.length),j<k→(s.aQ[j].x==p)=false},fun⟨k,_⟩=>⟨[(0,.ptr 1 0),(3,.ptr 1003 0),(5,.pv (ii k))],1000000000,(1003,.var [.pv (ii p.node),.pv (uu p.aI)])::skM s⟩,fun⟨k,_⟩=>s.aQ.length-k,⟨⟨0,Nat.zero_le _,fun j hj h=>absurd h (by omega)⟩,aH ?_⟩,?_⟩
 ·all_goals exact aM
 rintro⟨k,hk,hn⟩
 dsimp only
 by_cases hlt:k<s.aQ.length
 rotate_left
 ·have hke:k=s.aQ.length:=by omega
  subst hke;have d0:decide ((s.aQ.length:Int)<((s.aQ.map Fk.c).length:Int))=false:=by simp
  obtain⟨e1,e2⟩:=ab4 (l:=s.aQ) (p:=p) fun j hj=>hn j hj hj
  rw[e1,e2];have eL:IntKind.i64.wrap ((((s.aQ.map Fk.c)++[[ii p.node,uu p.aI,uu 0,uu 0]]).length:Int)-1)=(s.aQ.length:Int):=by
   simp only[rq,fE,List.length_singleton];rw[bN (by omega) (by omega)];omega
  clear hn hk e1 e2;repeat' ((conv=>whnf);first|with_reducible apply aP|((with_reducible apply fk)<;>intro hc<;>try exact gK)|rewrite[eL]|(((with_reducible apply And.intro);focus (simp only[fE,jQ,jR,rq,Int.toNat_natCast];omega)))|refine aN ?_|fail)
  refine⟨_,_,⟨rfl,rfl⟩,?_⟩;repeat' first|apply And.intro|exact aM|fail
  all_goals try (conv=>whnf)
  all_goals first
   |(rw[List.map_append];refine bW (aB _) ?_;(repeat' first|apply And.intro|exact aM|fail);(all_goals try (conv=>whnf)))
   |trace_state
 have d0:decide ((k:Int)<((s.aQ.map Fk.c).length:Int))=true:=by simp only[fE,iO];omega
 have eW:IntKind.i64.wrap ((k:Int)+1)=((k+1:Nat):Int):=by rw[bN (by omega) (by omega)];omega
 have hr:=dR Fk.c s.aQ k hlt;have hkl:k<(s.aQ.map Fk.c).length:=by rw[List.length_map];exact hlt
 have hbq:=DW s.aQ[k].x p;simp only[Fk.c] at hr;cases e1:(s.aQ[k].x==p) with
 | true=>
   rw[e1] at hbq;obtain⟨e2,e3⟩:=Uw hlt (by simpa using e1) hn;rw[e2,e3];clear hn e1 e2 e3;repeat' ((conv=>whnf);first|with_reducible apply aP|((with_reducible apply fk)<;>intro hc<;>try exact gK)|((refine⟨_,hr,?_⟩))|(((with_reducible apply And.intro);focus (rw[Int.toNat_natCast];exact hkl)))|refine aN ?_|fail)
   refine⟨_,_,⟨rfl,rfl⟩,?_⟩;repeat' first|apply And.intro|exact aM|fail
   all_goals try (conv=>whnf)
   all_goals trace_state
 | false=>
   rw[e1] at hbq;repeat' ((conv=>whnf);first|with_reducible apply aP|((with_reducible apply fk)<;>intro hc<;>try exact gK)|((refine⟨_,hr,?_⟩))|(((with_reducible apply And.intro);focus (rw[Int.toNat_natCast];exact hkl)))|refine aN ?_|fail)
   refine⟨⟨k+1,hlt,lX hn fun _=>e1⟩,dec_lt hlt,aH ?_⟩;repeat' first|apply And.intro|exact aM|fail
   all_goals try (conv=>whnf)
   all_goals exact eW
theorem M8:bR prog 146 f146:=fC func146
theorem Qh (s:Sk)(q:Rq)(nP:Bool)(hb:s.aQ.length≤100000)(hh:s.has.length≤100000)(ht:s.told.length≤100000)(hbd:∀h∈s.has,h.body.length≤100000) :
  dU prog 146 [.ptr 1 0,.pv (.agg q.c),.pv (bl nP)] (Ar s) (.agg (rsA (eB s q nP).2)) (NV (eB s q nP).1):=by
 refine lG ?_ rfl;have hf:=UY s q.to hb;obtain⟨⟨t,r⟩,he⟩:∃y,eB s q nP=y:=⟨_,rfl⟩;rw[he];rw[PK] at he;obtain⟨hi,hrow⟩:=Si s.aQ q.to;have hG:=Mt s.aQ q.to;have hrf:=dR Fk.c (iN s.aQ q.to) (jN s.aQ q.to) hi;rw[hrow] at hrf;have hil:jN s.aQ q.to<((iN s.aQ q.to).map Fk.c).length:=by rw[List.length_map];exact hi
 clear hrow hi;generalize iN s.aQ q.to=G at *;generalize jN s.aQ q.to=i at *;generalize iL s.aQ q.to=f at *;simp only[Fk.c] at hrf;change (G.map Fk.c)[i]? = some [ii f.x.node,uu f.x.aI,uu f.au,uu f.sure] at hrf
 refine eO M8 ?_;repeat' ((conv=>whnf);first|with_reducible apply aP|((with_reducible apply fk)<;>intro hc<;>try exact gK)|rewrite[pY]|rewrite[p8]|(apply dn;refine⟨_,_,av (hf) ?_,?_⟩;exact bD)|refine aN ?_|fail)
 clear hf;refine⟨{x:Nat×Int // x.1≤s.has.length∧Yr s.has q.to q.n x.1 x.2},fun⟨(k,at_),_⟩=>⟨[(0,.ptr 1 0),(2,.pv (bl nP)),(4,.ptr 1004 0),(6,.ptr 1006 0),(7,.ptr 1007 0),(8,.dM 1780 0 i 0),(9,.pv (ii at_)),(10,.pv (ii k))],1000000000,(1004,.var (rqA q))::(1006,.var rsZ)::(1007,.var (rsA (Bh q)))::skM { s with aQ:=G }⟩,fun⟨(k,_),_⟩=>s.has.length-k,⟨⟨(0,-1),Nat.zero_le _,aeI _ _ _⟩,aH ?_⟩,?_⟩
 ·all_goals exact aM
 rintro⟨⟨k,at_⟩,hk,hat⟩
 simp only at hk hat;dsimp only
 by_cases hlt:k<s.has.length
 ·have d0:decide ((k:Int)<((s.has.map Hp.c).length:Int))=true:=by simp only[fE,iO];omega
  have eW:IntKind.i64.wrap ((k:Int)+1)=((k+1:Nat):Int):=by rw[bN (by omega) (by omega)];omega
  have hr:=dR Hp.c s.has k hlt;have hns:=Ux hat hlt;have hbq:=DW s.has[k].x q.to;clear hat he hrf hil;generalize s.has[k]=h at *;simp only[Hp.c] at hr;cases e1:(h.x==q.to) with
  | true=>
    cases e2:(h.n==q.n) with
    | true=>
      rw[e1] at hbq;rw[e1,e2] at hns;simp only[Bool.and_self,↓reduceIte] at hns;clear e1;repeat' ((conv=>whnf);first|with_reducible apply aP|((with_reducible refine fk (fun hc=>?_) fun hc=>?_)<;>first|exact absurd hc (by decide)|(exfalso;simp only[*,reduceCtorEq,Bool.not_true,Bool.not_false,Bool.true_and,Bool.and_true,Bool.false_and,Bool.and_false] at hc;done)|skip)|((refine⟨_,hr,?_⟩))|refine aN ?_|fail)
      refine⟨⟨(k+1,(k:Int)),hlt,hns⟩,dec_lt hlt,aH ?_⟩;repeat' first|apply And.intro|exact aM|fail
      all_goals try (conv=>whnf)
      all_goals exact eW
    | false=>
      rw[e1] at hbq;rw[e1,e2] at hns;simp only[Bool.and_false,Bool.false_eq_true,↓reduceIte] at hns;clear e1;repeat' ((conv=>whnf);first|with_reducible apply aP|((with_reducible refine fk (fun hc=>?_) fun hc=>?_)<;>first|exact absurd hc (by decide)|(exfalso;simp only[*,reduceCtorEq,Bool.not_true,Bool.not_false,Bool.true_and,Bool.and_true,Bool.false_and,Bool.and_false] at hc;done)|skip)|((refine⟨_,hr,?_⟩))|refine aN ?_|fail)
      refine⟨⟨(k+1,at_),hlt,hns⟩,dec_lt hlt,aH ?_⟩;repeat' first|apply And.intro|exact aM|fail
      all_goals try (conv=>whnf)
      all_goals exact eW
  | false=>
    rw[e1] at hbq;rw[e1] at hns;simp only[Bool.false_and,Bool.false_eq_true,↓reduceIte] at hns;clear e1;repeat' ((conv=>whnf);first|with_reducible apply aP|((with_reducible refine fk (fun hc=>?_) fun hc=>?_)<;>first|exact absurd hc (by decide)|(exfalso;simp only[*,reduceCtorEq,Bool.not_true,Bool.not_false,Bool.true_and,Bool.and_true,Bool.false_and,Bool.and_false] at hc;done)|skip)|((refine⟨_,hr,?_⟩))|refine aN ?_|fail)
    refine⟨⟨(k+1,at_),hlt,hns⟩,dec_lt hlt,aH ?_⟩;repeat' first|apply And.intro|exact aM|fail
    all_goals try (conv=>whnf)
    all_goals exact eW
 have hke:k=s.has.length:=by omega
 subst hke;have d0:decide ((s.has.length:Int)<((s.has.map Hp.c).length:Int))=false:=by simp
 unfold Yr at hat;rw[List.take_length] at hat;clear hk hlt;unfold J2 at he;cases k1:(q.kind==1) with
 | true=>
   have YA:q.kind=1:=by simpa using k1
   rw[if_pos YA] at he;clear YA;cases lt:decide (q.au<f.au) with
   | true=>
     rw[if_pos (by simpa using lt)] at he;obtain⟨rfl,rfl⟩:=Prod.mk.inj he;clear he hat;repeat' ((conv=>whnf);first|with_reducible apply aP|((with_reducible refine fk (fun hc=>?_) fun hc=>?_)<;>first|exact absurd hc (by decide)|(exfalso;simp only[*,reduceCtorEq,Bool.not_true,Bool.not_false,Bool.true_and,Bool.and_true,Bool.false_and,Bool.and_false] at hc;done)|skip)|rewrite[pY]|rewrite[p8]|((refine⟨_,hrf,?_⟩))|((refine⟨_,List.getElem?_set_self hil,?_⟩))|(((with_reducible apply And.intro);focus exact hil))|(((with_reducible apply And.intro);focus (rw[Int.toNat_natCast];exact hil)))|((refine⟨_,rfl,?_⟩))|(((with_reducible apply And.intro);focus (simp only[fE,jQ,jR];omega)))|refine aN ?_|fail)
     refine⟨_,_,⟨rfl,rfl⟩,?_⟩;repeat' first|apply And.intro|exact aM|fail
     all_goals try (conv=>whnf)
     all_goals first
      |(rw[List.map_append];refine bW (aB _) ?_;(repeat' first|apply And.intro|exact aM|fail);(all_goals try (conv=>whnf)))
      |(rw[List.map_set];exact aB _)
      |trace_state
   | false=>
     rw[if_neg (by simpa using lt)] at he;rcases hat with ⟨rfl,hn⟩|⟨j,hj,rfl,_,hs⟩
     ·rw[hn] at he;simp only[Option.isNone_none,↓reduceIte] at he;clear hn;cases nP;all_goals
       simp only[Bool.false_eq_true,↓reduceIte] at he;obtain⟨rfl,rfl⟩:=Prod.mk.inj he;clear he;repeat' ((conv=>whnf);first|with_reducible apply aP|((with_reducible refine fk (fun hc=>?_) fun hc=>?_)<;>first|exact absurd hc (by decide)|(exfalso;simp only[*,reduceCtorEq,Bool.not_true,Bool.not_false,Bool.true_and,Bool.and_true,Bool.false_and,Bool.and_false] at hc;done)|skip)|rewrite[pY]|rewrite[p8]|((refine⟨_,hrf,?_⟩))|((refine⟨_,List.getElem?_set_self hil,?_⟩))|(((with_reducible apply And.intro);focus exact hil))|(((with_reducible apply And.intro);focus (rw[Int.toNat_natCast];exact hil)))|((refine⟨_,rfl,?_⟩))|(((with_reducible apply And.intro);focus (simp only[fE,jQ,jR];omega)))|refine aN ?_|fail)
       refine⟨_,_,⟨rfl,rfl⟩,?_⟩;repeat' first|apply And.intro|exact aM|fail
       all_goals try (conv=>whnf)
       all_goals first
        |(rw[List.map_append];refine bW (aB _) ?_;(repeat' first|apply And.intro|exact aM|fail);(all_goals try (conv=>whnf)))
        |(rw[List.map_set];exact aB _)
        |trace_state
     rw[hs] at he;simp only[Option.isNone_some,Bool.false_eq_true,↓reduceIte] at he;have g0:decide ((j:Int)<0)=false:=by simp only[w9];omega
     clear hs;cases nP;all_goals
      simp only[Bool.false_eq_true,↓reduceIte] at he;obtain⟨rfl,rfl⟩:=Prod.mk.inj he;clear he;repeat' ((conv=>whnf);first|with_reducible apply aP|((with_reducible refine fk (fun hc=>?_) fun hc=>?_)<;>first|exact absurd hc (by decide)|(exfalso;simp only[*,reduceCtorEq,Bool.not_true,Bool.not_false,Bool.true_and,Bool.and_true,Bool.false_and,Bool.and_false] at hc;done)|skip)|rewrite[pY]|rewrite[p8]|((refine⟨_,hrf,?_⟩))|((refine⟨_,List.getElem?_set_self hil,?_⟩))|(((with_reducible apply And.intro);focus exact hil))|(((with_reducible apply And.intro);focus (rw[Int.toNat_natCast];exact hil)))|((refine⟨_,rfl,?_⟩))|(((with_reducible apply And.intro);focus (simp only[fE,jQ,jR];omega)))|refine aN ?_|fail)
      refine⟨_,_,⟨rfl,rfl⟩,?_⟩;repeat' first|apply And.intro|exact aM|fail
      all_goals try (conv=>whnf)
      all_goals first
       |(rw[List.map_append];refine bW (aB _) ?_;(repeat' first|apply And.intro|exact aM|fail);(all_goals try (conv=>whnf)))
       |(rw[List.map_set];exact aB _)
       |trace_state
 |false=>
 have YA:¬q.kind=1:=by simpa using k1
 rw[if_neg YA] at he;clear YA;cases k2:(q.kind==2) with
 | true=>
   have DT:q.kind=2:=by simpa using k2
   rw[if_pos DT] at he;obtain⟨rfl,rfl⟩:=Prod.mk.inj he;clear he hat DT;repeat' ((conv=>whnf);first|with_reducible apply aP|((with_reducible refine fk (fun hc=>?_) fun hc=>?_)<;>first|exact absurd hc (by decide)|(exfalso;simp only[*,reduceCtorEq,Bool.not_true,Bool.not_false,Bool.true_and,Bool.and_true,Bool.false_and,Bool.and_false] at hc;done)|skip)|rewrite[pY]|rewrite[p8]|((refine⟨_,hrf,?_⟩))|((refine⟨_,List.getElem?_set_self hil,?_⟩))|(((with_reducible apply And.intro);focus exact hil))|(((with_reducible apply And.intro);focus (rw[Int.toNat_natCast];exact hil)))|((refine⟨_,rfl,?_⟩))|(((with_reducible apply And.intro);focus (simp only[fE,jQ,jR];omega)))|refine aN ?_|fail)
   refine⟨_,_,⟨rfl,rfl⟩,?_⟩;repeat' first|apply And.intro|exact aM|fail
   all_goals try (conv=>whnf)
   all_goals first
    |(rw[List.map_append];refine bW (aB _) ?_;(repeat' first|apply And.intro|exact aM|fail);(all_goals try (conv=>whnf)))
    |(rw[List.map_set];exact aB _)
    |trace_state
 |false=>
 have DT:¬q.kind=2:=by simpa using k2
 rw[if_neg DT] at he;clear DT;cases k3:(q.kind==3) with
 | true=>
   have Mc:q.kind=3:=by simpa using k3
   rw[if_pos Mc] at he;clear Mc;rcases hat with ⟨rfl,hn⟩|⟨j,hj,rfl,_,hs⟩
   ·rw[hn] at he;simp only at he;obtain⟨rfl,rfl⟩:=Prod.mk.inj he;clear he hn;repeat' ((conv=>whnf);first|with_reducible apply aP|((with_reducible refine fk (fun hc=>?_) fun hc=>?_)<;>first|exact absurd hc (by decide)|(exfalso;simp only[*,reduceCtorEq,Bool.not_true,Bool.not_false,Bool.true_and,Bool.and_true,Bool.false_and,Bool.and_false] at hc;done)|skip)|rewrite[pY]|rewrite[p8]|((refine⟨_,hrf,?_⟩))|((refine⟨_,List.getElem?_set_self hil,?_⟩))|(((with_reducible apply And.intro);focus exact hil))|(((with_reducible apply And.intro);focus (rw[Int.toNat_natCast];exact hil)))|((refine⟨_,rfl,?_⟩))|(((with_reducible apply And.intro);focus (simp only[fE,jQ,jR];omega)))|refine aN ?_|fail)
    refine⟨_,_,⟨rfl,rfl⟩,?_⟩;repeat' first|apply And.intro|exact aM|fail
    all_goals try (conv=>whnf)
    all_goals first
     |(rw[List.map_append];refine bW (aB _) ?_;(repeat' first|apply And.intro|exact aM|fail);(all_goals try (conv=>whnf)))
     |(rw[List.map_set];exact aB _)
     |trace_state
   rw[hs] at he;simp only at he;obtain⟨rfl,rfl⟩:=Prod.mk.inj he;clear he hs;have g0:decide ((j:Int)≥0)=true:=by simp only[iO];omega
   have hjl:j<(s.has.map Hp.c).length:=by rw[List.length_map];exact hj
   have hrh:=dR Hp.c s.has j hj;have uM:=hbd _ (List.getElem_mem hj);generalize s.has[j]=h at *;simp only[Hp.c] at hrh;have hsz:(⟨h.body.toArray⟩:ByteArray).size≤140737488355328:=by show h.body.toArray.size≤_;simp;omega
   repeat' ((conv=>whnf);first|with_reducible apply aP|((with_reducible refine fk (fun hc=>?_) fun hc=>?_)<;>first|exact absurd hc (by decide)|(exfalso;simp only[*,reduceCtorEq,Bool.not_true,Bool.not_false,Bool.true_and,Bool.and_true,Bool.false_and,Bool.and_false] at hc;done)|skip)|rewrite[pY]|rewrite[p8]|((refine⟨_,hrf,?_⟩))|((refine⟨_,hrh,?_⟩))|(((with_reducible apply And.intro);focus exact hjl))|(((with_reducible apply And.intro);focus (rw[Int.toNat_natCast];exact hjl)))|(((with_reducible apply And.intro);focus exact hsz))|((refine⟨_,List.getElem?_set_self hil,?_⟩))|(((with_reducible apply And.intro);focus exact hil))|(((with_reducible apply And.intro);focus (rw[Int.toNat_natCast];exact hil)))|((refine⟨_,rfl,?_⟩))|(((with_reducible apply And.intro);focus (simp only[fE,jQ,jR];omega)))|refine aN ?_|fail)
   refine⟨_,_,⟨rfl,rfl⟩,?_⟩;repeat' first|apply And.intro|exact aM|fail
   all_goals try (conv=>whnf)
   all_goals first
    |(rw[List.map_append];refine bW (aB _) ?_;(repeat' first|apply And.intro|exact aM|fail);(all_goals try (conv=>whnf)))
    |(rw[List.map_set];exact aB _)
    |trace_state
 | false=>
   have Mc:¬q.kind=3:=by simpa using k3
   rw[if_neg Mc] at he;obtain⟨rfl,rfl⟩:=Prod.mk.inj he;clear he hat Mc;repeat' ((conv=>whnf);first|with_reducible apply aP|((with_reducible refine fk (fun hc=>?_) fun hc=>?_)<;>first|exact absurd hc (by decide)|(exfalso;simp only[*,reduceCtorEq,Bool.not_true,Bool.not_false,Bool.true_and,Bool.and_true,Bool.false_and,Bool.and_false] at hc;done)|skip)|rewrite[pY]|rewrite[p8]|((refine⟨_,hrf,?_⟩))|((refine⟨_,List.getElem?_set_self hil,?_⟩))|(((with_reducible apply And.intro);focus exact hil))|(((with_reducible apply And.intro);focus (rw[Int.toNat_natCast];exact hil)))|((refine⟨_,rfl,?_⟩))|(((with_reducible apply And.intro);focus (simp only[fE,jQ,jR];omega)))|refine aN ?_|fail)
   refine⟨_,_,⟨rfl,rfl⟩,?_⟩;repeat' first|apply And.intro|exact aM|fail
   all_goals try (conv=>whnf)
   all_goals first
    |(rw[List.map_append];refine bW (aB _) ?_;(repeat' first|apply And.intro|exact aM|fail);(all_goals try (conv=>whnf)))
    |(rw[List.map_set];exact aB _)
    |trace_state
theorem lI:bR prog 167 f167:=fC func167
theorem j6:bR prog 141 f141:=fC func141
theorem Nu:bR prog 164 f164:=fC func164
theorem Ac:bR prog 168 f168:=fC func168
theorem qw:bR prog 144 f144:=fC func144
theorem Sz (x:Rv)(now:Int)(hp:x.phase=2)(hf:bg x.l.af)(hn:0≤x.n∧x.n≤18446744073709551615)(hs:(aJ x).length≤1000000) :
  dU prog 144 [.ptr 1 0,.pv (uu now)] [(1,.var (x.v (.pv (ax x.heard)) (.pv (ax x.none)) (.pv (ax x.has)) (.pv (cB x.af)) (.pv (ax x.bad)) (.pv (.sc (.slice none 0 0)))))] (.pv (.cO []))
   [(1,.var (({ x with since:=now }:Rv).v (.pv (ax x.heard)) (.pv (ax x.none)) (.pv (ax x.has)) (.pv (cB x.af)) (.pv (ax x.bad)) (.aO 1001 0))),(1001,.arr 93 0 10 ((gN x (aJ x)).map Rq.c))]:=by
 have b1:(x.phase==1)=false:=by simp[hp]
 have b2:(x.phase==2)=true:=by simp[hp]
 clear hp;refine eO qw ?_;repeat' ((conv=>whnf);first|with_reducible apply aP|((with_reducible apply fk)<;>intro hc<;>try exact aZ)|(refine Or.inr ?_;(conv=>whnf);refine⟨_,bZ bU (cZ mixed bU) lI rfl ?_,fun _ _ h=>h⟩)|(apply bA;refine⟨_,iU _ _ _ hf hn,?_⟩)|refine aN ?_|fail)
 refine⟨{k:Nat // k≤(aJ x).length},fun⟨k,_⟩=>⟨[(0,.ptr 1 0),(64,.pv (ax (aJ x))),(65,.pv (ii (aJ x).length)),(66,.pv (ii k))],1000000000,[(1,.var (({ x with since:=now }:Rv).v (.pv (ax x.heard)) (.pv (ax x.none)) (.pv (ax x.has)) (.pv (cB x.af)) (.pv (ax x.bad)) (.aO 1001 0))),(1001,.arr 93 0 10 ((gN x ((aJ x).take k)).map Rq.c))]⟩,fun⟨k,_⟩=>(aJ x).length-k,⟨⟨0,Nat.zero_le _⟩,aH ?_⟩,?_⟩
 ·repeat' first|apply And.intro|exact aM|fail
  all_goals try (conv=>whnf)
  rw[List.length_map];rfl
 rintro⟨k,hk⟩
 by_cases hlt:k<(aJ x).length
 ·have d0:decide ((k:Int)<((aJ x).length:Int))=true:=by simp only[iO];omega
  have eW:IntKind.i64.wrap ((k:Int)+1)=((k+1:Nat):Int):=by rw[bN (by omega) (by omega)];omega
  have hq:=fO (fun p=>x.heard.any (· == p) && !x.none.any (· == p)) (jH x) (aJ x) k hlt;have hl:=gD (fun p=>x.heard.any (· == p) && !x.none.any (· == p)) (jH x) (aJ x) k;repeat' ((conv=>whnf);first|with_reducible apply aP|((with_reducible apply fk)<;>intro hc<;>try exact aZ)|((refine⟨_,dR _ _ _ hlt,?_⟩))|(apply bA;refine⟨_,aA _ _ _,?_⟩)|(refine Or.inr ?_;(conv=>whnf);refine⟨_,bZ bU (cZ mixed bU) Ac rfl ?_,fun _ _ h=>h⟩)|(((with_reducible apply And.intro);focus (simp only[gN,fE,jQ,jR] at *;omega)))|refine aN ?_|fail)
  all_goals
   refine⟨⟨k+1,hlt⟩,dec_lt hlt,aH ?_⟩;repeat' first|apply And.intro|exact aM|fail
   all_goals try (conv=>whnf)
   all_goals first
    |exact eW
    | (simp only[gN]
       rw[hq,if_pos (by simp only[Bool.and_eq_true];exact⟨by assumption,by assumption⟩),List.map_append];refine bW (aB _) ?_
       (repeat' first|apply And.intro|exact aM|fail);(all_goals try (conv=>whnf)))
    | (simp only[gN]
       rw[hq,if_neg (by
        intro hh;simp only[Bool.and_eq_true] at hh;first
         |exact absurd hh.1 (by rw[show (x.heard.any fun y=>y==(aJ x)[k])=false from by assumption];simp)
         |exact absurd hh.2 (by rw[show (!x.none.any fun y=>y==(aJ x)[k])=false from by assumption];simp))]
       exact aB _)
 have hke:k=(aJ x).length:=by omega
 subst hke;have d0:decide (((aJ x).length:Int)<((aJ x).length:Int))=false:=by simp
 repeat' ((conv=>whnf);first|with_reducible apply aP|((with_reducible apply fk)<;>intro hc<;>try exact aZ)|refine aN ?_|fail)
 refine⟨_,_,⟨rfl,rfl⟩,?_⟩;repeat' first|apply And.intro|exact aM|fail
 all_goals try (conv=>whnf)
 rw[List.take_length];exact aB _
theorem acI (x:Rv)(now:Int)(hp:x.phase=2)(hf:bg x.l.af)(hn:0≤x.n∧x.n≤18446744073709551615)(hs:(aJ x).length≤1000000) :
  dU prog 144 [.ptr 1 0,.pv (uu now)] [(1,.var (x.v (.aO 2 0) (.pv (ax x.none)) (.pv (ax x.has)) (.pv (cB x.af)) (.pv (ax x.bad)) (.pv (.sc (.slice none 0 0))))),(2,.arr 27 0 2 (x.heard.map Pl.c))] (.pv (.cO []))
   [(1,.var (({ x with since:=now }:Rv).v (.aO 2 0) (.pv (ax x.none)) (.pv (ax x.has)) (.pv (cB x.af)) (.pv (ax x.bad)) (.aO 1001 0))),(2,.arr 27 0 2 (x.heard.map Pl.c)),(1001,.arr 93 0 10 ((gN x (aJ x)).map Rq.c))]:=by
 have b1:(x.phase==1)=false:=by simp[hp]
 have b2:(x.phase==2)=true:=by simp[hp]
 clear hp;refine eO qw ?_;repeat' ((conv=>whnf);first|with_reducible apply aP|((with_reducible apply fk)<;>intro hc<;>try exact aZ)|(refine Or.inr ?_;(conv=>whnf);refine⟨_,bZ bU (cZ mixed bU) lI rfl ?_,fun _ _ h=>h⟩)|(apply bA;refine⟨_,iU _ _ _ hf hn,?_⟩)|refine aN ?_|fail)
 refine⟨{k:Nat // k≤(aJ x).length},fun⟨k,_⟩=>⟨[(0,.ptr 1 0),(64,.pv (ax (aJ x))),(65,.pv (ii (aJ x).length)),(66,.pv (ii k))],1000000000,[(1,.var (({ x with since:=now }:Rv).v (.aO 2 0) (.pv (ax x.none)) (.pv (ax x.has)) (.pv (cB x.af)) (.pv (ax x.bad)) (.aO 1001 0))),(2,.arr 27 0 2 (x.heard.map Pl.c)),(1001,.arr 93 0 10 ((gN x ((aJ x).take k)).map Rq.c))]⟩,fun⟨k,_⟩=>(aJ x).length-k,⟨⟨0,Nat.zero_le _⟩,aH ?_⟩,?_⟩
 ·repeat' first|apply And.intro|exact aM|fail
  all_goals try (conv=>whnf)
  rw[List.length_map];rfl
 rintro⟨k,hk⟩
 by_cases hlt:k<(aJ x).length
 ·have d0:decide ((k:Int)<((aJ x).length:Int))=true:=by simp only[iO];omega
  have eW:IntKind.i64.wrap ((k:Int)+1)=((k+1:Nat):Int):=by rw[bN (by omega) (by omega)];omega
  have hq:=fO (fun p=>x.heard.any (· == p) && !x.none.any (· == p)) (jH x) (aJ x) k hlt;have hl:=gD (fun p=>x.heard.any (· == p) && !x.none.any (· == p)) (jH x) (aJ x) k;repeat' ((conv=>whnf);first|with_reducible apply aP|((with_reducible apply fk)<;>intro hc<;>try exact aZ)|((refine⟨_,dR _ _ _ hlt,?_⟩))|(apply bA;refine⟨_,aA _ _ _,?_⟩)|(refine Or.inr ?_;(conv=>whnf);refine⟨_,bZ bU (cZ mixed bU) Ac rfl ?_,fun _ _ h=>h⟩)|(((with_reducible apply And.intro);focus (simp only[gN,fE,jQ,jR] at *;omega)))|refine aN ?_|fail)
  all_goals
   refine⟨⟨k+1,hlt⟩,dec_lt hlt,aH ?_⟩;repeat' first|apply And.intro|exact aM|fail
   all_goals try (conv=>whnf)
   all_goals first
    |exact eW
    | (simp only[gN]
       rw[hq,if_pos (by simp only[Bool.and_eq_true];exact⟨by assumption,by assumption⟩),List.map_append];refine bW (aB _) ?_
       (repeat' first|apply And.intro|exact aM|fail);(all_goals try (conv=>whnf)))
    | (simp only[gN]
       rw[hq,if_neg (by
        intro hh;simp only[Bool.and_eq_true] at hh;first
         |exact absurd hh.1 (by rw[show (x.heard.any fun y=>y==(aJ x)[k])=false from by assumption];simp)
         |exact absurd hh.2 (by rw[show (!x.none.any fun y=>y==(aJ x)[k])=false from by assumption];simp))]
       exact aB _)
 have hke:k=(aJ x).length:=by omega
 subst hke;have d0:decide (((aJ x).length:Int)<((aJ x).length:Int))=false:=by simp
 repeat' ((conv=>whnf);first|with_reducible apply aP|((with_reducible apply fk)<;>intro hc<;>try exact aZ)|refine aN ?_|fail)
 refine⟨_,_,⟨rfl,rfl⟩,?_⟩;repeat' first|apply And.intro|exact aM|fail
 all_goals try (conv=>whnf)
 rw[List.take_length];exact aB _
theorem ZN (x:Rv)(now:Int)(out:List Rq)(OZ:out.length≤1000)(hp:x.phase=2)(hf:bg x.l.af)(hn:0≤x.n∧x.n≤18446744073709551615)(hs:(aJ x).length≤1000000) :
  dU prog 144 [.ptr 1 0,.pv (uu now)] [(1,.var (x.v (.pv (ax x.heard)) (.pv (ax x.none)) (.pv (ax x.has)) (.pv (cB x.af)) (.pv (ax x.bad)) (.aO 2 0))),(2,.arr 93 0 10 (out.map Rq.c))] (.pv (.cO []))
   [(1,.var (({ x with since:=now }:Rv).v (.pv (ax x.heard)) (.pv (ax x.none)) (.pv (ax x.has)) (.pv (cB x.af)) (.pv (ax x.bad)) (.aO 1001 0))),(2,.dS 1 10 []),(1001,.arr 93 0 10 ((out++gN x (aJ x)).map Rq.c))]:=by
 have b1:(x.phase==1)=false:=by simp[hp]
 have b2:(x.phase==2)=true:=by simp[hp]
 clear hp;refine nD 2 1777 rfl ?_;show GC _ _ [.ptr 1 0,.pv (uu now)] [(1777,.arr 93 0 10 (out.map Rq.c)),(1,.var (x.v (.pv (ax x.heard)) (.pv (ax x.none)) (.pv (ax x.has)) (.pv (cB x.af)) (.pv (ax x.bad)) (.aO 1777 0))),(2,.dS 1 10 [])] _
 refine eO qw ?_;repeat' ((conv=>whnf);first|with_reducible apply aP|((with_reducible apply fk)<;>intro hc<;>try exact aZ)|(refine Or.inr ?_;(conv=>whnf);refine⟨_,bZ bU (cZ mixed bU) lI rfl ?_,fun _ _ h=>h⟩)|(apply bA;refine⟨_,iU _ _ _ hf hn,?_⟩)|refine aN ?_|fail)
 refine⟨{k:Nat // k≤(aJ x).length},fun⟨k,_⟩=>⟨[(0,.ptr 1 0),(64,.pv (ax (aJ x))),(65,.pv (ii (aJ x).length)),(66,.pv (ii k))],1000000000,[(1,.var (({ x with since:=now }:Rv).v (.pv (ax x.heard)) (.pv (ax x.none)) (.pv (ax x.has)) (.pv (cB x.af)) (.pv (ax x.bad)) (.aO 1001 0))),(2,.dS 1 10 []),(1001,.arr 93 0 10 ((out++gN x ((aJ x).take k)).map Rq.c))]⟩,fun⟨k,_⟩=>(aJ x).length-k,⟨⟨0,Nat.zero_le _⟩,aH ?_⟩,?_⟩
 ·repeat' first|apply And.intro|exact aM|fail
  all_goals try (conv=>whnf)
  ·refine fZ ?_;simp[gN]
  ·rw[List.length_map];rfl
 rintro⟨k,hk⟩
 by_cases hlt:k<(aJ x).length
 ·have d0:decide ((k:Int)<((aJ x).length:Int))=true:=by simp only[iO];omega
  have eW:IntKind.i64.wrap ((k:Int)+1)=((k+1:Nat):Int):=by rw[bN (by omega) (by omega)];omega
  have hq:=fO (fun p=>x.heard.any (· == p) && !x.none.any (· == p)) (jH x) (aJ x) k hlt;have hl:=gD (fun p=>x.heard.any (· == p) && !x.none.any (· == p)) (jH x) (aJ x) k;repeat' ((conv=>whnf);first|with_reducible apply aP|((with_reducible apply fk)<;>intro hc<;>try exact aZ)|((refine⟨_,dR _ _ _ hlt,?_⟩))|(apply bA;refine⟨_,aA _ _ _,?_⟩)|(refine Or.inr ?_;(conv=>whnf);refine⟨_,bZ bU (cZ mixed bU) Ac rfl ?_,fun _ _ h=>h⟩)|(((with_reducible apply And.intro);focus (simp only[gN,fE,rq,jQ,jR] at *;omega)))|refine aN ?_|fail)
  all_goals
   refine⟨⟨k+1,hlt⟩,dec_lt hlt,aH ?_⟩;repeat' first|apply And.intro|exact aM|fail
   all_goals try (conv=>whnf)
   all_goals first
    |exact eW
    | (simp only[gN]
       rw[hq,if_pos (by simp only[Bool.and_eq_true];exact⟨by assumption,by assumption⟩),←List.append_assoc,List.map_append];refine bW (aB _) ?_
       (repeat' first|apply And.intro|exact aM|fail);(all_goals try (conv=>whnf)))
    | (simp only[gN]
       rw[hq,if_neg (by
        intro hh;simp only[Bool.and_eq_true] at hh;first
         |exact absurd hh.1 (by rw[show (x.heard.any fun y=>y==(aJ x)[k])=false from by assumption];simp)
         |exact absurd hh.2 (by rw[show (!x.none.any fun y=>y==(aJ x)[k])=false from by assumption];simp))]
       exact aB _)
 have hke:k=(aJ x).length:=by omega
 subst hke;have d0:decide (((aJ x).length:Int)<((aJ x).length:Int))=false:=by simp
 repeat' ((conv=>whnf);first|with_reducible apply aP|((with_reducible apply fk)<;>intro hc<;>try exact aZ)|refine aN ?_|fail)
 refine⟨_,_,⟨rfl,rfl⟩,?_⟩;repeat' first|apply And.intro|exact aM|fail
 all_goals try (conv=>whnf)
 rw[List.take_length];exact aB _
theorem Zo (x:Rv)(now:Int)(out:List Rq)(OZ:out.length≤1000)(hp:x.phase=2)(hf:bg x.l.af)(hn:0≤x.n∧x.n≤18446744073709551615)(hs:(aJ x).length≤1000000) :
  dU prog 144 [.ptr 1 0,.pv (uu now)] [(1,.var (x.v (.pv (ax x.heard)) (.pv (ax x.none)) (.pv (ax x.has)) (.aO 2 0) (.pv (ax x.bad)) (.aO 3 0))),(2,.dS 0 2 (x.af.map Fr.c)),(3,.arr 93 0 10 (out.map Rq.c))] (.pv (.cO []))
   [(1,.var (({ x with since:=now }:Rv).v (.pv (ax x.heard)) (.pv (ax x.none)) (.pv (ax x.has)) (.aO 2 0) (.pv (ax x.bad)) (.aO 1001 0))),(2,.dS 0 2 (x.af.map Fr.c)),(3,.dS 1 10 []),(1001,.arr 93 0 10 ((out++gN x (aJ x)).map Rq.c))]:=by
 have b1:(x.phase==1)=false:=by simp[hp]
 have b2:(x.phase==2)=true:=by simp[hp]
 clear hp;refine nD 3 1777 rfl ?_;show GC _ _ [.ptr 1 0,.pv (uu now)] [(1777,.arr 93 0 10 (out.map Rq.c)),(1,.var (x.v (.pv (ax x.heard)) (.pv (ax x.none)) (.pv (ax x.has)) (.aO 2 0) (.pv (ax x.bad)) (.aO 1777 0))),(2,.dS 0 2 (x.af.map Fr.c)),(3,.dS 1 10 [])] _
 refine eO qw ?_;repeat' ((conv=>whnf);first|with_reducible apply aP|((with_reducible apply fk)<;>intro hc<;>try exact aZ)|(refine Or.inr ?_;(conv=>whnf);refine⟨_,bZ bU (cZ mixed bU) lI rfl ?_,fun _ _ h=>h⟩)|(apply bA;refine⟨_,iU _ _ _ hf hn,?_⟩)|refine aN ?_|fail)
 refine⟨{k:Nat // k≤(aJ x).length},fun⟨k,_⟩=>⟨[(0,.ptr 1 0),(64,.pv (ax (aJ x))),(65,.pv (ii (aJ x).length)),(66,.pv (ii k))],1000000000,[(1,.var (({ x with since:=now }:Rv).v (.pv (ax x.heard)) (.pv (ax x.none)) (.pv (ax x.has)) (.aO 2 0) (.pv (ax x.bad)) (.aO 1001 0))),(2,.dS 0 2 (x.af.map Fr.c)),(3,.dS 1 10 []),(1001,.arr 93 0 10 ((out++gN x ((aJ x).take k)).map Rq.c))]⟩,fun⟨k,_⟩=>(aJ x).length-k,⟨⟨0,Nat.zero_le _⟩,aH ?_⟩,?_⟩
 ·repeat' first|apply And.intro|exact aM|fail
  all_goals try (conv=>whnf)
  ·refine fZ ?_;simp[gN]
  ·rw[List.length_map];rfl
 rintro⟨k,hk⟩
 by_cases hlt:k<(aJ x).length
 ·have d0:decide ((k:Int)<((aJ x).length:Int))=true:=by simp only[iO];omega
  have eW:IntKind.i64.wrap ((k:Int)+1)=((k+1:Nat):Int):=by rw[bN (by omega) (by omega)];omega
  have hq:=fO (fun p=>x.heard.any (· == p) && !x.none.any (· == p)) (jH x) (aJ x) k hlt;have hl:=gD (fun p=>x.heard.any (· == p) && !x.none.any (· == p)) (jH x) (aJ x) k;repeat' ((conv=>whnf);first|with_reducible apply aP|((with_reducible apply fk)<;>intro hc<;>try exact aZ)|((refine⟨_,dR _ _ _ hlt,?_⟩))|(apply bA;refine⟨_,aA _ _ _,?_⟩)|(refine Or.inr ?_;(conv=>whnf);refine⟨_,bZ bU (cZ mixed bU) Ac rfl ?_,fun _ _ h=>h⟩)|(((with_reducible apply And.intro);focus (simp only[gN,fE,rq,jQ,jR] at *;omega)))|refine aN ?_|fail)
  all_goals
   refine⟨⟨k+1,hlt⟩,dec_lt hlt,aH ?_⟩;repeat' first|apply And.intro|exact aM|fail
   all_goals try (conv=>whnf)
   all_goals first
    |exact eW
    | (simp only[gN]
       rw[hq,if_pos (by simp only[Bool.and_eq_true];exact⟨by assumption,by assumption⟩),←List.append_assoc,List.map_append];refine bW (aB _) ?_
       (repeat' first|apply And.intro|exact aM|fail);(all_goals try (conv=>whnf)))
    | (simp only[gN]
       rw[hq,if_neg (by
        intro hh;simp only[Bool.and_eq_true] at hh;first
         |exact absurd hh.1 (by rw[show (x.heard.any fun y=>y==(aJ x)[k])=false from by assumption];simp)
         |exact absurd hh.2 (by rw[show (!x.none.any fun y=>y==(aJ x)[k])=false from by assumption];simp))]
       exact aB _)
 have hke:k=(aJ x).length:=by omega
 subst hke;have d0:decide (((aJ x).length:Int)<((aJ x).length:Int))=false:=by simp
 repeat' ((conv=>whnf);first|with_reducible apply aP|((with_reducible apply fk)<;>intro hc<;>try exact aZ)|refine aN ?_|fail)
 refine⟨_,_,⟨rfl,rfl⟩,?_⟩;repeat' first|apply And.intro|exact aM|fail
 all_goals try (conv=>whnf)
 rw[List.take_length];exact aB _
end Go.Proofs.YtfoiekbkkbnpkaaGreat.Tb
end
