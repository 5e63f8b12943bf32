/-
  Contracts of functions of the program and of the document, each for every input that its premises name.
-/
import Derived.Test.YtiagceoepkaeoaaGreatBh
import Derived.Test.YtiagceoepkaeoaaGreatAh
set_option linter.unusedSectionVars false
set_option linter.unusedVariables false
set_option linter.unusedSimpArgs false
set_option maxRecDepth 100000
set_option maxHeartbeats 4000000
section
open Go Go.Proofs.Tryz Go.AX
namespace Go.Proofs.YtiagceoepkaeoaaGreat.Tb
theorem ah9 (p:Pn)(k:Nat)(h:k<p.af.length):(jY p).take (k+1)=(jY p).take k++[p.af[k].id]:=by
 unfold jY;rw[List.take_succ_eq_append_getElem (by rw[List.length_map];exact h),List.getElem_map]
theorem PO:aQ prog 27 f27:=bU func27
theorem ac0 (p:Pn)(h:rR p):bC prog 27 [.agg p.c] (l8 (FT p)):=by
 refine PC.le ?_;have cM:=mZ p h;have hb:=h.af;unfold FT;cases hm:jN p with
 | false=>
   rw[hm] at cM;rw[if_neg (by decide)];clear hm;refine bM PO ?_;repeat' ((conv=>whnf);first|with_reducible apply aG|((with_reducible apply fk)<;>intro hc<;>try exact fO)|(apply aH;refine⟨_,cM,?_⟩)|refine aC ?_|fail)
   all_goals exact ay
 | true=>
   rw[hm] at cM;rw[if_pos rfl];clear hm;have eN:((List.map Lg.c p.af).length:Int)=(p.af.length:Int):=by rw[List.length_map]
   refine bM PO ?_;repeat' ((conv=>whnf);first|with_reducible apply aG|((with_reducible apply fk)<;>intro hc<;>try exact fO)|(apply aH;refine⟨_,cM,?_⟩)|refine aC ?_|fail)
   refine⟨{k:Nat // k≤p.af.length},fun⟨k,_⟩=>⟨[(3,.aB 1003 0),(10,.pv (dO p.af)),(11,.pv (ii p.af.length)),(12,.pv (ii k))],1000000000,[(1003,.arr 23 0 1 (((jY p).take k).map bR))]⟩,fun⟨k,_⟩=>p.af.length-k,⟨⟨0,by simp⟩,aj ?_⟩,?_⟩
   ·repeat' first|apply And.intro|exact ay|fail
    all_goals try (conv=>whnf)
    all_goals first|exact eN|simp
   rintro⟨k,hk⟩
   by_cases hlt:k<p.af.length
   ·have d0:decide ((k:Int)<(p.af.length:Int))=true:=by simp only[gQ];omega
    have eW:IntKind.i64.wrap ((k:Int)+1)=((k+1:Nat):Int):=by rw[aJ (by omega) (by omega)];omega
    have r1:=dx Lg.c p.af k hlt;have ht:=ah9 p k hlt;repeat' ((conv=>whnf);first|with_reducible apply aG|((with_reducible apply fk)<;>intro hc<;>try exact fO)|((refine⟨_,r1,?_⟩))|(((with_reducible apply And.intro);focus (simp only[jS,List.length_take,uF,xA];omega)))|refine aC ?_|fail)
    refine⟨⟨k+1,hlt⟩,dec_lt hlt,aj ?_⟩;repeat' first|apply And.intro|exact ay|fail
    all_goals try (conv=>whnf)
    all_goals first
     |exact eW
     |(rw[ht,List.map_append];exact bP _)
   have hke:k=p.af.length:=by omega
   subst hke;have d0:decide ((p.af.length:Int)<(p.af.length:Int))=false:=by simp
   have ht:(jY p).take p.af.length=jY p:=by rw[←List.length_map (f:=fun x:Lg=>x.id)];exact List.take_length
   repeat' ((conv=>whnf);first|with_reducible apply aG|((with_reducible apply fk)<;>intro hc<;>try exact fO)|refine aC ?_|fail)
   repeat' first|apply And.intro|exact ay|fail
   all_goals try (conv=>whnf)
   all_goals (rw[ht];exact bP _)
theorem p8:aQ prog 9 f9:=bU func9
theorem WB (n:Int)(l:List bg)(ch sure:Int)(h0:∀z∈l,0≤z.at_)(hs:0≤sure):bC prog 9 [ii n,slO l,ii ch,uu sure] (bl true):=by
 refine PC.le ?_;have cP:=PK n l h0;have h60:IntKind.u64.wrap (1152921504606846976:Int)=1152921504606846976:=by decide
 cases hp:Ho n l with
 | none=>
   rw[hp] at cP;simp only[Option.getD_none,Option.isSome_none] at cP;clear hp;refine bM p8 ?_;repeat' ((conv=>whnf);first|with_reducible apply aG|((with_reducible apply fk)<;>intro hc<;>try exact aK)|(apply aH;refine⟨_,cP,?_⟩)|(apply aH;refine⟨_,cB,?_⟩)|refine aC ?_|fail)
   all_goals exact ay
 |some p=>
 rw[hp] at cP;simp only[Option.getD_some,Option.isSome_some] at cP;have hok:=PL hp h0;clear hp;cases hc1:decide (ch<1) with
 | true=>
   clear hok;refine bM p8 ?_;repeat' ((conv=>whnf);first|with_reducible apply aG|((with_reducible apply fk)<;>intro hc<;>try exact aK)|(apply aH;refine⟨_,cP,?_⟩)|(apply aH;refine⟨_,cB,?_⟩)|refine aC ?_|fail)
   all_goals exact ay
 |false=>
 cases hc2:decide (ch>((p.channels.map Ch.c).length:Int)) with
 | true=>
   clear hok;refine bM p8 ?_;repeat' ((conv=>whnf);first|with_reducible apply aG|((with_reducible apply fk)<;>intro hc<;>try exact aK)|(apply aH;refine⟨_,cP,?_⟩)|(apply aH;refine⟨_,cB,?_⟩)|refine aC ?_|fail)
   all_goals exact ay
 |false=>
 cases hc3:decide (p.version>1152921504606846976) with
 | true=>
   clear hok;refine bM p8 ?_;repeat' ((conv=>whnf);first|with_reducible apply aG|((with_reducible apply fk)<;>intro hc<;>try exact aK)|rewrite[h60]|(apply aH;refine⟨_,cP,?_⟩)|(apply aH;refine⟨_,cB,?_⟩)|refine aC ?_|fail)
   all_goals exact ay
 |false=>
 have hn:dM p ch=true:=by
  simp only[jS,kQ] at hc1 hc2;unfold dM;simp only[Bool.and_eq_true,gQ];omega
 have hv:p.version≤1152921504606846976:=by simpa using hc3
 have hpl:=hok.AL;replace hn:=Hd.mk hn;replace hok:=Hd.mk hok;replace hv:=Hd.mk hv;refine bM p8 ?_;repeat' ((conv=>whnf);first|with_reducible apply aG|((with_reducible apply fk)<;>intro hc<;>try exact aK)|rewrite[h60]|(apply aH;refine⟨_,cP,?_⟩)|refine aC ?_|fail)
 refine⟨{k:Nat // k≤p.past.length∧∀j (hj:j<p.past.length),j<k→p.past[j].who≠15},fun⟨k,_⟩=>⟨[(2,.pv (ii ch)),(3,.pv (uu sure)),(9,.ptr 1009 0),(11,.pv (ii k))],1000000000,[(1009,.var (p.c.map .pv))]⟩,fun⟨k,_⟩=>p.past.length-k,⟨⟨0,Nat.zero_le _,fun _ _ h=>absurd h (Nat.not_lt_zero _)⟩,aj ?_⟩,?_⟩
 ·all_goals exact ay
 rintro⟨k,hk,hw⟩
 dsimp only
 clear cP hc3;by_cases hlt:k<p.past.length
 ·have d0:decide ((k:Int)<((p.past.map Pa.c).length:Int))=true:=by simp only[jS,gQ];omega
  have eW:IntKind.i64.wrap ((k:Int)+1)=((k+1:Nat):Int):=by rw[aJ (by omega) (by omega)];omega
  have hr:=dx Pa.c p.past k hlt;cases b1:(p.past[k].who==15) with
  | true=>
    generalize p.past[k]=x at *;simp only[Pa.c] at hr;clear hw hpl;repeat' ((conv=>whnf);first|with_reducible apply aG|((with_reducible apply fk)<;>intro hc<;>try exact aK)|((refine⟨_,hr,?_⟩))|(apply aH;refine⟨_,cB,?_⟩)|(refine sF ?_)|refine aC ?_|fail)
    all_goals exact ay
  | false=>
    have hnx:=gH hw fun _=>(by simpa using b1:p.past[k].who≠15)
    replace hnx:=Hd.mk hnx;clear hw hpl;generalize hx:p.past[k]=x at *;clear hx;simp only[Pa.c] at hr;repeat' ((conv=>whnf);first|with_reducible apply aG|((with_reducible apply fk)<;>intro hc<;>try exact aK)|((refine⟨_,hr,?_⟩))|(refine sF ?_)|refine aC ?_|fail)
    refine⟨⟨k+1,hlt,hnx.out⟩,dec_lt hlt,aj ?_⟩;repeat' first|apply And.intro|exact ay|fail
    all_goals try (conv=>whnf)
    all_goals exact eW
 have hke:k=p.past.length:=by omega
 subst hke;have d0:decide ((p.past.length:Int)<((p.past.map Pa.c).length:Int))=false:=by simp
 obtain⟨q,ha,hG⟩:=Ru (sure:=sure) hok.out hn.out hs (fun x hx=>by
  obtain⟨j,hj,rfl⟩:=List.getElem_of_mem hx;exact hw j hj hj) hv.out
 have cG:=Ub p ch (aah hok.out);obtain⟨i,hi,en,ec⟩:=qy hn.out;have hc:=hok.out.c2;have eI:IntKind.i64.wrap (ch-1)=((i:Nat):Int):=by rw[aJ (by omega) (by omega)];omega
 have hrw:=dx Ch.c p.channels i hi;rw[←ec] at hrw;have hch:=(hok.out.ch _ (bW hn.out)).1;have aia:=(hok.out.ch _ (bW hn.out)).2.2.1;have cW:=RX p ch sure (aah hok.out) hs;have cN:=RX q ch sure (aah hG.ok) hs;have cK:=ac0 q hG.ok.Iu;have cA:=Mf hok.out (o:=K8 ch (aL p ch).aU (jB p ch).2.1) ⟨Nat.zero_le _,fun x hx=>(by cases hx),Nat.zero_le _⟩;rw[ha] at cA;dsimp only at cA
 replace cA:bC prog 13 [.agg p.c,.agg (K8 ch (aL p ch).aU (jB p ch).2.1).c] (.dn [.agg q.c,.agg [ii 0,uu 0,uu (jB p ch).2.2,uu 0,ii 0]]):=cA;have hlq:=hG.ok.c2;obtain⟨i2,hi2,en2,ec2⟩:=qy hG.has;have eii:i2=i:=by omega
 subst eii;have hrq:=dx Ch.c q.channels i2 hi2;rw[←ec2] at hrq;have Mg:(aL p ch).aU=0→(jB p ch).1=[]∧(jB p ch).2.1=0:=fun e=>by
  have h1:=hch.ow;unfold vR at h1;rw[if_pos (by simpa using e)] at h1;simp only[Bool.and_eq_true,gQ] at h1;have h2:(aL p ch).af=[]:=List.eq_nil_of_length_eq_zero (by omega);unfold jB;rw[if_pos (qC hok.out hn.out),h2];exact⟨rfl,rfl⟩
 obtain⟨m,m1,m2,m3⟩:=hG.Tw;have PN:=hG.fst;have hkeep:=hG.keep;have hgl:(jB p ch).1.length≤8:=by
  have h2:=hch.len;have h3:∀{ids acc:List Int} {a t:Int},(lY p t acc a ids).1.length≤acc.length+ids.length:=by
   intro ids;induction ids with
   |nil=>intro acc a t;simp[lY]
   | cons x r ih=>
     intro acc a t;unfold lY;split
     ·simp
     have:=@ih (acc++[(aW p x).id]) (bV a (aW p x).last) t;simp only[Bu,uF,xA] at this ⊢;omega
  unfold jB;split
  ·have:=@h3 (aL p ch).af [] (aL p ch).first (aL p ch).trim
   simp only[xA] at this;omega
  simp
 have hkl:(FT q).length≤1000000:=by
  unfold FT;split
  ·have:=hG.ok.Iu.af;simpa[jY] using this
  simp
 have hfb:=hch.e3;have hal:(jb p ch sure).length≤64:=NI (qC hok.out hn.out) hok.out.xZ aia hs;have aib:∀(h:0<(jb q ch sure).length),(jb q ch sure)[0].offset=(aL q ch).first:=fun h=>by
  have:=Ap (qC hG.ok hG.has) hG.ok.xZ (hG.ok.ch _ (bW hG.has)).2.2.1 hs 0 h;rw[this];simp
 have hkb:=hG.ok.Iu;clear ha hG hch aia hpl hw hlt hk en ec en2 ec2 hlq hv hc1 hc2;obtain⟨⟨gone,next,first⟩,hgg⟩:∃x,x=jB p ch:=⟨_,rfl⟩;simp only[←hgg] at cG cA PN hkeep hgl Mg m3 hrw hrq;skip
 clear hgg;obtain⟨A,hA⟩:∃A,A=jb p ch sure:=⟨_,rfl⟩;obtain⟨B,hB⟩:∃B,B=jb q ch sure:=⟨_,rfl⟩;rw[←hA] at cW m1 m2 hal;rw[←hB] at m2 cN;have aaj:∀(h:0<B.length),B[0].offset=(aL q ch).first:=by rw[hB];exact aib
 clear aib hA hB;obtain⟨K,hK⟩:∃K,K=FT q:=⟨_,rfl⟩;rw[←hK] at cK hkeep hkl;clear hK;generalize aL p ch=cp at *;generalize aL q ch=cq at *;replace hok:=Hd.mk hok;replace hkb:=Hd.mk hkb;cases b1:(cp.aU==0) with
 | true=>
   obtain⟨w1,w2⟩:=Mg (by simpa using b1);subst w1 w2;clear Mg m1 m2 m3 aaj PN hkeep hgl hkl hfb hal hi2 hi hok hkb;simp only[Ch.c] at hrw;repeat' ((conv=>whnf);first|with_reducible apply aG|((with_reducible apply fk)<;>intro hc<;>try exact fO)|((rewrite[eI]))|((refine⟨_,hrw,?_⟩))|(apply aH;refine⟨_,cG,?_⟩)|(apply aH;refine⟨_,cB,?_⟩)|(refine sF ?_)|refine aC ?_|fail)
   all_goals exact ay
 |false=>
 have b2:(cq.first != first)=false:=by simp[PN]
 have b3:(first != first)=false:=by simp
 have aak:=Hd.mk hkeep;have hm:=Hd.mk (And.intro m1 (And.intro m2 m3));have ad1:=Hd.mk aaj;clear Mg m1 m2 m3 aaj hkeep;repeat' ((conv=>whnf);first|with_reducible apply aG|((with_reducible apply fk)<;>intro hc<;>try exact fO)|((rewrite[eI]))|((refine⟨_,hrw,?_⟩))|((refine⟨_,hrq,?_⟩))|(apply aH;refine⟨_,cG,?_⟩)|(apply aH;refine⟨_,cW,?_⟩)|(apply aH;refine⟨_,tC (cA) ?_,?_⟩;exact rG)|(apply aH;refine⟨_,cK,?_⟩)|(refine sF ?_)|refine aC ?_|fail)
 refine⟨{k:Nat // k≤K.length},fun⟨k,_⟩=>⟨[(2,.pv (ii ch)),(3,.pv (uu sure)),(12,.pv (l8 gone)),(14,.pv (uu first)),(15,.ptr 1015 0),(16,.pv (slS A)),(17,.ptr 1017 0),(19,.pv (l8 K)),(20,.pv (ii k))],1000000000,[(1015,.var (cp.c.map .pv)),(1017,.var (q.c.map .pv))]⟩,fun⟨k,_⟩=>K.length-k,⟨⟨0,Nat.zero_le _⟩,aj ?_⟩,?_⟩
 ·all_goals exact ay
 rintro⟨k,hk⟩
 dsimp only
 clear d0 cG cW cA cK hrw hrq b1 b2 b3 hok hn;by_cases hlt:k<K.length
 ·have d0:decide ((k:Int)<((K.map bR).length:Int))=true:=by simp only[jS,gQ];omega
  have eW:IntKind.i64.wrap ((k:Int)+1)=((k+1:Nat):Int):=by rw[aJ (by omega) (by omega)];omega
  have hr:=dx bR K k hlt;have hne:=aak.out _ (List.getElem_mem hlt);generalize K[k]=a at *;repeat' ((conv=>whnf);first|with_reducible apply aG|((with_reducible apply fk)<;>intro hc<;>try exact aK)|refine aC ?_|fail)
  refine⟨{j:Nat // j≤gone.length},fun⟨j,_⟩=>⟨[(2,.pv (ii ch)),(3,.pv (uu sure)),(12,.pv (l8 gone)),(14,.pv (uu first)),(15,.ptr 1015 0),(16,.pv (slS A)),(17,.ptr 1017 0),(19,.pv (l8 K)),(20,.pv (ii k)),(21,.pv (ii j))],1000000000,[(1015,.var (cp.c.map .pv)),(1017,.var (q.c.map .pv))]⟩,fun⟨j,_⟩=>gone.length-j,⟨⟨0,Nat.zero_le _⟩,aj ?_⟩,?_⟩
  ·all_goals exact ay
  rintro⟨j,hj⟩
  dsimp only
  by_cases hjt:j<gone.length
  ·have d1:decide ((j:Int)<((gone.map bR).length:Int))=true:=by simp only[jS,gQ];omega
   have eV:IntKind.i64.wrap ((j:Int)+1)=((j+1:Nat):Int):=by rw[aJ (by omega) (by omega)];omega
   have hr2:=dx bR gone j hjt;have hb:(a==gone[j])=false:=by
    rw[beq_eq_false_iff_ne];intro e;exact hne (by rw[e];exact List.getElem_mem hjt)
   generalize gone[j]=b at *;clear hne;repeat' ((conv=>whnf);first|with_reducible apply aG|((with_reducible apply fk)<;>intro hc<;>try exact aK)|((refine⟨_,hr,?_⟩))|((refine⟨_,hr2,?_⟩))|(refine sF ?_)|refine aC ?_|fail)
   refine⟨⟨j+1,hjt⟩,dec_lt hjt,aj ?_⟩;repeat' first|apply And.intro|exact ay|fail
   all_goals try (conv=>whnf)
   all_goals exact eV
  have hje:j=gone.length:=by omega
  subst hje;have d1:decide ((gone.length:Int)<((gone.map bR).length:Int))=false:=by simp
  clear hr hne;repeat' ((conv=>whnf);first|with_reducible apply aG|((with_reducible apply fk)<;>intro hc<;>try exact aK)|refine aC ?_|fail)
  refine⟨⟨k+1,hlt⟩,dec_lt hlt,aj ?_⟩;repeat' first|apply And.intro|exact ay|fail
  all_goals try (conv=>whnf)
  all_goals exact eW
 have hke:k=K.length:=by omega
 subst hke;have d0:decide ((K.length:Int)<((K.map bR).length:Int))=false:=by simp
 obtain⟨m1,m2,m3⟩:=hm.out;have hBl:B.length=A.length-m:=by rw[m2,List.length_drop]
 have g1:decide (((B.map Sp.c).length:Int)>((A.map Sp.c).length:Int))=false:=by simp only[jS,kQ];omega
 have e1:IntKind.i64.wrap (((A.map Sp.c).length:Int)-((B.map Sp.c).length:Int))=(m:Int):=by simp only[jS];rw[aJ (by omega) (by omega)];omega
 have e2:IntKind.u64.wrap (first-cp.first)=(m:Int):=by rw[m3,vO (by omega) (by omega)];omega
 have e3:IntKind.i64.wrap (m:Int)=(m:Int):=aJ (by omega) (by omega);have g2:((m:Int) != (m:Int))=false:=by simp
 have cS:=Zo B B;rw[show decide (B=B)=true from by simp] at cS;have eD:mh (A.map Sp.c) (some (m:Int)) none=B.map Sp.c:=by
  simp only[mh,Int.toNat_natCast];rw[m2,List.map_drop]
 have hn0:=ad1.out;clear hm m2 m3 aak ad1 hlt hk;cases hBz:B with
 | nil=>
   rw[hBz] at cN cS eD e1 g1;clear hn0 hBl hBz;have g3:(((([]:List Sp).map Sp.c).length:Int)==0)=true:=by simp
   repeat' ((conv=>whnf);first|with_reducible apply aG|((with_reducible apply fk)<;>intro hc<;>try exact fO)|rewrite[e1]|rewrite[e2]|rewrite[e3]|rewrite[eD]|(apply aH;refine⟨_,cN,?_⟩)|(apply aH;refine⟨_,cS,?_⟩)|(apply aH;refine⟨_,cB,?_⟩)|(((with_reducible apply And.intro);focus (simp only[dQ,jS];omega)))|refine aC ?_|fail)
   all_goals exact ay
 | cons x r=>
   have hx:=hn0 (by rw[hBz];simp);have hx2:x.offset=cq.first:=by
    rw[←hx];simp only[hBz,List.getElem_cons_zero]
   have g4:(x.offset==first)=true:=by rw[hx2,PN];simp
   rw[hBz] at cN cS eD e1 g1;have g3:((((x::r).map Sp.c).length:Int)==0)=false:=by simp;omega
   clear hn0 hBl hBz hx hx2;repeat' ((conv=>whnf);first|with_reducible apply aG|((with_reducible apply fk)<;>intro hc<;>try exact fO)|rewrite[e1]|rewrite[e2]|rewrite[e3]|rewrite[eD]|(apply aH;refine⟨_,cN,?_⟩)|(apply aH;refine⟨_,cS,?_⟩)|(apply aH;refine⟨_,cB,?_⟩)|((refine⟨_,rfl,?_⟩))|(((with_reducible apply And.intro);focus (simp only[dQ,jS];omega)))|refine aC ?_|fail)
   all_goals exact ay
end Go.Proofs.YtiagceoepkaeoaaGreat.Tb
end
