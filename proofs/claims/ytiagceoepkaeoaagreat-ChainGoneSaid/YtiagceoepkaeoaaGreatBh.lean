/-
  Contracts of functions of the program and of the document, each for every input that its premises name.
-/
import Derived.Test.YtiagceoepkaeoaaGreatBg
import Derived.Test.YtiagceoepkaeoaaGreatBd
import Derived.Test.YtiagceoepkaeoaaGreatAf
import Derived.Test.YtiagceoepkaeoaaGreatAg
import Derived.Test.YtiagceoepkaeoaaGreatProg
set_option linter.unusedSectionVars false
set_option linter.unusedVariables false
set_option linter.unusedSimpArgs false
set_option maxRecDepth 100000
set_option maxHeartbeats 4000000
section
open Go Go.Proofs.Tryz Go.AX
namespace Go.Proofs.YtiagceoepkaeoaaGreat.Tb
theorem Sr:aQ prog 12 f12:=bU func12
theorem xX:aQ prog 29 f29:=bU func29
def l7 (o:bg):Bool:=(decide (((o.av.map Fr.c).length:Int)>30)||decide (((o.seen.map Mk.c).length:Int)>30))||o.av.any fun f=>decide (((f.aN.map Pl.c).length:Int)>30)
theorem Kj (o:bg):bC prog 12 [.agg o.c] (bl (l7 o)):=by
 refine PC.le ?_;have hm:((o.av.map Fr.c).length:Int)=(o.av.length:Int):=by rw[List.length_map]
 obtain⟨X,hX⟩:∃X,X=l7 o:=⟨_,rfl⟩;rw[←hX];unfold l7 at hX;clear hm;refine bM Sr ?_;repeat' ((conv=>whnf);first|with_reducible apply aG|((with_reducible apply fk)<;>intro hc<;>try exact aK)|refine aC ?_|fail)
 ·simp only[*,Bool.true_or] at hX;subst hX;all_goals exact ay
 ·simp only[*,Bool.true_or,Bool.or_true] at hX;subst hX;all_goals exact ay
 rename_i hq;have hl:o.av.length≤1000000:=by simp only[jS,kQ] at hq;omega
 simp only[hq,hc,Bool.false_or] at hX;refine⟨{k:Nat // k≤o.av.length∧X=(o.av.drop k).any fun f=>decide (((f.aN.map Pl.c).length:Int)>30)},fun⟨k,_⟩=>⟨[(1,.ptr 1001 0),(3,.pv (ii k))],1000000000,[(1001,.var (o.c.map .pv))]⟩,fun⟨k,_⟩=>o.av.length-k,⟨⟨0,by simpa using hX⟩,aj ?_⟩,?_⟩
 ·all_goals exact ay
 rintro⟨k,hk,hn⟩
 clear hX hq hc;dsimp only
 by_cases hlt:k<o.av.length
 ·have d0:decide ((k:Int)<((o.av.map Fr.c).length:Int))=true:=by simp only[jS,gQ];omega
  have eW:IntKind.i64.wrap ((k:Int)+1)=((k+1:Nat):Int):=by rw[aJ (by omega) (by omega)];omega
  have hr:=dx Fr.c o.av k hlt;rw[List.drop_eq_getElem_cons hlt,List.any_cons] at hn;generalize o.av[k]=f at *;simp only[Fr.c,xD] at hr;repeat' ((conv=>whnf);first|with_reducible apply aG|((with_reducible apply fk)<;>intro hc<;>try exact aK)|((refine⟨_,hr,?_⟩))|(refine sF ?_)|refine aC ?_|fail)
  ·simp only[*,Bool.true_or] at hn;subst hn;all_goals exact ay
  simp only[*,Bool.false_or] at hn;refine⟨⟨k+1,hlt,hn⟩,dec_lt hlt,aj ?_⟩;repeat' first|apply And.intro|exact ay|fail
  all_goals try (conv=>whnf)
  all_goals exact eW
 have hke:k=o.av.length:=by omega
 subst hke;have d0:decide ((o.av.length:Int)<((o.av.map Fr.c).length:Int))=false:=by simp
 replace hn:X=false:=by rw[hn,List.drop_length];rfl
 subst hn;clear hlt hk;repeat' ((conv=>whnf);first|with_reducible apply aG|((with_reducible apply fk)<;>intro hc<;>try exact aK)|refine aC ?_|fail)
 all_goals exact ay
def afI:Ch:=⟨0,0,0,0,0,0,[],[],[]⟩
def gZ (n:Nat):Pn:=⟨0,1,List.replicate n afI,[],[]⟩
def IX:Pn:=⟨0,0,[],[],[]⟩
theorem WH (n:Int)(h:n<1∨3<n):bC prog 29 [ii n] (.dn [.agg IX.c,ii 1]):=by
 refine PC.le ?_;have c1:=jC n 1 3;have e:bS n 1 3=false:=by unfold bS;rw[Bool.and_eq_false_iff];simp only[kQ];omega
 rw[e] at c1;clear e;refine bM xX ?_;repeat' ((conv=>whnf);first|with_reducible apply aG|((with_reducible apply fk)<;>intro hc<;>try exact aK)|(apply aH;refine⟨_,c1,?_⟩)|refine aC ?_|fail)
 all_goals exact ay
theorem WI:bC prog 29 [ii 1] (.dn [.agg (gZ 1).c,ii 0]):=by
 refine PC.le ?_;have c1:=jC 1 1 3;have e:bS 1 1 3=true:=by decide
 rw[e] at c1;clear e;refine bM xX ?_;repeat' ((conv=>whnf);first|with_reducible apply aG|((with_reducible apply fk)<;>intro hc<;>try exact aK)|(apply aH;refine⟨_,c1,?_⟩)|refine aC ?_|fail)
 all_goals exact ay
theorem WJ:bC prog 29 [ii 2] (.dn [.agg (gZ 2).c,ii 0]):=by
 refine PC.le ?_;have c1:=jC 2 1 3;have e:bS 2 1 3=true:=by decide
 rw[e] at c1;clear e;refine bM xX ?_;repeat' ((conv=>whnf);first|with_reducible apply aG|((with_reducible apply fk)<;>intro hc<;>try exact aK)|(apply aH;refine⟨_,c1,?_⟩)|refine aC ?_|fail)
 all_goals exact ay
theorem WK:bC prog 29 [ii 3] (.dn [.agg (gZ 3).c,ii 0]):=by
 refine PC.le ?_;have c1:=jC 3 1 3;have e:bS 3 1 3=true:=by decide
 rw[e] at c1;clear e;refine bM xX ?_;repeat' ((conv=>whnf);first|with_reducible apply aG|((with_reducible apply fk)<;>intro hc<;>try exact aK)|(apply aH;refine⟨_,c1,?_⟩)|refine aC ?_|fail)
 all_goals exact ay
theorem uq:aQ prog 10 f10:=bU func10
theorem PI (n:Nat)(h1:1≤n)(h2:n≤3):gB (gZ n):=by
 have hc:∀c∈(gZ n).channels,c=afI:=fun c hc=>(List.mem_replicate.1 hc).2
 have hf:(List.replicate n afI).flatMap (·.af)=[]:=by
  rw[List.flatMap_eq_nil_iff];intro c hc;rw[(List.mem_replicate.1 hc).2];rfl
 refine⟨Int.le_refl 0,(by decide:(0:Int)≤4611686018427387903),Int.le_refl 1,(by decide:(1:Int)≤4611686018427387904),by simp[gZ,h1],by simp[gZ,h2],fun l hl=>(by cases hl),List.Pairwise.nil,by unfold gT gZ;simp only;rw[hf];exact List.Perm.refl _,fun c hm=>?_,rfl,List.Pairwise.nil⟩;rw[hc c hm];refine⟨?_,Int.le_refl 0,Int.le_refl 0,fun e=>(by cases e)⟩;rw[←JM];rfl
def slO (l:List bg):PV:=.sl false 18 (l.map bg.c)
theorem aag {o:bg}(h:l7 o=false):OpB o:=by
 unfold l7 at h;simp only[Bool.or_eq_false_iff,kQ,jS,List.any_eq_false,gQ] at h;obtain⟨⟨a,b⟩,c⟩:=h;exact⟨by omega,fun x hx=>by have:=c x hx;omega,by omega⟩
def Ho (n:Int)(l:List bg):Option Pn:=if n<1∨3<n∨80<l.length∨l.any l7=true then none else some (gX (gZ n.toNat) l)
theorem Sv (n:Nat)(c1:bC prog 29 [ii (n:Int)] (.dn [.agg (gZ n).c,ii 0]))(h1:1≤n)(h2:n≤3)(l:List bg)(hl:l.length≤80)(h0:∀o∈l,0≤o.at_) :
  bC prog 10 [ii (n:Int),slO l] (.dn [.agg (if l.any l7 then IX else gX (gZ n) l).c,bl (!l.any l7)]):=by
 refine PC.le ?_;have hm:((l.map bg.c).length:Int)=(l.length:Int):=by rw[List.length_map]
 have d80:decide (((l.map bg.c).length:Int)>80)=false:=by simp only[jS,kQ];omega
 obtain⟨X,hX⟩:∃X:Pn×Bool,X=(if l.any l7 then IX else gX (gZ n) l,!l.any l7):=⟨_,rfl⟩;have e1:(if l.any l7 then IX else gX (gZ n) l)=X.1:=by rw[hX]
 have e2:(!l.any l7)=X.2:=by rw[hX]
 rw[e1,e2];clear e1 e2 hm;refine bM uq ?_;repeat' ((conv=>whnf);first|with_reducible apply aG|((with_reducible apply fk)<;>intro hc<;>try exact aK)|(apply aH;refine⟨_,c1,?_⟩)|refine aC ?_|fail)
 refine⟨{k:Nat // k≤l.length∧∀j (hj:j<l.length),j<k→l7 l[j]=false},fun⟨k,_⟩=>⟨[(1,.pv (slO l)),(4,.ptr 1004 0),(6,.ptr 1006 0),(8,.pv (ii k))],1000000000,[(1004,.var (IX.c.map .pv)),(1006,.var ((gX (gZ n) (l.take k)).c.map .pv))]⟩,fun⟨k,_⟩=>l.length-k,⟨⟨0,by simp⟩,aj ?_⟩,?_⟩
 ·all_goals exact ay
 rintro⟨k,hk,hn⟩
 dsimp only
 by_cases hlt:k<l.length
 ·have d0:decide ((k:Int)<((l.map bg.c).length:Int))=true:=by simp only[jS,gQ];omega
  have eW:IntKind.i64.wrap ((k:Int)+1)=((k+1:Nat):Int):=by rw[aJ (by omega) (by omega)];omega
  have hr:=dx bg.c l k hlt;have hok:gB (gX (gZ n) (l.take k)):=AP (PI n h1 h2) fun o ho=>h0 o (List.mem_of_mem_take ho)
  have cL:=Kj l[k];cases hlo:l7 l[k] with
  | true=>
    have hX2:X=(IX,false):=by
     have:l.any l7=true:=List.any_eq_true.2 ⟨_,List.getElem_mem hlt,hlo⟩;rw[hX,this];rfl
    subst hX2;rw[hlo] at cL;generalize l[k]=o at *;generalize gX (gZ n) (l.take k)=q at *;clear hX hn hok hlo d80 c1 h0;repeat' ((conv=>whnf);first|with_reducible apply aG|((with_reducible apply fk)<;>intro hc<;>try exact aK)|((refine⟨_,hr,?_⟩))|(apply aH;refine⟨_,cL,?_⟩)|(refine sF ?_)|refine aC ?_|fail)
    all_goals exact ay
  | false=>
    rw[hlo] at cL;have cA:=Mf hok (aag hlo);have hst:(ic (gX (gZ n) (l.take k)) l[k]).1=gX (gZ n) (l.take (k+1)):=by
     rw[List.take_succ_eq_append_getElem hlt];unfold gX;rw[List.foldl_append];rfl
    rw[hst] at cA;have hnx:∀j (hj:j<l.length),j<k+1→l7 l[j]=false:=gH hn fun _=>hlo
    replace hnx:=Hd.mk hnx;generalize l[k]=o at *;generalize hq2:gX (gZ n) (l.take (k+1))=q2 at *;replace hq2:=Hd.mk hq2;generalize gX (gZ n) (l.take k)=q at *;clear hX hn hok hlo d80 c1 h0 hst;repeat' ((conv=>whnf);first|with_reducible apply aG|((with_reducible apply fk)<;>intro hc<;>try exact aK)|((refine⟨_,hr,?_⟩))|(apply aH;refine⟨_,cL,?_⟩)|(apply aH;refine⟨_,cA,?_⟩)|(refine sF ?_)|refine aC ?_|fail)
    refine⟨⟨k+1,hlt,hnx.out⟩,dec_lt hlt,aj ?_⟩;dsimp only
    rw[hq2.out];repeat' first|apply And.intro|exact ay|fail
    all_goals try (conv=>whnf)
    all_goals exact eW
 have hke:k=l.length:=by omega
 subst hke;have d0:decide ((l.length:Int)<((l.map bg.c).length:Int))=false:=by simp
 have hX2:X=(gX (gZ n) l,true):=by
  have:l.any l7=false:=by
   rw[List.any_eq_false];intro o ho;obtain⟨j,hj,rfl⟩:=List.getElem_of_mem ho;rw[hn j hj hj];decide
  rw[hX,this];rfl
 subst hX2;rw[List.take_length] at *;clear hX hn d80 c1 h0 hlt hk;repeat' ((conv=>whnf);first|with_reducible apply aG|((with_reducible apply fk)<;>intro hc<;>try exact aK)|refine aC ?_|fail)
 all_goals exact ay
end Go.Proofs.YtiagceoepkaeoaaGreat.Tb
end
section
open Go Go.Proofs.Tryz Go.AX
namespace Go.Proofs.YtiagceoepkaeoaaGreat.Tb
end Go.Proofs.YtiagceoepkaeoaaGreat.Tb
end
section
open Go Go.Proofs.Tryz Go.AX
namespace Go.Proofs.YtiagceoepkaeoaaGreat.Tb
end Go.Proofs.YtiagceoepkaeoaaGreat.Tb
end
section
open Go Go.Proofs.Tryz Go.AX
namespace Go.Proofs.YtiagceoepkaeoaaGreat.Tb
end Go.Proofs.YtiagceoepkaeoaaGreat.Tb
end
section
open Go Go.Proofs.Tryz Go.AX
namespace Go.Proofs.YtiagceoepkaeoaaGreat.Tb
end Go.Proofs.YtiagceoepkaeoaaGreat.Tb
end
section
open Go Go.Proofs.Tryz Go.AX
namespace Go.Proofs.YtiagceoepkaeoaaGreat.Tb
end Go.Proofs.YtiagceoepkaeoaaGreat.Tb
end
section
open Go Go.Proofs.Tryz Go.AX
namespace Go.Proofs.YtiagceoepkaeoaaGreat.Tb
theorem WL (n:Int)(q:Pn)(e:Int)(b1:(e != 0)=true)(l:List bg)(c0:bC prog 29 [ii n] (.dn [.agg q.c,ii e])):bC prog 10 [ii n,slO l] (.dn [.agg IX.c,bl false]):=by
 refine PC.le ?_;refine bM uq ?_;repeat' ((conv=>whnf);first|with_reducible apply aG|((with_reducible apply fk)<;>intro hc<;>try exact aK)|(apply aH;refine⟨_,c0,?_⟩)|refine aC ?_|fail)
 all_goals exact ay
theorem WM (n:Int)(q:Pn)(e:Int)(b1:(e != 0)=false)(l:List bg)(b2:decide (((l.map bg.c).length:Int)>80)=true)(c0:bC prog 29 [ii n] (.dn [.agg q.c,ii e])):bC prog 10 [ii n,slO l] (.dn [.agg IX.c,bl false]):=by
 refine PC.le ?_;refine bM uq ?_;repeat' ((conv=>whnf);first|with_reducible apply aG|((with_reducible apply fk)<;>intro hc<;>try exact aK)|(apply aH;refine⟨_,c0,?_⟩)|refine aC ?_|fail)
 all_goals exact ay
theorem PK (n:Int)(l:List bg)(h0:∀o∈l,0≤o.at_):bC prog 10 [ii n,slO l] (.dn [.agg ((Ho n l).getD IX).c,bl (Ho n l).isSome]):=by
 unfold Ho;by_cases hn:n<1∨3<n
 ·rw[if_pos (by omega)];exact WL n IX 1 rfl l (WH n hn)
 have hst:∃k:Nat,1≤k∧k≤3∧n=(k:Int)∧bC prog 29 [ii (k:Int)] (.dn [.agg (gZ k).c,ii 0]):=by
  rcases (by omega:n=1∨n=2∨n=3) with rfl|rfl|rfl
  ·exact⟨1,by decide,by decide,rfl,WI⟩
  ·exact⟨2,by decide,by decide,rfl,WJ⟩
  exact⟨3,by decide,by decide,rfl,WK⟩
 obtain⟨k,k1,k2,rfl,cS⟩:=hst;by_cases hl:80<l.length
 ·rw[if_pos (by simp[hl])];exact WM k (gZ k) 0 rfl l (by simp only[jS,gQ];omega) cS
 have:=Sv k cS k1 k2 l (by omega) h0;rw[Int.toNat_natCast];cases ha:l.any l7 with
 |true=>rw[ha] at this;rw[if_pos (.inr (.inr (.inr rfl)))];exact this
 | false=>
   rw[ha] at this;rw[if_neg (by
    rintro (h|h|h|h)
    ·omega
    ·omega
    ·omega
    cases h)]
   exact this
theorem PL {n:Int}{l:List bg}{p:Pn}(h:Ho n l=some p)(h0:∀o∈l,0≤o.at_):gB p:=by
 unfold Ho at h;split at h
 ·cases h
 rename_i hn;have:=Option.some.inj h;subst this;exact AP (PI n.toNat (by omega) (by omega)) h0
theorem aco:aQ prog 56 f56:=bU func56
theorem LF (p:Pn)(n:Int)(h:rR p):bC prog 56 [.agg p.c,ii n] (bl (nU p n)):=by
 refine PC.le ?_;obtain⟨X,hX⟩:∃X,X=nU p n:=⟨_,rfl⟩;rw[←hX];unfold nU at hX;have eH:((List.map Ch.c p.channels).length:Int)=(p.channels.length:Int):=by rw[List.length_map]
 have e1:decide (n≤((List.map Ch.c p.channels).length:Int))=decide (n≤(p.channels.length:Int)):=by rw[List.length_map]
 rw[←e1] at hX;clear eH e1;refine bM aco ?_;repeat' ((conv=>whnf);first|with_reducible apply aG|((with_reducible apply fk)<;>intro hc<;>try exact aK)|(apply aH;refine⟨_,mZ p h,?_⟩)|refine aC ?_|fail)
 all_goals
  simp only[*,Bool.true_and,Bool.false_and,Bool.and_true,Bool.and_false,Bool.false_eq_true,↓reduceIte] at hX;subst hX;all_goals exact ay
theorem Zi:aQ prog 57 f57:=bU func57
theorem TY (p:Pn)(n:Int):bC prog 57 [.agg p.c,ii n] (.fn (.func 103) [] [.bJ p.c 0,.bJ [ii n] 0]):=by
 refine PC.le ?_;refine bM Zi ?_;repeat' ((conv=>whnf);first|with_reducible apply aG|((with_reducible apply fk)<;>intro hc<;>try exact aK)|refine aC ?_|fail)
 all_goals exact ay
theorem VO:aQ prog 59 f59:=bU func59
theorem O1 (p:Pn)(n sure:Int):bC prog 59 [.agg p.c,ii n,uu sure] (.fn (.func 105) [] [.bJ p.c 0,.bJ [ii n] 0,.bJ [uu sure] 0]):=by
 refine PC.le ?_;refine bM VO ?_;repeat' ((conv=>whnf);first|with_reducible apply aG|((with_reducible apply fk)<;>intro hc<;>try exact aK)|refine aC ?_|fail)
 all_goals exact ay
theorem Zj:aQ prog 103 f103:=bU func103
theorem T9 (p:Pn)(n:Int)(h:rR p)(hh:dM p n=true):Qr prog 103 [.bJ p.c 0,.bJ [ii n] 0] ((nN p (aL p n).first (aL p n).af).map fun y=>[uu y.1,.agg y.2.c]):=by
 refine EO Bg (sZ mixed Bg) Zj rfl rfl (fun P0=>?_);have hb:=h.channels;obtain⟨i,hi,en,ec⟩:=qy hh;rw[ec];have eI:IntKind.i64.wrap (n-1)=((i:Nat):Int):=by rw[aJ (by omega) (by omega)];omega
 clear ec hh en;have hcb:=h.ch _ (List.getElem_mem hi);have hr:=dx Ch.c p.channels i hi;obtain⟨x,hx⟩:∃x,x=p.channels[i]:=⟨_,rfl⟩;rw[←hx] at hcb hr ⊢;clear hx;have hbl:=hcb.af;have eN:((List.map bR x.af).length:Int)=(x.af.length:Int):=by rw[List.length_map]
 repeat' ((conv=>whnf);first|with_reducible apply aG|((with_reducible apply fk)<;>intro hc<;>try exact aK)|((rewrite[eI]))|((refine⟨_,hr,?_⟩))|refine aC ?_|fail)
 refine⟨{k:Nat // k≤x.af.length},fun⟨k,_⟩=>⟨[(0,.pv (.fn (.yield P0) [] [])),(1,.pv (.bJ p.c 0)),(4,.pv (uu (vT p x.first x.af k))),(22,.pv (l8 x.af)),(23,.pv (ii x.af.length)),(24,.pv (ii k))],1000000000,[(999,.tr (prog,P0) 0 ((nN p (vT p x.first x.af k) (x.af.drop k)).map fun y=>[uu y.1,.agg y.2.c]) (some false))]⟩,fun⟨k,_⟩=>x.af.length-k,⟨⟨0,by simp⟩,aj ?_⟩,?_⟩
 ·repeat' first|apply And.intro|exact ay|fail
  all_goals try (conv=>whnf)
  all_goals first|exact eN|simp[pI]
 rintro⟨k,hk⟩
 by_cases hlt:k<x.af.length
 ·have d0:decide ((k:Int)<(x.af.length:Int))=true:=by simp only[gQ];omega
  have eW:IntKind.i64.wrap ((k:Int)+1)=((k+1:Nat):Int):=by rw[aJ (by omega) (by omega)];omega
  have hr2:=dx bR x.af k hlt;have cF:=xR p x.af[k] h;have hst:=FM p x.first x.af k hlt
  repeat' ((conv=>whnf);first|with_reducible apply aG|((with_reducible apply fk)<;>intro hc<;>try exact aK)|((rewrite[hst]))|((refine⟨_,hr2,?_⟩))|(apply aH;refine⟨_,cF,?_⟩)|((refine⟨_,_,rfl,lH _,?_⟩))|refine aC ?_|fail)
  refine⟨trivial,⟨k+1,hlt⟩,dec_lt hlt,aj ?_⟩;repeat' first|apply And.intro|exact ay|fail
  all_goals try (conv=>whnf)
  all_goals first
   |exact eW
   |(rw[Ar p _ _ k hlt];rfl)
 have hke:k=x.af.length:=by omega
 subst hke;have d0:decide ((x.af.length:Int)<(x.af.length:Int))=false:=by simp
 have hst:x.af.drop x.af.length=[]:=List.drop_length;repeat' ((conv=>whnf);first|with_reducible apply aG|((with_reducible apply fk)<;>intro hc<;>try exact aK)|((rewrite[hst]))|refine aC ?_|fail)
 all_goals exact ay
theorem LG {p:Pn}{n:Int}(h:nU p n=true):dM p n=true:=by
 simp only[nU,Bool.and_eq_true] at h;simp only[dM,Bool.and_eq_true];exact⟨h.1,h.2.1⟩
theorem VP:aQ prog 105 f105:=bU func105
theorem O3 (p:Pn)(n sure:Int)(h:rR p)(hr:xZ p)(hs:0≤sure):Qr prog 105 [.bJ p.c 0,.bJ [ii n] 0,.bJ [uu sure] 0] ((jb p n sure).map fun s=>[.agg s.c]):=by
 refine EO Bg (sZ mixed Bg) VP rfl rfl (fun P0=>?_);have cH:=LF p n h;cases hh:nU p n with
 | false=>
   rw[hh] at cH;have e:jb p n sure=[]:=(BX (sure:=sure) (o:=0) hh).2.1;rw[e];clear e hh;repeat' ((conv=>whnf);first|with_reducible apply aG|((with_reducible apply fk)<;>intro hc<;>try exact fO)|(apply aH;refine⟨_,cH,?_⟩)|refine aC ?_|fail)
   all_goals exact ay
 | true=>
   rw[hh] at cH;have hP:=LG hh;have hk:=Yk (FK hh hr) hr (En hh);have hsq:=T9 p n h hP;obtain⟨i,hi,en,ec⟩:=qy hP;have hcb:=(h.ch _ (List.getElem_mem hi)).af;rw[←ec] at hcb;have eA:jb p n sure=WR p sure (aL p n).first (aL p n).af 0:=by rw[Yo];unfold jb;rw[if_pos hh]
   rw[eA];have hrow:=hk.row;have hlast:∀k (hk:k<(aL p n).af.length),0≤Ht sure (aW p (aL p n).af[k])∧Ht sure (aW p (aL p n).af[k])≤8:=by
    intro k hk2;exact FI hs (abl hrow _ (List.mem_map.2 ⟨_,List.getElem_mem hk2,rfl⟩))
   clear hrow hk eA en ec hi hh hP;obtain⟨x,hx⟩:∃x,x=aL p n:=⟨_,rfl⟩;rw[←hx] at hsq hcb hlast ⊢;clear hx;repeat' ((conv=>whnf);first|with_reducible apply aG|((with_reducible apply fk)<;>intro hc<;>try exact fO)|(apply aH;refine⟨_,cH,?_⟩)|(apply aH;refine⟨_,TY p n,?_⟩)|refine aC ?_|fail)
   refine⟨_,_,_,hsq,Unit,fun _ _=>True,fun k _=>⟨[(1,.pv (.bJ p.c 0)),(3,.pv (.bJ [uu sure] 0)),(4,.ptr 504 0),(15,.pv (.fn (.func 103) [] [.bJ p.c 0,.bJ [ii n] 0]))],1000000000,[(504,.var [.pv (.fn (.yield P0) [] [])]),(999,.tr (prog,P0) 0 ((WR p sure x.first x.af k).map fun s=>[.agg s.c]) (some false))]⟩,⟨(),aj ?_⟩,fun _=>rfl,fun k _=>rfl,?_,?_⟩
   ·all_goals exact ay
   ·intro k y _ hy;have hk:k<x.af.length:=by
     have:=(List.getElem?_eq_some_iff.1 hy).1;rw[List.length_map,oL] at this;exact this
    have TN:y=[uu (vT p x.first x.af k),.agg (aW p x.af[k]).c]:=by
     have:=(List.getElem?_eq_some_iff.1 hy).2;rw[List.getElem_map,BZ] at this;exact this.symm
    subst TN;have hst:=Yp p sure x.first x.af k hk
    obtain⟨hN0,hN8⟩:=hlast k hk;obtain⟨a,ha⟩:∃a,a=vT p x.first x.af k:=⟨_,rfl⟩
    obtain⟨l,hl⟩:∃l,l=aW p x.af[k]:=⟨_,rfl⟩;obtain⟨S,hS⟩:∃S,S=WR p sure x.first x.af (k+1):=⟨_,rfl⟩
    rw[←ha,←hl,←hS] at hst;rw[←hl] at hN0 hN8;obtain⟨N,hN⟩:∃N:Nat,Ht sure l=(N:Int):=⟨(Ht sure l).toNat,by omega⟩;rw[hN,Int.toNat_natCast] at hst;have hN9:N≤8:=by omega
    have hSh:Hd (S=WR p sure x.first x.af (k+1)):=⟨hS⟩;have afr:Hd (WR p sure x.first x.af k=JF a l N++S):=⟨hst⟩;clear hst hS hy hlast hN0 hN8 hsq cH
    (conv=>whnf)
    rw[←ha,←hl];clear ha hl;intro _;repeat' ((conv=>whnf);first|with_reducible apply rF|((with_reducible apply fk)<;>intro hc<;>try exact aK)|refine aC ?_|fail)
    refine Or.inr ⟨Unit,fun _=>⟨[(4,.ptr 504 0),(5,.pv (uu a)),(6,.ptr 1006 0),(7,.pv (uu (N:Int)))],1000000000,[(504,.var [.pv (.fn (.yield P0) [] [])]),(999,.tr (prog,P0) 0 ((JF a l N++S).map fun s=>[.agg s.c]) (some false)),(1006,.var (l.c.map .pv))]⟩,?_,fun _=>?_⟩
    ·unfold Ht at hN;cases hc0:(l.closed==0) with
     | true=>
       rw[hc0,if_pos rfl] at hN;have hNh:Hd ((if 8<sure then (8:Int) else sure)=(N:Int)):=⟨hN⟩;clear hN;repeat' ((conv=>whnf);first|with_reducible apply rF|((with_reducible apply fk)<;>intro hc<;>try exact aK)|refine aC ?_|fail)
       refine⟨(),aj ?_⟩;repeat' first|apply And.intro|exact ay|fail
       all_goals try (conv=>whnf)
       all_goals first
        |exact hNh.out
        |(rw[afr.out])
     | false=>
       rw[hc0,if_neg (by decide)] at hN;have hNh:Hd (l.last=(N:Int)):=⟨hN⟩;clear hN;repeat' ((conv=>whnf);first|with_reducible apply rF|((with_reducible apply fk)<;>intro hc<;>try exact aK)|refine aC ?_|fail)
       refine⟨(),aj ?_⟩;repeat' first|apply And.intro|exact ay|fail
       all_goals try (conv=>whnf)
       all_goals first
        |exact hNh.out
        |(rw[afr.out])
    clear hN afr;repeat' ((conv=>whnf);first|with_reducible apply rF|with_reducible apply Fs|with_reducible apply Fu|((with_reducible apply fk)<;>intro hc<;>try exact aK)|refine aC ?_|fail)
    refine⟨{i:Nat // i≤N},fun⟨i,_⟩=>⟨[(4,.ptr 504 0),(5,.pv (uu a)),(6,.ptr 1006 0),(25,.pv (uu (N:Int))),(26,.pv (uu (i:Int)))],1000000000,[(504,.var [.pv (.fn (.yield P0) [] [])]),(999,.tr (prog,P0) 0 (((JF a l N).drop i++S).map fun s=>[.agg s.c]) (some false)),(1006,.var (l.c.map .pv))]⟩,fun⟨i,_⟩=>N-i,⟨⟨0,by omega⟩,aj ?_⟩,?_⟩
    ·all_goals exact ay
    rintro⟨i,hi⟩
    by_cases hlt:i<N
    ·have d0:decide ((i:Int)<(N:Int))=true:=by simp only[gQ];omega
     have eW:IntKind.u64.wrap ((i:Int)+1)=((i+1:Nat):Int):=by rw[vO (by omega) (by omega)];omega
     have hd:=Yq a l N i hlt;repeat' ((conv=>whnf);first|with_reducible apply aG|((with_reducible apply fk)<;>intro hc<;>try exact fO)|((rewrite[hd]))|((refine⟨_,_,rfl,lH _,?_⟩))|refine aC ?_|fail)
     refine⟨trivial,⟨i+1,hlt⟩,dec_lt hlt,aj ?_⟩;repeat' first|apply And.intro|exact ay|fail
     all_goals try (conv=>whnf)
     all_goals exact eW
    have hie:i=N:=by omega
    subst hie;have d0:decide ((i:Int)<(i:Int))=false:=by simp
    have hd:=KZ a l i;repeat' ((conv=>whnf);first|with_reducible apply aG|((with_reducible apply fk)<;>intro hc<;>try exact fO)|refine aC ?_|fail)
    refine⟨(),trivial,aj ?_⟩;repeat' first|apply And.intro|exact ay|fail
    all_goals try (conv=>whnf)
    all_goals (rw[hd,hSh.out];rfl)
   intro _ _;rw[List.length_map,oL];have he:=abm p sure x.first x.af
   repeat' ((conv=>whnf);first|with_reducible apply aG|((with_reducible apply fk)<;>intro hc<;>try exact aK)|((rewrite[he]))|refine aC ?_|fail)
   all_goals exact ay
theorem IA:aQ prog 104 f104:=bU func104
theorem LH (f:FuncId)(aM:List PV)(xs:List Sp)(h:Qr prog f aM (xs.map fun n=>[.agg n.c]))(hl:xs.length≤1000000):bC prog 104 [Im,.fn (.func f) [] aM] (slS xs):=by
 refine PC.le ?_;refine bM IA ?_;repeat' ((conv=>whnf);first|with_reducible apply aG|((with_reducible apply fk)<;>intro hc<;>try exact aK)|refine aC ?_|fail)
 refine⟨f,aM,_,h,Unit,fun _ _=>True,fun k _=>match k with
  |0=>⟨[(0,.pv Im),(1,.pv (.fn (.func f) [] aM)),(2,.ptr 501 0),(4,.pv Im),(6,.pv (.fn (.func f) [] aM))],1000000000,[(501,.var [.pv Im])]⟩
  |k+1=>⟨[(0,.pv Im),(1,.pv (.fn (.func f) [] aM)),(2,.ptr 501 0),(4,.pv Im),(6,.pv (.fn (.func f) [] aM))],1000000000,[(501,.var [.aB 1502 0]),(1502,.arr 63 0 3 ((xs.take (k+1)).map Sp.c))]⟩,⟨(),aj ?_⟩,fun _=>rfl,fun k _=>by cases k<;>rfl,?_,?_⟩
 ·all_goals exact ay
 ·intro k x _ hx;have hk:k<xs.length:=by simpa using (List.getElem?_eq_some_iff.1 hx).1
  have hx:x=[.agg xs[k].c]:=by
   have:=(List.getElem?_eq_some_iff.1 hx).2;simpa using this.symm
  subst hx;cases k with
  | zero=>
    (conv=>whnf)
    intro _;repeat' ((conv=>whnf);first|with_reducible apply aG|((with_reducible apply fk)<;>intro hc<;>try exact aK)|refine aC ?_|fail)
    refine⟨(),trivial,aj ?_⟩;repeat' first|apply And.intro|exact ay|fail
    all_goals try (conv=>whnf)
    refine fA ?_;cases xs with
    |nil=>simp at hk
    |cons x r=>rfl
  | succ k=>
    (conv=>whnf)
    intro _;repeat' ((conv=>whnf);first|with_reducible apply aG|((with_reducible apply fk)<;>intro hc<;>try exact aK)|(((with_reducible apply And.intro);focus (simp only[jS,List.length_take,uF,xA];omega)))|refine aC ?_|fail)
    refine⟨(),trivial,aj ?_⟩;repeat' first|apply And.intro|exact ay|fail
    all_goals try (conv=>whnf)
    refine fA ?_;rw[List.take_succ_eq_append_getElem hk,List.map_append];rfl
 intro _ _;rw[List.length_map];cases xs with
 | nil=>
   repeat' ((conv=>whnf);first|with_reducible apply aG|((with_reducible apply fk)<;>intro hc<;>try exact aK)|refine aC ?_|fail)
   all_goals exact ay
 | cons x r=>
   repeat' ((conv=>whnf);first|with_reducible apply aG|((with_reducible apply fk)<;>intro hc<;>try exact aK)|refine aC ?_|fail)
   repeat' first|apply And.intro|exact ay|fail
   all_goals try (conv=>whnf)
   rw[List.take_length];exact bP _
theorem O4:aQ prog 58 f58:=bU func58
theorem RV (f:FuncId)(aM:List PV)(xs:List Sp)(h:Qr prog f aM (xs.map fun n=>[.agg n.c]))(hl:xs.length≤1000000):bC prog 58 [.fn (.func f) [] aM] (slS xs):=by
 refine PC.le ?_;refine bM O4 ?_;repeat' ((conv=>whnf);first|with_reducible apply aG|((with_reducible apply fk)<;>intro hc<;>try exact aK)|(apply aH;refine⟨_,LH _ _ _ h hl,?_⟩)|refine aC ?_|fail)
 all_goals exact ay
structure IB (p:Pn):Prop where
 b:rR p
 r:xZ p
 f:∀c∈p.channels,0≤c.first
theorem IB.len {p:Pn}(h:IB p)(n sure:Int)(hs:0≤sure):(jb p n sure).length≤1000000:=by
 cases hh:nU p n with
 |false=>rw[(BX (sure:=sure) (o:=0) hh).2.1];simp
 |true=>have:=NI hh h.r (h.f _ (En hh)) hs;omega
theorem acp:aQ prog 26 f26:=bU func26
theorem RX (p:Pn)(n sure:Int)(h:IB p)(hs:0≤sure):bC prog 26 [.agg p.c,ii n,uu sure] (slS (jb p n sure)):=by
 refine PC.le ?_;refine bM acp ?_;repeat' ((conv=>whnf);first|with_reducible apply aG|((with_reducible apply fk)<;>intro hc<;>try exact aK)|(apply aH;refine⟨_,O1 p n sure,?_⟩)|(apply aH;refine⟨_,RV _ _ _ (O3 p n sure h.b h.r hs) (h.len n sure hs),?_⟩)|refine aC ?_|fail)
 all_goals exact ay
theorem Gn:aQ prog 49 f49:=bU func49
theorem VQ (p:Pn)(n sure:Int)(h:IB p)(hs:0≤sure):bC prog 49 [.agg p.c,ii n,uu sure] (uu (tL p n sure)):=by
 refine PC.le ?_;have cH:=LF p n h.b;cases hh:nU p n with
 | false=>
   rw[(BX (sure:=sure) (o:=0) hh).2.2];rw[hh] at cH;clear hh;refine bM Gn ?_;repeat' ((conv=>whnf);first|with_reducible apply aG|((with_reducible apply fk)<;>intro hc<;>try exact fO)|(apply aH;refine⟨_,cH,?_⟩)|refine aC ?_|fail)
   all_goals exact ay
 | true=>
   rw[hh] at cH;have cA:=RX p n sure h hs;have eL:tL p n sure=bV (aL p n).first (IntKind.u64.wrap (jb p n sure).length):=by unfold tL;rw[if_pos hh]
   rw[eL];have hb:=h.b.channels;obtain⟨i,hi,en,ec⟩:=qy (LG hh);have eI:IntKind.i64.wrap (n-1)=((i:Nat):Int):=by rw[aJ (by omega) (by omega)];omega
   have hr:=dx Ch.c p.channels i hi;rw[←ec] at hr;clear ec en hh eL;have eN:((List.map Sp.c (jb p n sure)).length:Int)=((jb p n sure).length:Int):=by rw[List.length_map]
   refine bM Gn ?_;repeat' ((conv=>whnf);first|with_reducible apply aG|((with_reducible apply fk)<;>intro hc<;>try exact fO)|rewrite[eN]|((rewrite[eI]))|((refine⟨_,hr,?_⟩))|(apply aH;refine⟨_,cH,?_⟩)|(apply aH;refine⟨_,cA,?_⟩)|refine aC ?_|fail)
   all_goals exact ay
theorem Ua:aQ prog 51 f51:=bU func51
theorem Zk (p:Pn)(n sure:Int)(h:IB p)(hs:0≤sure)(f:FuncId)(aM:List PV)(is:Sp→Bool)(hp:∀s,bC prog f ([]++([.agg s.c]++aM)) (bl (is s))) :
  bC prog 51 [.agg p.c,ii n,uu sure,.fn (.func f) [] aM] (.dn [.agg (zb p n sure is).1.c,ii (zb p n sure is).2]):=by
 refine PC.le ?_;have cH:=LF p n h.b;have hsq:=O3 p n sure h.b h.r hs;have cS:=O1 p n sure;cases hh:nU p n with
 | false=>
   have e:zb p n sure is=(sp0,1):=by unfold zb;rw[if_neg (by rw[hh];decide)]
   rw[e];rw[hh] at cH;clear hh e;refine bM Ua ?_;repeat' ((conv=>whnf);first|with_reducible apply aG|((with_reducible apply fk)<;>intro hc<;>try exact fO)|(apply aH;refine⟨_,cH,?_⟩)|refine aC ?_|fail)
   all_goals exact ay
 | true=>
   have eS:=fun s=>xG (sure:=sure) (is:=is) (s:=s) hh
   have eZ:=JK (sure:=sure) (is:=is) hh;rw[hh] at cH;clear hh;obtain⟨Z,hZ⟩:∃Z,Z=zb p n sure is:=⟨_,rfl⟩;rw[←hZ] at eS eZ ⊢;clear hZ;obtain⟨xs,hxs⟩:∃xs,xs=jb p n sure:=⟨_,rfl⟩;rw[←hxs] at hsq eS eZ;clear hxs;refine bM Ua ?_;repeat' ((conv=>whnf);first|with_reducible apply aG|((with_reducible apply fk)<;>intro hc<;>try exact fO)|(apply aH;refine⟨_,cH,?_⟩)|(apply aH;refine⟨_,cS,?_⟩)|refine aC ?_|fail)
   refine⟨_,_,_,hsq,Unit,fun k _=>∀j (hj:j<xs.length),j<k→is xs[j]=false,fun k _=>⟨[(7,.ptr 507 0),(8,.ptr 508 0),(9,.ptr 509 0),(19,.pv (.fn (.func 105) [] [.bJ p.c 0,.bJ [ii n] 0,.bJ [uu sure] 0]))],1000000000,[(507,.var [.pv (.fn (.func f) [] aM)]),(508,.var [.pv (uu 0),.pv (uu 0),.pv (uu 0)]),(509,.var [.pv (ii 0)])]⟩,⟨(),aj ?_⟩,fun _=>rfl,fun k _=>rfl,?_,?_⟩
   ·all_goals exact ay
   ·intro k y _ hy;have hk:k<xs.length:=by simpa using (List.getElem?_eq_some_iff.1 hy).1
    have TN:y=[.agg xs[k].c]:=by
     have:=(List.getElem?_eq_some_iff.1 hy).2;simpa using this.symm
    subst TN;have cI:=hp xs[k]
    (conv=>whnf)
    intro hok;have hok2:∀j (hj:j<xs.length),j<k→is xs[j]=false:=fun j hj hjk=>hok (by omega) j hj hjk
    clear hok hy;cases hq:is xs[k] with
    | true=>
      have hf:xs.find? is=some xs[k]:=by
       rw[List.find?_eq_some_iff_getElem];exact⟨hq,k,hk,rfl,fun j hj=>by rw[hok2 j (by omega) hj];rfl⟩
      have e:=eS _ hf;rw[hq] at cI;clear hok2 hq hf eS eZ;subst e;repeat' ((conv=>whnf);first|with_reducible apply aG|((with_reducible apply fk)<;>intro hc<;>try exact fO)|(apply aH;refine⟨_,cI,?_⟩)|refine aC ?_|fail)
      all_goals exact ay
    | false=>
      rw[hq] at cI;have hg:∀j (hj:j<xs.length),j<k+1→is xs[j]=false:=gH hok2 fun _=>hq
      clear hok2 hq;repeat' ((conv=>whnf);first|with_reducible apply aG|((with_reducible apply fk)<;>intro hc<;>try exact fO)|(apply aH;refine⟨_,cI,?_⟩)|refine aC ?_|fail)
      refine⟨(),hg,aj ?_⟩;all_goals exact ay
   intro _ hok;rw[List.length_map] at hok ⊢;have hf:xs.find? is=none:=by
    rw[List.find?_eq_none];intro s hs2;obtain⟨j,hj,rfl⟩:=List.getElem_of_mem hs2;rw[hok (by omega) j hj hj];decide
   have e:=eZ hf;clear hok hf eS eZ;subst e;repeat' ((conv=>whnf);first|with_reducible apply aG|((with_reducible apply fk)<;>intro hc<;>try exact fO)|refine aC ?_|fail)
   all_goals exact ay
theorem VR:aQ prog 52 f52:=bU func52
theorem Zl (o:Int)(s:Sp):bC prog 52 ([]++([.agg s.c]++[.bJ [uu o] 0])) (bl (s.offset==o)):=by
 refine PC.le ?_;refine bM VR ?_;repeat' ((conv=>whnf);first|with_reducible apply aG|((with_reducible apply fk)<;>intro hc<;>try exact aK)|refine aC ?_|fail)
 all_goals exact ay
theorem Zm:aQ prog 23 f23:=bU func23
theorem Bh (p:Pn)(n sure o:Int)(h:IB p)(hs:0≤sure):bC prog 23 [.agg p.c,ii n,uu sure,uu o] (.dn [.agg (qm p n sure o).1.c,ii (qm p n sure o).2]):=by
 refine PC.le ?_;refine bM Zm ?_;repeat' ((conv=>whnf);first|with_reducible apply aG|((with_reducible apply fk)<;>intro hc<;>try exact aK)|(apply aH;refine⟨_,Zk p n sure h hs _ _ (fun s=>s.offset==o) (Zl o),?_⟩)|refine aC ?_|fail)
 all_goals exact ay
theorem Zn:aQ prog 100 f100:=bU func100
theorem acr (l k:Int)(s:Sp):bC prog 100 ([]++([.agg s.c]++[.bJ [uu l] 0,.bJ [uu k] 0])) (bl (s.aY==l&&s.n==k)):=by
 refine PC.le ?_;refine bM Zn ?_;repeat' ((conv=>whnf);first|with_reducible apply aG|((with_reducible apply fk)<;>intro hc<;>try exact aK)|refine aC ?_|fail)
 all_goals
  repeat' first|apply And.intro|exact ay|fail
  all_goals try (conv=>whnf)
  simp only[*,Bool.true_and,Bool.false_and]
theorem acs:aQ prog 48 f48:=bU func48
theorem afs (p:Pn)(n sure l k:Int)(h:IB p)(hs:0≤sure):bC prog 48 [.agg p.c,ii n,uu sure,uu l,uu k] (.dn [uu (abh p n sure l k).1,ii (abh p n sure l k).2]):=by
 refine PC.le ?_;refine bM acs ?_;repeat' ((conv=>whnf);first|with_reducible apply aG|((with_reducible apply fk)<;>intro hc<;>try exact aK)|(apply aH;refine⟨_,Zk p n sure h hs _ _ (fun s=>s.aY==l&&s.n==k) (acr l k),?_⟩)|refine aC ?_|fail)
 all_goals exact ay
theorem zC:aQ prog 50 f50:=bU func50
theorem VS (a b:List Int):bC prog 50 [l8 a,l8 b] (bl (decide (a=b))):=by
 refine PC.le (jK zC fun hbd=>?_);have hba:a.length≤9223372036854775807:=by have:=hbd.1;simpa[xY,l8] using this
 have ea:((List.map bR a).length:Int)=(a.length:Int):=by rw[List.length_map]
 have eb:((List.map bR b).length:Int)=(b.length:Int):=by rw[List.length_map]
 by_cases hl:a.length=b.length
 case neg=>
  have d0:((a.length:Int) != (b.length:Int))=true:=by simp;omega
  have e:decide (a=b)=false:=by simp only[kQ];intro e;subst e;exact hl rfl
  rw[e];refine bM zC ?_;repeat' ((conv=>whnf);first|with_reducible apply aG|((with_reducible apply fk)<;>intro hc<;>try exact aK)|rewrite[ea]|rewrite[eb]|refine aC ?_|fail)
  all_goals exact ay
 have d0:((a.length:Int) != (b.length:Int))=false:=by simp;omega
 have Mq:Hd (a.length=b.length):=⟨hl⟩;clear hl;refine bM zC ?_;repeat' ((conv=>whnf);first|with_reducible apply aG|((with_reducible apply fk)<;>intro hc<;>try exact aK)|rewrite[ea]|rewrite[eb]|refine aC ?_|fail)
 refine⟨{k:Nat // k≤a.length∧∀j (hj:j<a.length),j<k→a[j]=b[j]'(by have:=Mq.out;omega)},fun⟨k,_⟩=>⟨[(0,.pv (l8 a)),(1,.pv (l8 b)),(5,.pv (ii k))],1000000000,[]⟩,fun⟨k,_⟩=>a.length-k,⟨⟨0,by simp⟩,aj ?_⟩,?_⟩
 ·all_goals exact ay
 rintro⟨k,hk,hn⟩
 by_cases hlt:k<a.length
 ·have d1:decide ((k:Int)<(a.length:Int))=true:=by simp only[gQ];omega
  have eW:IntKind.i64.wrap ((k:Int)+1)=((k+1:Nat):Int):=by rw[aJ (by omega) (by omega)];omega
  have r1:=dx bR a k hlt;have r2:=dx bR b k (by have:=Mq.out;omega);by_cases hq:a[k]=b[k]'(by have:=Mq.out;omega)
  ·have hg:∀j (hj:j<a.length),j<k+1→a[j]=b[j]'(by have:=Mq.out;omega):=by
    intro j hj hjk;rcases Nat.lt_succ_iff_lt_or_eq.1 hjk with hj'|rfl
    ·exact hn j hj hj'
    exact hq
   rw[←hq] at r2;clear hq;repeat' ((conv=>whnf);first|with_reducible apply aG|((with_reducible apply fk)<;>intro hc<;>try exact fO)|rewrite[ea]|((refine⟨_,r1,?_⟩))|((refine⟨_,r2,?_⟩))|refine aC ?_|fail)
   all_goals first
    |(exfalso;simp at hc;done)
    | (refine⟨⟨k+1,hlt,hg⟩,dec_lt hlt,aj ?_⟩
       (repeat' first|apply And.intro|exact ay|fail);(all_goals try (conv=>whnf))
       all_goals exact eW)
  have e:decide (a=b)=false:=by
   simp only[kQ];intro e;subst e;exact hq rfl
  rw[e];repeat' ((conv=>whnf);first|with_reducible apply aG|((with_reducible apply fk)<;>intro hc<;>try exact fO)|rewrite[ea]|((refine⟨_,r1,?_⟩))|((refine⟨_,r2,?_⟩))|refine aC ?_|fail)
  all_goals first
   |(exact absurd (Go.AX.Int.aeR _ _ hc) hq)
   |((repeat' first|apply And.intro|exact ay|fail);(all_goals try (conv=>whnf));done)
 have d1:decide ((k:Int)<(a.length:Int))=false:=by simp only[kQ];omega
 have e:decide (a=b)=true:=by
  simp only[gQ];exact List.ext_getElem Mq.out fun j h1 h2=>hn j h1 (by omega)
 rw[e];repeat' ((conv=>whnf);first|with_reducible apply aG|((with_reducible apply fk)<;>intro hc<;>try exact fO)|rewrite[ea]|refine aC ?_|fail)
 all_goals exact ay
theorem Co:aQ prog 28 f28:=bU func28
theorem Zo (a b:List Sp):bC prog 28 [slS a,slS b] (bl (decide (a=b))):=by
 refine PC.le (jK Co fun hbd=>?_);have hba:a.length≤9223372036854775807:=by have:=hbd.1;simpa[xY,slS] using this
 have ea:((List.map Sp.c a).length:Int)=(a.length:Int):=by rw[List.length_map]
 have eb:((List.map Sp.c b).length:Int)=(b.length:Int):=by rw[List.length_map]
 by_cases hl:a.length=b.length
 case neg=>
  have d0:((a.length:Int) != (b.length:Int))=true:=by simp;omega
  have e:decide (a=b)=false:=by simp only[kQ];intro e;subst e;exact hl rfl
  rw[e];refine bM Co ?_;repeat' ((conv=>whnf);first|with_reducible apply aG|((with_reducible apply fk)<;>intro hc<;>try exact aK)|rewrite[ea]|rewrite[eb]|refine aC ?_|fail)
  all_goals exact ay
 have d0:((a.length:Int) != (b.length:Int))=false:=by simp;omega
 have Mq:Hd (a.length=b.length):=⟨hl⟩;clear hl;refine bM Co ?_;repeat' ((conv=>whnf);first|with_reducible apply aG|((with_reducible apply fk)<;>intro hc<;>try exact aK)|rewrite[ea]|rewrite[eb]|refine aC ?_|fail)
 refine⟨{k:Nat // k≤a.length∧∀j (hj:j<a.length),j<k→a[j]=b[j]'(by have:=Mq.out;omega)},fun⟨k,_⟩=>⟨[(0,.pv (slS a)),(1,.pv (slS b)),(5,.pv (ii k))],1000000000,[]⟩,fun⟨k,_⟩=>a.length-k,⟨⟨0,by simp⟩,aj ?_⟩,?_⟩
 ·all_goals exact ay
 rintro⟨k,hk,hn⟩
 by_cases hlt:k<a.length
 ·have d1:decide ((k:Int)<(a.length:Int))=true:=by simp only[gQ];omega
  have eW:IntKind.i64.wrap ((k:Int)+1)=((k+1:Nat):Int):=by rw[aJ (by omega) (by omega)];omega
  have r1:=dx Sp.c a k hlt;have r2:=dx Sp.c b k (by have:=Mq.out;omega);by_cases hq:a[k]=b[k]'(by have:=Mq.out;omega)
  ·have hg:∀j (hj:j<a.length),j<k+1→a[j]=b[j]'(by have:=Mq.out;omega):=by
    intro j hj hjk;rcases Nat.lt_succ_iff_lt_or_eq.1 hjk with hj'|rfl
    ·exact hn j hj hj'
    exact hq
   rw[←hq] at r2;clear hq;repeat' ((conv=>whnf);first|with_reducible apply aG|((with_reducible apply fk)<;>intro hc<;>try exact fO)|rewrite[ea]|((refine⟨_,r1,?_⟩))|((refine⟨_,r2,?_⟩))|refine aC ?_|fail)
   all_goals first
    |(exfalso;simp at hc;done)
    | (refine⟨⟨k+1,hlt,hg⟩,dec_lt hlt,aj ?_⟩
       (repeat' first|apply And.intro|exact ay|fail);(all_goals try (conv=>whnf))
       all_goals exact eW)
  have e:decide (a=b)=false:=by
   simp only[kQ];intro e;subst e;exact hq rfl
  rw[e];repeat' ((conv=>whnf);first|with_reducible apply aG|((with_reducible apply fk)<;>intro hc<;>try exact fO)|rewrite[ea]|((refine⟨_,r1,?_⟩))|((refine⟨_,r2,?_⟩))|refine aC ?_|fail)
  all_goals first
   |(exact absurd (Go.AX.Sp.aeR _ _ hc) hq)
   |((repeat' first|apply And.intro|exact ay|fail);(all_goals try (conv=>whnf));done)
 have d1:decide ((k:Int)<(a.length:Int))=false:=by simp only[kQ];omega
 have e:decide (a=b)=true:=by
  simp only[gQ];exact List.ext_getElem Mq.out fun j h1 h2=>hn j h1 (by omega)
 rw[e];repeat' ((conv=>whnf);first|with_reducible apply aG|((with_reducible apply fk)<;>intro hc<;>try exact fO)|rewrite[ea]|refine aC ?_|fail)
 all_goals exact ay
theorem O5:aQ prog 25 f25:=bU func25
theorem Ub (p:Pn)(n:Int)(h:IB p):bC prog 25 [.agg p.c,ii n] (.dn [l8 (jB p n).1,uu (jB p n).2.1,uu (jB p n).2.2]):=by
 refine PC.le ?_;have cH:=LF p n h.b;cases hh:nU p n with
 | false=>
   have e:jB p n=([],0,0):=by unfold jB;rw[if_neg (by rw[hh];decide)]
   rw[e];rw[hh] at cH;clear hh e;refine bM O5 ?_;repeat' ((conv=>whnf);first|with_reducible apply aG|((with_reducible apply fk)<;>intro hc<;>try exact fO)|(apply aH;refine⟨_,cH,?_⟩)|refine aC ?_|fail)
   all_goals exact ay
 | true=>
   have hsq:=T9 p n h.b (LG hh);obtain⟨X,hX⟩:∃X,X=jB p n:=⟨_,rfl⟩;rw[←hX];unfold jB at hX;rw[if_pos hh] at hX;rw[hh] at cH;have hb:=h.b.channels;obtain⟨i,hi,en,ec⟩:=qy (LG hh);have eI:IntKind.i64.wrap (n-1)=((i:Nat):Int):=by rw[aJ (by omega) (by omega)];omega
   have hr:=dx Ch.c p.channels i hi;have hcb:=h.b.ch _ (List.getElem_mem hi);rw[←ec] at hr hcb;clear ec en hh;obtain⟨x,hx⟩:∃x,x=aL p n:=⟨_,rfl⟩;rw[←hx] at hr hcb hX hsq;clear hx;have hbl:=hcb.af;have cL:=TY p n;refine bM O5 ?_;repeat' ((conv=>whnf);first|with_reducible apply aG|((with_reducible apply fk)<;>intro hc<;>try exact fO)|((rewrite[eI]))|((refine⟨_,hr,?_⟩))|(apply aH;refine⟨_,cH,?_⟩)|(apply aH;refine⟨_,cL,?_⟩)|refine aC ?_|fail)
   refine⟨_,_,_,hsq,Unit,fun k _=>lY p x.trim (mE p x.af k) (vT p x.first x.af k) (x.af.drop k)=X,fun k _=>match k with
    |0=>⟨[(2,.ptr 502 0),(3,.ptr 503 0),(4,.ptr 504 0),(5,.ptr 505 0),(6,.ptr 506 0),(22,.pv (.fn (.func 103) [] [.bJ p.c 0,.bJ [ii n] 0]))],1000000000,[(502,.var (p.c.map .pv)),(503,.var [.pv (ii n)]),(504,.var [.pv Im]),(505,.var [.pv (uu 0)]),(506,.var [.pv (uu x.first)])]⟩
    |k+1=>⟨[(2,.ptr 502 0),(3,.ptr 503 0),(4,.ptr 504 0),(5,.ptr 505 0),(6,.ptr 506 0),(22,.pv (.fn (.func 103) [] [.bJ p.c 0,.bJ [ii n] 0]))],1000000000,[(502,.var (p.c.map .pv)),(503,.var [.pv (ii n)]),(504,.var [.aB 1504 0]),(505,.var [.pv (uu 0)]),(506,.var [.pv (uu (vT p x.first x.af (k+1)))]),(1504,.arr 23 0 1 ((mE p x.af (k+1)).map bR))]⟩,⟨(),aj ?_⟩,fun _=>rfl,fun k _=>by cases k<;>rfl,?_,?_⟩
   ·all_goals exact ay
   ·intro k y _ hy;have hk:k<x.af.length:=by
     have:=(List.getElem?_eq_some_iff.1 hy).1;rw[List.length_map,oL] at this;exact this
    have TN:y=[uu (vT p x.first x.af k),.agg (aW p x.af[k]).c]:=by
     have:=(List.getElem?_eq_some_iff.1 hy).2;rw[List.getElem_map,BZ] at this;exact this.symm
    subst TN;clear hy hsq cH cL;have eU:∀a b:Int,IntKind.u64.wrap (a+b)=bV a b:=fun _ _=>rfl
    cases k with
    | zero=>
      (conv=>whnf)
      intro hok;have hst:lY p x.trim (mE p x.af 0) (vT p x.first x.af 0) (x.af.drop 0)=X:=by rw[pI];exact hX.symm
      have hS:=fun hq=>FO (p:=p) (trim:=x.trim) (a:=vT p x.first x.af 0) (acc:=mE p x.af 0) (ids:=x.af) (k:=0) hk hq
      have hA:=Ar p x.first x.af 0 hk
      have hG:=FN p x.af 0 hk;have hGl:=JL p x.af 0;have hN:((aW p x.af[0]).closed==0||decide (bV (vT p x.first x.af 0) (aW p x.af[0]).last>x.trim))=false→lY p x.trim (mE p x.af (0+1)) (vT p x.first x.af (0+1)) (x.af.drop (0+1))=X:=fun hq=>by rw[hG,hA];exact (FQ hk hq).symm.trans hst
      rw[hst] at hS;have hAs:Hd (bV (vT p x.first x.af 0) (aW p x.af[0]).last=vT p x.first x.af (0+1)):=⟨hA.symm⟩;have hGs:Hd ((mE p x.af 0).map bR++[bR (aW p x.af[0]).id]=(mE p x.af (0+1)).map bR):=⟨by rw[hG,List.map_append];rfl⟩;clear hst hA hG hX hok;rw[pI] at hS hAs hN;rw[pI];have eA:vT p x.first x.af 0=x.first:=pI p _ _
      obtain⟨l,hl⟩:∃l,l=aW p x.af[0]:=⟨_,rfl⟩;rw[←hl] at hS hN hAs hGs ⊢;clear hl;clear eA;cases hq:(l.closed==0) with
      | true=>
        have e:=hS (by rw[hq];rfl);clear hS hN;subst e;repeat' ((conv=>whnf);first|with_reducible apply aG|((with_reducible apply fk)<;>intro hc<;>try exact fO)|((rewrite[eI]))|((refine⟨_,hr,?_⟩))|refine aC ?_|fail)
        all_goals exact ay
      | false=>
        cases hq2:decide (bV x.first l.last>x.trim) with
        | true=>
          have e:=hS (by rw[hq,hq2];rfl);clear hS hN;subst e;repeat' ((conv=>whnf);first|with_reducible apply aG|((with_reducible apply fk)<;>intro hc<;>try exact fO)|((rewrite[eI]))|rewrite[eU]|((refine⟨_,hr,?_⟩))|refine aC ?_|fail)
          all_goals exact ay
        | false=>
          have e:=hN (by rw[hq,hq2];rfl);clear hS hN;repeat' ((conv=>whnf);first|with_reducible apply aG|((with_reducible apply fk)<;>intro hc<;>try exact fO)|((rewrite[eI]))|rewrite[eU]|((refine⟨_,hr,?_⟩))|(((with_reducible apply And.intro);focus (simp only[jS,uF,xA];omega)))|refine aC ?_|fail)
          refine⟨(),e,aj ?_⟩;repeat' first|apply And.intro|exact ay|fail
          all_goals try (conv=>whnf)
          all_goals first
           |exact hAs.out
           |exact fA hGs.out
           |trace_state
    | succ k=>
      (conv=>whnf)
      intro hok;have hst:lY p x.trim (mE p x.af (k+1)) (vT p x.first x.af (k+1)) (x.af.drop (k+1))=X:=hok (by omega);have hS:=fun hq=>FO (p:=p) (trim:=x.trim) (a:=vT p x.first x.af (k+1)) (acc:=mE p x.af (k+1)) (ids:=x.af) (k:=(k+1)) hk hq
      have hA:=Ar p x.first x.af (k+1) hk
      have hG:=FN p x.af (k+1) hk;have hGl:=JL p x.af (k+1);have hN:((aW p x.af[(k+1)]).closed==0||decide (bV (vT p x.first x.af (k+1)) (aW p x.af[(k+1)]).last>x.trim))=false→lY p x.trim (mE p x.af ((k+1)+1)) (vT p x.first x.af ((k+1)+1)) (x.af.drop ((k+1)+1))=X:=fun hq=>by rw[hG,hA];exact (FQ hk hq).symm.trans hst
      rw[hst] at hS;have hAs:Hd (bV (vT p x.first x.af (k+1)) (aW p x.af[(k+1)]).last=vT p x.first x.af ((k+1)+1)):=⟨hA.symm⟩;have hGs:Hd ((mE p x.af (k+1)).map bR++[bR (aW p x.af[(k+1)]).id]=(mE p x.af ((k+1)+1)).map bR):=⟨by rw[hG,List.map_append];rfl⟩;clear hst hA hG hX hok;obtain⟨l,hl⟩:∃l,l=aW p x.af[(k+1)]:=⟨_,rfl⟩;rw[←hl] at hS hN hAs hGs ⊢;clear hl;cases hq:(l.closed==0) with
      | true=>
        have e:=hS (by rw[hq];rfl);clear hS hN;subst e;repeat' ((conv=>whnf);first|with_reducible apply aG|((with_reducible apply fk)<;>intro hc<;>try exact fO)|((rewrite[eI]))|((refine⟨_,hr,?_⟩))|refine aC ?_|fail)
        all_goals exact ay
      | false=>
        cases hq2:decide (bV (vT p x.first x.af (k+1)) l.last>x.trim) with
        | true=>
          have e:=hS (by rw[hq,hq2];rfl);clear hS hN;subst e;repeat' ((conv=>whnf);first|with_reducible apply aG|((with_reducible apply fk)<;>intro hc<;>try exact fO)|((rewrite[eI]))|rewrite[eU]|((refine⟨_,hr,?_⟩))|refine aC ?_|fail)
          all_goals exact ay
        | false=>
          have e:=hN (by rw[hq,hq2];rfl);clear hS hN;repeat' ((conv=>whnf);first|with_reducible apply aG|((with_reducible apply fk)<;>intro hc<;>try exact fO)|((rewrite[eI]))|rewrite[eU]|((refine⟨_,hr,?_⟩))|(((with_reducible apply And.intro);focus (simp only[jS,uF,xA];omega)))|refine aC ?_|fail)
          refine⟨(),e,aj ?_⟩;repeat' first|apply And.intro|exact ay|fail
          all_goals try (conv=>whnf)
          all_goals first
           |exact hAs.out
           |exact fA hGs.out
           |trace_state
   intro _ hok;rw[List.length_map,oL] at hok ⊢;obtain⟨m,hm⟩:∃m,m=x.af.length:=⟨_,rfl⟩;have hXe:X=(mE p x.af m,0,vT p x.first x.af m):=by
    rw[hm];cases hx0:x.af.length with
    | zero=>
      have e0:x.af=[]:=List.eq_nil_of_length_eq_zero hx0;rw[hX,e0];rfl
    | succ q=>
      have:=hok (by omega);rw[hx0] at this;rw[←this,show x.af.drop (q+1)=[] from by rw[←hx0];exact List.drop_length,lY]
   clear hok hX;subst hXe;rw[←hm];cases m with
   | zero=>
     rw[pI];repeat' ((conv=>whnf);first|with_reducible apply aG|((with_reducible apply fk)<;>intro hc<;>try exact fO)|refine aC ?_|fail)
     all_goals exact ay
   | succ q=>
     repeat' ((conv=>whnf);first|with_reducible apply aG|((with_reducible apply fk)<;>intro hc<;>try exact fO)|refine aC ?_|fail)
     all_goals exact ay
theorem LJ:aQ prog 99 f99:=bU func99
theorem O6 (id last is:Int):bC prog 99 [uu id,uu last,ii is] (.agg (exL id last is).c):=by
 refine PC.le ?_;refine bM LJ ?_;repeat' ((conv=>whnf);first|with_reducible apply aG|((with_reducible apply fk)<;>intro hc<;>try exact aK)|refine aC ?_|fail)
 all_goals exact ay
theorem Zp:aQ prog 47 f47:=bU func47
theorem acu:bC prog 47 [] (.agg FR.c):=by
 refine PC.le ?_;refine bM Zp ?_;repeat' ((conv=>whnf);first|with_reducible apply aG|((with_reducible apply fk)<;>intro hc<;>try exact aK)|(apply aH;refine⟨_,O6 _ _ _,?_⟩)|refine aC ?_|fail)
 all_goals exact ay
theorem Cq:IB FR:=⟨aha,ahb,ahc⟩
theorem O7:aQ prog 21 f21:=bU func21
theorem cB:bC prog 21 [] (bl true):=by
 refine PC.le ?_;have c1:=Bh FR 1 1 11 Cq (by decide);have c2:=Bh FR 1 1 12 Cq (by decide);have c3:=Bh FR 1 1 13 Cq (by decide);have c4:=afs FR 1 1 7 1 Cq (by decide);have c5:=Ub FR 1 Cq;have c6:=VQ FR 1 1 Cq (by decide);have c7:=VS [3,5] [3,5];rw[Ra] at c1;rw[Rb] at c2;rw[Rc] at c3;rw[abq] at c4;rw[Yr] at c5;rw[abr] at c6;refine bM O7 ?_;repeat' ((conv=>whnf);first|with_reducible apply aG|((with_reducible apply fk)<;>intro hc<;>try exact aK)|(apply aH;refine⟨_,acu,?_⟩)|(apply aH;refine⟨_,c1,?_⟩)|(apply aH;refine⟨_,c2,?_⟩)|(apply aH;refine⟨_,c3,?_⟩)|(apply aH;refine⟨_,c4,?_⟩)|(apply aH;refine⟨_,c5,?_⟩)|(apply aH;refine⟨_,c6,?_⟩)|(apply aH;refine⟨_,tC (c7) ?_,?_⟩;exact rG)|refine aC ?_|fail)
 all_goals exact ay
theorem nQ:aQ prog 8 f8:=bU func8
theorem aah {p:Pn}(h:gB p):IB p:=⟨h.Iu,h.xZ,fun c hc=>(h.ch c hc).2.2.1⟩
theorem Sw {p:Pn}{l:List bg}{k:Nat}(h:k<l.length):gX p (l.take (k+1))=(ic (gX p (l.take k)) l[k]).1:=by
 rw[List.take_succ_eq_append_getElem h];unfold gX;rw[List.foldl_append];rfl
theorem Sp.aai (x:Sp):((x.offset==x.offset)&&((x.aY==x.aY)&&(x.n==x.n)))=true:=by simp
theorem Sy (n:Int)(l more:List bg)(ch sure off:Int)(h0:∀z∈l,0≤z.at_)(hm0:∀z∈more,0≤z.at_)(hs:0≤sure):bC prog 8 [ii n,slO l,slO more,ii ch,uu sure,uu off] (bl true):=by
 refine PC.le ?_;have cP:=PK n l h0;cases hp:Ho n l with
 | none=>
   rw[hp] at cP;simp only[Option.getD_none,Option.isSome_none] at cP;clear hp;refine bM nQ ?_;repeat' ((conv=>whnf);first|with_reducible apply aG|((with_reducible apply fk)<;>intro hc<;>try exact aK)|(apply aH;refine⟨_,cP,?_⟩)|(apply aH;refine⟨_,cB,?_⟩)|refine aC ?_|fail)
   all_goals exact ay
 |some p=>
 rw[hp] at cP;simp only[Option.getD_some,Option.isSome_some] at cP;have hok:=PL hp h0;clear hp;cases hlm:decide (((more.map bg.c).length:Int)>80) with
 | true=>
   clear hok;refine bM nQ ?_;repeat' ((conv=>whnf);first|with_reducible apply aG|((with_reducible apply fk)<;>intro hc<;>try exact aK)|(apply aH;refine⟨_,cP,?_⟩)|(apply aH;refine⟨_,cB,?_⟩)|refine aC ?_|fail)
   all_goals exact ay
 |false=>
 cases hc1:decide (ch<1) with
 | true=>
   clear hok;refine bM nQ ?_;repeat' ((conv=>whnf);first|with_reducible apply aG|((with_reducible apply fk)<;>intro hc<;>try exact aK)|(apply aH;refine⟨_,cP,?_⟩)|(apply aH;refine⟨_,cB,?_⟩)|refine aC ?_|fail)
   all_goals exact ay
 |false=>
 cases hc2:decide (ch>((p.channels.map Ch.c).length:Int)) with
 | true=>
   clear hok;refine bM nQ ?_;repeat' ((conv=>whnf);first|with_reducible apply aG|((with_reducible apply fk)<;>intro hc<;>try exact aK)|(apply aH;refine⟨_,cP,?_⟩)|(apply aH;refine⟨_,cB,?_⟩)|refine aC ?_|fail)
   all_goals exact ay
 |false=>
 have hml:more.length≤80:=by simp only[jS,kQ] at hlm;omega
 have hn:dM p ch=true:=by
  simp only[jS,kQ] at hc1 hc2;unfold dM;simp only[Bool.and_eq_true,gQ];omega
 have cO:=LD p ch hok.Iu;replace hm0:=Hd.mk hm0;replace hok:=Hd.mk hok;replace hn:=Hd.mk hn;obtain⟨xo,hxo⟩:∃x,x=(fK p ch).getD Ip:=⟨_,rfl⟩;obtain⟨ob,Ml⟩:∃x,x=(fK p ch).isSome:=⟨_,rfl⟩;rw[←hxo,←Ml] at cO;replace hxo:=Hd.mk hxo;replace Ml:=Hd.mk Ml;refine bM nQ ?_;repeat' ((conv=>whnf);first|with_reducible apply aG|((with_reducible apply fk)<;>intro hc<;>try exact aK)|(apply aH;refine⟨_,cP,?_⟩)|(apply aH;refine⟨_,cO,?_⟩)|refine aC ?_|fail)
 refine⟨{k:Nat // k≤more.length},fun⟨k,_⟩=>⟨[(2,.pv (slO more)),(3,.pv (ii ch)),(4,.pv (uu sure)),(5,.pv (uu off)),(13,.ptr 1013 0),(15,.ptr 1015 0),(16,.pv (bl ob)),(17,.ptr 1017 0),(18,.pv (ii k))],1000000000,[(1013,.var (p.c.map .pv)),(1015,.var (xo.c.map .pv)),(1017,.var ((gX p (more.take k)).c.map .pv))]⟩,fun⟨k,_⟩=>more.length-k,⟨⟨0,Nat.zero_le _⟩,aj ?_⟩,?_⟩
 ·all_goals exact ay
 rintro⟨k,hk⟩
 dsimp only
 clear cP cO hlm;by_cases hlt:k<more.length
 ·have d0:decide ((k:Int)<((more.map bg.c).length:Int))=true:=by simp only[jS,gQ];omega
  have eW:IntKind.i64.wrap ((k:Int)+1)=((k+1:Nat):Int):=by rw[aJ (by omega) (by omega)];omega
  have hr:=dx bg.c more k hlt;have hq:gB (gX p (more.take k)):=AP hok.out fun o ho=>hm0.out o (List.mem_of_mem_take ho)
  have hst:=Sw (p:=p) hlt;have cL:=Kj more[k];cases hlo:l7 more[k] with
  | true=>
    rw[hlo] at cL;clear hst hq hlo;generalize more[k]=m at *;generalize gX p (more.take k)=q at *;clear hml;repeat' ((conv=>whnf);first|with_reducible apply aG|((with_reducible apply fk)<;>intro hc<;>try exact aK)|((refine⟨_,hr,?_⟩))|(apply aH;refine⟨_,cL,?_⟩)|(apply aH;refine⟨_,cB,?_⟩)|(refine sF ?_)|refine aC ?_|fail)
    all_goals exact ay
  | false=>
    rw[hlo] at cL;have cA:=Mf hq (aag hlo);rw[←hst] at cA;clear hst hq hlo;generalize (ic (gX p (more.take k)) more[k]).2=out at *;generalize more[k]=m at *;generalize afJ:gX p (more.take (k+1))=q2 at *;replace afJ:=Hd.mk afJ;generalize gX p (more.take k)=q at *;clear hml;repeat' ((conv=>whnf);first|with_reducible apply aG|((with_reducible apply fk)<;>intro hc<;>try exact aK)|((refine⟨_,hr,?_⟩))|(apply aH;refine⟨_,cL,?_⟩)|(apply aH;refine⟨_,cA,?_⟩)|(refine sF ?_)|refine aC ?_|fail)
    refine⟨⟨k+1,hlt⟩,dec_lt hlt,aj ?_⟩;dsimp only
    rw[afJ.out];repeat' first|apply And.intro|exact ay|fail
    all_goals try (conv=>whnf)
    all_goals exact eW
 have hke:k=more.length:=by omega
 subst hke;have d0:decide ((more.length:Int)<((more.map bg.c).length:Int))=false:=by simp
 rw[List.take_length];have hq:gB (gX p more):=AP hok.out hm0.out;have hon:wB p (gX p more):=TK hok.out hm0.out;have hst:Vu p (gX p more):=TP hok.out hm0.out;generalize gX p more=q at *;have hnq:dM q ch=true:=by have:=hn.out;unfold dM at this ⊢;rw[hst.len];exact this
 obtain⟨i,hi,en,ec⟩:=qy hnq;have hqc:=hq.c2;have eI:IntKind.i64.wrap (ch-1)=((i:Nat):Int):=by rw[aJ (by omega) (by omega)];omega
 have hrw:=dx Ch.c q.channels i hi;rw[←ec] at hrw;have cF:=Bh p ch sure off (aah hok.out) hs;have cG:=Bh q ch sure off (aah hq) hs;have yP:=@Oe p q hok.out hq hst hon ch sure off hn.out hs;have hqB:=hq.Iu;clear hlt hk hml hm0 en ec hnq hst hon hq hqc hc1 hc2;obtain⟨⟨s,e⟩,hse⟩:∃x,x=qm p ch sure off:=⟨_,rfl⟩;rw[←hse] at cF;rw[←hse] at yP;dsimp only at cF
 clear hse;cases b1:(e != 0) with
 | true=>
   clear yP cG;repeat' ((conv=>whnf);first|with_reducible apply aG|((with_reducible apply fk)<;>intro hc<;>try exact aK)|(apply aH;refine⟨_,cF,?_⟩)|(apply aH;refine⟨_,cB,?_⟩)|refine aC ?_|fail)
   all_goals exact ay
 |false=>
 have e0:e=0:=by simpa using b1
 subst e0;have yP:=fun h2 h3=>@yP s rfl h2 h3
 obtain⟨fst,PN⟩:∃x,x=(aL q ch).first:=⟨_,rfl⟩
 have Sz:(List.map Ch.c q.channels)[((i:Nat):Int).toNat]? = some [uu (aL q ch).aU,ii (aL q ch).owner,uu (aL q ch).inc,uu (aL q ch).eY,uu fst,uu (aL q ch).trim,l8 (aL q ch).af,rP (aL q ch).seen,Hr (aL q ch).au]:=by rw[hrw,PN];rfl
 rw[←PN] at yP;clear hrw PN;cases b2:decide (off<fst) with
 | true=>
   clear yP cG;repeat' ((conv=>whnf);first|with_reducible apply aG|((with_reducible apply fk)<;>intro hc<;>try exact aK)|((rewrite[eI]))|((refine⟨_,Sz,?_⟩))|(apply aH;refine⟨_,cF,?_⟩)|(apply aH;refine⟨_,cB,?_⟩)|(refine sF ?_)|refine aC ?_|fail)
   all_goals exact ay
 |false=>
 have yP:=yP (by simpa using b2);have e1:=Sp.aai s;have b9:((0:Int) != 0)=false:=rfl;have hfin:(∀x,fK p ch=some x→s.aY=x.id→∃y,aR q x.id=some y∧(y.closed=1→(if 8<sure then 8 else sure)≤y.last))→bC prog 23 [.agg q.c,ii ch,uu sure,uu off] (.dn [.agg s.c,ii 0]):=fun h=>by
  have:=yP h;rw[this] at cG;exact cG
 clear yP cG;cases hop:fK p ch with
 | none=>
   have hF:=hfin (fun x hx=>by rw[hop] at hx;cases hx);have afK:ob=false:=by rw[Ml.out,hop];rfl
   subst afK;clear hfin hop hxo Ml hqB;repeat' ((conv=>whnf);first|with_reducible apply aG|((with_reducible apply fk)<;>intro hc<;>try exact fO)|((rewrite[eI]))|((refine⟨_,Sz,?_⟩))|(apply aH;refine⟨_,cF,?_⟩)|(apply aH;refine⟨_,hF,?_⟩)|(apply aH;refine⟨_,cB,?_⟩)|(refine sF ?_)|refine aC ?_|fail)
   all_goals exact ay
 |some x=>
 have afK:ob=true:=by rw[Ml.out,hop];rfl
 have akm:xo=x:=by rw[hxo.out,hop];rfl
 subst afK akm;rw[hop] at hfin;clear hxo Ml hop;cases b3:(s.aY==xo.id) with
 | false=>
   have hF:=hfin (fun x hx e=>by
    have:=Option.some.inj hx;subst this;rw[e] at b3;simp at b3)
   clear hfin hqB;repeat' ((conv=>whnf);first|with_reducible apply aG|((with_reducible apply fk)<;>intro hc<;>try exact fO)|((rewrite[eI]))|((refine⟨_,Sz,?_⟩))|(apply aH;refine⟨_,cF,?_⟩)|(apply aH;refine⟨_,hF,?_⟩)|(apply aH;refine⟨_,cB,?_⟩)|(refine sF ?_)|refine aC ?_|fail)
   all_goals exact ay
 |true=>
 have cY:=xR q xo.id hqB;cases hy:aR q xo.id with
 | none=>
   have eF:aW q xo.id=Ip:=by unfold aW;rw[hy];rfl
   rw[eF,hy] at cY;simp only[Option.isSome_none] at cY;clear hfin hqB hy eF;repeat' ((conv=>whnf);first|with_reducible apply aG|((with_reducible apply fk)<;>intro hc<;>try exact fO)|((rewrite[eI]))|((refine⟨_,Sz,?_⟩))|(apply aH;refine⟨_,cF,?_⟩)|(apply aH;refine⟨_,cY,?_⟩)|(apply aH;refine⟨_,cB,?_⟩)|(refine sF ?_)|refine aC ?_|fail)
   all_goals exact ay
 |some y=>
 have eF:aW q xo.id=y:=by unfold aW;rw[hy];rfl
 rw[eF,hy] at cY;simp only[Option.isSome_some] at cY;rw[show (∀x,some xo=some x→s.aY=x.id→∃y,aR q x.id=some y∧(y.closed=1→(if 8<sure then 8 else sure)≤y.last))↔(s.aY=xo.id→∃y',aR q xo.id=some y'∧(y'.closed=1→(if 8<sure then 8 else sure)≤y'.last)) from ⟨fun h=>h xo rfl,fun h x hx=>by have:=Option.some.inj hx;subst this;exact h⟩,hy] at hfin;clear hqB eF hy;cases b4:(y.closed==1) with
 | false=>
   have hF:=hfin (fun _=>⟨y,rfl,fun e=>by rw[e] at b4;cases b4⟩);clear hfin;repeat' ((conv=>whnf);first|with_reducible apply aG|((with_reducible apply fk)<;>intro hc<;>try exact fO)|((rewrite[eI]))|((refine⟨_,Sz,?_⟩))|(apply aH;refine⟨_,cF,?_⟩)|(apply aH;refine⟨_,cY,?_⟩)|(apply aH;refine⟨_,hF,?_⟩)|(apply aH;refine⟨_,cB,?_⟩)|(refine sF ?_)|refine aC ?_|fail)
   all_goals exact ay
 |true=>
 obtain⟨mn,hmn⟩:∃m,m=(if 8<sure then (8:Int) else sure):=⟨_,rfl⟩;rw[←hmn] at hfin;cases b5:decide (y.last<mn) with
 | true=>
   clear hfin;rw[hmn] at b5;repeat' ((conv=>whnf);first|with_reducible apply aG|((with_reducible apply fk)<;>intro hc<;>try exact fO)|((rewrite[eI]))|((refine⟨_,Sz,?_⟩))|(apply aH;refine⟨_,cF,?_⟩)|(apply aH;refine⟨_,cY,?_⟩)|(apply aH;refine⟨_,cB,?_⟩)|(refine sF ?_)|refine aC ?_|fail)
   all_goals exact ay
 | false=>
   have hF:=hfin (fun _=>⟨y,rfl,fun _=>by simpa using b5⟩);clear hfin;rw[hmn] at b5;repeat' ((conv=>whnf);first|with_reducible apply aG|((with_reducible apply fk)<;>intro hc<;>try exact fO)|((rewrite[eI]))|((refine⟨_,Sz,?_⟩))|(apply aH;refine⟨_,cF,?_⟩)|(apply aH;refine⟨_,cY,?_⟩)|(apply aH;refine⟨_,hF,?_⟩)|(apply aH;refine⟨_,cB,?_⟩)|(refine sF ?_)|refine aC ?_|fail)
   all_goals exact ay
def plR (x:Pl):Prop:=KW x.node∧vQ x.dB
def frR (x:Fr):Prop:=vQ x.first∧∀p∈x.aN,plR p
def lgF (l:Lg):Prop:=vQ l.id∧KW l.w∧KW l.a∧KW l.closed∧vQ l.last∧∀f∈l.av,frR f
theorem lgF.r {l:Lg}(h:lgF l):lgR l:=⟨h.1,h.2.1,h.2.2.1,h.2.2.2.1,h.2.2.2.2.1,fun f hf=>(h.2.2.2.2.2 f hf).1⟩
def mkR (x:Mk):Prop:=KW x.producer∧vQ x.seq∧vQ x.offset
section
variable (w:World)
theorem WV:Rd prog w 3 1 (fun row=>∃i,row=[ii i]∧KW i):=
 (X7 underlying3 (by kernel_rfl)).imp fun row _ ⟨i,e,h⟩=>⟨i,e,wf_i64 h⟩
theorem WA:Rd prog w 23 1 (fun row=>∃i,row=[uu i]∧vQ i):=
 (X7 underlying23 (by kernel_rfl)).imp fun row _ ⟨i,e,h⟩=>⟨i,e,wf_u64 h⟩
theorem afL:Rd prog w 36 2 (fun row=>∃x:Pl,row=x.c∧plR x):=
 (xB (sp:=[(1,_),(1,_)]) underlying36 (by kernel_rfl) ⟨rfl,WV w,rfl,WA w,trivial⟩).imp fun row _ h=>by
  obtain⟨_,_,rfl,_,⟨i,rfl,hi⟩,_,_,rfl,_,⟨j,rfl,hj⟩,rfl⟩:=h;exact⟨⟨i,j⟩,rfl,hi,hj⟩
theorem aid:Rd prog w 78 1 (fun row=>∃l:List Pl,row=[xD l]∧∀x∈l,plR x):=
 (Af underlying78 (by kernel_rfl) (by decide) (afL w)).imp fun row _ ⟨rows,e,h⟩=>by
  obtain⟨l,rfl,hl⟩:=Ag fun r hr=>(h r hr).2
  exact⟨l,e,hl⟩
theorem akr:Rd prog w 80 2 (fun row=>∃x:Fr,row=x.c∧frR x):=
 (xB (sp:=[(1,_),(1,_)]) underlying80 (by kernel_rfl) ⟨rfl,WA w,rfl,aid w,trivial⟩).imp fun row _ h=>by
  obtain⟨_,_,rfl,_,⟨i,rfl,hi⟩,_,_,rfl,_,⟨l,rfl,hl⟩,rfl⟩:=h;exact⟨⟨i,l⟩,rfl,hi,hl⟩
theorem aie:Rd prog w 33 1 (fun row=>∃l:List Fr,row=[uR l]∧∀x∈l,frR x):=
 (Af underlying33 (by kernel_rfl) (by decide) (akr w)).imp fun row _ ⟨rows,e,h⟩=>by
  obtain⟨l,rfl,hl⟩:=Ag fun r hr=>(h r hr).2
  exact⟨l,e,hl⟩
theorem aks:Rd prog w 103 3 (fun row=>∃x:Mk,row=x.c∧mkR x):=
 (xB (sp:=[(1,_),(1,_),(1,_)]) underlying103 (by kernel_rfl) ⟨rfl,WV w,rfl,WA w,rfl,WA w,trivial⟩).imp fun row _ h=>by
  obtain⟨_,_,rfl,_,⟨i,rfl,hi⟩,_,_,rfl,_,⟨j,rfl,hj⟩,_,_,rfl,_,⟨k,rfl,hk⟩,rfl⟩:=h;exact⟨⟨i,j,k⟩,rfl,hi,hj,hk⟩
theorem aif:Rd prog w 34 1 (fun row=>∃l:List Mk,row=[rP l]∧∀x∈l,mkR x):=
 (Af underlying34 (by kernel_rfl) (by decide) (aks w)).imp fun row _ ⟨rows,e,h⟩=>by
  obtain⟨l,rfl,hl⟩:=Ag fun r hr=>(h r hr).2
  exact⟨l,e,hl⟩
end
structure opR (x:bg):Prop where
 inc:vQ x.inc
 n:vQ x.n
 at_:vQ x.at_
section
variable (w:World)
theorem akt:Rd prog w 38 18 (fun row=>∃x:bg,row=x.c∧opR x):=
 (xB (sp:=[(1,_),(1,_),(1,_),(1,_),(1,_),(1,_),(1,_),(1,_),(1,_),(1,_),(1,_),(1,_),(1,_),(1,_),(2,_),(2,_)]) underlying38 (by kernel_rfl) ⟨rfl,WV w,rfl,WA w,rfl,WA w,rfl,WV w,rfl,WV w,rfl,WA w,rfl,WA w,rfl,WA w,rfl,WA w,rfl,WV w,rfl,WV w,rfl,WV w,rfl,aie w,rfl,aif w,rfl,afL w,rfl,afL w,trivial⟩).imp fun row _ h=>by
  obtain⟨_,_,rfl,_,⟨i1,rfl,h1⟩,_,_,rfl,_,⟨i2,rfl,h2⟩,_,_,rfl,_,⟨i3,rfl,h3⟩,_,_,rfl,_,⟨i4,rfl,h4⟩,_,_,rfl,_,⟨i5,rfl,h5⟩,_,_,rfl,_,⟨i6,rfl,h6⟩,_,_,rfl,_,⟨i7,rfl,h7⟩,_,_,rfl,_,⟨i8,rfl,h8⟩,_,_,rfl,_,⟨i9,rfl,h9⟩,_,_,rfl,_,⟨i10,rfl,h10⟩,_,_,rfl,_,⟨i11,rfl,h11⟩,_,_,rfl,_,⟨i12,rfl,h12⟩,_,_,rfl,_,⟨l1,rfl,k1⟩,_,_,rfl,_,⟨l2,rfl,k2⟩,_,_,rfl,_,⟨p1,rfl,q1⟩,_,_,rfl,_,⟨p2,rfl,q2⟩,rfl⟩:=h;exact⟨⟨i1,i2,i3,i4,i5,i6,i7,i8,i9,i10,i11,i12,l1,l2,p1,p2⟩,rfl,h2,h3,h8⟩
theorem ZX:Rd prog w 22 1 (fun row=>∃l:List bg,row=[.sl false 18 (l.map bg.c)]∧∀x∈l,opR x):=
 (Af underlying22 (by kernel_rfl) (by decide) (akt w)).imp fun row _ ⟨rows,e,h⟩=>by
  obtain⟨l,rfl,hl⟩:=Ag fun r hr=>(h r hr).2
  exact⟨l,e,hl⟩
end
end Go.Proofs.YtiagceoepkaeoaaGreat.Tb
end
