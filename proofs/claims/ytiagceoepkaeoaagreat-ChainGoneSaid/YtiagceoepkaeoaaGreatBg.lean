/-
  Contracts of functions of the program and of the document, each for every input that its premises name.
-/
import Derived.Test.YtiagceoepkaeoaaGreatBf
import Derived.Test.YtiagceoepkaeoaaGreatAf
import Derived.Test.YtiagceoepkaeoaaGreatBe
import Derived.Test.YtiagceoepkaeoaaGreatAg
set_option linter.unusedSectionVars false
set_option linter.unusedVariables false
set_option linter.unusedSimpArgs false
set_option maxRecDepth 100000
set_option maxHeartbeats 4000000
section
open Go Go.Proofs.Tryz Go.AX
namespace Go.Proofs.YtiagceoepkaeoaaGreat.Tb
theorem PE (l:List (List PV)):(own l).map (·.2)++List.map (·.2) ([]:List (Bool×List PV))=l:=by rw[Uc,List.map_nil,List.append_nil]
def ZQ (a b:Int)(ch:List Ch)(L:List Lg)(F:List Fr)(Q:List Pa)(o:bg)(out:Oc):List (Nat×aA):=
 [(1,.var (wC a b (.pv (jL ch)) (.pv (dO L)) (.aB 4 0) o (.pv .junk) out)),(2,.kE 0 6 (L.map Lg.c)),(3,.kE 0 2 (F.map Fr.c)),(4,.arr 68 0 8 (Q.map Pa.c))]
theorem afF {F:FuncId}{hp:List (Nat×aA)}{a b:Int}{ch:List Ch}{A:List Lg}{x:Lg}{B:List Lg}{Q:List Pa}{o:bg}{G:List Fr}
  (h:dU prog F [.ptr 1 0] hp (.pv (.dn [])) [(1,.var (wC a b (.pv (jL ch)) (.aB 2 0) (.aB 4 0) o (.pv (.sc (.pointer none))) bQ)),(2,.dN 50 0 6 (A.map Lg.c) [.pv (uu x.id),.pv (ii x.w),.pv (ii x.a),.aB 3 0,.pv (ii x.closed),.pv (uu x.last)] (B.map Lg.c)),(3,.fP 80 0 2 1 36 2 (own (G.map Fr.c)) [] []),(4,.arr 68 0 8 (Q.map Pa.c))]) :
  dU prog F [.ptr 1 0] hp (.pv (.dn [])) (ZQ a b ch (A++{ x with av:=G }::B) G Q o bQ):=by
 have h1:dU prog F [.ptr 1 0] hp (.pv (.dn [])) [(1,.var (wC a b (.pv (jL ch)) (.aB 2 0) (.aB 4 0) o (.pv (.sc (.pointer none))) bQ)),(2,.dN 50 0 6 (A.map Lg.c) [.pv (uu x.id),.pv (ii x.w),.pv (ii x.a),.aB 3 0,.pv (ii x.closed),.pv (uu x.last)] (B.map Lg.c)),(3,.arr 80 0 2 (G.map Fr.c)),(4,.arr 68 0 8 (Q.map Pa.c))]:=by
  have e:=PE (G.map Fr.c);simp only[wC,bg.c,Pl.c,Oc.c,dR,fq,fI,fJ] at h ⊢;refine Le h 3 rfl ?_;rw[e];refine⟨_,_,⟨rfl,rfl⟩,?_⟩
  (conv=>whnf)
  all_goals exact ay
 have h2:dU prog F [.ptr 1 0] hp (.pv (.dn [])) [(1,.var (wC a b (.pv (jL ch)) (.aB 2 0) (.aB 4 0) o (.pv (.sc (.pointer none))) bQ)),(2,.arr 50 0 6 ((A++{ x with av:=G }::B).map Lg.c)),(3,.kE 0 2 (G.map Fr.c)),(4,.arr 68 0 8 (Q.map Pa.c))]:=by
  rw[List.map_append,List.map_cons];simp only[wC,bg.c,Pl.c,Oc.c,Lg.c,dR,fq,fI,fJ] at h1 ⊢;refine jr h1 2 rfl rfl rfl rfl ?_;refine⟨_,_,⟨rfl,rfl⟩,?_⟩
  (conv=>whnf)
  all_goals exact ay
 refine iw h2 [2] ?_;simp only[ZQ,wC,bg.c,Pl.c,Oc.c,dR,fq,fI,fJ]
 (conv=>whnf)
 refine⟨_,_,⟨rfl,rfl⟩,?_⟩;all_goals exact ay
theorem ZR (p:Pn)(o:bg)(D:WU p o)(h12:o.kind=12)(hc0:o.channel=0)(A:List Lg)(x:Lg)(B:List Lg)(hL:p.af=A++x::B)(hA:∀y∈A,nO o y=false)(hx:nO o x=true)(hok:∀f∈x.av,nY o f=false)(hsome:∃f∈x.av,decide (kz o f≥0)=true):bC prog 13 [.agg p.c,.agg o.c] (.dn [.agg ({ p with version:=IntKind.u64.wrap (p.version+1),af:=A++{ x with av:=x.av.map (jk o) }::B,past:=iJ p.past o bQ }:Pn).c,.agg bQ.c]):=by
 refine PC.le ?_;have c1:=Zu p A x B hL D.h;have c2:=mZ p D.h;have c3:=pY o D.ho.fr D.ho.bk D.ho.sn;have c4:=qW p o D.h.past;have c5:=qJ p o D.h.channels (fG D.hw).1 (fG D.hw).2 D.hch;have c6:=pW o D.ho.fr D.ho.bk D.ho.sn;obtain⟨kr,c7⟩:=kY p.version p.next p.channels (A++{ x with av:=x.av.map (jk o) }::B) p.past o bQ D.hpl;rw[D.hp] at c2;rw[D.hw] at c3;rw[D.ht] at c4;rw[D.hs] at c5;have hv:=D.hv;have hlc:=D.h.channels;have hm:((p.channels.map Ch.c).length:Int)=(p.channels.length:Int):=by rw[List.length_map]
 have e1:p.c=[uu p.version,uu p.next,.sl false 9 (p.channels.map Ch.c),.sl false 6 (A.map Lg.c++[uu x.id,ii x.w,ii x.a,.sl false 2 ((own (x.av.map Fr.c)).map (·.2)++List.map (·.2) ([]:List (Bool×List PV))),ii x.closed,uu x.last]::B.map Lg.c),.sl false 8 (p.past.map Pa.c)]:=by
  rw[PE];simp only[Pn.c,jL,dO,uS,hL,pq,dR,Lg.c,uR]
 have hxb:=D.h.lg x (by rw[hL];simp);have hd:=afF (R4 p.version p.next p.channels A x B p.past o hA hx hok hsome hxb.av (by rw[←hL];exact D.h.af) hxb.aN);have nH:bC prog 35 [ii o.kind] (.agg (fF 12)):=by rw[h12];exact xS
 simp only[fF] at nH;have hg1:decide (o.channel>((p.channels.map Ch.c).length:Int))=false:=by rw[hm,hc0];simp
 have hg0:decide (o.channel>0)=false:=by rw[hc0];rfl
 rw[e1] at c2 c4 c5;clear D e1 hlc hm hc0 h12 hA hx hok hsome hxb hL;simp only[Ud,ZQ,wC,Uh,bg.c,Pl.c,Oc.c,dR,fq,fI,fJ] at c1 c2 c3 c4 c5 c6 c7 hd ⊢;refine bM gL ?_;repeat' ((conv=>whnf);first|fail|((with_reducible apply fk)<;>intro hc<;>try exact aK)|rewrite[A8]|rewrite[A9]|(apply fB;refine⟨_,_,c1,?_⟩)|(apply aH;refine⟨_,c2,?_⟩)|(apply aH;refine⟨_,c3,?_⟩)|(apply aH;refine⟨_,c4,?_⟩)|(apply aH;refine⟨_,c5,?_⟩)|(apply aH;refine⟨_,c6,?_⟩)|((with_reducible apply Fs))|((with_reducible apply Fu))|((with_reducible refine (Or.inl ?_:VC _ _ (Code.region 2 _ _) _ _∨_)))|refine aC ?_|fail)
 (conv=>whnf)
 refine Or.inr ⟨Unit,fun _=>⟨[(2,.ptr 1002 0),(3,.ptr 1003 0),(4,.ptr 1004 0),(5,.ptr 1005 0),(9,.ptr 1009 0)],1000000000,[(1002,.var [.pv (uu p.version),.pv (uu p.next),.pv (jL p.channels),.aB 1010 0,.aB 1012 0]),(1003,.var (o.c.map .pv)),(1004,.var [.pv (uu 0),.pv (uu 0),.pv (.sc (.slice none 0 0)),.pv (.sc (.slice none 0 0)),.pv (.sc (.slice none 0 0))]),(1005,.var (bQ.c.map .pv)),(1009,.var (wC p.version p.next (.pv (jL p.channels)) (.aB 1010 0) (.aB 1012 0) o (.pv (.sc (.pointer none))) bQ)),(1010,.dN 50 0 6 (A.map Lg.c) [.pv (uu x.id),.pv (ii x.w),.pv (ii x.a),.aB 1011 0,.pv (ii x.closed),.pv (uu x.last)] (B.map Lg.c)),(1011,.fP 80 0 2 1 36 2 (own (x.av.map Fr.c)) [] []),(1012,.arr 68 0 8 (p.past.map Pa.c))]⟩,?_,fun _=>?_⟩
 ·repeat' ((conv=>whnf);first|with_reducible apply aG|((with_reducible apply fk)<;>intro hc<;>try exact aK)|rewrite[A8]|rewrite[A9]|(apply aH;refine⟨_,c6,?_⟩)|refine aC ?_|fail)
  refine⟨(),Cj [1003003001] ?_⟩;simp only[wC,bg.c,Pl.c,Oc.c,dR,fq,fI,fJ]
  (conv=>whnf)
  repeat' first|apply And.intro|exact ay|fail
  all_goals try (conv=>whnf)
 simp only[wC,bg.c,Pl.c,Oc.c,dR,fq,fI,fJ];repeat' ((conv=>whnf);first|with_reducible apply aG|((with_reducible apply fk)<;>intro hc<;>try exact aK)|rewrite[A8]|rewrite[A9]|(apply aH;refine⟨_,nH,?_⟩)|(apply fB;refine⟨_,_,hd,?_⟩)|(apply fB;refine⟨_,_,cZ (c7) ?_,?_⟩;exact rG)|refine aC ?_|fail)
 all_goals exact ay
theorem Hf (p:Pn)(o:bg)(D:WU p o)(h12:o.kind=12)(hc0:o.channel=0)(Rz:∀x∈p.af,x.av.length≤1000000)
  (hno:∀x,p.af.find? (nO o)=some x→x.av.any (nY o)=true∨x.av.any (fun f=>decide (kz o f≥0))=false):bC prog 13 [.agg p.c,.agg o.c] (.dn [.agg ({ p with version:=IntKind.u64.wrap (p.version+1),past:=iJ p.past o (iX 5) }:Pn).c,.agg (iX 5).c]):=by
 refine PC.le ?_;have c1:=LU p D.h;have c2:=mZ p D.h;have c3:=pY o D.ho.fr D.ho.bk D.ho.sn;have c4:=qW p o D.h.past;have c5:=qJ p o D.h.channels (fG D.hw).1 (fG D.hw).2 D.hch;have c6:=pW o D.ho.fr D.ho.bk D.ho.sn;obtain⟨kr,c7⟩:=kY p.version p.next p.channels p.af p.past o (iX 5) D.hpl;rw[D.hp] at c2;rw[D.hw] at c3;rw[D.ht] at c4;rw[D.hs] at c5;have hv:=D.hv;have hlc:=D.h.channels;have hm:((p.channels.map Ch.c).length:Int)=(p.channels.length:Int):=by rw[List.length_map]
 have e1:p.c=[uu p.version,uu p.next,.sl false 9 (p.channels.map Ch.c),.sl false 6 (p.af.map Lg.c),.sl false 8 (p.past.map Pa.c)]:=rfl;have hd:=R6 p.version p.next p.channels p.af p.past o D.h.af Rz hno;have nH:bC prog 35 [ii o.kind] (.agg (fF 12)):=by rw[h12];exact xS
 simp only[fF] at nH;have hg1:decide (o.channel>((p.channels.map Ch.c).length:Int))=false:=by rw[hm,hc0];simp
 have hg0:decide (o.channel>0)=false:=by rw[hc0];rfl
 rw[e1] at c1 c2 c4 c5 ⊢;clear D e1 hlc hm hc0 h12 Rz hno;simp only[wC,Uh,bg.c,Pl.c,Oc.c,dR,fq,fI,fJ] at c1 c2 c3 c4 c5 c6 c7 hd ⊢;refine bM gL ?_;repeat' ((conv=>whnf);first|fail|((with_reducible apply fk)<;>intro hc<;>try exact aK)|rewrite[A8]|rewrite[A9]|(apply fB;refine⟨_,_,c1,?_⟩)|(apply aH;refine⟨_,c2,?_⟩)|(apply aH;refine⟨_,c3,?_⟩)|(apply aH;refine⟨_,c4,?_⟩)|(apply aH;refine⟨_,c5,?_⟩)|(apply aH;refine⟨_,c6,?_⟩)|((with_reducible apply Fs))|((with_reducible apply Fu))|((with_reducible refine (Or.inl ?_:VC _ _ (Code.region 2 _ _) _ _∨_)))|refine aC ?_|fail)
 (conv=>whnf)
 refine Or.inr ⟨Unit,fun _=>⟨[(2,.ptr 1002 0),(3,.ptr 1003 0),(4,.ptr 1004 0),(5,.ptr 1005 0),(9,.ptr 1009 0)],1000000000,[(1002,.var [.pv (uu p.version),.pv (uu p.next),.pv (jL p.channels),.pv (dO p.af),.aB 1010 0]),(1003,.var (o.c.map .pv)),(1004,.var [.pv (uu 0),.pv (uu 0),.pv (.sc (.slice none 0 0)),.pv (.sc (.slice none 0 0)),.pv (.sc (.slice none 0 0))]),(1005,.var (bQ.c.map .pv)),(1009,.var (wC p.version p.next (.pv (jL p.channels)) (.pv (dO p.af)) (.aB 1010 0) o (.pv (.sc (.pointer none))) bQ)),(1010,.arr 68 0 8 (p.past.map Pa.c))]⟩,?_,fun _=>?_⟩
 ·repeat' ((conv=>whnf);first|with_reducible apply aG|((with_reducible apply fk)<;>intro hc<;>try exact aK)|rewrite[A8]|rewrite[A9]|(apply aH;refine⟨_,c6,?_⟩)|refine aC ?_|fail)
  refine⟨(),Cj [1001003001,1002003001] ?_⟩;simp only[wC,bg.c,Pl.c,Oc.c,dR,fq,fI,fJ]
  (conv=>whnf)
  repeat' first|apply And.intro|exact ay|fail
  all_goals try (conv=>whnf)
 simp only[wC,bg.c,Pl.c,Oc.c,dR,fq,fI,fJ];repeat' ((conv=>whnf);first|with_reducible apply aG|((with_reducible apply fk)<;>intro hc<;>try exact aK)|rewrite[A8]|rewrite[A9]|(apply aH;refine⟨_,nH,?_⟩)|(apply fB;refine⟨_,_,hd,?_⟩)|(apply fB;refine⟨_,_,cZ (c7) ?_,?_⟩;exact rG)|refine aC ?_|fail)
 all_goals exact ay
theorem wU:aQ prog 128 f128:=bU func128
theorem V9 (a b:Int)(A:List Ch)(c:Ch)(B:List Ch)(L:List Lg)(Q:List Pa)(o:bg)(f:Fr)(h:rR (kD a b A c B L Q))(hf:o.av=[f])(hn:qz (kD a b A c B L Q) o=none):dU prog 128 [.ptr 1 0]
  ((1,.var (wC a b (.aB 2 0) (.aB 3 0) (.aB 4 0) o (.bn 2 0 (A.map Ch.c).length 0) bQ))::jv (c.c.map .pv) A B L Q) (.pv (.dn []))
  ((1,.var (wC a b (.aB 2 0) (.aB 3 0) (.aB 4 0) o (.bn 2 0 (A.map Ch.c).length 0) (iX 5)))::jv (c.c.map .pv) A B L Q):=by
 have cL:=Ui a b A c B L Q o bQ h hn;have cR:=wR a b A c B L Q o 5 bQ;clear h hn;simp only[wC,jv,bg.c,Pl.c,Ch.c,Oc.c,uR,hf,dR,fq,fI,fJ] at cL cR ⊢;refine jy wU ?_;repeat' ((conv=>whnf);first|with_reducible apply aG|((with_reducible apply fk)<;>intro hc<;>try exact aK)|(refine Or.inr ?_;(conv=>whnf);refine⟨_,_,cL,?_⟩)|(apply fB;refine⟨_,_,cL,?_⟩)|(apply fB;refine⟨_,_,cR,?_⟩)|((refine⟨_,rfl,?_⟩))|refine aC ?_|fail)
 refine⟨_,_,⟨rfl,rfl⟩,?_⟩;all_goals exact ay
theorem Sb (a b:Int)(A:List Ch)(c:Ch)(B:List Ch)(LA:List Lg)(x:Lg)(LB:List Lg)(Q:List Pa)(o:bg)(f:Fr)(F:List Fr)(e:Fr)(hle:x.av=F++[e])(hFl:F.length≤1000)(ZB:∀y∈F++[e],y.aN.length≤1000000)
  (h:rR (kD a b A c B (LA++x::LB) Q)) (hf:o.av=[f]) (hfb:f.aN.length≤1000000) (hop:fK (kD a b A c B (LA++x::LB) Q) o.channel=some x) (hid:x.id=o.aY) (hix:ql (fun y=>y.id==x.id) (LA++x::LB)=((LA.map Lg.c).length:Int))
  (hq:(f.first==e.first)=false) (G:List Fr) (hG:G=(F++[e])++[f])
  (X:Bool×Oc) (hX:X=if (decide (f.first≥e.first)&&(((((F++[e]).map Fr.c).length:Int)==6)&&(decide (((G.map Fr.c).length:Int)>(((F++[e]).map Fr.c).length:Int))&&vV x.w f))) then (false,iX 3)
   else if decide (f.first<e.first) || !fC x.w G then (false,iX 5) else (true,bQ)):dU prog 128 [.ptr 1 0]
  ((1,.var (wC a b (.aB 2 0) (.aB 3 0) (.aB 4 0) o (.bn 2 0 (A.map Ch.c).length 0) bQ))::CG (c.c.map .pv) A B (x.c.map .pv) LA LB Q) (.pv (.dn []))
  ((1,.var (wC a b (.aB 2 0) (.aB 3 0) (.aB 4 0) o (.bn 2 0 (A.map Ch.c).length 0) X.2))::(CG (c.c.map .pv) A B (match X.1 with
    |true=>[.pv (uu x.id),.pv (ii x.w),.pv (ii x.a),.aB 1001 0,.pv (ii x.closed),.pv (uu x.last)]
    |false=>x.c.map .pv) LA LB Q++match X.1 with
    |true=>[(1001,.arr 80 0 2 (G.map Fr.c))]
    |false=>[])):=by
 have cL:=LZ a b A c B LA x LB Q o bQ h hop hid hix;have ZC:=su a b A c B LA x LB Q o 3 bQ;have ZE:=su a b A c B LA x LB Q o 5 bQ;have cF:=Pq x.w f (by omega);have hGb:∀y∈G,y.aN.length≤8796093022208:=by
  intro y hy;rw[hG] at hy;rcases List.mem_append.1 hy with hy|hy
  ·have:y∈F++[e]:=by first|exact hy|exact List.mem_append.2 (.inl hy)
   have:=ZB y this;omega
  rw[List.mem_singleton] at hy;subst hy;omega
 have cM:=mY x.w G hGb;have hGm:G.map Fr.c=(F++[e]).map Fr.c++[[uu f.first,xD f.aN]]:=by
  rw[hG,List.map_append];rfl
 rw[uR] at cM;rw[hGm] at cM hX ⊢;generalize fC x.w G=mf at *;generalize vV x.w f=ft at *;have hRl:((F++[e]).map Fr.c).length=F.length+1:=by simp
 have hw:IntKind.i64.wrap ((((F++[e]).map Fr.c).length:Int)-1)=(F.length:Int):=by rw[hRl,aJ (by omega) (by omega)];omega
 have hrow:((F++[e]).map Fr.c)[((F.length:Nat):Int).toNat]? = some [uu e.first,xD e.aN]:=by
  have:=dx Fr.c (F++[e]) F.length (by simp);rw[this];simp[Fr.c]
 have hT1:mh ((F++[e]).map Fr.c) none (some (((F++[e]).map Fr.c).length:Int))=(F++[e]).map Fr.c:=by unfold mh;simp only;rw[Int.toNat_natCast,List.take_length]
 have hT2:mh ((F++[e]).map Fr.c) none (some (F.length:Int))=F.map Fr.c:=by unfold mh;simp only;rw[Int.toNat_natCast,List.map_append,List.take_append_of_le_length (by simp),List.take_of_length_le (by simp)]
 have afA:(F.map Fr.c).length=F.length:=by simp
 obtain⟨xi,xw,xa,xf,xc,xl⟩:=x;simp only at hle;subst hle;simp only[Lg.c,wC,CG,bg.c,Pl.c,Ch.c,Oc.c,uR,hf,dR,fq,fI,fJ] at cL ZC ZE cF cM ⊢;generalize hS:F.map Fr.c=S at *;generalize hR:(F++[e]).map Fr.c=R at *;clear h ZB hop hid hix hGb hG hGm hS hR;simp only[Fr.c] at cF cM;refine jy wU ?_;repeat' ((conv=>whnf);first|with_reducible apply aG|((with_reducible apply fk)<;>intro hc<;>try exact fO)|(refine Or.inr ?_;(conv=>whnf);refine⟨_,_,cL,?_⟩)|(apply fB;refine⟨_,_,cL,?_⟩)|(apply fB;refine⟨_,_,ZC,?_⟩)|(apply fB;refine⟨_,_,ZE,?_⟩)|((refine⟨_,rfl,?_⟩))|((refine⟨_,hrow,?_⟩))|rewrite[hw]|rewrite[hT1]|rewrite[hT2]|(apply aH;refine⟨_,cF,?_⟩)|(apply aH;refine⟨_,cM,?_⟩)|(((with_reducible apply And.intro);focus (simp only[dQ,jS];omega)))|refine aC ?_|fail)
 all_goals clear cL ZC ZE cF cM hrow hT1 hT2 hw hRl afA hFl
 all_goals
  simp only[Bool.not_true, *,Bool.true_or,Bool.or_true,Bool.false_or,Bool.or_false,Bool.true_and,Bool.and_true,Bool.false_and,Bool.and_false,Bool.not_true,Bool.not_false,Bool.false_eq_true,↓reduceIte] at hX;subst hX;refine⟨_,_,⟨rfl,rfl⟩,?_⟩;all_goals exact ay
theorem Sc (a b:Int)(A:List Ch)(c:Ch)(B:List Ch)(LA:List Lg)(x:Lg)(LB:List Lg)(Q:List Pa)(o:bg)(f:Fr)(F:List Fr)(e:Fr)(hle:x.av=F++[e])(hFl:F.length≤1000)(ZB:∀y∈F++[e],y.aN.length≤1000000)
  (h:rR (kD a b A c B (LA++x::LB) Q)) (hf:o.av=[f]) (hfb:f.aN.length≤1000000) (hop:fK (kD a b A c B (LA++x::LB) Q) o.channel=some x) (hid:x.id=o.aY) (hix:ql (fun y=>y.id==x.id) (LA++x::LB)=((LA.map Lg.c).length:Int))
  (hq:(f.first==e.first)=true) (G:List Fr) (hG:G=F++[f])
  (X:Bool×Oc) (hX:X=if (decide (f.first≥e.first)&&(((((F++[e]).map Fr.c).length:Int)==6)&&(decide (((G.map Fr.c).length:Int)>(((F++[e]).map Fr.c).length:Int))&&vV x.w f))) then (false,iX 3)
   else if decide (f.first<e.first) || !fC x.w G then (false,iX 5) else (true,bQ)):dU prog 128 [.ptr 1 0]
  ((1,.var (wC a b (.aB 2 0) (.aB 3 0) (.aB 4 0) o (.bn 2 0 (A.map Ch.c).length 0) bQ))::CG (c.c.map .pv) A B (x.c.map .pv) LA LB Q) (.pv (.dn []))
  ((1,.var (wC a b (.aB 2 0) (.aB 3 0) (.aB 4 0) o (.bn 2 0 (A.map Ch.c).length 0) X.2))::(CG (c.c.map .pv) A B (match X.1 with
    |true=>[.pv (uu x.id),.pv (ii x.w),.pv (ii x.a),.aB 1001 0,.pv (ii x.closed),.pv (uu x.last)]
    |false=>x.c.map .pv) LA LB Q++match X.1 with
    |true=>[(1001,.arr 80 0 2 (G.map Fr.c))]
    |false=>[])):=by
 have cL:=LZ a b A c B LA x LB Q o bQ h hop hid hix;have ZC:=su a b A c B LA x LB Q o 3 bQ;have ZE:=su a b A c B LA x LB Q o 5 bQ;have cF:=Pq x.w f (by omega);have hGb:∀y∈G,y.aN.length≤8796093022208:=by
  intro y hy;rw[hG] at hy;rcases List.mem_append.1 hy with hy|hy
  ·have:y∈F++[e]:=by first|exact hy|exact List.mem_append.2 (.inl hy)
   have:=ZB y this;omega
  rw[List.mem_singleton] at hy;subst hy;omega
 have cM:=mY x.w G hGb;have hGm:G.map Fr.c=F.map Fr.c++[[uu f.first,xD f.aN]]:=by
  rw[hG,List.map_append];rfl
 rw[uR] at cM;rw[hGm] at cM hX ⊢;generalize fC x.w G=mf at *;generalize vV x.w f=ft at *;have hRl:((F++[e]).map Fr.c).length=F.length+1:=by simp
 have hw:IntKind.i64.wrap ((((F++[e]).map Fr.c).length:Int)-1)=(F.length:Int):=by rw[hRl,aJ (by omega) (by omega)];omega
 have hrow:((F++[e]).map Fr.c)[((F.length:Nat):Int).toNat]? = some [uu e.first,xD e.aN]:=by
  have:=dx Fr.c (F++[e]) F.length (by simp);rw[this];simp[Fr.c]
 have hT1:mh ((F++[e]).map Fr.c) none (some (((F++[e]).map Fr.c).length:Int))=(F++[e]).map Fr.c:=by unfold mh;simp only;rw[Int.toNat_natCast,List.take_length]
 have hT2:mh ((F++[e]).map Fr.c) none (some (F.length:Int))=F.map Fr.c:=by unfold mh;simp only;rw[Int.toNat_natCast,List.map_append,List.take_append_of_le_length (by simp),List.take_of_length_le (by simp)]
 have afA:(F.map Fr.c).length=F.length:=by simp
 obtain⟨xi,xw,xa,xf,xc,xl⟩:=x;simp only at hle;subst hle;simp only[Lg.c,wC,CG,bg.c,Pl.c,Ch.c,Oc.c,uR,hf,dR,fq,fI,fJ] at cL ZC ZE cF cM ⊢;generalize hS:F.map Fr.c=S at *;generalize hR:(F++[e]).map Fr.c=R at *;clear h ZB hop hid hix hGb hG hGm hS hR;simp only[Fr.c] at cF cM;refine jy wU ?_;repeat' ((conv=>whnf);first|with_reducible apply aG|((with_reducible apply fk)<;>intro hc<;>try exact fO)|(refine Or.inr ?_;(conv=>whnf);refine⟨_,_,cL,?_⟩)|(apply fB;refine⟨_,_,cL,?_⟩)|(apply fB;refine⟨_,_,ZC,?_⟩)|(apply fB;refine⟨_,_,ZE,?_⟩)|((refine⟨_,rfl,?_⟩))|((refine⟨_,hrow,?_⟩))|rewrite[hw]|rewrite[hT1]|rewrite[hT2]|(apply aH;refine⟨_,cF,?_⟩)|(apply aH;refine⟨_,cM,?_⟩)|(((with_reducible apply And.intro);focus (simp only[dQ,jS];omega)))|refine aC ?_|fail)
 all_goals clear cL ZC ZE cF cM hrow hT1 hT2 hw hRl afA hFl
 all_goals
  simp only[Bool.not_true, *,Bool.true_or,Bool.or_true,Bool.false_or,Bool.or_false,Bool.true_and,Bool.and_true,Bool.false_and,Bool.and_false,Bool.not_true,Bool.not_false,Bool.false_eq_true,↓reduceIte] at hX;subst hX;refine⟨_,_,⟨rfl,rfl⟩,?_⟩;all_goals exact ay
theorem DC:aQ prog 129 f129:=bU func129
theorem Wd (a b:Int)(A:List Ch)(c:Ch)(B:List Ch)(L:List Lg)(Q:List Pa)(o:bg)(h:rR (kD a b A c B L Q))(hn:qz (kD a b A c B L Q) o=none):dU prog 129 [.ptr 1 0]
  ((1,.var (wC a b (.aB 2 0) (.aB 3 0) (.aB 4 0) o (.bn 2 0 (A.map Ch.c).length 0) bQ))::jv (c.c.map .pv) A B L Q) (.pv (.dn []))
  ((1,.var (wC a b (.aB 2 0) (.aB 3 0) (.aB 4 0) o (.bn 2 0 (A.map Ch.c).length 0) (iX 5)))::jv (c.c.map .pv) A B L Q):=by
 have cL:=Ui a b A c B L Q o bQ h hn;have cR:=wR a b A c B L Q o 5 bQ;have cE:=Gm (kD a b A c B L Q) o.channel h;have e1:(kD a b A c B L Q).c=[uu a,uu b,.sl false 9 (A.map Ch.c++c.c::B.map Ch.c),.sl false 6 (L.map Lg.c),.sl false 8 (Q.map Pa.c)]:=by
  simp only[kD,Pn.c,jL,dO,uS,pq,dR]
 rw[e1] at cE;generalize pE (kD a b A c B L Q) o.channel=en at *;clear h hn e1;simp only[wC,jv,bg.c,Pl.c,Ch.c,Oc.c,dR,fq,fI,fJ] at cL cR cE ⊢;refine jy DC ?_;repeat' ((conv=>whnf);first|fail|((with_reducible apply fk)<;>intro hc<;>try exact aK)|(apply fB;refine⟨_,_,cL,?_⟩)|refine aC ?_|fail)
 (conv=>whnf)
 refine Or.inr ⟨Unit,fun _=>⟨[(0,.ptr 1 0),(2,.pv (.sc (.pointer none))),(3,.pv (uu en))],1000000000,((1,.var (wC a b (.aB 2 0) (.aB 3 0) (.aB 4 0) o (.bn 2 0 (A.map Ch.c).length 0) bQ))::jv (c.c.map .pv) A B L Q)⟩,?_,fun _=>?_⟩
 ·repeat' ((conv=>whnf);first|with_reducible apply aG|((with_reducible apply fk)<;>intro hc<;>try exact aK)|(apply aH;refine⟨_,cE,?_⟩)|refine aC ?_|fail)
  refine⟨(),aj ?_⟩;simp only[Lg.c,wC,jv,CG,bg.c,Pl.c,Ch.c,Oc.c,dR,fq,fI,fJ];repeat' first|apply And.intro|exact ay|fail
  all_goals try (conv=>whnf)
 simp only[Lg.c,wC,jv,CG,bg.c,Pl.c,Ch.c,Oc.c,dR,fq,fI,fJ];repeat' ((conv=>whnf);first|with_reducible apply aG|((with_reducible apply fk)<;>intro hc<;>try exact aK)|(apply fB;refine⟨_,_,cR,?_⟩)|refine aC ?_|fail)
 refine⟨_,_,⟨rfl,rfl⟩,?_⟩;all_goals exact ay
theorem Wh (a b:Int)(A:List Ch)(c:Ch)(B:List Ch)(LA:List Lg)(x:Lg)(LB:List Lg)(Q:List Pa)(o:bg)(ZB:∀y∈o.av,y.aN.length≤1000000)
  (h:rR (kD a b A c B (LA++x::LB) Q)) (hop:fK (kD a b A c B (LA++x::LB) Q) o.channel=some x) (hid:x.id=o.aY) (hix:ql (fun y=>y.id==x.id) (LA++x::LB)=((LA.map Lg.c).length:Int))
  (X:Lg×Oc) (hX:X=if (!fC x.w o.av||(decide (o.at_>8)||decide (c.trim>bV (pE (kD a b A c B (LA++x::LB) Q) o.channel) o.at_))) then (x,iX 5) else ({ x with av:=o.av,closed:=1,last:=o.at_ },bQ)):dU prog 129 [.ptr 1 0]
  ((1,.var (wC a b (.aB 2 0) (.aB 3 0) (.aB 4 0) o (.bn 2 0 (A.map Ch.c).length 0) bQ))::CG (c.c.map .pv) A B (x.c.map .pv) LA LB Q) (.pv (.dn []))
  ((1,.var (wC a b (.aB 2 0) (.aB 3 0) (.aB 4 0) o (.bn 2 0 (A.map Ch.c).length 0) X.2))::CG (c.c.map .pv) A B (X.1.c.map .pv) LA LB Q):=by
 have cL:=LZ a b A c B LA x LB Q o bQ h hop hid hix;have cR:=su a b A c B LA x LB Q o 5 bQ;have cE:=Gm (kD a b A c B (LA++x::LB) Q) o.channel h;have cM:=mY x.w o.av fun y hy=>by have:=ZB y hy;omega
 have e1:(kD a b A c B (LA++x::LB) Q).c=[uu a,uu b,.sl false 9 (A.map Ch.c++c.c::B.map Ch.c),.sl false 6 (LA.map Lg.c++x.c::LB.map Lg.c),.sl false 8 (Q.map Pa.c)]:=by
  simp only[kD,Pn.c,jL,dO,uS,pq,dR]
 rw[e1] at cE;unfold bV at hX;generalize fC x.w o.av=mf at *;generalize pE (kD a b A c B (LA++x::LB) Q) o.channel=en at *;clear h e1 hop hid hix ZB;obtain⟨xi,xw,xa,xf,xc,xl⟩:=x;simp only[Lg.c,wC,CG,bg.c,Pl.c,Ch.c,Oc.c,dR,fq,fI,fJ] at cL cR cE cM ⊢;refine jy DC ?_;repeat' ((conv=>whnf);first|fail|((with_reducible apply fk)<;>intro hc<;>try exact aK)|(apply fB;refine⟨_,_,cL,?_⟩)|refine aC ?_|fail)
 (conv=>whnf)
 refine Or.inr ⟨Unit,fun _=>⟨[(0,.ptr 1 0),(2,.bn 3 0 (LA.map Lg.c).length 0),(3,.pv (uu en))],1000000000,((1,.var (wC a b (.aB 2 0) (.aB 3 0) (.aB 4 0) o (.bn 2 0 (A.map Ch.c).length 0) bQ))::CG (c.c.map .pv) A B [.pv (uu xi),.pv (ii xw),.pv (ii xa),.pv (uR xf),.pv (ii xc),.pv (uu xl)] LA LB Q)⟩,?_,fun _=>?_⟩
 ·repeat' ((conv=>whnf);first|with_reducible apply aG|((with_reducible apply fk)<;>intro hc<;>try exact aK)|(apply aH;refine⟨_,cE,?_⟩)|refine aC ?_|fail)
  refine⟨(),aj ?_⟩;simp only[Lg.c,wC,jv,CG,bg.c,Pl.c,Ch.c,Oc.c,dR,fq,fI,fJ];repeat' first|apply And.intro|exact ay|fail
  all_goals try (conv=>whnf)
 simp only[Lg.c,wC,jv,CG,bg.c,Pl.c,Ch.c,Oc.c,dR,fq,fI,fJ];repeat' ((conv=>whnf);first|with_reducible apply aG|((with_reducible apply fk)<;>intro hc<;>try exact fO)|(apply fB;refine⟨_,_,cR,?_⟩)|(apply aH;refine⟨_,cM,?_⟩)|refine aC ?_|fail)
 all_goals clear cL cR cE cM
 all_goals
  simp only[Bool.not_true, *,Bool.true_or,Bool.or_true,Bool.false_or,Bool.or_false,Bool.true_and,Bool.and_true,Bool.false_and,Bool.and_false,Bool.not_true,Bool.not_false,Bool.false_eq_true,↓reduceIte] at hX;subst hX;refine⟨_,_,⟨rfl,rfl⟩,?_⟩;all_goals exact ay
theorem Wi:aQ prog 169 f169:=bU func169
theorem Sd (p:Pn)(trim id:Int)(r:List Int)(first:Int):dI p trim (id::r) first=(if ((aW p id).closed==0||decide (IntKind.u64.wrap (first+(aW p id).last)>trim))=true then (0,first) else ((dI p trim r (IntKind.u64.wrap (first+(aW p id).last))).1+1,(dI p trim r (IntKind.u64.wrap (first+(aW p id).last))).2)):=rfl
theorem Sg (a b:Int)(A:List Ch)(c:Ch)(B:List Ch)(L:List Lg)(Q:List Pa)(o:bg)(out:Oc)(h:rR (kD a b A c B L Q))(hl:c.af.length≤1000000):dU prog 169 [.ptr 1 0]
  ((1,.var (wC a b (.aB 2 0) (.aB 3 0) (.aB 4 0) o (.bn 2 0 (A.map Ch.c).length 0) out))::jv (c.c.map .pv) A B L Q)
  (.pv (.dn [ii (dI (kD a b A c B L Q) c.trim c.af c.first).1,uu (dI (kD a b A c B L Q) c.trim c.af c.first).2]))
  ((1,.var (wC a b (.aB 2 0) (.aB 3 0) (.aB 4 0) o (.bn 2 0 (A.map Ch.c).length 0) out))::jv (c.c.map .pv) A B L Q):=by
 have cF:=fun id=>acw (kD a b A c B L Q) id h
 have e1:(kD a b A c B L Q).c=[uu a,uu b,.sl false 9 (A.map Ch.c++c.c::B.map Ch.c),.sl false 6 (L.map Lg.c),.sl false 8 (Q.map Pa.c)]:=by
  simp only[kD,Pn.c,jL,dO,uS,pq,dR]
 rw[e1] at cF;clear h e1;generalize kD a b A c B L Q=p at *;obtain⟨X,hX⟩:∃X,X=dI p c.trim c.af c.first:=⟨_,rfl⟩
 rw[←hX];have hm:((c.af.map bR).length:Int)=(c.af.length:Int):=by rw[List.length_map]
 simp only[lgJ,wC,jv,bg.c,Pl.c,Ch.c,Oc.c,dR,fq,fI,fJ] at cF ⊢;refine jy Wi ?_;repeat' ((conv=>whnf);first|with_reducible apply aG|((with_reducible apply fk)<;>intro hc<;>try exact aK)|refine aC ?_|fail)
 refine⟨{kf:Nat×Int // kf.1≤c.af.length∧X=(kf.1+(dI p c.trim (c.af.drop kf.1) kf.2).1,(dI p c.trim (c.af.drop kf.1) kf.2).2)},fun⟨(k,f),_⟩=>⟨[(0,.ptr 1 0),(2,.pv (ii k)),(3,.pv (uu f)),(21,.pv (l8 c.af)),(22,.pv (ii c.af.length)),(23,.pv (ii k))],1000000000,(1,.var (wC a b (.aB 2 0) (.aB 3 0) (.aB 4 0) o (.bn 2 0 (A.map Ch.c).length 0) out))::jv (c.c.map .pv) A B L Q⟩,fun⟨(k,_),_⟩=>c.af.length-k,⟨⟨(0,c.first),by rw[hX];simp⟩,aj ?_⟩,?_⟩
 ·simp only[wC,jv,bg.c,Pl.c,Ch.c,Oc.c,dR,fq,fI,fJ];repeat' first|apply And.intro|exact ay|fail
  all_goals try (conv=>whnf)
  all_goals exact hm
 rintro⟨⟨k,f⟩,hk,hn⟩
 simp only at hk hn;simp only[wC,jv,bg.c,Pl.c,Ch.c,Oc.c,dR,fq,fI,fJ];by_cases hlt:k<c.af.length
 ·have d0:decide ((k:Int)<(c.af.length:Int))=true:=by simp only[gQ];omega
  have eW:IntKind.i64.wrap ((k:Int)+1)=((k+1:Nat):Int):=by rw[aJ (by omega) (by omega)];omega
  have hr:=dx bR c.af k hlt;have cF:=cF c.af[k];rw[List.drop_eq_getElem_cons hlt] at hn;rw[Sd] at hn;generalize c.af[k]=id at *;generalize aW p id=x at *;obtain⟨xi,xw,xa,xf,xc,xl⟩:=x;simp only at hn cF;simp only[bR] at hr;clear hX;repeat' ((conv=>whnf);first|with_reducible apply aG|((with_reducible apply fk)<;>intro hc<;>try exact aK)|((refine⟨_,hr,?_⟩))|(apply aH;refine⟨_,cF,?_⟩)|(refine sF ?_)|refine aC ?_|fail)
  ·simp only[*,Bool.true_or,↓reduceIte] at hn;subst hn;refine⟨_,_,⟨rfl,rfl⟩,?_⟩;all_goals exact ay
  ·simp only[*,Bool.false_or,Bool.or_true,↓reduceIte] at hn;subst hn;refine⟨_,_,⟨rfl,rfl⟩,?_⟩;all_goals exact ay
  simp only[*,Bool.false_or,Bool.or_false,Bool.false_eq_true,↓reduceIte] at hn;refine⟨⟨(k+1,IntKind.u64.wrap (f+xl)),hlt,?_⟩,dec_lt hlt,aj ?_⟩
  ·rw[hn];simp only[Nat.add_assoc,Nat.add_comm 1,Nat.add_left_comm]
  simp only[wC,jv,bg.c,Pl.c,Ch.c,Oc.c,dR,fq,fI,fJ];repeat' first|apply And.intro|exact ay|fail
  all_goals try (conv=>whnf)
  all_goals exact eW
 have hke:k=c.af.length:=by omega
 subst hke;have d0:decide ((c.af.length:Int)<(c.af.length:Int))=false:=by simp
 have hn:X=(c.af.length,f):=by rw[hn,List.drop_length];simp[dI]
 subst hn;clear hX cF;repeat' ((conv=>whnf);first|with_reducible apply aG|((with_reducible apply fk)<;>intro hc<;>try exact aK)|refine aC ?_|fail)
 refine⟨_,_,⟨rfl,rfl⟩,?_⟩;all_goals exact ay
theorem He:aQ prog 206 f206:=bU func206
theorem IW:aQ prog 174 f174:=bU func174
theorem Wp (l:List Int)(a:Int):bC prog 206 [l8 l,uu a] (ii (ql (fun y=>y==a) l)):=by
 refine PC.le (jK He fun hb=>?_);have hb:l.length≤9223372036854775807:=by simpa[DX,xY,l8] using hb
 refine bM He ?_;repeat' ((conv=>whnf);first|with_reducible apply aG|((with_reducible apply fk)<;>intro hc<;>try exact aK)|refine aC ?_|fail)
 refine⟨{k:Nat // k≤l.length∧∀j (hj:j<l.length),j<k→(a==l[j])=false},fun⟨k,_⟩=>⟨[(0,.pv (l8 l)),(1,.pv (uu a)),(7,.pv (ii l.length)),(8,.pv (ii k))],1000000000,[]⟩,fun⟨k,_⟩=>l.length-k,⟨⟨0,by simp⟩,aj ?_⟩,?_⟩
 ·repeat' first|apply And.intro|exact ay|fail
  all_goals try (conv=>whnf)
  all_goals simp
 rintro⟨k,hk,hn⟩
 repeat' ((conv=>whnf);first|with_reducible apply aG|((with_reducible apply fk)<;>intro hc<;>try exact aK)|refine aC ?_|fail)
 ·have hlt:k<l.length:=by simpa using hc
  refine⟨_,dx bR _ _ hlt,?_⟩;repeat' ((conv=>whnf);first|with_reducible apply aG|((with_reducible apply fk)<;>intro hc<;>try exact aK)|refine aC ?_|fail)
  ·skip
   repeat' first|apply And.intro|exact ay|fail
   all_goals try (conv=>whnf)
   exact (nS _ hlt (fun j hj hjk=>by have:=hn j hj hjk;rw[←this];exact Bool.beq_comm) (by rw[←hc];exact Bool.beq_comm)).symm
  skip
  repeat' ((conv=>whnf);first|with_reducible apply aG|((with_reducible apply fk)<;>intro hc<;>try exact aK)|refine aC ?_|fail)
  refine⟨⟨k+1,hlt,gH hn fun _=>hc⟩,dec_lt hlt,aj ?_⟩;repeat' first|apply And.intro|exact ay|fail
  all_goals try (conv=>whnf)
  exact aJ (by omega) (by omega)
 skip
 repeat' first|apply And.intro|exact ay|fail
 all_goals try (conv=>whnf)
 have:k=l.length:=by simp at hc;omega
 subst this;exact (iN _ (fun x hx=>by obtain⟨j,hj,rfl⟩:=List.getElem_of_mem hx;have:=hn j hj hj;rw[←this];exact Bool.beq_comm)).symm
theorem L9 (l:List Int)(a:Int):bC prog 174 [l8 l,uu a] (bl (l.any fun y=>y==a)):=by
 refine PC.le ?_;refine bM IW ?_;repeat' ((conv=>whnf);first|with_reducible apply aG|((with_reducible apply fk)<;>intro hc<;>try exact aK)|(apply aH;refine⟨_,Wp _ _,?_⟩)|refine aC ?_|fail)
 repeat' first|apply And.intro|exact ay|fail
 all_goals try (conv=>whnf)
 all_goals exact tJ _ _
theorem Ma:aQ prog 171 f171:=bU func171
theorem Mc:aQ prog 173 f173:=bU func173
theorem CJ (x:Mk)(n:Int):bC prog 171 ([]++([.agg x.c]++[.bJ [uu n] 0])) (bl (decide (x.offset≥n))):=by
 refine PC.le ?_;refine bM Ma ?_;repeat' ((conv=>whnf);first|with_reducible apply aG|((with_reducible apply fk)<;>intro hc<;>try exact aK)|refine aC ?_|fail)
 all_goals exact ay
theorem Kg (x:Lg)(T:List Int):bC prog 173 ([]++([.agg x.c]++[.bJ [l8 T] 0])) (bl (T.any fun y=>y==x.id)):=by
 refine PC.le ?_;refine bM Mc ?_;repeat' ((conv=>whnf);first|with_reducible apply aG|((with_reducible apply fk)<;>intro hc<;>try exact aK)|(apply aH;refine⟨_,L9 _ _,?_⟩)|refine aC ?_|fail)
 all_goals exact ay
theorem sw:aQ prog 172 f172:=bU func172
theorem CK (T:List Int)(l:List Lg)(h0:∀x∈l,(fun (x:Lg)=>T.any fun y=>y==x.id) x=false)(hl:l.length≤1000000) :
  dU prog 172 [.aB 1 0,.pv (.fn (.func 173) [] [.bJ [l8 T] 0])] ((1,.arr 50 0 6 (l.map Lg.c))::[]) (.aB 1 0) ((1,.arr 50 0 6 (l.map Lg.c))::[]):=by
 have hx:ql (fun (x:Lg)=>T.any fun y=>y==x.id) l = -1:=iN (fun (x:Lg)=>T.any fun y=>y==x.id) h0;have hD:∀m:List Lg,∀x∈l,bC prog 173 ([]++([.agg x.c]++[.bJ [l8 T] 0])) (bl ((fun (x:Lg)=>T.any fun y=>y==x.id) x)):=fun m x _=>Kg _ _
 have cI:=dW l 173 [] [.bJ [l8 T] 0] (fun (x:Lg)=>T.any fun y=>y==x.id) (hD l);rw[hx] at cI;clear hx hD h0;try simp only[dR,fq,fI,fJ,pq] at cI ⊢
 refine jy sw ?_;repeat' ((conv=>whnf);first|with_reducible apply aG|((with_reducible apply fk)<;>intro hc<;>try exact aK)|(apply aH;refine⟨_,cI,?_⟩)|refine aC ?_|fail)
 refine⟨_,_,⟨rfl,rfl⟩,?_⟩;all_goals exact ay
theorem Br (T:List Int)(l:List Lg)(h0:¬∀x∈l,(fun (x:Lg)=>T.any fun y=>y==x.id) x=false)(hl:l.length≤1000000) :
  dU prog 172 [.aB 1 0,.pv (.fn (.func 173) [] [.bJ [l8 T] 0])] ((1,.arr 50 0 6 (l.map Lg.c))::[]) (.sub 1 0 6 0 (l.filter fun x=>!(fun (x:Lg)=>T.any fun y=>y==x.id) x).length) ((1,.arr 50 0 6 ((l.filter fun x=>!(fun (x:Lg)=>T.any fun y=>y==x.id) x).map Lg.c++List.replicate (l.length-(l.filter fun x=>!(fun (x:Lg)=>T.any fun y=>y==x.id) x).length) [uu 0,ii 0,ii 0,.sc (.slice none 0 0),ii 0,uu 0]))::[]):=by
 obtain⟨ix,hix,hxe,hxp,hxf⟩:∃k,∃hk:k<l.length,ql (fun (x:Lg)=>T.any fun y=>y==x.id) l=(k:Nat)∧(fun (x:Lg)=>T.any fun y=>y==x.id) l[k]=true∧∀j (hj:j<l.length),j<k→(fun (x:Lg)=>T.any fun y=>y==x.id) l[j]=false:=by
  rcases nM (fun (x:Lg)=>T.any fun y=>y==x.id) l with ⟨_,h⟩|⟨k,hk,h1,h2,h3⟩
  ·exact absurd h h0
  exact⟨k,hk,h1,h2,h3⟩
 obtain⟨hS,hK⟩:=zh (p:=(fun (x:Lg)=>T.any fun y=>y==x.id)) ix hix hxf hxp;have hD:∀m:List Lg,∀x∈l,bC prog 173 ([]++([.agg x.c]++[.bJ [l8 T] 0])) (bl ((fun (x:Lg)=>T.any fun y=>y==x.id) x)):=fun m x _=>Kg _ _
 have cI:=dW l 173 [] [.bJ [l8 T] 0] (fun (x:Lg)=>T.any fun y=>y==x.id) (hD l);rw[hxe] at cI;have d9:((ix:Int) == -1)=false:=by simp
 have eX:IntKind.i64.wrap ((ix:Int)+1)=((ix+1:Nat):Int):=by rw[aJ (by omega) (by omega)];omega
 try simp only[dR,fq,fI,fJ,pq] at cI hD ⊢
 refine jy sw ?_;repeat' ((conv=>whnf);first|with_reducible apply aG|((with_reducible apply fk)<;>intro hc<;>try exact aK)|(apply aH;refine⟨_,cI,?_⟩)|refine aC ?_|fail)
 clear cI d9;refine⟨{jm:Nat×List Lg // K4 (fun (x:Lg)=>T.any fun y=>y==x.id) l jm},fun⟨(j,m),_⟩=>⟨[(0,.aB 1 0),(1,.pv (.fn (.func 173) [] [.bJ [l8 T] 0])),(5,.pv (ii (dF (fun (x:Lg)=>T.any fun y=>y==x.id) l j).length)),(6,.pv (ii j))],1000000000,(1,.arr 50 0 6 (m.map Lg.c))::[]⟩,fun⟨(j,_),_⟩=>l.length-j,⟨⟨(ix+1,l),hS⟩,aj ?_⟩,?_⟩
 ·simp only[dR,fq,fI,fJ,pq];repeat' first|apply And.intro|exact ay|fail
  all_goals try (conv=>whnf)
  all_goals first
   |exact eX
   |rw[hK]
 rintro⟨⟨j,m⟩,hj⟩
 obtain⟨hj1,hj2,hj3,hj4⟩:=id hj;simp only at hj1 hj2 hj3 hj4;have hkl:=Av (fun (x:Lg)=>T.any fun y=>y==x.id) l j hj1;try simp only[dR,fq,fI,fJ,pq]
 by_cases hlt:j<m.length
 ·have hlt2:j<l.length:=by omega
  have d0:decide ((j:Int)<((m.map Lg.c).length:Int))=true:=by simp only[jS,gQ];omega
  obtain⟨_,he⟩:=FU hj hlt2;have J6:=hD m m[j] (by rw[he];exact List.getElem_mem hlt2);have hi:(dF (fun (x:Lg)=>T.any fun y=>y==x.id) l j).length<m.length:=by omega
  have eJ:IntKind.i64.wrap ((j:Int)+1)=((j+1:Nat):Int):=by rw[aJ (by omega) (by omega)];omega
  cases hp2:(fun (x:Lg)=>T.any fun y=>y==x.id) m[j] with
  | false=>
    change bC _ _ _ (bl ((fun (x:Lg)=>T.any fun y=>y==x.id) m[j])) at J6
    rw[hp2] at J6;have PY:(fun (x:Lg)=>T.any fun y=>y==x.id) l[j]=false:=by rw[←he];exact hp2
    have hks:(dF (fun (x:Lg)=>T.any fun y=>y==x.id) l (j+1)).length=(dF (fun (x:Lg)=>T.any fun y=>y==x.id) l j).length+1:=ze hlt2 PY;have eI:IntKind.i64.wrap (((dF (fun (x:Lg)=>T.any fun y=>y==x.id) l j).length:Int)+1)=((dF (fun (x:Lg)=>T.any fun y=>y==x.id) l (j+1)).length:Int):=by rw[aJ (by omega) (by omega),hks];omega
    repeat' ((conv=>whnf);first|with_reducible apply aG|((with_reducible apply fk)<;>intro hc<;>try exact aK)|(refine sF ?_)|((refine⟨_,dx _ _ _ hlt,?_⟩))|((refine⟨_,dx _ _ _ hi,?_⟩))|(apply aH;refine⟨_,J6,?_⟩)|refine aC ?_|fail)
    refine⟨⟨(j+1,m.set (dF (fun (x:Lg)=>T.any fun y=>y==x.id) l j).length l[j]),Cc hj hlt2 PY⟩,dec_lt hlt2,aj ?_⟩;try simp only[dR,fq,fI,fJ,pq]
    repeat' first|apply And.intro|exact ay|fail
    all_goals try (conv=>whnf)
    all_goals first
     |exact eI
     |exact eJ
     | (refine fA ?_
        rw[←he,List.map_set];rfl)
  | true=>
    change bC _ _ _ (bl ((fun (x:Lg)=>T.any fun y=>y==x.id) m[j])) at J6
    rw[hp2] at J6;have hpt:(fun (x:Lg)=>T.any fun y=>y==x.id) l[j]=true:=by rw[←he];exact hp2
    have hks:(dF (fun (x:Lg)=>T.any fun y=>y==x.id) l (j+1)).length=(dF (fun (x:Lg)=>T.any fun y=>y==x.id) l j).length:=zf hlt2 hpt;repeat' ((conv=>whnf);first|with_reducible apply aG|((with_reducible apply fk)<;>intro hc<;>try exact aK)|(refine sF ?_)|((refine⟨_,dx _ _ _ hlt,?_⟩))|(apply aH;refine⟨_,J6,?_⟩)|refine aC ?_|fail)
    refine⟨⟨(j+1,m),Cb hj hlt2 hpt⟩,dec_lt hlt2,aj ?_⟩;try simp only[dR,fq,fI,fJ,pq]
    repeat' first|apply And.intro|exact ay|fail
    all_goals try (conv=>whnf)
    all_goals first
     |exact eJ
     |rw[hks]
 have hjl:j=l.length:=by omega
 have d0:decide ((j:Int)<((m.map Lg.c).length:Int))=false:=by simp only[jS,kQ];omega
 subst hjl;have hkf:dF (fun (x:Lg)=>T.any fun y=>y==x.id) l l.length=l.filter fun x=>!(fun (x:Lg)=>T.any fun y=>y==x.id) x:=by unfold dF;rw[List.take_length]
 repeat' ((conv=>whnf);first|with_reducible apply aG|((with_reducible apply fk)<;>intro hc<;>try exact aK)|(((with_reducible apply And.intro);focus (simp only[jS,Bu,List.length_take,List.length_drop,List.length_replicate];omega)))|refine aC ?_|fail)
 refine⟨_,_,⟨rfl,rfl⟩,?_⟩;repeat' first|apply And.intro|exact ay|fail
 all_goals try (conv=>whnf)
 all_goals first
  |(rw[hkf];rfl)
  | (refine fA ?_
     rw[←hkf,Int.toNat_natCast,List.length_map,←List.map_take,hj3,List.drop_eq_nil_of_le (by simp),List.append_nil,hj2])
theorem CO (T:List Int)(l:List Lg)(h0:¬∀x∈l,(fun (x:Lg)=>T.any fun y=>y==x.id) x=false)(hl:l.length≤1000000) :
  dU prog 172 [.aB 1 0,.pv (.fn (.func 173) [] [.bJ [l8 T] 0])] ((1,.arr 50 0 6 (l.map Lg.c))::[]) (.aB 1 1) ((1,.arr 50 1 6 ((l.filter fun x=>!(fun (x:Lg)=>T.any fun y=>y==x.id) x).map Lg.c))::[]):=by
 have h:=La (Br T l h0 hl) (by simp);rw[List.take_append_of_le_length (by simp),List.take_of_length_le (by simp)] at h;exact h
theorem iY:aQ prog 131 f131:=bU func131
theorem Wq (a b:Int)(A:List Ch)(c:Ch)(B:List Ch)(L:List Lg)(Q:List Pa)(o:bg)(h:rR (kD a b A c B L Q))(hl:c.af.length≤1000000)(hL:L.length≤1000000)(y:Nat×Int)(hy:y=dI (kD a b A c B L Q) c.trim c.af c.first)(hn:y.1≤c.af.length)(T R:List Int)(hT:T=c.af.take y.1)(hR:R=c.af.drop y.1)(se:Bool)(hse:o.seen.any (fun x=>decide (x.offset≥y.2))=se)(hno:(!ku R o.aY||se)=true):dU prog 131 [.ptr 1 0]
  ((1,.var (wC a b (.aB 2 0) (.aB 3 0) (.aB 4 0) o (.bn 2 0 (A.map Ch.c).length 0) bQ))::jv (c.c.map .pv) A B L Q) (.pv (.dn []))
  ((1,.var (wC a b (.aB 2 0) (.aB 3 0) (.aB 4 0) o (.bn 2 0 (A.map Ch.c).length 0) (iX 5)))::jv (c.c.map .pv) A B L Q):=by
 have cR:=wR a b A c B L Q o 5 bQ;have cG:=Sg a b A c B L Q o bQ h (by omega);rw[←hy] at cG;obtain⟨n,fi⟩:=y;simp only at hn hT hR cG hse ⊢;have cS:=jc o.seen 171 [] [.bJ [uu fi] 0] (fun x=>decide (x.offset≥fi)) fun x _=>CJ x fi
 rw[hse] at cS;have P7:mh (c.af.map bR) (some (n:Int)) none=R.map bR:=by rw[hR];unfold mh;simp only;rw[Int.toNat_natCast,List.map_drop]
 have hC2:mh (c.af.map bR) none (some (n:Int))=T.map bR:=by rw[hT];unfold mh;simp only;rw[Int.toNat_natCast,List.map_take]
 have hnl:(n:Int)≤((c.af.map bR).length:Int):=by rw[List.length_map];omega
 have hRl:R.length≤1000000:=by rw[hR,List.length_drop];omega
 have cC:=Bl R (by omega);clear h hy hT hR hn hse;simp only[l8,rP,wC,jv,bg.c,Pl.c,Ch.c,Oc.c,dR,fq,fI,fJ] at cG cR cS ⊢;cases R with
 | nil=>
   simp only[ku,fq] at hno P7;have hz:(((([]:List (List PV)).length:Nat):Int)==0)=true:=by rfl
   have hp:decide (((([]:List (List PV)).length:Nat):Int)>0)=false:=by rfl
   cases hq:(o.aY==0) with
   | false=>
     clear hno;refine jy iY ?_;repeat' ((conv=>whnf);first|with_reducible apply aG|((with_reducible apply fk)<;>intro hc<;>try exact fO)|rewrite[A8]|rewrite[A9]|rewrite[P7]|rewrite[hC2]|(apply fB;refine⟨_,_,cG,?_⟩)|(apply aH;refine⟨_,cS,?_⟩)|(apply fB;refine⟨_,_,cR,?_⟩)|((refine⟨_,rfl,?_⟩))|(((with_reducible apply And.intro);focus (simp only[dQ];omega)))|refine aC ?_|fail)
     all_goals clear cG cS cR
     all_goals
      refine⟨_,_,⟨rfl,rfl⟩,?_⟩;all_goals exact ay
   | true=>
     have hs:se=true:=by simpa[hq] using hno
     subst hs;clear hno;refine jy iY ?_;repeat' ((conv=>whnf);first|with_reducible apply aG|((with_reducible apply fk)<;>intro hc<;>try exact fO)|rewrite[A8]|rewrite[A9]|rewrite[P7]|rewrite[hC2]|(apply fB;refine⟨_,_,cG,?_⟩)|(apply aH;refine⟨_,cS,?_⟩)|(apply fB;refine⟨_,_,cR,?_⟩)|((refine⟨_,rfl,?_⟩))|(((with_reducible apply And.intro);focus (simp only[dQ];omega)))|refine aC ?_|fail)
     all_goals clear cG cS cR
     all_goals
      refine⟨_,_,⟨rfl,rfl⟩,?_⟩;all_goals exact ay
 | cons r0 rr=>
   simp only[ku,dR,bR] at hno P7;have hz:(((([uu r0]::rr.map bR).length:Nat):Int)==0)=false:=by first|(simp;done)|(simp;omega)
   have hp:decide (((([uu r0]::rr.map bR).length:Nat):Int)>0)=true:=by first|(simp;done)|(simp;omega)
   cases hq:(o.aY==r0) with
   | false=>
     clear hno;refine jy iY ?_;repeat' ((conv=>whnf);first|with_reducible apply aG|((with_reducible apply fk)<;>intro hc<;>try exact fO)|rewrite[A8]|rewrite[A9]|rewrite[P7]|rewrite[hC2]|(apply fB;refine⟨_,_,cG,?_⟩)|(apply aH;refine⟨_,cS,?_⟩)|(apply fB;refine⟨_,_,cR,?_⟩)|((refine⟨_,rfl,?_⟩))|(((with_reducible apply And.intro);focus (simp only[dQ];omega)))|refine aC ?_|fail)
     all_goals clear cG cS cR
     all_goals
      refine⟨_,_,⟨rfl,rfl⟩,?_⟩;all_goals exact ay
   | true=>
     have hs:se=true:=by simpa[hq] using hno
     subst hs;clear hno;refine jy iY ?_;repeat' ((conv=>whnf);first|with_reducible apply aG|((with_reducible apply fk)<;>intro hc<;>try exact fO)|rewrite[A8]|rewrite[A9]|rewrite[P7]|rewrite[hC2]|(apply fB;refine⟨_,_,cG,?_⟩)|(apply aH;refine⟨_,cS,?_⟩)|(apply fB;refine⟨_,_,cR,?_⟩)|((refine⟨_,rfl,?_⟩))|(((with_reducible apply And.intro);focus (simp only[dQ];omega)))|refine aC ?_|fail)
     all_goals clear cG cS cR
     all_goals
      refine⟨_,_,⟨rfl,rfl⟩,?_⟩;all_goals exact ay
theorem Ws (a b:Int)(A:List Ch)(c:Ch)(B:List Ch)(L:List Lg)(Q:List Pa)(o:bg)(h:rR (kD a b A c B L Q))(hl:c.af.length≤1000000)(hL:L.length≤1000000)(y:Nat×Int)(hy:y=dI (kD a b A c B L Q) c.trim c.af c.first)(hn:y.1≤c.af.length)(T R:List Int)(hT:T=c.af.take y.1)(hR:R=c.af.drop y.1)(hse:o.seen.any (fun x=>decide (x.offset≥y.2))=false)(hno:ku R o.aY=true)(h0:∀x∈L,(fun (x:Lg)=>T.any fun y=>y==x.id) x=false):dU prog 131 [.ptr 1 0]
  ((1,.var (wC a b (.aB 2 0) (.aB 3 0) (.aB 4 0) o (.bn 2 0 (A.map Ch.c).length 0) bQ))::jv (c.c.map .pv) A B L Q) (.pv (.dn []))
  [(1,.var (wC a b (.aB 2 0) (.aB 3 0) (.aB 4 0) o (.bn 2 0 (A.map Ch.c).length 0) { bQ with at_:=y.2 })),(2,.dN 47 0 9 (A.map Ch.c) (Ch.c { c with af:=R,first:=y.2,seen:=o.seen } |>.map .pv) (B.map Ch.c)),(3,.arr 50 0 6 (L.map Lg.c)),(4,.arr 68 0 8 (Q.map Pa.c))]:=by
 have cD:=CK T L h0 hL;clear h0;have cG:=Sg a b A c B L Q o bQ h (by omega);rw[←hy] at cG;obtain⟨n,fi⟩:=y;simp only at hn hT hR cG hse ⊢;have cS:=jc o.seen 171 [] [.bJ [uu fi] 0] (fun x=>decide (x.offset≥fi)) fun x _=>CJ x fi
 rw[hse] at cS;have P7:mh (c.af.map bR) (some (n:Int)) none=R.map bR:=by rw[hR];unfold mh;simp only;rw[Int.toNat_natCast,List.map_drop]
 have hC2:mh (c.af.map bR) none (some (n:Int))=T.map bR:=by rw[hT];unfold mh;simp only;rw[Int.toNat_natCast,List.map_take]
 have hnl:(n:Int)≤((c.af.map bR).length:Int):=by rw[List.length_map];omega
 have hRl:R.length≤1000000:=by rw[hR,List.length_drop];omega
 have cC:=Bl R (by omega);clear h hy hT hR hn hse;simp only[l8,rP,wC,jv,bg.c,Pl.c,Ch.c,Oc.c,dR,fq,fI,fJ] at cG cD cS ⊢;cases R with
 | nil=>
   simp only[ku,fq] at hno P7;have hz:(((([]:List (List PV)).length:Nat):Int)==0)=true:=by rfl
   have hp:decide (((([]:List (List PV)).length:Nat):Int)>0)=false:=by rfl
   refine jy iY ?_;repeat' ((conv=>whnf);first|with_reducible apply aG|((with_reducible apply fk)<;>intro hc<;>try exact fO)|rewrite[A8]|rewrite[A9]|rewrite[P7]|rewrite[hC2]|(apply fB;refine⟨_,_,cG,?_⟩)|(apply aH;refine⟨_,cS,?_⟩)|(apply fB;refine⟨_,_,cD,?_⟩)|(apply aH;refine⟨_,cC,?_⟩)|((refine⟨_,rfl,?_⟩))|(((with_reducible apply And.intro);focus (simp only[dQ];omega)))|refine aC ?_|fail)
   all_goals clear cG cS cD
   all_goals
    refine⟨_,_,⟨rfl,rfl⟩,?_⟩;all_goals exact ay
 | cons r0 rr=>
   simp only[ku,dR,bR] at hno P7 ⊢;have hz:(((([uu r0]::rr.map bR).length:Nat):Int)==0)=false:=by first|(simp;done)|(simp;omega)
   have hp:decide (((([uu r0]::rr.map bR).length:Nat):Int)>0)=true:=by first|(simp;done)|(simp;omega)
   refine jy iY ?_;repeat' ((conv=>whnf);first|with_reducible apply aG|((with_reducible apply fk)<;>intro hc<;>try exact fO)|rewrite[A8]|rewrite[A9]|rewrite[P7]|rewrite[hC2]|(apply fB;refine⟨_,_,cG,?_⟩)|(apply aH;refine⟨_,cS,?_⟩)|(apply fB;refine⟨_,_,cD,?_⟩)|(apply aH;refine⟨_,cC,?_⟩)|((refine⟨_,rfl,?_⟩))|(((with_reducible apply And.intro);focus (simp only[dQ];omega)))|refine aC ?_|fail)
   all_goals clear cG cS cD
   all_goals
    refine⟨_,_,⟨rfl,rfl⟩,?_⟩;all_goals exact ay
theorem Wt (a b:Int)(A:List Ch)(c:Ch)(B:List Ch)(L:List Lg)(Q:List Pa)(o:bg)(h:rR (kD a b A c B L Q))(hl:c.af.length≤1000000)(hL:L.length≤1000000)(y:Nat×Int)(hy:y=dI (kD a b A c B L Q) c.trim c.af c.first)(hn:y.1≤c.af.length)(T R:List Int)(hT:T=c.af.take y.1)(hR:R=c.af.drop y.1)(hse:o.seen.any (fun x=>decide (x.offset≥y.2))=false)(hno:ku R o.aY=true)(h0:¬∀x∈L,(fun (x:Lg)=>T.any fun y=>y==x.id) x=false):dU prog 131 [.ptr 1 0]
  ((1,.var (wC a b (.aB 2 0) (.aB 3 0) (.aB 4 0) o (.bn 2 0 (A.map Ch.c).length 0) bQ))::jv (c.c.map .pv) A B L Q) (.pv (.dn []))
  [(1,.var (wC a b (.aB 2 0) (.aB 3 1) (.aB 4 0) o (.bn 2 0 (A.map Ch.c).length 0) { bQ with at_:=y.2 })),(2,.dN 47 0 9 (A.map Ch.c) (Ch.c { c with af:=R,first:=y.2,seen:=o.seen } |>.map .pv) (B.map Ch.c)),(3,.arr 50 1 6 ((L.filter fun x=>!(fun (x:Lg)=>T.any fun y=>y==x.id) x).map Lg.c)),(4,.arr 68 0 8 (Q.map Pa.c))]:=by
 have cD:=CO T L h0 hL;clear h0;have cG:=Sg a b A c B L Q o bQ h (by omega);rw[←hy] at cG;obtain⟨n,fi⟩:=y;simp only at hn hT hR cG hse ⊢;have cS:=jc o.seen 171 [] [.bJ [uu fi] 0] (fun x=>decide (x.offset≥fi)) fun x _=>CJ x fi
 rw[hse] at cS;have P7:mh (c.af.map bR) (some (n:Int)) none=R.map bR:=by rw[hR];unfold mh;simp only;rw[Int.toNat_natCast,List.map_drop]
 have hC2:mh (c.af.map bR) none (some (n:Int))=T.map bR:=by rw[hT];unfold mh;simp only;rw[Int.toNat_natCast,List.map_take]
 have hnl:(n:Int)≤((c.af.map bR).length:Int):=by rw[List.length_map];omega
 have hRl:R.length≤1000000:=by rw[hR,List.length_drop];omega
 have cC:=Bl R (by omega);clear h hy hT hR hn hse;simp only[l8,rP,wC,jv,bg.c,Pl.c,Ch.c,Oc.c,dR,fq,fI,fJ] at cG cD cS ⊢;cases R with
 | nil=>
   simp only[ku,fq] at hno P7;have hz:(((([]:List (List PV)).length:Nat):Int)==0)=true:=by rfl
   have hp:decide (((([]:List (List PV)).length:Nat):Int)>0)=false:=by rfl
   refine jy iY ?_;repeat' ((conv=>whnf);first|with_reducible apply aG|((with_reducible apply fk)<;>intro hc<;>try exact fO)|rewrite[A8]|rewrite[A9]|rewrite[P7]|rewrite[hC2]|(apply fB;refine⟨_,_,cG,?_⟩)|(apply aH;refine⟨_,cS,?_⟩)|(apply fB;refine⟨_,_,cD,?_⟩)|(apply aH;refine⟨_,cC,?_⟩)|((refine⟨_,rfl,?_⟩))|(((with_reducible apply And.intro);focus (simp only[dQ];omega)))|refine aC ?_|fail)
   all_goals clear cG cS cD
   all_goals
    refine⟨_,_,⟨rfl,rfl⟩,?_⟩;all_goals exact ay
 | cons r0 rr=>
   simp only[ku,dR,bR] at hno P7 ⊢;have hz:(((([uu r0]::rr.map bR).length:Nat):Int)==0)=false:=by first|(simp;done)|(simp;omega)
   have hp:decide (((([uu r0]::rr.map bR).length:Nat):Int)>0)=true:=by first|(simp;done)|(simp;omega)
   refine jy iY ?_;repeat' ((conv=>whnf);first|with_reducible apply aG|((with_reducible apply fk)<;>intro hc<;>try exact fO)|rewrite[A8]|rewrite[A9]|rewrite[P7]|rewrite[hC2]|(apply fB;refine⟨_,_,cG,?_⟩)|(apply aH;refine⟨_,cS,?_⟩)|(apply fB;refine⟨_,_,cD,?_⟩)|(apply aH;refine⟨_,cC,?_⟩)|((refine⟨_,rfl,?_⟩))|(((with_reducible apply And.intro);focus (simp only[dQ];omega)))|refine aC ?_|fail)
   all_goals clear cG cS cD
   all_goals
    refine⟨_,_,⟨rfl,rfl⟩,?_⟩;all_goals exact ay
theorem V3:aQ prog 124 f124:=bU func124
theorem afw (a b:Int)(A:List Ch)(c:Ch)(B:List Ch)(L:List Lg)(Q:List Pa)(o:bg):dU prog 124 [.ptr 1 0]
  ((1,.var (wC a b (.aB 2 0) (.aB 3 0) (.aB 4 0) o (.bn 2 0 (A.map Ch.c).length 0) bQ))::jv (c.c.map .pv) A B L Q) (.pv (.dn []))
  ((1,.var (wC a b (.aB 2 0) (.aB 3 0) (.aB 4 0) o (.bn 2 0 (A.map Ch.c).length 0) (mF c o).2))::jv ((mF c o).1.c.map .pv) A B L Q):=by
 obtain⟨X,hX⟩:∃X,X=mF c o:=⟨_,rfl⟩;rw[←hX];unfold mF NK at hX;simp only[wC,jv,bg.c,Pl.c,Ch.c,Oc.c,dR,fq,fI,fJ];have cR:=wR a b A c B L Q o 3 bQ;simp only[wC,jv,bg.c,Pl.c,Ch.c,Oc.c,dR,fq,fI,fJ] at cR;refine jy V3 ?_;repeat' ((conv=>whnf);first|with_reducible apply aG|((with_reducible apply fk)<;>intro hc<;>try exact aK)|(apply fB;refine⟨_,_,cR,?_⟩)|refine aC ?_|fail)
 all_goals
  simp only[Bool.not_true, *,Bool.true_or,Bool.or_true,Bool.false_or,Bool.or_false,Bool.true_and,Bool.and_true,Bool.false_and,Bool.and_false,Bool.not_true,Bool.not_false,Bool.false_eq_true,↓reduceIte] at hX;subst hX;refine⟨_,_,⟨rfl,rfl⟩,?_⟩;all_goals exact ay
theorem V4:aQ prog 130 f130:=bU func130
theorem afx (a b:Int)(A:List Ch)(c:Ch)(B:List Ch)(L:List Lg)(Q:List Pa)(o:bg)(h:rR (kD a b A c B L Q)):dU prog 130 [.ptr 1 0]
  ((1,.var (wC a b (.aB 2 0) (.aB 3 0) (.aB 4 0) o (.bn 2 0 (A.map Ch.c).length 0) bQ))::jv (c.c.map .pv) A B L Q) (.pv (.dn []))
  ((1,.var (wC a b (.aB 2 0) (.aB 3 0) (.aB 4 0) o (.bn 2 0 (A.map Ch.c).length 0) (lZ (kD a b A c B L Q) c o).2))::jv ((lZ (kD a b A c B L Q) c o).1.c.map .pv) A B L Q):=by
 have cE:=Gm (kD a b A c B L Q) o.channel h;have cO:=Er (kD a b A c B L Q) o.channel h;have e1:(kD a b A c B L Q).c=[uu a,uu b,.sl false 9 (A.map Ch.c++c.c::B.map Ch.c),.sl false 6 (L.map Lg.c),.sl false 8 (Q.map Pa.c)]:=by
  simp only[kD,Pn.c,jL,dO,uS,pq,dR]
 rw[e1] at cE cO;obtain⟨X,hX⟩:∃X,X=lZ (kD a b A c B L Q) c o:=⟨_,rfl⟩;rw[←hX];unfold lZ at hX;generalize (fK (kD a b A c B L Q) o.channel).isSome=is at *;generalize pE (kD a b A c B L Q) o.channel=e at *;clear h e1;have cR:=wR a b A c B L Q o 1 bQ;simp only[wC,jv,bg.c,Pl.c,Ch.c,Oc.c,dR,fq,fI,fJ] at cR cE cO ⊢;refine jy V4 ?_;repeat' ((conv=>whnf);first|with_reducible apply aG|((with_reducible apply fk)<;>intro hc<;>try exact aK)|(apply aH;refine⟨_,cE,?_⟩)|(apply aH;refine⟨_,cO,?_⟩)|(apply fB;refine⟨_,_,cR,?_⟩)|refine aC ?_|fail)
 all_goals
  simp only[mo, *,Bool.false_eq_true,↓reduceIte] at hX;subst hX;refine⟨_,_,⟨rfl,rfl⟩,?_⟩
  (repeat' first|apply And.intro|exact ay|fail);(all_goals try (conv=>whnf))
theorem Sq {F:FuncId}{hp:List (Nat×aA)}{a b:Int}{A:List Ch}{c:Ch}{B:List Ch}{LA:List Lg}{x:Lg}{LB:List Lg}{Q:List Pa}{o:bg}{out:Oc}{n:Nat}
  (h:dU prog F [.ptr 1 0] hp (.pv (.dn [])) ((1,.var (wC a b (.aB 2 0) (.aB 3 0) (.aB 4 0) o (.bn 2 0 n 0) out))::CG (c.c.map .pv) A B (x.c.map .pv) LA LB Q)) :
  dU prog F [.ptr 1 0] hp (.pv (.dn [])) (uK 0 0 a b (A++c::B) (LA++x::LB) Q o out):=by
 have h1:dU prog F [.ptr 1 0] hp (.pv (.dn [])) ((1,.var (wC a b (.aB 2 0) (.aB 3 0) (.aB 4 0) o (.bn 2 0 n 0) out))::jv (c.c.map .pv) A B (LA++x::LB) Q):=by
  simp only[wC,jv,CG,bg.c,Pl.c,Ch.c,Oc.c,Lg.c,dR,fq,fI,fJ,pq] at h ⊢;refine jr h 3 rfl rfl rfl rfl ?_;refine⟨_,_,⟨rfl,rfl⟩,?_⟩
  (conv=>whnf)
  all_goals exact ay
 exact qX h1
theorem acU {F:FuncId}{hp:List (Nat×aA)}{a b:Int}{A:List Ch}{c:Ch}{B:List Ch}{LA:List Lg}{x:Lg}{LB:List Lg}{Q:List Pa}{o:bg}{out:Oc}{n:Nat}{G:List Fr}
  (h:dU prog F [.ptr 1 0] hp (.pv (.dn [])) ((1,.var (wC a b (.aB 2 0) (.aB 3 0) (.aB 4 0) o (.bn 2 0 n 0) out))::(CG (c.c.map .pv) A B [.pv (uu x.id),.pv (ii x.w),.pv (ii x.a),.aB 1001 0,.pv (ii x.closed),.pv (uu x.last)] LA LB Q++[(1001,.arr 80 0 2 (G.map Fr.c))]))) :
  dU prog F [.ptr 1 0] hp (.pv (.dn [])) (uK 0 0 a b (A++c::B) (LA++{ x with av:=G }::LB) Q o out):=by
 have h1:dU prog F [.ptr 1 0] hp (.pv (.dn [])) ((1,.var (wC a b (.aB 2 0) (.aB 3 0) (.aB 4 0) o (.bn 2 0 n 0) out))::jv (c.c.map .pv) A B (LA++{ x with av:=G }::LB) Q):=by
  simp only[wC,jv,CG,bg.c,Pl.c,Ch.c,Oc.c,Lg.c,dR,fq,fI,fJ,pq] at h ⊢;refine jr h 3 rfl rfl rfl rfl ?_;refine⟨_,_,⟨rfl,rfl⟩,?_⟩
  (conv=>whnf)
  all_goals exact ay
 exact qX h1
theorem Ul {F:FuncId}{hp:List (Nat×aA)}{a b:Int}{A:List Ch}{c:Ch}{B:List Ch}{K:List Cu}{L:List Lg}{Q:List Pa}{o:bg}{out:Oc}{n:Nat}
  (h:dU prog F [.ptr 1 0] hp (.pv (.dn [])) ((1,.var (wC a b (.aB 2 0) (.aB 4 0) (.aB 5 0) o (.bn 2 0 n 0) out))::Bv 1 (lM c (.aB 3 1)) A B K L Q)) :
  dU prog F [.ptr 1 0] hp (.pv (.dn [])) (uL 0 1 0 2 (K.map Cu.c) a b (A++{ c with au:=K }::B) L Q o out):=by
 have h1:dU prog F [.ptr 1 0] hp (.pv (.dn [])) [(1,.var (wC a b (.aB 2 0) (.aB 4 0) (.aB 5 0) o (.bn 2 0 n 0) out)),(2,.arr 47 0 9 ((A++{ c with au:=K }::B).map Ch.c)),(3,.kE 1 2 (K.map Cu.c)),(4,.arr 50 0 6 (L.map Lg.c)),(5,.arr 68 0 8 (Q.map Pa.c))]:=by
  simp only[wC,Bv,lM,bg.c,Pl.c,Ch.c,Oc.c,Hr,dR,fq,fI,fJ,pq] at h ⊢;refine jr h 2 rfl rfl rfl rfl ?_;refine⟨_,_,⟨rfl,rfl⟩,?_⟩
  (conv=>whnf)
  all_goals exact ay
 refine iw h1 [2,4] ?_;simp only[uL,wC,bg.c,Pl.c,Oc.c,dR,fq,fI,fJ]
 (conv=>whnf)
 refine⟨_,_,⟨rfl,rfl⟩,?_⟩;all_goals exact ay
theorem Um {F:FuncId}{hp:List (Nat×aA)}{a b:Int}{A:List Ch}{c:Ch}{B:List Ch}{K:List Cu}{L:List Lg}{Q:List Pa}{o:bg}{out:Oc}{n:Nat}
  (h:dU prog F [.ptr 1 0] hp (.pv (.dn [])) ((1,.var (wC a b (.aB 2 0) (.aB 4 0) (.aB 5 0) o (.bn 2 0 n 0) out))::Bv 2 (lM c (.aB 3 2)) A B K L Q)) :
  dU prog F [.ptr 1 0] hp (.pv (.dn [])) (uL 0 2 0 2 (K.map Cu.c) a b (A++{ c with au:=K }::B) L Q o out):=by
 have h1:dU prog F [.ptr 1 0] hp (.pv (.dn [])) [(1,.var (wC a b (.aB 2 0) (.aB 4 0) (.aB 5 0) o (.bn 2 0 n 0) out)),(2,.arr 47 0 9 ((A++{ c with au:=K }::B).map Ch.c)),(3,.kE 2 2 (K.map Cu.c)),(4,.arr 50 0 6 (L.map Lg.c)),(5,.arr 68 0 8 (Q.map Pa.c))]:=by
  simp only[wC,Bv,lM,bg.c,Pl.c,Ch.c,Oc.c,Hr,dR,fq,fI,fJ,pq] at h ⊢;refine jr h 2 rfl rfl rfl rfl ?_;refine⟨_,_,⟨rfl,rfl⟩,?_⟩
  (conv=>whnf)
  all_goals exact ay
 refine iw h1 [2,4] ?_;simp only[uL,wC,bg.c,Pl.c,Oc.c,dR,fq,fI,fJ]
 (conv=>whnf)
 refine⟨_,_,⟨rfl,rfl⟩,?_⟩;all_goals exact ay
theorem Un {F:FuncId}{hp:List (Nat×aA)}{a b:Int}{A:List Ch}{c:Ch}{B:List Ch}{K:List Int}{L:List Lg}{Q:List Pa}{o:bg}{out:Oc}{n:Nat}
  (h:dU prog F [.ptr 1 0] hp (.pv (.dn [])) ((1,.var (wC a b (.aB 2 0) (.aB 4 0) (.aB 5 0) o (.bn 2 0 n 0) out))::WT 0 0 (Uj c (.aB 3 0)) A B K L Q)) :
  dU prog F [.ptr 1 0] hp (.pv (.dn [])) (uL 0 0 0 1 (K.map bR) a b (A++{ c with af:=K }::B) L Q o out):=by
 have h1:dU prog F [.ptr 1 0] hp (.pv (.dn [])) [(1,.var (wC a b (.aB 2 0) (.aB 4 0) (.aB 5 0) o (.bn 2 0 n 0) out)),(2,.arr 47 0 9 ((A++{ c with af:=K }::B).map Ch.c)),(3,.kE 0 1 (K.map bR)),(4,.arr 50 0 6 (L.map Lg.c)),(5,.arr 68 0 8 (Q.map Pa.c))]:=by
  simp only[wC,WT,Uj,bg.c,Pl.c,Ch.c,Oc.c,dR,fq,fI,fJ,pq] at h ⊢;refine jr h 2 rfl rfl rfl rfl ?_;refine⟨_,_,⟨rfl,rfl⟩,?_⟩
  (conv=>whnf)
  all_goals exact ay
 refine iw h1 [2,4] ?_;simp only[uL,wC,bg.c,Pl.c,Oc.c,dR,fq,fI,fJ]
 (conv=>whnf)
 refine⟨_,_,⟨rfl,rfl⟩,?_⟩;all_goals exact ay
theorem acV {F:FuncId}{hp:List (Nat×aA)}{a b:Int}{A:List Ch}{c:Ch}{B:List Ch}{L:List Lg}{Q:List Pa}{o:bg}{out:Oc}{n:Nat}
  (h:dU prog F [.ptr 1 0] hp (.pv (.dn [])) [(1,.var (wC a b (.aB 2 0) (.aB 3 0) (.aB 4 0) o (.bn 2 0 n 0) out)),(2,.dN 47 0 9 (A.map Ch.c) (c.c.map .pv) (B.map Ch.c)),(3,.arr 50 0 6 (L.map Lg.c)),(4,.arr 68 0 8 (Q.map Pa.c))]) :
  dU prog F [.ptr 1 0] hp (.pv (.dn [])) (uK 0 0 a b (A++c::B) L Q o out):=by
 have h1:dU prog F [.ptr 1 0] hp (.pv (.dn [])) [(1,.var (wC a b (.aB 2 0) (.aB 3 0) (.aB 4 0) o (.bn 2 0 n 0) out)),(2,.arr 47 0 9 ((A++c::B).map Ch.c)),(3,.arr 50 0 6 (L.map Lg.c)),(4,.arr 68 0 8 (Q.map Pa.c))]:=by
  rw[List.map_append,List.map_cons];simp only[wC,bg.c,Pl.c,Ch.c,Oc.c,dR,fq,fI,fJ] at h ⊢;refine jr h 2 rfl rfl rfl rfl ?_;refine⟨_,_,⟨rfl,rfl⟩,?_⟩
  (conv=>whnf)
  all_goals exact ay
 refine iw h1 [2,3] ?_;simp only[uK,wC,bg.c,Pl.c,Oc.c,dR,fq,fI,fJ]
 (conv=>whnf)
 refine⟨_,_,⟨rfl,rfl⟩,?_⟩;all_goals exact ay
theorem acW {F:FuncId}{hp:List (Nat×aA)}{a b:Int}{A:List Ch}{c:Ch}{B:List Ch}{K:List Int}{L:List Lg}{Q:List Pa}{o:bg}{out:Oc}{n:Nat}
  (h:dU prog F [.ptr 1 0] hp (.pv (.dn [])) ((1,.var (wC a b (.aB 2 0) (.aB 4 1) (.aB 5 0) o (.bn 2 0 n 0) out))::WT 1 1 (Uj c (.aB 3 1)) A B K L Q)) :
  dU prog F [.ptr 1 0] hp (.pv (.dn [])) (uL 0 1 1 1 (K.map bR) a b (A++{ c with af:=K }::B) L Q o out):=by
 have h1:dU prog F [.ptr 1 0] hp (.pv (.dn [])) [(1,.var (wC a b (.aB 2 0) (.aB 4 1) (.aB 5 0) o (.bn 2 0 n 0) out)),(2,.arr 47 0 9 ((A++{ c with af:=K }::B).map Ch.c)),(3,.kE 1 1 (K.map bR)),(4,.arr 50 1 6 (L.map Lg.c)),(5,.arr 68 0 8 (Q.map Pa.c))]:=by
  simp only[wC,WT,Uj,bg.c,Pl.c,Ch.c,Oc.c,dR,fq,fI,fJ,pq] at h ⊢;refine jr h 2 rfl rfl rfl rfl ?_;refine⟨_,_,⟨rfl,rfl⟩,?_⟩
  (conv=>whnf)
  all_goals exact ay
 refine iw h1 [2,4] ?_;simp only[uL,wC,bg.c,Pl.c,Oc.c,dR,fq,fI,fJ]
 (conv=>whnf)
 refine⟨_,_,⟨rfl,rfl⟩,?_⟩;all_goals exact ay
theorem acX {F:FuncId}{hp:List (Nat×aA)}{a b:Int}{A:List Ch}{c:Ch}{B:List Ch}{L:List Lg}{Q:List Pa}{o:bg}{out:Oc}{n:Nat}
  (h:dU prog F [.ptr 1 0] hp (.pv (.dn [])) [(1,.var (wC a b (.aB 2 0) (.aB 3 1) (.aB 4 0) o (.bn 2 0 n 0) out)),(2,.dN 47 0 9 (A.map Ch.c) (c.c.map .pv) (B.map Ch.c)),(3,.arr 50 1 6 (L.map Lg.c)),(4,.arr 68 0 8 (Q.map Pa.c))]) :
  dU prog F [.ptr 1 0] hp (.pv (.dn [])) (uK 0 1 a b (A++c::B) L Q o out):=by
 have h1:dU prog F [.ptr 1 0] hp (.pv (.dn [])) [(1,.var (wC a b (.aB 2 0) (.aB 3 1) (.aB 4 0) o (.bn 2 0 n 0) out)),(2,.arr 47 0 9 ((A++c::B).map Ch.c)),(3,.arr 50 1 6 (L.map Lg.c)),(4,.arr 68 0 8 (Q.map Pa.c))]:=by
  rw[List.map_append,List.map_cons];simp only[wC,bg.c,Pl.c,Ch.c,Oc.c,dR,fq,fI,fJ] at h ⊢;refine jr h 2 rfl rfl rfl rfl ?_;refine⟨_,_,⟨rfl,rfl⟩,?_⟩
  (conv=>whnf)
  all_goals exact ay
 refine iw h1 [2,3] ?_;simp only[uK,wC,bg.c,Pl.c,Oc.c,dR,fq,fI,fJ]
 (conv=>whnf)
 refine⟨_,_,⟨rfl,rfl⟩,?_⟩;all_goals exact ay
theorem DF:∀(es:List (Int×Int)) (n:Int) (i:Nat),(mV es n i=none∧n∉es.map (·.1))∨∃j v,mV es n i=some (i+j,v)∧∃h:j<es.length,es[j].1=n
 |[],n,i=>.inl ⟨rfl,by simp⟩
 | (a,v)::r,n,i=>by
   unfold mV;by_cases h:n=a
   ·rw[if_pos h];exact .inr ⟨0,v,rfl,by simp,by simp[h]⟩
   rw[if_neg h];rcases DF r n (i+1) with ⟨h1,h2⟩|⟨j,w,h1,h2,h3⟩
   ·refine .inl ⟨h1,?_⟩;simp only[dR,List.mem_cons,not_or];exact⟨h,h2⟩
   refine .inr ⟨j+1,w,?_,by simpa using h2,by simpa using h3⟩;rw[h1];congr 2
   omega
theorem Sn (es:List (Int×Int))(n v:Int):(yE es n v).map (·.1)=if n∈es.map (·.1) then es.map (·.1) else es.map (·.1)++[n]:=by
 unfold yE;rcases DF es n 0 with ⟨h1,h2⟩|⟨j,w,h1,h2,h3⟩
 ·rw[h1,if_neg h2];simp
 rw[h1];have hm:n∈es.map (·.1):=List.mem_map.2 ⟨es[j],List.getElem_mem _,h3⟩;rw[if_pos hm];simp only[Nat.zero_add];apply List.ext_getElem (by simp);intro i a b;simp only[List.getElem_map,List.getElem_modify];split
 ·rename_i e;subst e;exact h3.symm
 rfl
theorem Wy (L:List Int)(n:Int):(nX (L++[n])).map (·.1)=if n∈(nX L).map (·.1) then (nX L).map (·.1) else (nX L).map (·.1)++[n]:=by
 unfold nX;rw[List.foldl_append];exact Sn _ _ _
theorem Wz (L:List Int):(∀n,n∈(nX L).map (·.1)↔n∈L)∧(nX L).length≤L.length∧((nX L).length=L.length↔L.Nodup):=by
 suffices h:∀R:List Int,(∀n,n∈(nX R.reverse).map (·.1)↔n∈R)∧(nX R.reverse).length≤R.length∧((nX R.reverse).length=R.length↔R.Nodup) by
  obtain⟨h1,h2,h3⟩:=h L.reverse;rw[List.reverse_reverse] at h1 h2 h3;simp only[List.length_reverse,List.mem_reverse] at h1 h2 h3;rw[(List.reverse_perm L).nodup_iff] at h3;exact⟨h1,h2,h3⟩
 intro R;induction R with
 |nil=>simp[nX]
 | cons a R ih=>
   obtain⟨i1,i2,i3⟩:=ih;rw[List.reverse_cons];have hk:=Wy R.reverse a;have hl:(nX (R.reverse++[a])).length=((nX (R.reverse++[a])).map (·.1)).length:=by rw[List.length_map]
   rw[hl,hk];by_cases ha:a∈(nX R.reverse).map (·.1)
   ·rw[if_pos ha];have har:=(i1 a).1 ha;refine⟨fun n=>?_,?_,?_⟩
    ·rw[i1 n];constructor
     ·intro h;exact List.mem_cons_of_mem _ h
     intro h;rcases List.mem_cons.1 h with rfl|h
     ·exact har
     exact h
    ·rw[List.length_map,List.length_cons];omega
    rw[List.length_map,List.length_cons,List.nodup_cons];constructor
    ·intro h;omega
    intro h;exact absurd har h.1
   rw[if_neg ha];have har:a∉R:=fun h=>ha ((i1 a).2 h)
   refine⟨fun n=>?_,?_,?_⟩
   ·rw[List.mem_append,List.mem_singleton,i1 n,List.mem_cons];exact Or.comm
   ·simp only[Bu,jS,uF,xA];omega
   simp only[Bu,jS,uF,xA,List.nodup_cons];rw[←i3];constructor
   ·intro h;exact⟨har,by omega⟩
   intro h;omega
theorem Ki:∀(l:List Mk) (last:Int),yO last l=true↔(∀x∈l,last<x.producer∧x.producer≤15∧1≤x.seq∧x.seq≤4611686018427387903∧x.offset≤4611686018427387903)∧(l.map (·.producer)).Pairwise (· < ·)
 |[],last=>by simp[yO]
 | x::l,last=>by
   unfold yO afD;rw[Bool.and_eq_true,Ki l x.producer];simp only[Bool.not_eq_true',Bool.or_eq_false_iff,kQ,dR,List.pairwise_cons,List.mem_cons,List.mem_map,forall_exists_index,and_imp,forall_apply_eq_imp_iff₂,forall_eq_or_imp];constructor
   ·rintro⟨⟨a1,a2,a3,a4,a5⟩,b1,b2⟩
    refine⟨⟨⟨by omega,by omega,by omega,by omega,by omega⟩,fun y hy=>?_⟩,fun y hy=>(b1 y hy).1,b2⟩;have:=b1 y hy;exact⟨by omega,this.2⟩
   rintro⟨⟨⟨a1,a2,a3,a4,a5⟩,c⟩,b1,b2⟩
   exact⟨⟨by omega,by omega,by omega,by omega,by omega⟩,fun y hy=>⟨b1 y hy,(c y hy).2⟩,b2⟩
theorem acT (l:List Mk):ZP l=zi l:=by
 rw[Bool.eq_iff_iff];have hm:=(Wz (l.map (·.offset))).2.2;rw[List.length_map] at hm;unfold ZP zi;simp only[Bool.and_eq_true,Ki,gQ,List.all_eq_true,bS,oq,beq_iff_eq,jM,Int.ofNat_inj,hm];constructor
 ·rintro⟨⟨h1,h2⟩,h3,h4⟩
  exact⟨h3,fun x hx=>by have:=h1 x hx;omega,h2,h4⟩
 rintro⟨h3,h1,h2,h4⟩
 exact⟨⟨fun x hx=>by have:=h1 x hx;omega,h2⟩,h3,h4⟩
theorem Bt (o:bg):yh o=DZ o:=by
 have PY:qH o.from_=K3 o.from_:=rfl;have hpt:qH o.nC=K3 o.nC:=rfl;unfold yh DZ Uk;rw[acT,PY,hpt];unfold IV;generalize pK o=fr;generalize zi o.seen=mk;generalize K3 o.from_=pf;generalize K3 o.nC=pt;generalize decide (o=gJ o (dZ o.kind))=bb;generalize [o.inc,o.n,o.aU,o.aY,o.at_,o.now].all cnt=al;generalize dZ o.kind 0=b0;generalize dZ o.kind 5=b5;generalize dZ o.kind 9=b9;rw[Bool.eq_iff_iff];simp only[bS,Bool.and_eq_true,Bool.or_eq_true,Bool.not_eq_true',Bool.and_eq_false_iff,Bool.or_eq_false_iff,gQ,kQ,Bool.not_eq_false',beq_eq_false_iff_ne,ne_eq,Bool.not_eq_true];constructor
 ·rintro⟨⟨k1,k2⟩,⟨w1,w2,i1,n1,b1⟩,al1,⟨⟨h0,h5⟩,h9⟩⟩
  grind
 grind
def Mr (p:Pn)(o:bg):PV:=.dn [.agg (doM p o).1.c,.agg (doM p o).2.c]
theorem PG {p:Pn}{o:bg}(hle:¬o.channel>(p.channels.length:Int)):doM p o=({ (dG p o).1 with version:=bV p.version 1,past:=iJ p.past o (dG p o).2 },(dG p o).2):=by
 rw[vZ];unfold tZ;rw[if_neg hle]
theorem uo {p:Pn}{o:bg}(hle:¬o.channel>(p.channels.length:Int)){c2:Ch}{out:Oc}(hk:dG p o=(dV p o.channel c2,out)){A B:List Ch}(hset:(dV p o.channel c2).channels=A++c2::B) :
  (.dn [.agg (⟨IntKind.u64.wrap (p.version+1),p.next,A++c2::B,p.af,iJ p.past o out⟩:Pn).c,.agg out.c]:PV)=Mr p o:=by
 unfold Mr;rw[PG hle,hk,←hset];rfl
theorem Hg {p:Pn}{A B:List Ch}{c:Ch}(h:p.channels=A++c::B):kD p.version p.next A c B p.af p.past={ p with channels:=p.channels }:=by
 unfold kD;rw[←h]
section
variable {p:Pn}(h:gB p){o:bg}(D:WU p o)(hn:dM p o.channel=true)(hle:¬o.channel>(p.channels.length:Int))
include h D hn hle
theorem Z4 (hk:o.kind=1):bC prog 13 [.agg p.c,.agg o.c] (Mr p o):=by
 obtain⟨A,B,e,hA,hset⟩:=jQ hn;have nH:bC prog 35 [ii o.kind] (.agg (fF 1)):=by rw[hk];exact Gt
 have:=kP p o D _ _ A _ B e hA nH 0 0 _ _ _ _ (qX (afw p.version p.next A (aL p o.channel) B p.af p.past o));rw[uo hle (by unfold dG;simp only[hk];rfl) (hset _)] at this;exact this
theorem Z5 (hk:o.kind=2):bC prog 13 [.agg p.c,.agg o.c] (Mr p o):=by
 obtain⟨A,B,e,hA,hset⟩:=jQ hn;have nH:bC prog 35 [ii o.kind] (.agg (fF 2)):=by rw[hk];exact Gu
 have:=kP p o D _ _ A _ B e hA nH 0 0 _ _ _ _ (qX (acv p.version p.next A (aL p o.channel) B p.af p.past o));rw[uo hle (by unfold dG;simp only[hk];rfl) (hset _)] at this;exact this
theorem Z6 (hk:o.kind=3):bC prog 13 [.agg p.c,.agg o.c] (Mr p o):=by
 obtain⟨A,B,e,hA,hset⟩:=jQ hn;have nH:bC prog 35 [ii o.kind] (.agg (fF 3)):=by rw[hk];exact Gv
 have:=kP p o D _ _ A _ B e hA nH 0 0 _ _ _ _ (qX (VZ p.version p.next A (aL p o.channel) B p.af p.past o));rw[uo hle (c2:=aL p o.channel) (by rw[xK hn];unfold dG;simp only[hk];rfl) (hset _)] at this;exact this
theorem Z7 (hk:o.kind=7):bC prog 13 [.agg p.c,.agg o.c] (Mr p o):=by
 obtain⟨A,B,e,hA,hset⟩:=jQ hn;have nH:bC prog 35 [ii o.kind] (.agg (fF 7)):=by rw[hk];exact Gz
 have ep:=Hg e;have:=kP p o D _ _ A _ B e hA nH 0 0 _ _ _ _ (qX (afx p.version p.next A (aL p o.channel) B p.af p.past o (by rw[ep];exact h.Iu)));rw[ep] at this;rw[uo hle (by unfold dG;simp only[hk];rfl) (hset _)] at this;exact this
theorem WC (hk:o.kind=11):bC prog 13 [.agg p.c,.agg o.c] (Mr p o):=by
 obtain⟨A,B,e,hA,hset⟩:=jQ hn;have nH:bC prog 35 [ii o.kind] (.agg (fF 11)):=by rw[hk];exact Ct
 have:=kP p o D _ _ A _ B e hA nH 0 0 _ _ _ _ (qX (Zw p.version p.next A (aL p o.channel) B p.af p.past o (h.chB (bW hn)).au));rw[uo hle (c2:=aL p o.channel) (by rw[xK hn];unfold dG;simp only[hk];rfl) (hset _)] at this;exact this
theorem Z8 (hk:o.kind=9):bC prog 13 [.agg p.c,.agg o.c] (Mr p o):=by
 obtain⟨A,B,e,hA,hset⟩:=jQ hn;have nH:bC prog 35 [ii o.kind] (.agg (fF 9)):=by rw[hk];exact GD
 have hcl:(aL p o.channel).au.length≤100000:=by have:=(h.ch _ (bW hn)).1.k0;omega
 by_cases h0:∀x∈(aL p o.channel).au,(fun (x:Cu)=>x.sub==o.sub) x=false
 ·have:=xV p o D _ _ A _ B e hA nH 0 _ 0 _ _ _ _ _ _ (Ul (afB p.version p.next A (aL p o.channel) B p.af p.past o h0 hcl));rw[uo hle (by unfold dG;simp only[hk];rfl) (hset _)] at this;exact this
 have:=xV p o D _ _ A _ B e hA nH 0 _ 0 _ _ _ _ _ _ (Um (afC p.version p.next A (aL p o.channel) B p.af p.past o h0 hcl));rw[uo hle (by unfold dG;simp only[hk];rfl) (hset _)] at this;exact this
theorem WE (hk:o.kind=10):bC prog 13 [.agg p.c,.agg o.c] (Mr p o):=by
 obtain⟨A,B,e,hA,hset⟩:=jQ hn;have nH:bC prog 35 [ii o.kind] (.agg (fF 10)):=by rw[hk];exact Cs
 have hcl:(aL p o.channel).au.length≤100000:=by have:=(h.ch _ (bW hn)).1.k0;omega
 by_cases h0:∀x∈(aL p o.channel).au,(fun (x:Cu)=>x.sub==o.sub) x=false
 ·have:=xV p o D _ _ A _ B e hA nH 0 _ 0 _ _ _ _ _ _ (Ul (acC p.version p.next A (aL p o.channel) B p.af p.past o h0 hcl));rw[uo hle (by unfold dG;simp only[hk];rfl) (hset _)] at this;exact this
 have:=xV p o D _ _ A _ B e hA nH 0 _ 0 _ _ _ _ _ _ (Um (acD p.version p.next A (aL p o.channel) B p.af p.past o h0 hcl));rw[uo hle (by unfold dG;simp only[hk];rfl) (hset _)] at this;exact this
end
theorem Md (T:List Int)(a:Int):T.contains a=T.any fun y=>y==a:=by
 induction T with
 |nil=>rfl
 |cons x T ih=>rw[List.contains_cons,List.any_cons,ih];congr 1;exact Bool.beq_comm
theorem kC {p:Pn}{o:bg}(hle:¬o.channel>(p.channels.length:Int)){q:Pn}{out:Oc}(hk:dG p o=(q,out)) :
  Mr p o=.dn [.agg (⟨IntKind.u64.wrap (p.version+1),q.next,q.channels,q.af,iJ p.past o out⟩:Pn).c,.agg out.c]:=by
 unfold Mr;rw[PG hle,hk];rfl
section
variable {p:Pn}(h:gB p){o:bg}(D:WU p o)(hn:dM p o.channel=true)(hle:¬o.channel>(p.channels.length:Int))
include h D hn hle
theorem Z9 (hk:o.kind=4):bC prog 13 [.agg p.c,.agg o.c] (Mr p o):=by
 obtain⟨A,B,e,hA,hset⟩:=jQ hn;have nH:bC prog 35 [ii o.kind] (.agg (fF 4)):=by rw[hk];exact Gw
 have ep:=Hg e;have hkm:dG p o=iD p (aL p o.channel) o:=by unfold dG;simp only[hk];rfl
 have hB:=(h.chB (bW hn)).af;have hl8:((((aL p o.channel).af.map bR).length:Int)==8)=decide (((aL p o.channel).af.length:Int)=8):=by rw[List.length_map];rfl
 have hL:=h.Iu.af;cases h1:((fK p o.channel).isSome||((aL p o.channel).aU==0)) with
 | true=>
   have hl:=GZ p.version p.next A (aL p o.channel) B p.af p.past o (by rw[ep];exact h.Iu) hB hL _ _ rfl rfl (false,iX 5) (by rw[ep,h1];rfl);have:=CP p o D _ _ A _ B e hA nH 0 _ _ _ _ _ _ _ _ (Un hl);have hR:iD p (aL p o.channel) o=(p,iX 5):=by unfold iD jZ;rw[if_pos h1]
   rw[kC hle (hkm.trans hR),e];exact this
 | false=>
   cases h2:((decide (((aL p o.channel).af.length:Int)=8)||decide (p.next>4611686018427387903))||decide (bV (pE p o.channel) 16>4611686018427387903)) with
   | true=>
     have hl:=GZ p.version p.next A (aL p o.channel) B p.af p.past o (by rw[ep];exact h.Iu) hB hL _ _ rfl rfl (false,iX 3) (by rw[ep,h1,hl8];unfold bV at h2;rw[h2];rfl);have:=CP p o D _ _ A _ B e hA nH 0 _ _ _ _ _ _ _ _ (Un hl);have hR:iD p (aL p o.channel) o=(p,iX 3):=by unfold iD jZ;rw[if_neg (by rw[h1];decide),if_pos h2]
     rw[kC hle (hkm.trans hR),e];exact this
   | false=>
     have hl:=GZ p.version p.next A (aL p o.channel) B p.af p.past o (by rw[ep];exact h.Iu) hB hL _ _ rfl rfl (true,{ bQ with aY:=p.next }) (by rw[ep,h1,hl8];unfold bV at h2;rw[h2];rfl);have:=CP p o D _ _ A _ B e hA nH 0 _ _ _ _ _ _ _ _ (acW hl);have hR:iD p (aL p o.channel) o=({ dV p o.channel { aL p o.channel with af:=(aL p o.channel).af++[p.next] } with af:=p.af++[⟨p.next,o.w,o.a,o.av,0,0⟩],next:=bV p.next 1 },{ bQ with aY:=p.next }):=by unfold iD jZ;rw[if_neg (by rw[h1];decide),if_neg (by rw[h2];decide)]
     rw[kC hle (hkm.trans hR)];simp only;rw[hset];exact this
theorem aac (hk:o.kind=8):bC prog 13 [.agg p.c,.agg o.c] (Mr p o):=by
 obtain⟨A,B,e,hA,hset⟩:=jQ hn;have nH:bC prog 35 [ii o.kind] (.agg (fF 8)):=by rw[hk];exact GA
 have ep:=Hg e;have hkm:dG p o=iK p (aL p o.channel) o:=by unfold dG;simp only[hk];rfl
 have hB:=(h.chB (bW hn)).af;have hL:=h.Iu.af;have hc:=h.ch _ (bW hn);have hgl:=hc.1.len;have hg3:=hc.1.e3;have hs:=oM h (aL p o.channel).trim (aL p o.channel).af (aL p o.channel).first hc.2.2.1 (by omega)
 obtain⟨y,hy⟩:∃y,y=dI p (aL p o.channel).trim (aL p o.channel).af (aL p o.channel).first:=⟨_,rfl⟩
 rw[←hy] at hs;cases h1:(!ku ((aL p o.channel).af.drop y.1) o.aY||o.seen.any (fun x=>decide (x.offset≥y.2))) with
 | true=>
   have hl:=Wq p.version p.next A (aL p o.channel) B p.af p.past o (by rw[ep];exact h.Iu) hB hL y (by rw[ep];exact hy) hs.1 _ _ rfl rfl _ rfl h1;have:=kP p o D _ _ A _ B e hA nH 0 0 _ _ _ _ (qX hl);have hR:iK p (aL p o.channel) o=(p,iX 5):=by unfold iK nD;simp only;rw[←hy,if_pos h1]
   rw[kC hle (hkm.trans hR),e];exact this
 | false=>
   have h2:ku ((aL p o.channel).af.drop y.1) o.aY=true∧o.seen.any (fun x=>decide (x.offset≥y.2))=false:=by
    rw[Bool.or_eq_false_iff] at h1;exact⟨by simpa using h1.1,h1.2⟩
   have hR:iK p (aL p o.channel) o=({ dV p o.channel { aL p o.channel with af:=(aL p o.channel).af.drop y.1,first:=y.2,seen:=o.seen } with af:=p.af.filter fun l=>!((aL p o.channel).af.take y.1).contains l.id },{ bQ with at_:=y.2 }):=by
    unfold iK nD;simp only;rw[←hy,if_neg (by rw[h1];decide)]
   have hfe:(p.af.filter fun l=>!((aL p o.channel).af.take y.1).contains l.id)=p.af.filter fun l=>!(((aL p o.channel).af.take y.1).any fun z=>z==l.id):=by
    congr 1;funext l;rw[Md]
   rw[kC hle (hkm.trans hR)];simp only;rw[hset,hfe];by_cases h0:∀x∈p.af,(fun (x:Lg)=>((aL p o.channel).af.take y.1).any fun z=>z==x.id) x=false
   ·have hl:=Ws p.version p.next A (aL p o.channel) B p.af p.past o (by rw[ep];exact h.Iu) hB hL y (by rw[ep];exact hy) hs.1 _ _ rfl rfl h2.2 h2.1 h0;have:=kP p o D _ _ A _ B e hA nH 0 0 _ _ _ _ (acV hl);rw[List.filter_eq_self.2 (fun x hx=>by have:=h0 x hx;simp only at this;rw[this];rfl)];exact this
   have hl:=Wt p.version p.next A (aL p o.channel) B p.af p.past o (by rw[ep];exact h.Iu) hB hL y (by rw[ep];exact hy) hs.1 _ _ rfl rfl h2.2 h2.1 h0;have:=kP p o D _ _ A _ B e hA nH 0 1 _ _ _ _ (acX hl);exact this
end
theorem Me {p:Pn}(h:gB p){A:List Lg}{l:Lg}{B:List Lg}(e:p.af=A++l::B){l':Lg}(hid:l'.id=l.id):(kM p l').af=A++l'::B:=by
 have hr:=h.mq;unfold jY at hr;rw[e,List.map_append,List.map_cons,List.pairwise_append,List.pairwise_cons] at hr;obtain⟨_,⟨r2,_⟩,r3⟩:=hr;unfold kM;simp only;rw[e,List.map_append,List.map_cons];have e1:A.map (fun x=>if x.id==l'.id then l' else x)=A:=by
  rw[List.map_congr_left (g:=id)]
  ·simp
  intro y hy;have:=r3 y.id (List.mem_map.2 ⟨y,hy,rfl⟩) l.id (by simp);rw[hid,if_neg (by simp;omega)];rfl
 have e2:B.map (fun x=>if x.id==l'.id then l' else x)=B:=by
  rw[List.map_congr_left (g:=id)]
  ·simp
  intro y hy;have:=r2 y.id (List.mem_map.2 ⟨y,hy,rfl⟩);rw[hid,if_neg (by simp;omega)];rfl
 rw[e1,e2,hid,if_pos (by simp)]
theorem aad {A:List Lg}{l:Lg}{B:List Lg}(hA:∀y∈A,(y.id==l.id)=false):ql (fun y=>y.id==l.id) (A++l::B)=((A.map Lg.c).length:Int):=by
 rw[List.length_map];exact nS (fun y:Lg=>y.id==l.id) (by simp) (fun j hj hja=>by rw[List.getElem_append_left (by omega)];exact hA _ (List.getElem_mem _)) (by simp)
theorem Uo {p:Pn}{A B:List Ch}{c:Ch}{LA LB:List Lg}{l:Lg}(h:p.channels=A++c::B)(hL:p.af=LA++l::LB):kD p.version p.next A c B (LA++l::LB) p.past={ p with channels:=p.channels }:=by
 unfold kD;rw[←h,←hL]
section
variable {p:Pn}(h:gB p){o:bg}(D:WU p o)
include h D
theorem WG (hk:o.kind=12):bC prog 13 [.agg p.c,.agg o.c] (Mr p o):=by
 have ho:Ir o:=vX (by rw[←Bt];exact D.hw);have hc0:=YA ho hk;have hle:¬o.channel>(p.channels.length:Int):=by rw[hc0];omega
 have hkm:dG p o=kT p (gP p o):=by unfold dG;simp only[hk];rfl
 have Rz:∀x∈p.af,x.av.length≤1000000:=fun x hx=>(h.lgB hx).av
 cases hf:p.af.find? (nO o) with
 | none=>
   have:=Hf p o D hk hc0 Rz (fun x hx=>by rw[hf] at hx;cases hx);have hR:gP p o=(none,iX 5):=by unfold gP;rw[hf]
   rw[kC hle (q:=p) (out:=iX 5) (by rw[hkm,hR];rfl)];exact this
 | some l=>
   cases hb:l.av.any (nY o) with
   | true=>
     have:=Hf p o D hk hc0 Rz (fun x hx=>by rw[hf] at hx;have:=Option.some.inj hx;subst this;exact .inl hb);have hR:gP p o=(none,iX 5):=by unfold gP;rw[hf];simp only;rw[if_pos hb]
     rw[kC hle (q:=p) (out:=iX 5) (by rw[hkm,hR];rfl)];exact this
   | false=>
     cases hs:l.av.any (fun f=>decide (kz o f≥0)) with
     | false=>
       have:=Hf p o D hk hc0 Rz (fun x hx=>by rw[hf] at hx;have:=Option.some.inj hx;subst this;exact .inr hs);have hR:gP p o=(none,iX 5):=by unfold gP;rw[hf];simp only;rw[if_neg (by rw[hb];decide),if_neg (by rw[hs];decide)]
       rw[kC hle (q:=p) (out:=iX 5) (by rw[hkm,hR];rfl)];exact this
     | true=>
       have hR:gP p o=(some { l with av:=l.av.map (jk o) },bQ):=by unfold gP;rw[hf];simp only;rw[if_neg (by rw[hb];decide),if_pos hs]
       obtain⟨hx,A,B,e,hA⟩:=List.find?_eq_some_iff_append.1 hf;have:=ZR p o D hk hc0 A l B e (fun y hy=>by simpa using hA y hy) hx (fun f hf2=>by
        cases hq:nY o f with
        |false=>rfl
        |true=>rw[List.any_eq_true.2 ⟨f,hf2,hq⟩] at hb;cases hb) (by obtain⟨f,hf2,hq⟩:=List.any_eq_true.1 hs;exact⟨f,hf2,hq⟩)
       rw[kC hle (q:=kM p { l with av:=l.av.map (jk o) }) (out:=bQ) (by rw[hkm,hR];rfl),Me h (l':={ l with av:=l.av.map (jk o) }) e rfl];exact this
variable (hn:dM p o.channel=true)(hle:¬o.channel>(p.channels.length:Int))
include hn hle
theorem aae (hk:o.kind=6):bC prog 13 [.agg p.c,.agg o.c] (Mr p o):=by
 obtain⟨A,B,e,hA,hset⟩:=jQ hn;have nH:bC prog 35 [ii o.kind] (.agg (fF 6)):=by rw[hk];exact Gy
 have ep:=Hg e;have hkm:dG p o=kT p (fZ p (aL p o.channel) o):=by unfold dG;simp only[hk];rfl
 cases hlm:qz p o with
 | none=>
   have hl:=Wd p.version p.next A (aL p o.channel) B p.af p.past o (by rw[ep];exact h.Iu) (by rw[ep];exact hlm);have:=kP p o D _ _ A _ B e hA nH 0 0 _ _ _ _ (qX hl);have hR:fZ p (aL p o.channel) o=(none,iX 5):=by unfold fZ;rw[hlm]
   rw[kC hle (q:=p) (out:=iX 5) (by rw[hkm,hR];rfl),e];exact this
 | some l=>
   obtain⟨hop,hid⟩:=nG h hn hlm;obtain⟨hm,_,_,_⟩:=nE h hn hop;obtain⟨LA,LB,eL,hLA,_⟩:=Oa h hm;have ep2:=Uo e eL;obtain⟨X,hX⟩:∃X,X=if (!fC l.w o.av||(decide (o.at_>8)||decide ((aL p o.channel).trim>bV (pE p o.channel) o.at_))) then (l,iX 5) else ({ l with av:=o.av,closed:=1,last:=o.at_ },bQ):=⟨_,rfl⟩
   have hl:=Wh p.version p.next A (aL p o.channel) B LA l LB p.past o D.ho.bk (by rw[ep2];exact h.Iu) (by rw[ep2];exact hop) hid (aad hLA) X (by rw[ep2];exact hX);have:=xW p o D _ _ A _ B e LA l LB eL hA nH 0 0 _ _ _ _ (Sq hl);have hR:fZ p (aL p o.channel) o=if !fC l.w o.av||(decide (o.at_>8)||decide ((aL p o.channel).trim>bV (pE p o.channel) o.at_)) then (none,iX 5) else (some { l with av:=o.av,closed:=1,last:=o.at_ },bQ):=by unfold fZ;rw[hlm]
   cases hb:(!fC l.w o.av||(decide (o.at_>8)||decide ((aL p o.channel).trim>bV (pE p o.channel) o.at_))) with
   | true=>
     rw[hb] at hX hR;simp only[if_true] at hX hR;subst hX;rw[kC hle (q:=p) (out:=iX 5) (by rw[hkm,hR];rfl),e,eL];exact this
   | false=>
     rw[hb] at hX hR;simp only[Bool.false_eq_true,if_false] at hX hR;subst hX;rw[kC hle (q:=kM p { l with av:=o.av,closed:=1,last:=o.at_ }) (out:=bQ) (by rw[hkm,hR];rfl),Me h (l':={ l with av:=o.av,closed:=1,last:=o.at_ }) eL rfl];have ec:(kM p { l with av:=o.av,closed:=1,last:=o.at_ }).channels=A++aL p o.channel::B:=e;rw[ec];exact this
end
section
variable {p:Pn}(h:gB p){o:bg}(D:WU p o)(hn:dM p o.channel=true)(hle:¬o.channel>(p.channels.length:Int))
include h D hn hle
theorem aaf (hk:o.kind=5):bC prog 13 [.agg p.c,.agg o.c] (Mr p o):=by
 obtain⟨A,B,e,hA,hset⟩:=jQ hn;have nH:bC prog 35 [ii o.kind] (.agg (fF 5)):=by rw[hk];exact Gx
 have ep:=Hg e;have hkm:dG p o=kT p (fV p o):=by unfold dG;simp only[hk];rfl
 have ho:Ir o:=vX (by rw[←Bt];exact D.hw);obtain⟨f,hf⟩:∃f,o.av=[f]:=by
  have hfr:=ho.fr;rw[Ke] at hfr;unfold G9 at hfr;simp only[hk,Bool.and_eq_true] at hfr;have:(o.av.length:Int)=1:=by simpa using hfr.2
  exact List.length_eq_one_iff.1 (by omega)
 have hfb:f.aN.length≤1000000:=D.ho.bk f (by rw[hf];simp);cases hlm:qz p o with
 | none=>
   have hl:=V9 p.version p.next A (aL p o.channel) B p.af p.past o f (by rw[ep];exact h.Iu) hf (by rw[ep];exact hlm);have:=kP p o D _ _ A _ B e hA nH 0 0 _ _ _ _ (qX hl);have hR:fV p o=(none,iX 5):=by unfold fV;rw[hlm]
   rw[kC hle (q:=p) (out:=iX 5) (by rw[hkm,hR];rfl),e];exact this
 | some l=>
   obtain⟨hop,hid⟩:=nG h hn hlm;obtain⟨hm,_,_,_⟩:=nE h hn hop;obtain⟨LA,LB,eL,hLA,_⟩:=Oa h hm;have ep2:=Uo e eL;have hml:=(h.lg l hm).1;have hfr:=N9 hml;have hne:l.av≠[]:=by
    intro e0;unfold kL fC at hml;simp only[Bool.and_eq_true,bS,gQ] at hml;have:=hml.2.2.2.1.1.1;rw[e0] at this;simp at this
   obtain⟨F,ed,hFe⟩:∃F ed,l.av=F++[ed]:=⟨l.av.dropLast,l.av.getLast hne,(List.dropLast_concat_getLast hne).symm⟩;have hhd:Ty o.av=f:=by rw[hf];rfl
   have PZ:abt l.av=ed:=by rw[hFe];unfold abt;simp
   obtain⟨G,hG⟩:∃G,G=NM l.av f:=⟨_,rfl⟩;obtain⟨X,hX⟩:∃X:Bool×Oc,X=if (decide (f.first≥ed.first)&&(((((F++[ed]).map Fr.c).length:Int)==6)&&(decide (((G.map Fr.c).length:Int)>(((F++[ed]).map Fr.c).length:Int))&&vV l.w f))) then (false,iX 3)
    else if decide (f.first<ed.first) || !fC l.w G then (false,iX 5) else (true,bQ):=⟨_,rfl⟩
   have hR:fV p o=if (decide (f.first≥ed.first)&&(decide ((l.av.length:Int)=6)&&(decide (G.length>l.av.length)&&vV l.w f))) then (none,iX 3)
    else if decide (f.first<ed.first) || !fC l.w G then (none,iX 5) else (some { l with av:=G },bQ):=by
    unfold fV;rw[hlm];simp only;rw[hhd,PZ,←hG]
   have hc1:((((F++[ed]).map Fr.c).length:Int)==6)=decide ((l.av.length:Int)=6):=by rw[List.length_map,hFe];rfl
   have hc2:decide (((G.map Fr.c).length:Int)>(((F++[ed]).map Fr.c).length:Int))=decide (G.length>l.av.length):=by rw[List.length_map,List.length_map,hFe,decide_eq_decide];omega
   have hX0:=hX;rw[hc1,hc2] at hX;have hFl:F.length≤1000:=by have:=hfr.1;rw[hFe,List.length_append] at this;omega
   have ZB:∀y∈F++[ed],y.aN.length≤1000000:=fun y hy=>by have:=hfr.2 y (by rw[hFe];exact hy);omega
   have hl:dU prog 128 [.ptr 1 0]
     ((1,.var (wC p.version p.next (.aB 2 0) (.aB 3 0) (.aB 4 0) o (.bn 2 0 (A.map Ch.c).length 0) bQ))::CG ((aL p o.channel).c.map .pv) A B (l.c.map .pv) LA LB p.past) (.pv (.dn []))
     ((1,.var (wC p.version p.next (.aB 2 0) (.aB 3 0) (.aB 4 0) o (.bn 2 0 (A.map Ch.c).length 0) X.2))::(CG ((aL p o.channel).c.map .pv) A B (match X.1 with
       |true=>[.pv (uu l.id),.pv (ii l.w),.pv (ii l.a),.aB 1001 0,.pv (ii l.closed),.pv (uu l.last)]
       |false=>l.c.map .pv) LA LB p.past++match X.1 with
       |true=>[(1001,.arr 80 0 2 (G.map Fr.c))]
       |false=>[])):=by
    cases hq:(f.first==ed.first) with
    |false=>exact Sb p.version p.next A (aL p o.channel) B LA l LB p.past o f F ed hFe hFl ZB (by rw[ep2];exact h.Iu) hf hfb (by rw[ep2];exact hop) hid (aad hLA) hq G (by rw[hG,NM,PZ,hq,hFe];rfl) X hX0
    |true=>exact Sc p.version p.next A (aL p o.channel) B LA l LB p.past o f F ed hFe hFl ZB (by rw[ep2];exact h.Iu) hf hfb (by rw[ep2];exact hop) hid (aad hLA) hq G (by rw[hG,NM,PZ,hq,hFe];simp) X hX0
   cases hb:(decide (f.first≥ed.first)&&(decide ((l.av.length:Int)=6)&&(decide (G.length>l.av.length)&&vV l.w f))) with
   | true=>
     rw[hb] at hX hR;simp only[if_true] at hX hR;subst hX;have:=xW p o D _ _ A _ B e LA l LB eL hA nH 0 0 _ _ _ _ (Sq hl);rw[kC hle (q:=p) (out:=iX 3) (by rw[hkm,hR];rfl),e,eL];exact this
   | false=>
     rw[hb] at hX hR;simp only[Bool.false_eq_true,if_false] at hX hR;cases hb2:(decide (f.first<ed.first) || !fC l.w G) with
     | true=>
       rw[hb2] at hX hR;simp only[if_true] at hX hR;subst hX;have:=xW p o D _ _ A _ B e LA l LB eL hA nH 0 0 _ _ _ _ (Sq hl);rw[kC hle (q:=p) (out:=iX 5) (by rw[hkm,hR];rfl),e,eL];exact this
     | false=>
       rw[hb2] at hX hR;simp only[Bool.false_eq_true,if_false] at hX hR;subst hX;have:=xW p o D _ _ A _ B e LA l LB eL hA nH 0 0 _ _ _ _ (acU hl);rw[kC hle (q:=kM p { l with av:=G }) (out:=bQ) (by rw[hkm,hR];rfl),Me h (l':={ l with av:=G }) eL rfl];have ec:(kM p { l with av:=G }).channels=A++aL p o.channel::B:=e;rw[ec];exact this
end
theorem afG {n:Int}(h1:1≤n)(h2:n≤12)(h:dZ n 1=true):dZ n 0=true:=by
 rcases (by omega:n=1∨n=2∨n=3∨n=4∨n=5∨n=6∨n=7∨n=8∨n=9∨n=10∨n=11∨n=12) with rfl|rfl|rfl|rfl|rfl|rfl|rfl|rfl|rfl|rfl|rfl|rfl<;>first|rfl|(revert h;decide)
theorem afH {p:Pn}(h:gB p){o:bg}(D:WU p o):bC prog 13 [.agg p.c,.agg o.c] (Mr p o):=by
 have ho:Ir o:=vX (by rw[←Bt];exact D.hw);by_cases hle:o.channel>(p.channels.length:Int)
 ·have:=ZV p o D hle;have e:doM p o=({ p with version:=bV p.version 1,past:=iJ p.past o (iX 4) },iX 4):=by
   rw[vZ];unfold tZ;rw[if_pos hle]
  unfold Mr;rw[e];exact this
 by_cases h12:o.kind=12
 ·exact WG h D h12
 have hn:=AB ho hle h12;have k1:=ho.k1;have k2:=ho.k2;rcases (by omega:o.kind=1∨o.kind=2∨o.kind=3∨o.kind=4∨o.kind=5∨o.kind=6∨o.kind=7∨o.kind=8∨o.kind=9∨o.kind=10∨o.kind=11) with hk|hk|hk|hk|hk|hk|hk|hk|hk|hk|hk
 ·exact Z4 h D hn hle hk
 ·exact Z5 h D hn hle hk
 ·exact Z6 h D hn hle hk
 ·exact Z9 h D hn hle hk
 ·exact aaf h D hn hle hk
 ·exact aae h D hn hle hk
 ·exact Z7 h D hn hle hk
 ·exact aac h D hn hle hk
 ·exact Z8 h D hn hle hk
 ·exact WE h D hn hle hk
 exact WC h D hn hle hk
theorem Mf {p:Pn}(h:gB p){o:bg}(ho:OpB o):bC prog 13 [.agg p.c,.agg o.c] (.dn [.agg (ic p o).1.c,.agg (ic p o).2.c]):=by
 have hp:=h.may;have hB:=h.Iu;have hpl:=h.AL;unfold ic;rw[hp];cases hw:DZ o with
 | false=>
   have:=Wu p o hB ho (by rw[hp,Bt,hw];rfl);exact this
 | true=>
   have hoo:=vX hw;have hw2:yh o=true:=by rw[Bt];exact hw
   have hch:dZ o.kind 1=true→1≤o.channel∧o.channel≤3:=fun e=>hoo.ch (afG hoo.k1 hoo.k2 e)
   simp only[Bool.not_true,Bool.or_self,Bool.false_eq_true,if_false];cases ht:vU p.past o with
   | some t=>
     cases t with
     |some x=>exact Kh p o hB ho hp hw2 x (by unfold tO;rw[ht])
     |none=>exact Kh p o hB ho hp hw2 (iX 9) (by unfold tO;rw[ht])
   | none=>
     have ht2:tO p.past o=(bQ,false):=by unfold tO;rw[ht]
     by_cases hv:p.version=4611686018427387903
     ·simp only[hv,if_true];have:=Wv p o hB ho hp hw2 ht2 hv;exact this
     have hv2:(p.version==4611686018427387903)=false:=by simpa using hv
     simp only[hv,if_false];cases hs:kU p o with
     | true=>
       simp only[if_true];exact Ww p o hB ho hp hw2 hch ht2 hv2 hs
     | false=>
       simp only[Bool.false_eq_true,if_false];exact afH h ⟨hB,ho,hp,hw2,hch,ht2,hv2,hs,by omega⟩
end Go.Proofs.YtiagceoepkaeoaaGreat.Tb
end
