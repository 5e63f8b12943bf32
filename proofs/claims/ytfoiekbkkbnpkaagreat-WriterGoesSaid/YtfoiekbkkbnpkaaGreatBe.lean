/-
  Contracts of functions of the program and of the document, each for every input that its premises name.
-/
import Derived.Test.YtfoiekbkkbnpkaaGreatBd
import Derived.Test.YtfoiekbkkbnpkaaGreatAh
set_option linter.unusedSectionVars false
set_option linter.unusedVariables false
set_option linter.unusedSimpArgs false
set_option maxRecDepth 100000
set_option maxHeartbeats 4000000
section
open Go Go.Proofs.Tryz Go.AX
namespace Go.Proofs.YtfoiekbkkbnpkaaGreat.Tb
theorem GQ:bG prog 27 f27:=fF func27
def Qs (s:Sg)(q:Rq):Sg:={ s with had:=s.had++[⟨q.to,q.n,q.body⟩],w:=fw s.w (jO q) }
def qY (known:List Pl)(s:Sg)(q:Rq):Sg:=if bI known q.to then Qs s q else s
def gB (known:List Pl)(s:Sg)(l:List Rq):Sg:=l.foldl (qY known) s
theorem mW (known:List Pl):∀(l:List Rq) (s:Sg),(gB known s l).w=l.foldl (nu known) s.w
 |[],s=>rfl
 | q::l,s=>by
   have h:=mW known l (qY known s q);have e:(qY known s q).w=nu known s.w q:=by
    unfold qY nu Qs;split<;>rfl
   rw[e] at h;exact h
structure ZM (s:Sg)(c d m:Nat):Prop where
 ws:qX s.w c d
 had:s.had.length≤m
theorem WZ {known:List Pl}{s:Sg}{c d m:Nat}(h:ZM s c d m)(q:Rq):ZM (qY known s q) (c+1) d (m+1):=by
 unfold qY;split
 ·refine⟨Fw h.ws _ rfl,?_⟩;have:=h.had;simp only[Qs,mZ,List.length_singleton];omega
 exact⟨h.ws.mono (by omega) (Nat.le_refl _),by have:=h.had;omega⟩
theorem jL {known:List Pl}:∀{l:List Rq} {s:Sg} {c d m:Nat},ZM s c d m→ZM (gB known s l) (c+l.length) d (m+l.length)
 |[],s,c,d,m,h=>h
 | q::l,s,c,d,m,h=>by
   have h1:=jL (known:=known) (l:=l) (WZ (known:=known) h q);have e1:c+1+l.length=c+(q::l).length:=by rw[List.length_cons];omega
   have e2:m+1+l.length=m+(q::l).length:=by rw[List.length_cons];omega
   rw[e1,e2] at h1;exact h1
theorem DV (known:List Pl)(s:Sg)(l:List Rq)(k:Nat)(h:k<l.length):gB known s (l.take (k+1))=qY known (gB known s (l.take k)) l[k]:=by
 unfold gB;rw[List.take_succ_eq_append_getElem h,List.foldl_append];rfl
theorem zT (s:Sg)(l:List Rq)(known:List Pl){c d m:Nat}(h:ZM s c d m)(hnd:known.Nodup)(hc1:c+l.length≤99999)(hd1:d≤100000)(hm1:m+l.length≤99999)(hk1:known.length≤1000) :
  lg prog 27 [.ptr 1 0,.pv (Qz l),.pv (dO known)] (QB s) (.pv (.fM [])) (Ql (gB known s l)):=by
 refine xP ?_ rfl;refine nD GQ ?_;repeat' ((conv=>whnf);first|with_reducible apply aQ|((with_reducible apply fk)<;>intro hc<;>try exact bF)|refine aM ?_|fail)
 refine⟨{i:Nat // i≤l.length},fun⟨i,_⟩=>⟨[(0,.ptr 1 0),(1,.pv (Qz l)),(2,.pv (dO known)),(6,.pv (ii i))],1000000000,Ql (gB known s (l.take i))⟩,fun⟨i,_⟩=>l.length-i,⟨⟨0,Nat.zero_le _⟩,ay ?_⟩,?_⟩
 ·all_goals exact aK
 rintro⟨i,hi⟩
 dsimp only
 by_cases hlt:i<l.length
 rotate_left
 ·have hke:i=l.length:=by omega
  subst hke;have d0:decide ((l.length:Int)<((l.map Rq.c).length:Int))=false:=by simp
  rw[List.take_length];repeat' ((conv=>whnf);first|with_reducible apply aQ|((with_reducible apply fk)<;>intro hc<;>try exact dK)|refine aM ?_|fail)
  refine⟨_,_,⟨rfl,rfl⟩,?_⟩;all_goals exact aK
 have d0:decide ((i:Int)<((l.map Rq.c).length:Int))=true:=by simp only[fe,kU];omega
 have eW:IntKind.i64.wrap ((i:Int)+1)=((i+1:Nat):Int):=by rw[bE (by omega) (by omega)];omega
 have hA:=jL (known:=known) (l:=l.take i) h;have htl:(l.take i).length=i:=by rw[List.length_take];omega
 rw[htl] at hA;have Ak:=DV known s l i hlt;have NH:=dJ Rq.c l i hlt;obtain⟨q,hq⟩:∃q,l[i]=q:=⟨_,rfl⟩;rw[hq] at Ak NH;obtain⟨t,ht⟩:∃t,gB known s (l.take i)=t:=⟨_,rfl⟩;rw[ht] at Ak hA ⊢;clear hq ht h htl;replace Ak:=Hd.mk Ak;have hT:=qG t.w t.now (jO q) (hA.ws.JJ (by omega) hd1) (Nat.le_trans hA.ws.lf (by omega));have hth:=hA.had;repeat' ((conv=>whnf);first|with_reducible apply aQ|((with_reducible apply fk)<;>intro hc<;>try exact dK)|refine aM ?_|fail)
 refine⟨{k:Nat // k≤known.length},fun⟨k,_⟩=>⟨[(0,.ptr 1 0),(1,.pv (Qz l)),(2,.pv (dO known)),(6,.pv (ii i)),(7,.pv (ii k))],1000000000,Ql (qY (known.take k) t q)⟩,fun⟨k,_⟩=>known.length-k,⟨⟨0,Nat.zero_le _⟩,ay ?_⟩,?_⟩
 ·all_goals exact aK
 rintro⟨k,hk⟩
 dsimp only
 by_cases hkt:k<known.length
 rotate_left
 ·have hke:k=known.length:=by omega
  subst hke;have d1:decide ((known.length:Int)<((known.map Pl.c).length:Int))=false:=by simp
  rw[List.take_length];repeat' ((conv=>whnf);first|with_reducible apply aQ|((with_reducible apply fk)<;>intro hc<;>try exact dK)|refine aM ?_|fail)
  refine⟨⟨i+1,hlt⟩,dec_lt hlt,ay ?_⟩;dsimp only
  rw[Ak.out];repeat' first|apply And.intro|exact aK|fail
  all_goals try (conv=>whnf)
  all_goals exact eW
 have d1:decide ((k:Int)<((known.map Pl.c).length:Int))=true:=by simp only[fe,kU];omega
 have eV:IntKind.i64.wrap ((k:Int)+1)=((k+1:Nat):Int):=by rw[bE (by omega) (by omega)];omega
 have Qb:=dJ Pl.c known k hkt;have hst:=CU known k hkt q.to;have hbq:=Gy known[k] q.to;have hno:(known[k]==q.to)=true→(known.take k).any (· == q.to)=false:=by
  intro e;have e:known[k]=q.to:=by simpa using e
  rw[List.any_eq_false];intro y hy hye;have hye:y=q.to:=by simpa using hye
  obtain⟨j,hj,hj2⟩:=List.getElem_of_mem hy;rw[List.length_take] at hj;rw[List.getElem_take] at hj2;have:=(List.getElem_inj (xs:=known) (i:=j) (j:=k) (h₀:=by omega) (h₁:=hkt) hnd).1 (by rw[hj2,hye,e]);omega
 cases e1:(known[k]==q.to) with
 | false=>
   rw[e1] at hbq;have hnx:qY (known.take (k+1)) t q=qY (known.take k) t q:=by
    unfold qY bI;rw[hst,e1,Bool.or_false]
   replace hnx:=Hd.mk hnx;clear hst hno e1 hT;simp only[Pl.c] at Qb;simp only[Rq.c] at NH;repeat' ((conv=>whnf);first|with_reducible apply aQ|((with_reducible apply fk)<;>intro hc<;>try exact dK)|((refine⟨_,Qb,?_⟩))|((refine⟨_,NH,?_⟩))|refine aM ?_|fail)
   refine⟨⟨k+1,hkt⟩,dec_lt hkt,ay ?_⟩;dsimp only
   rw[hnx.out];repeat' first|apply And.intro|exact aK|fail
   all_goals try (conv=>whnf)
   all_goals exact eV
 | true=>
   rw[e1] at hbq;have hn0:=hno e1;have hnx:qY (known.take (k+1)) t q=Qs t q:=by
    unfold qY bI;rw[hst,e1,Bool.or_true,if_pos rfl]
   have hn1:qY (known.take k) t q=t:=by
    unfold qY bI;rw[hn0,if_neg (by decide)]
   rw[hn1];replace hnx:=Hd.mk hnx;clear hst hno e1 hn0 hn1;simp only[Pl.c] at Qb;simp only[Rq.c] at NH;obtain⟨w',hw'⟩:∃w',fw t.w (jO q)=w':=⟨_,rfl⟩;have hgo:Qs t q={ t with had:=t.had++[⟨q.to,q.n,q.body⟩],w:=w' }:=by rw[←hw'];rfl
   rw[hgo] at hnx;rw[hw'] at hT;clear hw' hgo;repeat' ((conv=>whnf);first|with_reducible apply aQ|((with_reducible apply fk)<;>intro hc<;>try exact dK)|((refine⟨_,Qb,?_⟩))|((refine⟨_,NH,?_⟩))|((refine⟨_,rfl,?_⟩))|(apply bC;refine⟨_,aL (hT) ?_,?_⟩;exact dx)|(((with_reducible apply And.intro);focus (simp only[fe,mH,mI];omega)))|refine aM ?_|fail)
   refine⟨⟨k+1,hkt⟩,dec_lt hkt,ay ?_⟩;dsimp only
   rw[hnx.out];repeat' first|apply And.intro|exact aK|fail
   all_goals try (conv=>whnf)
   all_goals first
    |exact eV
    |(rw[List.map_append];refine dH (aC _) ?_;(repeat' first|apply And.intro|exact aK|fail);(all_goals try (conv=>whnf)))
    |skip
theorem Wz (n:Int):0≤cZ n∧cZ n≤9:=by
 have h1 : -10<n.tmod 10∧n.tmod 10<10:=by
  refine⟨?_,Int.tmod_lt_of_pos _ (by decide)⟩;rcases Int.lt_or_le n 0 with hn|hn
  ·have:=Int.tmod_lt_of_pos (-n) (b:=(10:Int)) (by decide);rw[Int.neg_tmod] at this;omega
  have:=Int.tmod_nonneg (10:Int) hn;omega
 unfold cZ;rw[bE (by omega) (by omega),Int.tmod_eq_emod_of_nonneg (by omega)];omega
structure S1 (x:Lg)(k:Nat)(s:Sg):Prop where
 st:Ms s k
 sw:Fe x (s.bK.length:Int) s.w
 now:s.now=0
 pl:s.bZ=x.aj
theorem S1.mono {x:Lg}{k:Nat}{s:Sg}(h:S1 x k s):S1 x (k+1) s:=⟨Da h.st,h.sw,h.now,h.pl⟩
theorem S1.send {x:Lg}{k:Nat}{s:Sg}(h:S1 x k s){b:List UInt8}(hb:b.length≤3000):S1 x (k+1) (sK s b):=by
 have hd:=(JZ h.st ⟨0,0,0,0,0,0,b,[]⟩ hb).1;have e:zX s ⟨0,0,0,0,0,0,b,[]⟩=sK s b:=by
  unfold zX;rw[if_pos (.inl (by show cZ 0=0;decide))]
 rw[e] at hd;refine⟨hd,?_,?_,?_⟩;all_goals
  unfold sK;simp only;split
 ·rename_i hc;rw[h.now] at hc ⊢;have:=(Py h.sw b hc).1;simp only[jc,mZ,List.length_singleton];have e2:((s.bK.length+1:Nat):Int)=(s.bK.length:Int)+1:=by omega
  rw[e2];exact this
 ·exact h.sw
 ·exact h.now
 ·exact h.now
 ·exact h.pl
 exact h.pl
theorem Za {x:Lg}{e:Int}{w:Wr}(h:sJ x e=some w):S1 x 0 (pG w):=by
 obtain⟨_,hw⟩:=CP h;exact⟨N7 h,TK h,rfl,by rw[hw];rfl⟩
structure S2 (known:List Pl)(m:Int)(r:Nat)(s:Sg):Prop where
 go:TM known m r s.w
 ws:qX s.w (120+80*r) (24000+200*r)
 pl:s.bZ=s.w.l.aj
 now:s.now=r
 bK:(s.bK.length:Int)=m
 cO:s.cO=[]
 had:s.had.length≤120+80*r
 m8:m≤8
theorem Ui {x:Lg}{known:List Pl}{k:Nat}{s:Sg}(h:S1 x k s)(hk:k≤120)(hm:eH x=true)(h1:x.aj.length≤1)(hK:uh known x.w):S2 known (s.bK.length:Int) 0 { s with cO:=[] }:=by
 have hn:=h.st.inv.nx;have hn9:=h.st.ws.nx;exact⟨TM.start h.sw hm h1 hK,h.st.ws.mono (by omega) (by omega),by rw[h.sw.el];exact h.pl,h.now,rfl,rfl,by have:=h.st.had;simp only;omega,by omega⟩
theorem CR {w:Wr}{c d:Nat}(h:qX w c d)(hc:c≤100000)(hd:d≤100000){now:Int}(hn:eD now):(dw w now).2.length≤40:=by
 unfold dw;split
 ·simp
 have:=(GH (now:=now) (fun y hy=>⟨(h.JJ hc hd).wx y hy,kg h.CQ⟩) hn h.lf w.waits.length (Nat.le_refl _)).q;rw[pU];have:=h.wl8;simp only;omega
theorem zU {w:Wr}{c d:Nat}(h:qX w c d)(now:Int)(ok:Bool):(bM w now ok).2.length≤40:=by
 cases c1:(w.change.first==0) with
 |true=>unfold bM;rw[if_pos (by simpa using c1)];simp
 | false=>
   rw[vK w now ok c1 _ rfl _ rfl];simp only;refine Nat.le_trans (CZ ?_ _) ?_
   ·exact h.CQ
   rw[List.length_drop];have:=h.wl8;omega
theorem Mt (known:List Pl):∀(l:List Rq) (w:Wr),(l.foldl (nu known) w).l=w.l
 |[],w=>rfl
 | q::l,w=>by
   rw[List.foldl_cons,Mt known l];unfold nu;split
   ·exact UX _ _
   rfl
structure AnR (s t:Sg):Prop where
 bZ:t.bZ=s.bZ
 now:t.now=s.now
 bK:t.bK=s.bK
 cO:t.cO=s.cO
 ask:t.ask=s.ask
 taken:t.taken=s.taken
theorem mV (known:List Pl):∀(l:List Rq) (s:Sg),AnR s (gB known s l)
 |[],s=>⟨rfl,rfl,rfl,rfl,rfl,rfl⟩
 | q::l,s=>by
   have h:=mV known l (qY known s q);have e:AnR s (qY known s q):=by
    unfold qY Qs;split<;>exact⟨rfl,rfl,rfl,rfl,rfl,rfl⟩
   exact⟨h.bZ.trans e.bZ,h.now.trans e.now,h.bK.trans e.bK,h.cO.trans e.cO,h.ask.trans e.ask,h.taken.trans e.taken⟩
theorem tk8:cZ (⟨8,0,0,0,0,0,[],[]⟩:Stp).what=8:=by decide
theorem Uj {s:Sg}{F:Fr}(ha:s.ask=F)(ht:s.taken=0)(h0:F.first≠0)(hge:(aO s.bZ).first≤F.first)(hm:bL s.w.l.w (bn s.bZ F)=true):j5 s (!(jd 0 1==0))={ s with bZ:=bn s.bZ F,taken:=1 }:=by
 unfold j5;rw[ha,ht];rw[if_neg (by omega),if_pos];rw[hm,show decide (F.first≥(aO s.bZ).first)=true from by simpa using hge];decide
structure Rn (known:List Pl)(s:Sg)(t:Int)(q:List Rq)(w0:Wr)(u:Sg):Prop where
 e1:dw s.w t=(w0,q)
 e2:gB known { s with now:=t,w:=w0 } q=u
theorem WA {known:List Pl}{m:Int}{r:Nat}{s u:Sg}{q:List Rq}{w0:Wr}(h:S2 known m r s)(hr:r<60)(R:Rn known s ((r+1:Nat):Int) q w0 u)(hs:s.w.sure<m)(ha:j4 u.w 5 known=(u.w,jI,false)):S2 known m (r+1) u:=by
 obtain⟨g,_⟩:=h.go.step h.m8 hs;have hn:eD ((r+1:Nat):Int):=⟨by omega,by omega⟩;have hw:u.w=q.foldl (nu known) w0:=by rw[←R.e2];exact mW known q _
 have e:j6 known ((r+1:Nat):Int) s.w=u.w:=by
  unfold j6;simp only[R.e1,←hw,ha];rfl
 rw[e] at g;have ht:=sW h.ws hn;rw[R.e1] at ht;have hq:=CR h.ws (by omega) (by omega) hn;rw[R.e1] at hq;have hA:=jL (known:=known) (l:=q) (s:={ s with now:=((r+1:Nat):Int),w:=w0 }) (c:=120+80*r) (d:=24000+200*r+200) (m:=120+80*r) ⟨ht,h.had⟩;rw[R.e2] at hA;have hl:u.w.l=s.w.l:=by
  rw[hw,Mt];have:=UY s.w ((r+1:Nat):Int);rw[R.e1] at this;exact this
 have hr2:=mV known q { s with now:=((r+1:Nat):Int),w:=w0 };rw[R.e2] at hr2;simp only at hq;exact⟨g,hA.ws.mono (by omega) (by omega),by rw[hr2.bZ,hl];exact h.pl,hr2.now,by rw[hr2.bK];exact h.bK,by rw[hr2.cO];exact h.cO,Nat.le_trans hA.had (by omega),h.m8⟩
theorem Qa {known:List Pl}{m:Int}{r:Nat}{s u v:Sg}{q q2:List Rq}{w0 w7:Wr}{F:Fr}(h:S2 known m r s)(hr:r<60)(R:Rn known s ((r+1:Nat):Int) q w0 u)(hs:s.w.sure<m)
  (ha:j4 u.w 5 known=({ u.w with change:=F },F,true)) (Qt:u.w.l=s.w.l) (hm:bL s.w.l.w (bn s.w.l.aj F)=true) (h0:F.first≠0) (hc:bM { u.w with change:=F } ((r+1:Nat):Int) true=(w7,q2))
  (hv:gB known { u with w:=w7,ask:=jI,bZ:=bn u.bZ F,taken:=1 } q2=v):S2 known m (r+1) v:=by
 obtain⟨g,_⟩:=h.go.step h.m8 hs;have hn:eD ((r+1:Nat):Int):=⟨by omega,by omega⟩;have hw:u.w=q.foldl (nu known) w0:=by rw[←R.e2];exact mW known q _
 have hvw:v.w=q2.foldl (nu known) w7:=by rw[←hv];exact mW known q2 _
 have e:j6 known ((r+1:Nat):Int) s.w=v.w:=by
  unfold j6;simp only[R.e1,←hw,ha,hc,←hvw];rfl
 rw[e] at g;have ht:=sW h.ws hn;rw[R.e1] at ht;have hq:=CR h.ws (by omega) (by omega) hn;rw[R.e1] at hq;have hA:=jL (known:=known) (l:=q) (s:={ s with now:=((r+1:Nat):Int),w:=w0 }) (c:=120+80*r) (d:=24000+200*r+200) (m:=120+80*r) ⟨ht,h.had⟩;rw[R.e2] at hA;have ny:=AB hA.ws 5 known;rw[ha] at ny;have hch:=sZ ny hn true (fun _ _=>by simp only;rw[Qt];exact hm);have hq2:=zU ny ((r+1:Nat):Int) true;rw[hc] at hch hq2;have hr2:=mV known q { s with now:=((r+1:Nat):Int),w:=w0 };rw[R.e2] at hr2;have hA2:=jL (known:=known) (l:=q2) (s:={ u with w:=w7,ask:=jI,bZ:=bn u.bZ F,taken:=1 }) (m:=120+80*r+q.length) ⟨hch,hA.had⟩;rw[hv] at hA2;have hr3:=mV known q2 { u with w:=w7,ask:=jI,bZ:=bn u.bZ F,taken:=1 };rw[hv] at hr3;have hl7:w7.l.aj=bn s.w.l.aj F:=by
  have:(bM { u.w with change:=F } ((r+1:Nat):Int) true).1.l.aj=bn s.w.l.aj F:=by
   unfold bM;rw[if_neg h0,←Qt];rfl
  rw[hc] at this;exact this
 simp only at hq hq2;refine⟨g,hA2.ws.mono (by omega) (by omega),?_,by rw[hr3.now];exact hr2.now,by rw[hr3.bK,hr2.bK];exact h.bK,by rw[hr3.cO,hr2.cO];exact h.cO,Nat.le_trans hA2.had (by omega),h.m8⟩;rw[hr3.bZ,hvw,Mt,hl7];simp only;rw[hr2.bZ];simp only;rw[h.pl]
theorem iQ:bG prog 5 f5:=fF func5
theorem P7 (x:Lg)(aX:Int)(l:List Stp)(known:List Pl)(hx:lgR x) :
  dP prog 5 [.agg x.c,uu aX,Ff l,dO known] (bl true):=by
 refine PC.le ?_;cases ab8:decide (((List.map Stp.c l).length:Int)>120) with
 | true=>
   refine dW iQ ?_;repeat' ((conv=>whnf);first|with_reducible apply aQ|((with_reducible apply fk)<;>intro hc<;>try exact dK)|(apply bC;refine⟨_,dA,?_⟩)|refine aM ?_|fail)
   all_goals exact aK
 |false=>
 cases hk5:decide (((List.map Pl.c known).length:Int)>5) with
 | true=>
   refine dW iQ ?_;repeat' ((conv=>whnf);first|with_reducible apply aQ|((with_reducible apply fk)<;>intro hc<;>try exact dK)|(apply bC;refine⟨_,dA,?_⟩)|refine aM ?_|fail)
   all_goals exact aK
 |false=>
 have iH:=zQ x.aj;cases hh:zy x.aj with
 | true=>
   rw[hh] at iH;refine dW iQ ?_;repeat' ((conv=>whnf);first|with_reducible apply aQ|((with_reducible apply fk)<;>intro hc<;>try exact dK)|(apply bC;refine⟨_,iH,?_⟩)|(apply bC;refine⟨_,dA,?_⟩)|refine aM ?_|fail)
   all_goals exact aK
 |false=>
 rw[hh] at iH;obtain⟨hfr,hok⟩:=IY hx hh;have hnew:=Mc x aX hok (fun hm=>by
  obtain⟨m1,m2,m3,m4,m5,m6⟩:=sF hm;exact⟨by omega,fun f hf=>by have:=m3 f hf;omega,hfr⟩)
 cases hn:sJ x aX with
 | none=>
   rw[hn] at hnew;simp only[Option.getD_none,Option.isSome_none,Bool.false_eq_true,↓reduceIte] at hnew;clear hok hfr hx hh hn;refine dW iQ ?_;repeat' ((conv=>whnf);first|with_reducible apply aQ|((with_reducible apply fk)<;>intro hc<;>try exact dK)|(apply bC;refine⟨_,iH,?_⟩)|(apply bC;refine⟨_,aL (hnew) ?_,?_⟩;exact dx)|(apply bC;refine⟨_,dA,?_⟩)|refine aM ?_|fail)
   all_goals exact aK
 |some w=>
 rw[hn] at hnew;simp only[Option.getD_some,Option.isSome_some,↓reduceIte] at hnew;obtain⟨hmay,hw⟩:=CP hn;have EG:=zS x ⟨hx.2.2.2.1.1,hx.2.2.2.1.2,hx.2.2.2.2.1.1⟩;rw[hmay] at EG;cases g1:decide (((List.map Fr.c x.aj).length:Int)>1) with
 | true=>
   clear hok hfr hx hh hn;refine dW iQ ?_;repeat' ((conv=>whnf);first|with_reducible apply aQ|((with_reducible apply fk)<;>intro hc<;>try exact dK)|(apply bC;refine⟨_,iH,?_⟩)|(apply bC;refine⟨_,aL (hnew) ?_,?_⟩;exact dx)|(apply bC;refine⟨_,EG,?_⟩)|(apply bC;refine⟨_,dA,?_⟩)|refine aM ?_|fail)
   all_goals exact aK
 |false=>
 cases g2:decide (((List.map Pl.c known).length:Int)<x.w) with
 | true=>
   clear hok hfr hx hh hn;refine dW iQ ?_;repeat' ((conv=>whnf);first|with_reducible apply aQ|((with_reducible apply fk)<;>intro hc<;>try exact dK)|(apply bC;refine⟨_,iH,?_⟩)|(apply bC;refine⟨_,aL (hnew) ?_,?_⟩;exact dx)|(apply bC;refine⟨_,EG,?_⟩)|(apply bC;refine⟨_,dA,?_⟩)|refine aM ?_|fail)
   all_goals exact aK
 |false=>
 have hmk:=vG 1 [⟨1,known⟩];cases g3:bL 1 [⟨1,known⟩] with
 | false=>
   rw[g3] at hmk;clear hok hfr hx hh hn;refine dW iQ ?_;repeat' ((conv=>whnf);first|with_reducible apply aQ|((with_reducible apply fk)<;>intro hc<;>try exact dK)|(apply bC;refine⟨_,iH,?_⟩)|(apply bC;refine⟨_,aL (hnew) ?_,?_⟩;exact dx)|(apply bC;refine⟨_,EG,?_⟩)|(apply bC;refine⟨_,aL (hmk) ?_,?_⟩;exact dx)|(apply bC;refine⟨_,dA,?_⟩)|refine aM ?_|fail)
   all_goals exact aK
 |true=>
 rw[g3] at hmk;have hkl:known.length≤5:=by simp only[Au,fe] at hk5;omega
 have hlen:l.length≤120:=by simp only[Au,fe] at ab8;omega
 have ab9:x.aj.length≤1:=by simp only[Au,fe] at g1;omega
 have hK:uh known x.w:=by
  simp only[bL,jY,Bool.and_eq_true,bR,kU,List.all_eq_true,List.mem_singleton,forall_eq] at g3;obtain⟨_,_,⟨⟨_,_⟩,⟨_,_⟩,k5,k6⟩,_⟩:=g3;exact⟨k6,by simp only[Au,fe] at g2;omega,k5⟩
 have acd:known.Nodup:=List.Pairwise.of_map (fun p:Pl=>p.node) (fun a b h e=>h (by rw[e])) hK.nd;have hst:=Za hn;obtain⟨m1,m2,m3,_⟩:=sF hmay;have GU:=sV x.aj (by omega) (fun f hf=>by have:=m3 f hf;omega);have hsw:(pG w).bZ=x.aj:=by rw[hw];rfl
 clear hok hfr hx hh hn m1 m2 m3 g3;refine dW iQ ?_;repeat' ((conv=>whnf);first|with_reducible apply aQ|((with_reducible apply fk)<;>intro hc<;>try exact dK)|(apply bC;refine⟨_,iH,?_⟩)|(apply bC;refine⟨_,aL (hnew) ?_,?_⟩;exact dx)|(apply bC;refine⟨_,EG,?_⟩)|(apply bC;refine⟨_,aL (hmk) ?_,?_⟩;exact dx)|(apply iC;refine⟨_,_,aN (GU) ?_,?_⟩;exact dx)|refine aM ?_|fail)
 clear iH hnew EG GU ab8 hmk hk5 g1 g2;refine⟨{p:Nat×Sg // p.1≤l.length∧S1 x p.1 p.2},fun⟨(k,s),_⟩=>⟨[(2,.pv (Ff l)),(3,.pv (dO known)),(11,.ptr 1009 0),(12,.pv (ii k))],1000000000,stL s⟩,fun⟨(k,_),_⟩=>l.length-k,⟨⟨(0,pG w),Nat.zero_le _,hst⟩,pu [1001008003] ?_⟩,?_⟩
 ·repeat' first|apply And.intro|exact aK|fail
  all_goals try (conv=>whnf)
  all_goals first
   |(rw[hsw];exact aC _)
   |skip
 clear hst hsw hw;rintro⟨⟨k,s⟩,hk,hs⟩
 simp only at hk hs;by_cases hlt:k<l.length
 ·have d0:decide ((k:Int)<((List.map Stp.c l).length:Int))=true:=by rw[List.length_map];simp only[kU];omega
  have eW:IntKind.i64.wrap ((k:Int)+1)=((k+1:Nat):Int):=by rw[bE (by omega) (by omega)];omega
  have hrow:=dJ Stp.c l k hlt;obtain⟨y,hc0⟩:∃y,l[k]=y:=⟨_,rfl⟩;rw[hc0] at hrow;clear hc0;cases h3k:decide (((List.map jq y.body).length:Int)>3000) with
  | true=>
    repeat' ((conv=>whnf);first|with_reducible apply aQ|((with_reducible apply fk)<;>intro hc<;>try exact dK)|((refine⟨_,hrow,?_⟩))|(apply bC;refine⟨_,dA,?_⟩)|refine aM ?_|fail)
    all_goals exact aK
  |false=>
  cases h30:decide (((List.map Pl.c y.known).length:Int)>30) with
  | true=>
    repeat' ((conv=>whnf);first|with_reducible apply aQ|((with_reducible apply fk)<;>intro hc<;>try exact dK)|((refine⟨_,hrow,?_⟩))|(apply bC;refine⟨_,dA,?_⟩)|refine aM ?_|fail)
    all_goals exact aK
  |false=>
  have hb3:y.body.length≤3000:=by rw[List.length_map,decide_eq_false_iff_not] at h3k;omega
  have hwb:=Wz y.what;cases d2:decide (cZ y.what<2) with
  | false=>
    unfold cZ at d2 hwb;clear hwb;repeat' ((conv=>whnf);first|with_reducible apply aQ|((with_reducible apply fk)<;>intro hc<;>try exact dK)|((refine⟨_,hrow,?_⟩))|((refine⟨by decide,?_⟩))|refine aM ?_|fail)
    refine⟨⟨(k+1,s),hlt,hs.mono⟩,dec_lt hlt,ay ?_⟩;repeat' first|apply And.intro|exact aK|fail
    all_goals try (conv=>whnf)
    all_goals exact eW
  | true=>
    have hm:cZ y.what=0∨cZ y.what=1:=by rw[decide_eq_true_eq] at d2;omega
    have ZL:=xH s y (hs.st.Vp (by omega)) hb3 hm;have hs':=hs.send hb3;obtain⟨s',he⟩:∃s',sK s y.body=s':=⟨_,rfl⟩;rw[he] at ZL hs';unfold cZ at d2;clear he hm hwb;repeat' ((conv=>whnf);first|with_reducible apply aQ|((with_reducible apply fk)<;>intro hc<;>try exact dK)|rewrite[qO]|rewrite[qP]|((refine⟨_,hrow,?_⟩))|((refine⟨by decide,?_⟩))|(apply iC;refine⟨_,_,aN (ZL) ?_,?_⟩;exact dx)|refine aM ?_|fail)
    refine⟨⟨(k+1,s'),hlt,hs'⟩,dec_lt hlt,ay ?_⟩;repeat' first|apply And.intro|exact aK|fail
    all_goals try (conv=>whnf)
    all_goals exact eW
 have hke:k=l.length:=by omega
 subst hke;have d0:decide ((l.length:Int)<((List.map Stp.c l).length:Int))=false:=by rw[List.length_map];simp
 have h2:=Ui hs hlen hmay ab9 hK;obtain⟨m,hm⟩:∃m,(s.bK.length:Int)=m:=⟨_,rfl⟩;rw[hm] at h2;clear hmay ab9 hlen;repeat' ((conv=>whnf);first|with_reducible apply aQ|((with_reducible apply fk)<;>intro hc<;>try exact dK)|refine aM ?_|fail)
 refine⟨{p:Nat×Sg // p.1≤60∧S2 known m p.1 p.2},fun⟨(r,s),_⟩=>⟨[(3,.pv (dO known)),(11,.ptr 1009 0),(13,.pv (ii r))],1000000000,stL s⟩,fun⟨(r,_),_⟩=>60-r,⟨⟨(0,{ s with cO:=[] }),Nat.zero_le _,h2⟩,ay ?_⟩,?_⟩
 ·all_goals exact aK
 clear h2 hm hs;rintro⟨⟨r,s⟩,hr,h⟩
 simp only at hr h;by_cases P8:r<60
 rotate_left
 ·have:r=60:=by omega
  subst this;exact h.go.end_.elim
 have d60:decide ((r:Int)<60)=true:=by simp only[kU];omega
 obtain⟨hl0,hlm⟩:=h.go.len;have Y3:=h.m8;have NG:=h.bK;have eU:IntKind.u64.wrap ((s.bK.map Ai).length:Int)=m:=by rw[List.length_map,NG,kT (by omega) (by omega)]
 by_cases hs:s.w.sure<m
 rotate_left
 ·have d2:decide (s.w.sure<m)=false:=by simp only[Au];exact hs
  have d3:(s.w.sure==m)=true:=by rw[beq_iff_eq];omega
  clear hs hlm NG;repeat' ((conv=>whnf);first|with_reducible apply aQ|((with_reducible apply fk)<;>intro hc<;>try exact dK)|rewrite[eU]|(apply bC;refine⟨_,dA,?_⟩)|refine aM ?_|fail)
  all_goals exact aK
 have d2:decide (s.w.sure<m)=true:=by simp only[kU];exact hs
 obtain⟨_,w1,hw1,hcase⟩:=h.go.step h.m8 hs;have hn:eD ((r+1:Nat):Int):=⟨by omega,by omega⟩;have ace:IntKind.u64.wrap (s.now+1)=((r+1:Nat):Int):=by rw[h.now,kT (by omega) (by omega)];omega
 have eR:IntKind.i64.wrap ((r:Int)+1)=((r+1:Nat):Int):=by rw[bE (by omega) (by omega)];omega
 have hT:=Gx s.w ((r+1:Nat):Int) (h.ws.JJ (by omega) (by omega)) hn (fun y _=>kg h.ws.CQ) h.ws.lf;have ht:=sW h.ws hn;have hq:=CR h.ws (by omega) (by omega) hn;obtain⟨⟨w0,q⟩,e1⟩:∃y,dw s.w ((r+1:Nat):Int)=y:=⟨_,rfl⟩;rw[e1] at hT ht hq hw1;simp only at hT ht hq hw1;have hA:ZM { s with now:=((r+1:Nat):Int),w:=w0 } (120+80*r) (24000+200*r+200) (120+80*r):=⟨ht,h.had⟩;have Zb:=zT { s with now:=((r+1:Nat):Int),w:=w0 } q known hA acd (by omega) (by omega) (by omega) (by omega);have hA2:=jL (known:=known) (l:=q) hA;have hr2:=mV known q { s with now:=((r+1:Nat):Int),w:=w0 };have hwu:=mW known q { s with now:=((r+1:Nat):Int),w:=w0 };obtain⟨u,e2⟩:∃u,gB known { s with now:=((r+1:Nat):Int),w:=w0 } q=u:=⟨_,rfl⟩;rw[e2] at Zb hA2 hr2 hwu;have ae0:w1=u.w:=by rw[hw1,hwu]
 subst ae0;have P9:=Md u.w 5 known (hA2.ws.JJ (by omega) (by omega)) (by omega) hA2.ws.lf (by have:=hA2.ws.su;omega);have Zc:u.cO=[]:=by rw[hr2.cO];exact h.cO
 have hpl:u.bZ=s.w.l.aj:=by rw[hr2.bZ];exact h.pl
 have nW:u.bK=s.bK:=hr2.bK;have Qw:u.now=((r+1:Nat):Int):=hr2.now;clear hw1 hwu;rcases hcase with ha|⟨F,ha,Qt,hmy,hle,h0⟩
 ·rw[ha] at P9;have hnext:=WA h P8 ⟨e1,e2⟩ hs ha;simp only at P9;clear hA hA2 hr2 e1 e2 ha ht hl0 hlm Y3 NG Zc hpl nW Qw hs;repeat' ((conv=>whnf);first|with_reducible apply aQ|((with_reducible apply fk)<;>intro hc<;>try exact dK)|rewrite[eU]|rewrite[ace]|rewrite[qO]|rewrite[qP]|(apply bC;refine⟨_,aL (hT) ?_,?_⟩;exact dx)|(apply iC;refine⟨_,_,aN (Zb) ?_,?_⟩;exact dx)|(apply bC;refine⟨_,aL (P9) ?_,?_⟩;exact dx)|refine aM ?_|fail)
  refine⟨⟨(r+1,u),P8,hnext⟩,dec_lt P8,ay ?_⟩;repeat' first|apply And.intro|exact aK|fail
  all_goals try (conv=>whnf)
  all_goals exact eR
 have ny:=AB hA2.ws 5 known;rw[ha] at P9 ny;simp only at P9 ny;have h9:(s.bK.length:Int)≤8:=by omega
 have hB4:WB { u with w:={ u.w with change:=F },ask:=F,taken:=0 }:=⟨ny.JJ (by omega) (by omega),ny.lf,ny.CQ,ny.WC,by simp only[Zc];simp,by have:=hA2.had;simp only;omega,by simp only[nW];omega,by simp only[Qw];exact hn,by have:=ny.nx;simp only at this ⊢;exact⟨by omega,by omega⟩,by have:=ny.su;simp only at this ⊢;omega⟩;obtain⟨p1,p2,p3⟩:=pO h.ws.mf;have hTk:=uI { u with w:={ u.w with change:=F },ask:=F,taken:=0 } ⟨8,0,0,0,0,0,[],[]⟩ hB4 (by simp only[hpl];exact p1) (by simp only[hpl];omega) (by simp only[hpl];exact fun f hf=>by have:=p3 f hf;omega) tk8;rw[Uj rfl rfl h0 (by simp only[hpl];exact hle) (by simp only[hpl,Qt];exact hmy)] at hTk;have hCh:=vH { u.w with change:=F } ((r+1:Nat):Int) true (ny.JJ (by omega) (by omega)) hn ny.CQ ny.WC;have hch:=sZ ny hn true (fun _ _=>by simp only;rw[Qt];exact hmy);have hq2:=zU ny ((r+1:Nat):Int) true;obtain⟨⟨w7,q2⟩,e7⟩:∃y,bM { u.w with change:=F } ((r+1:Nat):Int) true=y:=⟨_,rfl⟩;rw[e7] at hCh hch hq2;simp only at hCh hch hq2;have XG:=zT { u with w:=w7,ask:=jI,bZ:=bn u.bZ F,taken:=1 } q2 known (m:=120+80*r+q.length) ⟨hch,hA2.had⟩ acd (by omega) (by omega) (by omega) (by omega);obtain⟨v,ev⟩:∃v,gB known { u with w:=w7,ask:=jI,bZ:=bn u.bZ F,taken:=1 } q2=v:=⟨_,rfl⟩;rw[ev] at XG;rw[←Qw] at hCh;have hnext:=Qa h P8 ⟨e1,e2⟩ hs ha Qt hmy h0 e7 ev;clear hA hA2 hr2 e1 e2 e7 ev ha ht hl0 hlm Y3 NG Zc hpl nW Qw hs hB4 p1 p2 p3 Qt hmy hle h0 h9 ny hch;repeat' ((conv=>whnf);first|with_reducible apply aQ|((with_reducible apply fk)<;>intro hc<;>try exact dK)|rewrite[eU]|rewrite[ace]|rewrite[qO]|rewrite[qP]|(apply bC;refine⟨_,aL (hT) ?_,?_⟩;exact dx)|(apply iC;refine⟨_,_,aN (Zb) ?_,?_⟩;exact dx)|(apply bC;refine⟨_,aL (P9) ?_,?_⟩;exact dx)|(apply iC;refine⟨_,_,aN (hTk) ?_,?_⟩;exact dx)|(apply bC;refine⟨_,aL (hCh) ?_,?_⟩;exact dx)|(apply iC;refine⟨_,_,aN (XG) ?_,?_⟩;exact dx)|refine aM ?_|fail)
 refine⟨⟨(r+1,v),P8,hnext⟩,dec_lt P8,ay ?_⟩;repeat' first|apply And.intro|exact aK|fail
 all_goals try (conv=>whnf)
 all_goals exact eR
end Go.Proofs.YtfoiekbkkbnpkaaGreat.Tb
end
