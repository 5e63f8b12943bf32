/-
  Conditions: none. A framework for walks: abstract values, memory, and conditions that suffice; the chapters in plain terms.
-/
import Derived.Test.YtfoiekbkkbnpkaaGreatAf
import Derived.Test.YtfoiekbkkbnpkaaGreatAe
import Derived.ProofKit
import Derived.OpenShut
set_option linter.unusedSectionVars false
set_option linter.unusedVariables false
set_option linter.unusedSimpArgs false
section
namespace Go.AX
def bO (y:Rv):Int:=if y.phase=1 then 0 else if y.phase=2 then 2*y.n else if y.phase=3 then 2*y.n+1 else 100
def kR (y:Rv):Int:=(5-(y.heard.length:Int))+(if y.phase=1 then 80 else if y.phase=2 then 5+10*(8-y.n) else if y.phase=3 then 10*(8-y.n) else 0)
structure RE (s:Sk)(y:Rv):Prop where
 hn:y.heard.Nodup∧∀p∈y.heard,p∈(aL s.x.af).ah
 nb:y.bad=[]
 n1:y.phase=1→eu (aS y) y.l.w y.l.a y.heard=false
 n2:y.phase=2→dL (aC y) y.l.w y.l.a y.none=false
 n3:y.phase=3→bE (aj y) y.l.a y.has=false
 pf:y.phase=2∨y.phase=3→(aL s.x.af).first≤y.n
structure Pr (now:Int)(x y:Rv):Prop where
 rk:bO x≤bO y
 he:∀p∈x.heard,p∈y.heard
 eq:bO x=bO y→(∀p∈x.none,p∈y.none)∧(∀p∈x.has,p∈y.has)∧y.af=x.af∧y.born=x.born∧y.since=x.since∧y.n=x.n∧y.phase=x.phase
 l:y.l=x.l
 ep:y.ak=x.ak
 fr:y.af=x.af
 tm:bO x<bO y→y.phase=4∨(y.born=now∧y.since=now)
theorem Pr.refl (now:Int)(x:Rv):Pr now x x:=⟨Int.le_refl _,fun _ h=>h,fun _=>⟨fun _ h=>h,fun _ h=>h,rfl,rfl,rfl,rfl,rfl⟩,rfl,rfl,rfl,fun h=>absurd h (Int.lt_irrefl _)⟩
theorem Pr.trans {now:Int}{x y z:Rv}(h:Pr now x y)(k:Pr now y z):Pr now x z:=by
 have h1:=h.rk;have h2:=k.rk;refine⟨Int.le_trans h.rk k.rk,fun p G=>k.he p (h.he p G),fun e=>?_,k.l.trans h.l,k.ep.trans h.ep,k.fr.trans h.fr,fun aa=>?_⟩
 ·obtain⟨a1,a2,a3,a4,a5,a6,a7⟩:=h.eq (by omega);obtain⟨S,V,X,J,K,b6,Q⟩:=k.eq (by omega);exact⟨fun p G=>S p (a1 p G),fun p G=>V p (a2 p G),X.trans a3,J.trans a4,K.trans a5,b6.trans a6,Q.trans a7⟩
 by_cases g:bO y<bO z
 ·exact k.tm g
 obtain⟨S,V,X,J,K,b6,Q⟩:=k.eq (by omega);rcases h.tm (by omega) with w|⟨w1,w2⟩
 ·exact .inl (Q.trans w)
 exact .inr ⟨J.trans w1,K.trans w2⟩
structure TkE (s:Sk)(now:Int)(x:Rv)(R:Rv×List Rq):Prop where
 re:RE s R.1
 pr:Pr now x R.1
 pot:(R.2.length:Int)+kR R.1≤kR x
section
variable {s:Sk}{x:Rv}
theorem Jf {now:Int}(h:RE s x):TkE s now x (x,[]):=⟨h,Pr.refl now x,by simp⟩
variable (hR:kS { s with r:=x })(hE:RE s x)
include hR
theorem tT:dh s.x.w s.x.af=true∧1≤s.x.a∧s.x.a≤s.x.w∧s.x.w≤5:=by
 have h:=hR.may;have G:=lX h;change dN s.x=true at h
 simp only[dN,Bool.and_eq_true,dA,decide_eq_true_eq] at h;exact⟨G.1,G.2.1,G.2.2,h.2.2.1⟩
theorem BB (l:List Fr)(n:Int):(setOf l x.l.w n).length≤5:=by
 rw[hR.l];have:=tT hR;have G:=FQ l s.x.w n;change (setOf l s.x.w n).length≤5
 omega
omit hR in
theorem Y6 {S:List Pl}{w a:Int}(G:a≤w):dL S w a []=false:=by
 have hc:yF S []=0:=by
  unfold yF;have:∀k,lJ S [] k=0:=by
   intro k;induction k with
   |zero=>rfl
   |succ k ih=>rw[lJ,ih];simp
  exact this _
 unfold dL;rw[hc];simp;omega
theorem Y7 {y:Rv}(S:y.l=x.l)(V:y.ak=x.ak)(G:y.af=x.af)(J:∀p∈x.heard,p∈y.heard)(K:y.heard.Nodup∧∀p∈y.heard,p∈(aL s.x.af).ah){n now:Int}(h1:1≤n∧n≤9)(hf:n≤8→(aL s.x.af).first≤n)
  (BA:bO x<2*n) (X:bO x<100) :
  RE s (bB y n now).1∧Pr now x (bB y n now).1∧((bB y n now).2.length:Int)+kR (bB y n now).1≤(5-(y.heard.length:Int))+(if n>8 then 0 else 5+(5+10*(8-n))):=by
 have hm:=tT hR;unfold bB;dsimp only
 split
 ·rename_i Q;simp only[decide_eq_true_eq] at Q;refine⟨⟨K,rfl,fun e=>absurd e (by show ¬(4:Int)=1;decide),fun e=>absurd e (by show ¬(4:Int)=2;decide),fun e=>absurd e (by show ¬(4:Int)=3;decide),fun e=>?_⟩,⟨?_,J,fun e=>?_,S,V,G,fun _=>.inl rfl⟩,?_⟩
  ·rcases e with e|e
   ·exact absurd e (by show ¬(4:Int)=2;decide)
   exact absurd e (by show ¬(4:Int)=3;decide)
  ·show bO x≤100
   omega
  ·have e:bO x=100:=e;omega
  show ((0:Nat):Int)+((5-(y.heard.length:Int))+0)≤_
  rw[if_pos Q];simp
 rename_i Q;simp only[decide_eq_true_eq] at Q;have hq:=rW { y with n:=n,none:=[],has:=[],body:=[],bad:=[],phase:=2,born:=now,since:=now } (aC { y with n:=n,none:=[],has:=[],body:=[],bad:=[],phase:=2,born:=now,since:=now });have hs:=BB hR y.l.af n;rw[←S] at hs;refine⟨⟨K,rfl,fun e=>absurd e (by show ¬(2:Int)=1;decide),fun _=>?_,fun e=>absurd e (by show ¬(2:Int)=3;decide),fun _=>hf (by omega)⟩,⟨?_,J,fun e=>?_,S,V,G,fun _=>.inr ⟨rfl,rfl⟩⟩,?_⟩
 ·refine Y6 ?_;show y.l.a≤y.l.w
  rw[S,hR.l];exact hm.2.2.1
 ·show bO x≤2*n
  omega
 ·have e:bO x=2*n:=e;omega
 rw[if_neg (by omega)];have aa:(aC { y with n:=n,none:=[],has:=[],body:=[],bad:=[],phase:=2,born:=now,since:=now }).length≤5:=hs;show ((gF _ _).length:Int)+((5-(y.heard.length:Int))+(5+10*(8-n)))≤_
 omega
end
structure RsC (s:Sk)(r:Rs):Prop where
 le:r.bI=s.x.id
 ep:r.ak=s.ak
 co:r.code=0∨(r.kind=3∧r.code=3)
theorem xM {y:Rv}(h:y.phase=2):bO y=2*y.n:=by unfold bO;rw[if_neg (by rw[h];decide),if_pos h]
theorem zZ {y:Rv}(h:y.phase=3):bO y=2*y.n+1:=by unfold bO;rw[if_neg (by rw[h];decide),if_neg (by rw[h];decide),if_pos h]
theorem FN {y:Rv}(h:y.phase=1):bO y=0:=by unfold bO;rw[if_pos h]
theorem Y8 {y:Rv}(h:y.phase=4):bO y=100:=by unfold bO;rw[if_neg (by rw[h];decide),if_neg (by rw[h];decide),if_neg (by rw[h];decide)]
theorem ai7 {y:Rv}(h:y.phase=1):kR y=(5-(y.heard.length:Int))+80:=by unfold kR;rw[if_pos h]
theorem agC {y:Rv}(h:y.phase=2):kR y=(5-(y.heard.length:Int))+(5+10*(8-y.n)):=by unfold kR;rw[if_neg (by rw[h];decide),if_pos h]
theorem agD {y:Rv}(h:y.phase=3):kR y=(5-(y.heard.length:Int))+10*(8-y.n):=by unfold kR;rw[if_neg (by rw[h];decide),if_neg (by rw[h];decide),if_pos h]
theorem ala {y:Rv}(h:y.phase=4):kR y=(5-(y.heard.length:Int))+0:=by unfold kR;rw[if_neg (by rw[h];decide),if_neg (by rw[h];decide),if_neg (by rw[h];decide)]
section
variable {s:Sk}
theorem FR {y:Rv}(J:y.phase=3)(G:kS { s with r:=y })(K:y.heard.Nodup∧∀p∈y.heard,p∈(aL s.x.af).ah)(V:y.bad=[])(X:(aL s.x.af).first≤y.n)(now:Int) :
  TkE s now y (aZ y now)∧(bO (aZ y now).1=bO y→(aZ y now).1=y∧(aZ y now).2=[]):=by
 have hn:=G.n1 (by show y.phase≠1;rw[J];decide);have S:=G.n2 (.inr J);change 1≤y.n∧y.n≤9 at hn
 change y.n≤8∧(aL y.af).first≤y.n at S
 have aa:=agD J;have ad:=zZ J;unfold aZ;split
 ·obtain⟨a,b,c⟩:=Y7 G (y:=y) rfl rfl rfl (fun _ h=>h) K (n:=y.n+1) (now:=now) ⟨by omega,by omega⟩ (fun _=>by omega) (by omega) (by omega);refine⟨⟨a,b,?_⟩,fun e=>?_⟩
  ·rw[aa];refine Int.le_trans c ?_;split<;>omega
  exfalso;have:bO (bB y (y.n+1) now).1=2*(y.n+1)∨bO (bB y (y.n+1) now).1=100:=by
   unfold bB;dsimp only
   split
   ·exact .inr rfl
   exact .inl rfl
  omega
 rename_i Q;have Q:bE (aj y) y.l.a y.has=false:=by simpa using Q
 exact⟨Jf ⟨K,V,fun e=>absurd (J.symm.trans e) (by decide),fun e=>absurd (J.symm.trans e) (by decide),fun _=>Q,fun _=>X⟩,fun _=>⟨rfl,rfl⟩⟩
theorem afm {x:Rv}(G:kS { s with r:=x })(hE:RE s x)(Q:x.phase=3)(now:Int){p:Pl}(hp:p∈bn s.has x.n) :
  TkE s now x (je x now p)∧(bO x<bO (je x now p).1∨p∈(je x now p).1.has):=by
 unfold je;split
 ·rename_i h;exact⟨Jf hE,.inr (Aa h)⟩
 have K:kS { s with r:={ x with has:=x.has++[p] } }:=⟨G.l,G.may,G.ep,G.su,G.he,G.no,G.ph,G.p1,G.n1,G.n2,(fun e=>⟨fun z J=>(by
  rcases List.mem_append.1 J with J|J
  ·exact (G.hs e).1 z J
  rw[List.mem_singleton] at J;subst J;exact hp),(G.hs e).2⟩),G.gd,G.fr,G.en⟩
 obtain⟨⟨a,b,c⟩,d⟩:=FR (y:={ x with has:=x.has++[p] }) Q K hE.hn hE.nb (hE.pf (.inr Q)) now;have V:Pr now x { x with has:=x.has++[p] }:=⟨Int.le_refl _,fun _ h=>h,fun _=>⟨fun _ h=>h,fun z J=>List.mem_append_left _ J,rfl,rfl,rfl,rfl,rfl⟩,rfl,rfl,rfl,fun h=>absurd h (Int.lt_irrefl _)⟩;refine⟨⟨a,V.trans b,c⟩,?_⟩;have S:=b.rk;change bO x≤_ at S
 rcases Int.lt_or_eq_of_le S with g|g
 ·exact .inl g
 refine .inr ?_;rw[(d g.symm).1];show p∈x.has++[p]
 simp
variable (H:fB s)(hlt:s.first<s.ak)(hE:RE s s.r)
include H hlt hE
theorem Y9 {p:Pl}(hp:p∈(aL s.x.af).ah)(hn:p∉s.r.heard):s.r.heard.length+1≤5∧(s.r.heard++[p]).Nodup∧∀q∈s.r.heard++[p],q∈(aL s.x.af).ah:=by
 have hm:=tT (H.rv hlt);obtain⟨⟨l0,l6⟩,X⟩:=dO hm.1;have S:=X _ (iU l0);simp only[iK,Bool.and_eq_true,dA,decide_eq_true_eq] at S;have J:(s.r.heard++[p]).Nodup:=by
  rw[List.nodup_append];refine⟨hE.hn.1,by simp,fun x hx y Q e=>?_⟩;rw[List.mem_singleton] at Q;subst Q;subst e;exact hn hx
 have K:∀q∈s.r.heard++[p],q∈(aL s.x.af).ah:=fun q G=>by
  rcases List.mem_append.1 G with G|G
  ·exact hE.hn.2 q G
  rw[List.mem_singleton] at G;subst G;exact hp
 have V:=J.length_le_of_subset K;rw[List.length_append,List.length_singleton] at V;exact⟨by omega,J,K⟩
theorem Za {r:Rs}(hr:yG s s.ak r)(he:r.ak=s.r.ak)(hk:r.kind=2)(hc:r.code=0)(now:Int) :
  TkE s now s.r (fQ s.r now r)∧(r.from_∈(aL s.x.af).ah→r.from_∈(fQ s.r now r).1.heard):=by
 have hR:=H.rv hlt;have K:=(Jg H hlt hr he hk hc now).1;have hm:=tT hR;obtain⟨⟨l0,l6⟩,_⟩:=dO hm.1;have aa:aS s.r=aL s.x.af:=by
  rw[vN (by rw[hR.l];exact l0),hR.l]
 rw[pX] at K ⊢;by_cases G:(!(aS s.r).ah.any (· == r.from_)||s.r.heard.any (· == r.from_))=true
 ·rw[if_pos G];refine⟨Jf hE,fun X=>?_⟩;rw[aa] at G;have:(aL s.x.af).ah.any (· == r.from_)=true:=List.any_eq_true.2 ⟨_,X,by simp⟩;rw[this] at G;simp only[Bool.not_true,Bool.false_or] at G;exact Aa G
 rw[if_neg G] at K ⊢;simp only[Bool.or_eq_true,Bool.not_eq_true',not_or,Bool.not_eq_false] at G;rw[aa] at G;have X:=Aa G.1;have am:r.from_∉s.r.heard:=fun h=>G.2 (List.any_eq_true.2 ⟨_,h,by simp⟩)
 obtain⟨g1,g2,g3⟩:=Y9 H hlt hE X am;obtain⟨y,J⟩:∃y:Rv,y={ s.r with heard:=s.r.heard++[r.from_],sure:=min (max s.r.sure r.sure) 8 }:=⟨_,rfl⟩;rw[←J] at K ⊢;have y1:y.heard=s.r.heard++[r.from_]:=by rw[J]
 have y2:y.phase=s.r.phase:=by rw[J]
 have y3:y.n=s.r.n:=by rw[J]
 have y4:y.l=s.r.l:=by rw[J]
 have y5:aS y=aL s.x.af:=by rw[←aa,J];rfl
 have y6:0≤y.sure:=by rw[J];have:=hR.su;show 0≤min (max s.r.sure r.sure) 8;omega
 have y7:y.ak=s.r.ak:=by rw[J]
 have ae:(y.heard.length:Int)=(s.r.heard.length:Int)+1:=by rw[y1];simp
 have S:∀p∈s.r.heard,p∈y.heard:=fun p hp=>by rw[y1];exact List.mem_append_left _ hp
 have BA:bO y=bO s.r:=by unfold bO;rw[y2,y3]
 have ao:kR y+1=kR s.r:=by unfold kR;rw[y2,y3,ae];omega
 have ai:Pr now s.r y:=⟨by rw[BA];exact Int.le_refl _,S,fun _=>⟨fun p hp=>by rw[J];exact hp,fun p hp=>by rw[J];exact hp,by rw[J],by rw[J],by rw[J],y3,y2⟩,y4,y7,by rw[J],fun h=>absurd h (by rw[BA];exact Int.lt_irrefl _)⟩;have V:r.from_∈y.heard:=by rw[y1];simp
 have al:y.heard.Nodup∧∀p∈y.heard,p∈(aL s.x.af).ah:=by rw[y1];exact⟨g2,g3⟩
 unfold wU at K ⊢;by_cases Q:(y.phase==1&&eu (aS y) y.l.w y.l.a y.heard)=true
 ·rw[if_pos Q] at K ⊢;simp only[Bool.and_eq_true,beq_iff_eq] at Q;have Qq:s.r.phase=1:=by rw[←y2];exact Q.1
  have hn:(bB y (max (y.sure+1) (aS y).first) now).1.n=max (y.sure+1) (aS y).first:=yH _ _ _
  have ad:=K.n1 (by
   show (bB y (max (y.sure+1) (aS y).first) now).1.phase≠1
   unfold bB;dsimp only
   split
   ·show ¬(4:Int)=1;decide
   show ¬(2:Int)=1;decide)
  change 1≤(bB y (max (y.sure+1) (aS y).first) now).1.n∧(bB y (max (y.sure+1) (aS y).first) now).1.n≤9 at ad
  rw[hn] at ad;obtain⟨a,b,c⟩:=Y7 hR (y:=y) y4 y7 (by rw[J]) S al (now:=now) ad (fun _=>by rw[y5];omega) (by rw[FN Qq];omega) (by rw[FN Qq];decide);refine⟨⟨a,b,Int.le_trans c ?_⟩,fun _=>?_⟩
  ·rw[ai7 Qq,ae];split<;>omega
  rw[iB];exact V
 rw[if_neg Q] at K ⊢;have ag:RE s y:=by
  refine⟨al,by rw[J];exact hE.nb,fun e=>?_,fun e=>?_,fun e=>?_,fun e=>?_⟩
  ·have:(y.phase==1)=true:=by simp[e]
   rw[this,Bool.true_and] at Q;simpa using Q
  ·have:=hE.n2 (y2▸e);rw[J];exact this
  ·have:=hE.n3 (y2▸e);rw[J];exact this
  rw[y3];exact hE.pf (by rw[←y2];exact e)
 split
 ·exact⟨⟨ag,ai,by show ((1:Nat):Int)+kR y≤_;omega⟩,fun _=>V⟩
 exact⟨⟨ag,ai,by show ((0:Nat):Int)+kR y≤_;omega⟩,fun _=>V⟩
theorem ajb {r:Rs}(hr:yG s s.ak r)(hC:RsC s r)(he:r.ak=s.r.ak)(hk:r.kind=3)(hn:r.n=s.r.n)(now:Int) :
  TkE s now s.r (lm s.r now r)∧(s.r.phase=2→r.from_∈aC s.r→r.from_∈s.r.heard→bO s.r<bO (lm s.r now r).1∨r.from_∈(lm s.r now r).1.none):=by
 have J:=H.rv hlt;unfold lm;by_cases S:(s.r.phase==2&&(r.code==0&&(aC s.r).any (· == r.from_)))=true
 ·rw[if_pos S];simp only[Bool.and_eq_true,beq_iff_eq] at S;obtain⟨G,co,ah⟩:=S;obtain⟨o1,o2⟩:=hr.ok hk co;rw[hn] at o1 o2;have aa:=J.n1 (by rw[G];decide);have ad:=J.n2 (.inl G);have hZ:kS { s with r:=aN s.r now r }:=⟨J.l,J.may,J.ep,J.su,J.he,J.no,.inr (.inr (.inl rfl)),(fun e=>absurd e (by show ¬(3:Int)=1;decide)),(fun _=>aa),(fun _=>ad),(fun _=>⟨fun p hp=>(by
   have hp:p∈[r.from_]:=hp;rw[List.mem_singleton] at hp;subst hp;exact o1),o2⟩),(fun _=>J.gd (by rw[G];decide)),J.fr,(fun e=>absurd e (by show ¬(3:Int)=4;decide))⟩
  obtain⟨⟨a,b,c⟩,d⟩:=FR (y:=aN s.r now r) rfl hZ hE.hn hE.nb (hE.pf (.inl G)) now;have hq:=lY (aN s.r now r) (aj (aN s.r now r));have ai:(aj (aN s.r now r)).length≤5:=BB J s.r.af s.r.n;have V:bO (aN s.r now r)=2*s.r.n+1:=zZ rfl;have hP:Pr now s.r (aN s.r now r):=⟨by rw[V,xM G];omega,fun _ h=>h,fun e=>by rw[V,xM G] at e;omega,rfl,rfl,rfl,fun _=>.inr ⟨rfl,rfl⟩⟩;have ae:=b.rk;refine⟨⟨a,hP.trans b,?_⟩,fun _ _ _=>.inl ?_⟩
  ·have ag:kR (aN s.r now r)=(5-(s.r.heard.length:Int))+10*(8-s.r.n):=agD rfl;show ((aU (aN s.r now r) (aj (aN s.r now r))++(aZ (aN s.r now r) now).2).length:Int)+kR (aZ (aN s.r now r) now).1≤kR s.r
   rw[agC G,List.length_append];rw[ag] at c;omega
  rw[xM G];rw[V] at ae;show 2*s.r.n<bO (aZ (aN s.r now r) now).1;omega
 rw[if_neg S];by_cases Q:(s.r.phase==2&&(r.code==3&&((aC s.r).any (· == r.from_)&&(s.r.heard.any (· == r.from_) && !s.r.none.any (· == r.from_)))))=true
 ·rw[if_pos Q];simp only[Bool.and_eq_true,beq_iff_eq] at Q;obtain⟨G,_⟩:=Q;have aa:=J.n1 (by rw[G];decide);have ad:=J.n2 (.inl G);by_cases K:dL (aC s.r) s.r.l.w s.r.l.a (s.r.none++[r.from_])=true
  ·rw[if_pos K];refine⟨⟨⟨hE.hn,hE.nb,(fun e=>absurd e (by show ¬(4:Int)=1;decide)),(fun e=>absurd e (by show ¬(4:Int)=2;decide)),(fun e=>absurd e (by show ¬(4:Int)=3;decide)),(fun e=>by
    rcases e with e|e
    ·exact absurd e (by show ¬(4:Int)=2;decide)
    exact absurd e (by show ¬(4:Int)=3;decide))⟩,⟨?_,fun _ h=>h,fun e=>?_,rfl,rfl,rfl,fun _=>.inl rfl⟩,?_⟩,fun _ _ _=>.inl ?_⟩
   ·show bO s.r≤100;rw[xM G];omega
   ·have e:bO s.r=100:=e;rw[xM G] at e;omega
   ·show ((0:Nat):Int)+((5-(s.r.heard.length:Int))+0)≤kR s.r
    rw[agC G];omega
   show bO s.r<100;rw[xM G];omega
  rw[if_neg K];have K:dL (aC s.r) s.r.l.w s.r.l.a (s.r.none++[r.from_])=false:=by simpa using K
  refine⟨⟨⟨hE.hn,hE.nb,hE.n1,(fun _=>K),hE.n3,hE.pf⟩,⟨Int.le_refl _,fun _ h=>h,fun _=>⟨fun p hp=>List.mem_append_left _ hp,fun _ h=>h,rfl,rfl,rfl,rfl,rfl⟩,rfl,rfl,rfl,fun h=>absurd h (Int.lt_irrefl _)⟩,?_⟩,fun _ _ _=>.inr (by show r.from_∈s.r.none++[r.from_];simp)⟩;show ((0:Nat):Int)+kR s.r≤kR s.r
  omega
 rw[if_neg Q];have Zb:s.r.phase=2→r.from_∈aC s.r→r.from_∈s.r.heard→r.from_∈s.r.none:=fun G h1 h2=>by
  have a1:(aC s.r).any (· == r.from_)=true:=List.any_eq_true.2 ⟨_,h1,by simp⟩;have a2:s.r.heard.any (· == r.from_)=true:=List.any_eq_true.2 ⟨_,h2,by simp⟩;have a3:(s.r.phase==2)=true:=by simp[G]
  rw[a1,a3] at S;rw[a1,a2,a3] at Q;simp only[Bool.true_and,Bool.and_true,beq_iff_eq] at S Q;rcases hC.co with g|⟨_,g⟩
  ·exact absurd g S
  simp only[g,beq_self_eq_true,Bool.true_and,Bool.not_eq_true',Bool.not_eq_false] at Q;exact Aa Q
 by_cases X:(s.r.phase==3&&(r.code==0&&decide (r.body=s.r.body)))=true
 ·rw[if_pos X];simp only[Bool.and_eq_true,beq_iff_eq] at X;obtain⟨o1,o2⟩:=hr.ok hk X.2.1;rw[hn] at o1;exact⟨(afm J hE X.1 now o1).1,fun G=>absurd (G.symm.trans X.1) (by decide)⟩
 rw[if_neg X];exact⟨Jf hE,fun G h1 h2=>.inr (Zb G h1 h2)⟩
theorem agF {r:Rs}(hr:yG s s.ak r)(S:RsC s r)(now:Int) :
  TkE s now s.r (bJ s.r now r)∧(r.kind=2→s.r.phase≠4→r.from_∈(aL s.x.af).ah→r.from_∈(bJ s.r now r).1.heard) ∧
  (r.kind=3→r.n=s.r.n→s.r.phase=2→r.from_∈aC s.r→r.from_∈s.r.heard→bO s.r<bO (bJ s.r now r).1∨r.from_∈(bJ s.r now r).1.none) ∧
  (r.kind=1→r.n=s.r.n→s.r.phase=3→bO s.r<bO (bJ s.r now r).1∨r.from_∈(bJ s.r now r).1.has):=by
 have V:=H.rv hlt;have X:r.ak=s.r.ak:=by rw[S.ep,V.ep]
 have e0:(r.bI != s.r.l.id||r.ak != s.r.ak)=false:=by
  rw[Bool.or_eq_false_iff];exact⟨by rw[V.l,S.le];simp,by rw[X];simp⟩
 unfold bJ;rw[if_neg (by rw[e0];decide)];by_cases J:r.kind=2
 ·have Q:r.code=0:=S.co.resolve_right (fun g=>by omega);by_cases hp:s.r.phase<4
  ·rw[if_pos (by simp[J,Q,hp])];obtain⟨a,b⟩:=Za H hlt hE hr X J Q now;exact⟨a,fun _ _ h=>b h,fun g=>by omega,fun g=>by omega⟩
  rw[if_neg (by simp[hp]),if_neg (by simp[J]),if_neg (by simp[J])];have h4:s.r.phase=4:=by rcases V.ph with g|g|g|g<;>omega
  exact⟨Jf hE,fun _ h=>absurd h4 h,fun g=>by omega,fun g=>by omega⟩
 rw[if_neg (by simp[J])];by_cases K:r.kind=3∧r.n=s.r.n
 ·rw[if_pos (by simp[K.1,K.2])];obtain⟨a,b⟩:=ajb H hlt hE hr S X K.1 K.2 now;exact⟨a,fun g=>absurd g J,fun _ _ h1 h2 h3=>b h1 h2 h3,fun g=>by omega⟩
 rw[if_neg (by simp only[Bool.and_eq_true,beq_iff_eq];exact K)];by_cases G:r.kind=1∧(r.n=s.r.n∧s.r.phase=3)
 ·rw[if_pos (by simp[G.1,G.2.1,G.2.2])];have Q:r.code=0:=S.co.resolve_right (fun g=>by omega);unfold fI;rw[if_pos (by simp[Q])];have o:=hr.ad G.1 Q;rw[G.2.1] at o;obtain⟨a,b⟩:=afm V hE G.2.2 now o;exact⟨a,fun g=>absurd g J,fun g=>by omega,fun _ _ _=>b⟩
 rw[if_neg (by simp only[Bool.and_eq_true,beq_iff_eq];exact G)];exact⟨Jf hE,fun g=>absurd g J,fun g1 g2=>absurd ⟨g1,g2⟩ K,fun g1 g2 g3=>absurd ⟨g1,g2,g3⟩ G⟩
end
def iw (up:List Pl)(s:Sk):Sk:=
 match s.bH with
 |[]=>s
 |m::r=>if m.ask && !aW up m.q.to then { s with bH:=r } else gQ { s with bH:=r } m
def dD (up:List Pl):Nat→Sk→Sk
 |0,s=>s
 |n+1,s=>dD up n (iw up s)
theorem wV (up:List Pl):∀(a b:Nat) (s:Sk),dD up (a+b) s=dD up b (dD up a s)
 |0,b,s=>by rw[Nat.zero_add];rfl
 |a+1,b,s=>by rw[Nat.succ_add];exact wV up a b (iw up s)
theorem o7 (up:List Pl):∀(n:Nat) (s:Sk),s.bH=[]→dD up n s=s
 |0,s,_=>rfl
 | n+1,s,h=>by
   have:iw up s=s:=by unfold iw;rw[h]
   show dD up n (iw up s)=s
   rw[this];exact o7 up n s h
structure Zc (s:Sk)(q:Rq):Prop where
 le:q.bI=s.x.id
 ep:q.ak=s.ak
 kd:q.kind=1∨q.kind=2∨q.kind=3
structure LtC (s:Sk)(m:Lk):Prop where
 to:m.to=s.ak
 q:m.ask=true→Zc s m.q
 r:m.ask=false→RsC s m.r
structure EI (s:Sk):Prop where
 inv:fB s
 lt:s.first<s.ak
 fe:∀p,iT s.aF p≤s.ak
 cur:∀m∈s.bH,LtC s m
 re:RE s s.r
structure GY (s t:Sk):Prop where
 x:t.x=s.x
 ep:t.ak=s.ak
 fi:t.first=s.first
 now:t.now=s.now
 pr:Pr s.now s.r t.r
theorem GY.refl (s:Sk):GY s s:=⟨rfl,rfl,rfl,rfl,Pr.refl _ _⟩
theorem GY.trans {a b c:Sk}(h:GY a b)(k:GY b c):GY a c:=⟨k.x.trans h.x,k.ep.trans h.ep,k.fi.trans h.fi,k.now.trans h.now,h.pr.trans (by have:=k.pr;rw[h.now] at this;exact this)⟩
theorem Qu {s t:Sk}(J:t.x=s.x)(G:t.ak=s.ak){r:Rs}(h:RsC s r):RsC t r:=⟨by rw[J];exact h.le,by rw[G];exact h.ep,h.co⟩
theorem KE {s t:Sk}(J:t.x=s.x)(G:t.ak=s.ak){m:Lk}(h:LtC s m):LtC t m:=⟨by rw[G];exact h.to,fun e=>⟨by rw[J];exact (h.q e).le,by rw[G];exact (h.q e).ep,(h.q e).kd⟩,fun e=>Qu J G (h.r e)⟩
theorem MR {s t:Sk}{y:Rv}(G:t.x=s.x)(h:RE s y):RE t y:=⟨by rw[G];exact h.hn,h.nb,h.n1,h.n2,h.n3,by rw[G];exact h.pf⟩
theorem Zd {s:Sk}(K:∀p,iT s.aF p≤s.ak){q:Rq}(V:Zc s q)(o:Bool) :
  RsC s (bQ s q o).2∧(bQ s q o).2.from_=q.to∧(bQ s q o).2.kind=q.kind∧(bQ s q o).2.n=q.n∧(∀p,iT (bQ s q o).1.aF p≤s.ak):=by
 have J:=V.ep;have G:=V.le;have Q:∀p,iT (iD s.aF q.to) p≤s.ak:=fun p=>by rw[rU];exact K p
 unfold bQ;dsimp only
 split
 ·rename_i k1;split
  ·rename_i S;rw[qK,J] at S;have:=K q.to;omega
  refine⟨⟨G,J,.inl rfl⟩,rfl,rfl,rfl,fun p=>?_⟩;show iT ((iD s.aF q.to).set (iW s.aF q.to) { eO s.aF q.to with sure:=max (eO s.aF q.to).sure q.sure }) p≤s.ak
  rw[pW s.aF q.to { eO s.aF q.to with sure:=max (eO s.aF q.to).sure q.sure } (tO _ _) p];split
  ·show (eO s.aF q.to).ak≤_
   rw[qK];exact K _
  exact K p
 split
 ·refine⟨⟨G,J,.inl rfl⟩,rfl,rfl,rfl,fun p=>?_⟩;show iT ((iD s.aF q.to).set (iW s.aF q.to) { eO s.aF q.to with ak:=max (eO s.aF q.to).ak q.ak }) p≤s.ak
  rw[pW s.aF q.to { eO s.aF q.to with ak:=max (eO s.aF q.to).ak q.ak } (tO _ _) p];split
  ·show max (eO s.aF q.to).ak q.ak≤_
   rw[qK,J];have:=K q.to;omega
  exact K p
 split
 ·rename_i X;cases mK s.has q.to q.n with
  |some e=>exact⟨⟨G,J,.inl rfl⟩,rfl,rfl,rfl,Q⟩
  |none=>exact⟨⟨G,J,.inr ⟨X,rfl⟩⟩,rfl,rfl,rfl,Q⟩
 exact⟨⟨G,J,.inl rfl⟩,rfl,rfl,rfl,Q⟩
theorem lW (s:Sk)(q:Rq)(o:Bool):(bQ s q o).1.x=s.x∧(bQ s q o).1.r=s.r∧(bQ s q o).1.ak=s.ak∧(bQ s q o).1.first=s.first∧(bQ s q o).1.bH=s.bH∧(bQ s q o).1.now=s.now:=by
 unfold bQ;dsimp only
 split
 ·split<;>exact⟨rfl,rfl,rfl,rfl,rfl,rfl⟩
 split
 ·exact⟨rfl,rfl,rfl,rfl,rfl,rfl⟩
 split<;>exact⟨rfl,rfl,rfl,rfl,rfl,rfl⟩
theorem Ze {s:Sk}{y:Rv}(J:y.l=s.x)(G:y.ak=s.ak)(l:List Pl):∀q∈gF y l,Zc s q:=fun q K=>by
 obtain⟨p,_,rfl⟩:=List.mem_map.1 K;exact⟨by show y.l.id=_;rw[J],G,.inr (.inr rfl)⟩
theorem FT {s:Sk}{y:Rv}(J:y.l=s.x)(G:y.ak=s.ak)(l:List Pl):∀q∈aU y l,Zc s q:=fun q K=>by
 obtain⟨p,_,rfl⟩:=List.mem_map.1 K;exact⟨by show y.l.id=_;rw[J],G,.inl rfl⟩
theorem Y0 {s:Sk}{y:Rv}(J:y.l=s.x)(G:y.ak=s.ak)(l:List Pl):∀q∈ic y l,Zc s q:=fun q K=>by
 obtain⟨p,_,rfl⟩:=List.mem_map.1 K;exact⟨by show y.l.id=_;rw[J],G,.inr (.inl rfl)⟩
theorem Zf {s:Sk}{y:Rv}(J:y.l=s.x)(G:y.ak=s.ak)(n now:Int):∀q∈(bB y n now).2,Zc s q:=by
 unfold bB;dsimp only
 split
 ·exact fun q K=>by cases K
 exact Ze (y:={ y with n:=n,none:=[],has:=[],body:=[],bad:=[],phase:=2,born:=now,since:=now }) J G _
theorem FU {s:Sk}{y:Rv}(J:y.l=s.x)(G:y.ak=s.ak)(now:Int):∀q∈(aZ y now).2,Zc s q:=by
 unfold aZ;split
 ·exact Zf J G _ _
 exact fun q K=>by cases K
theorem afn {s:Sk}{y:Rv}(J:y.l=s.x)(G:y.ak=s.ak)(now:Int)(p:Pl):∀q∈(je y now p).2,Zc s q:=by
 unfold je;split
 ·exact fun q K=>by cases K
 exact FU (y:={ y with has:=y.has++[p] }) J G now
theorem adv {s:Sk}{y:Rv}(K:y.l=s.x)(J:y.ak=s.ak)(now:Int)(r:Rs):∀q∈(bJ y now r).2,Zc s q:=by
 unfold bJ;split
 ·exact fun q G=>by cases G
 split
 ·rw[pX];split
  ·exact fun q G=>by cases G
  unfold wU;split
  ·exact Zf (y:={ y with heard:=y.heard++[r.from_],sure:=min (max y.sure r.sure) 8 }) K J _ _
  split
  ·intro q G;rw[List.mem_singleton] at G;subst G;exact⟨by show y.l.id=_;rw[K],J,.inr (.inr rfl)⟩
  exact fun q G=>by cases G
 split
 ·unfold lm;split
  ·intro q G;rcases List.mem_append.1 G with G|G
   ·exact FT (y:=aN y now r) K J _ q G
   exact FU (y:=aN y now r) K J _ q G
  split
  ·exact fun q G=>by cases G
  split
  ·exact afn K J _ _
  exact fun q G=>by cases G
 split
 ·unfold fI;split
  ·exact afn K J _ _
  split
  ·exact fun q G=>by cases G
  split
  ·exact fun q G=>by cases G
  exact fun q G=>by cases G
 exact fun q G=>by cases G
def wLk (m:Lk):Int:=if m.ask then 2 else 1
def ou:List Lk→Int
 |[]=>0
 |m::r=>wLk m+ou r
theorem FV:∀a b:List Lk,ou (a++b)=ou a+ou b
 |[],b=>by simp[ou]
 |m::a,b=>by rw[List.cons_append,ou,ou,FV a b];omega
theorem Tp:∀a:List Lk,(a.length:Int)≤ou a
 |[]=>by simp[ou]
 | m::a=>by
   have:=Tp a;rw[ou];unfold wLk;simp only[List.length_cons];split<;>omega
theorem BD (to:Int):∀l:List Rq,ou (l.map fun q=>(⟨true,to,q,O6⟩:Lk))=2*(l.length:Int)
 |[]=>by simp[ou]
 | q::l=>by
   rw[List.map_cons,ou,BD to l];simp only[wLk,List.length_cons];simp;omega
def lq (s:Sk):Int:=ou s.bH+2*kR s.r
structure ajc (s t:Sk)(r:Rs):Prop where
 ei:EI t
 go:GY s t
 pot:lq t≤lq s+2*0
 e2:r.kind=2→s.r.phase≠4→r.from_∈(aL s.x.af).ah→r.from_∈t.r.heard
 e3:r.kind=3→r.n=s.r.n→s.r.phase=2→r.from_∈aC s.r→r.from_∈s.r.heard→bO s.r<bO t.r∨r.from_∈t.r.none
 e1:r.kind=1→r.n=s.r.n→s.r.phase=3→bO s.r<bO t.r∨r.from_∈t.r.has
theorem adw {s:Sk}(h:EI s){r:Rs}(V:yG s s.ak r)(hC:RsC s r):ajc s (gy s s.ak r) r∧∃l:List Rq,(gy s s.ak r).bH=s.bH++l.map fun q=>(⟨true,s.ak,q,O6⟩:Lk):=by
 have K:s.ak≠0:=by have:=h.inv.f0;have:=h.lt;omega
 obtain⟨⟨a,b,c⟩,e2,e3,X⟩:=agF h.inv h.lt h.re V hC s.now;have S:=h.inv.rv h.lt;have hK:gy s s.ak r=iq { s with r:=(bJ s.r s.now r).1 } s.ak (bJ s.r s.now r).2:=by
  unfold gy;rw[if_neg K,if_pos ⟨rfl,h.lt⟩]
 have G:=Jh h.inv V (fun e=>absurd e K);rw[hK] at G ⊢;have hq:=adv S.l S.ep s.now r;refine⟨⟨⟨G,h.lt,h.fe,fun m J=>?_,MR (s:=s) rfl a⟩,⟨rfl,rfl,rfl,rfl,b⟩,?_,e2,e3,X⟩,⟨_,rfl⟩⟩
 ·rcases List.mem_append.1 J with J|J
  ·exact KE (s:=s) (t:=iq { s with r:=(bJ s.r s.now r).1 } s.ak (bJ s.r s.now r).2) rfl rfl (h.cur m J)
  obtain⟨q,Q,rfl⟩:=List.mem_map.1 J;have:=hq q (List.mem_of_mem_take Q);exact⟨rfl,fun _=>⟨this.le,this.ep,this.kd⟩,fun e=>by cases e⟩
 unfold lq;show ou (s.bH++((bJ s.r s.now r).2.take (90-s.bH.length)).map fun q=>(⟨true,s.ak,q,O6⟩:Lk))+2*kR (bJ s.r s.now r).1≤_
 rw[FV,BD];have:((bJ s.r s.now r).2.take (90-s.bH.length)).length≤(bJ s.r s.now r).2.length:=by rw[List.length_take];omega
 omega
section
theorem Qv {s:Sk}(h:EI s){b:List Lk}(G:∀m∈b,m∈s.bH):EI { s with bH:=b }:=
 ⟨FW h.inv G,h.lt,h.fe,fun m J=>KE (s:=s) (t:={ s with bH:=b }) rfl rfl (h.cur m (G m J)),MR (s:=s) (t:={ s with bH:=b }) rfl h.re⟩
theorem agG {s:Sk}(h:EI s):s.r.heard.length≤5:=by
 have K:=tT (h.inv.rv h.lt);obtain⟨⟨Q,S⟩,J⟩:=dO K.1;have G:=J _ (iU Q);simp only[iK,Bool.and_eq_true,dA,decide_eq_true_eq] at G;have:=h.re.hn.1.length_le_of_subset h.re.hn.2;omega
theorem Zg {s:Sk}(h:EI s):0≤kR s.r∧kR s.r≤85:=by
 have Q:=agG h;have G:=h.inv.rv h.lt;rcases G.ph with g|g|g|g
 ·rw[ai7 g];omega
 ·have J:=G.n1 (by rw[g];decide);have K:=G.n2 (.inl g);rw[agC g];omega
 ·have J:=G.n1 (by rw[g];decide);have K:=G.n2 (.inr g);rw[agD g];omega
 rw[ala g];omega
theorem Ji {s:Sk}(h:EI s)(J:100≤bO s.r):s.r.phase=4:=by
 have G:=h.inv.rv h.lt;rcases G.ph with g|g|g|g
 ·rw[FN g] at J;omega
 ·have K:=G.n2 (.inl g);rw[xM g] at J;omega
 ·have K:=G.n2 (.inr g);rw[zZ g] at J;omega
 exact g
variable {up:List Pl}
structure alc (up:List Pl)(s:Sk)(q:Rq)(r:List Lk)(t:Sk):Prop where
 ei:EI t
 go:GY s t
 rr:t.r=s.r
 pot:lq t+1≤lq s
 bH:r.length<90→(aW up q.to=false∧t.bH=r)∨∃m:Lk,t.bH=r++[m]∧m.ask=false∧m.r.from_=q.to∧m.r.kind=q.kind∧m.r.n=q.n
theorem Tq {s:Sk}(h:EI s){m:Lk}{r:List Lk}(hb:s.bH=m::r)(ha:m.ask=true):alc up s m.q r (iw up s):=by
 have hm:m∈s.bH:=by rw[hb];simp
 have K:∀x∈r,x∈s.bH:=fun x J=>by rw[hb];simp[J]
 have h0:=Qv h K;have hC:=(h.cur m hm);have ad:lq s=2+(ou r+2*kR s.r):=by
  unfold lq;rw[hb,ou];unfold wLk;rw[if_pos ha];omega
 have af:=hC.to;unfold iw;rw[hb];dsimp only
 split
 ·rename_i hc;simp only[Bool.and_eq_true,Bool.not_eq_true'] at hc;refine⟨h0,⟨rfl,rfl,rfl,rfl,Pr.refl _ _⟩,rfl,?_,fun _=>.inl ⟨hc.2,rfl⟩⟩;show ou r+2*kR s.r+1≤_
  omega
 have hq:=hC.q ha;have ag:m.to≠0:=by rw[af];have:=h.inv.f0;have:=h.lt;omega
 have hL:=h.inv.lt m hm;have G:=Jj h0.inv (x:=m) (kG (xO.rfl' (s:=s) (t:={ s with bH:=r }) rfl rfl (Int.le_refl _) rfl rfl rfl rfl) hL) (fun e=>by rw[ha] at e;cases e);obtain⟨c1,c2,c3,c4,c5⟩:=Zd (s:={ s with bH:=r }) h.fe (q:=m.q) ⟨hq.le,hq.ep,hq.kd⟩ (m.to==0);obtain⟨k1,S,Q,k4,V,k6⟩:=lW { s with bH:=r } m.q (m.to==0);unfold gQ at G ⊢;rw[if_neg (by rw[ha];decide)] at G ⊢;dsimp only at G ⊢
 generalize bQ { s with bH:=r } m.q (m.to==0)=y at *;have X:∀x∈r,LtC y.1 x:=fun x J=>KE (s:=s) k1 Q (h.cur x (K x J))
 have ae:RE y.1 y.1.r:=by rw[S];exact MR (s:=s) k1 h.re
 have aa:∀t:Sk,t.x=y.1.x→t.ak=y.1.ak→t.first=y.1.first→t.now=y.1.now→t.r=y.1.r→GY s t:=fun t e1 e2 e3 e4 e5=>
  ⟨e1.trans k1,e2.trans Q,e3.trans k4,e4.trans k6,by rw[e5,S];exact Pr.refl _ _⟩
 by_cases hl:(y.1.bH.length:Int)<90
 ·rw[if_pos hl] at G ⊢;refine⟨⟨G,by show y.1.first<y.1.ak;rw[Q,k4];exact h.lt,fun p=>by show iT y.1.aF p≤y.1.ak;rw[Q];exact c5 p,fun x J=>?_,MR (s:=y.1) (t:={ y.1 with bH:=y.1.bH++[⟨false,m.to,Xv,y.2⟩] }) rfl ae⟩,aa _ rfl rfl rfl rfl rfl,S,?_,fun _=>.inr ⟨⟨false,m.to,Xv,y.2⟩,by show y.1.bH++_=_;rw[V],rfl,c2,c3,c4⟩⟩
  ·have J:x∈y.1.bH++[⟨false,m.to,Xv,y.2⟩]:=J;rw[V] at J;rcases List.mem_append.1 J with J|J
   ·exact KE (s:=y.1) (t:={ y.1 with bH:=y.1.bH++[⟨false,m.to,Xv,y.2⟩] }) rfl rfl (X x J)
   rw[List.mem_singleton] at J;subst J;exact⟨by show m.to=y.1.ak;rw[Q];exact af,(fun e=>by cases e),fun _=>Qu (s:={ s with bH:=r }) (t:={ y.1 with bH:=y.1.bH++[⟨false,m.to,Xv,y.2⟩] }) k1 Q c1⟩
  show ou (y.1.bH++[⟨false,m.to,Xv,y.2⟩])+2*kR y.1.r+1≤_
  rw[FV,V,S,ad];simp only[ou,wLk];show ou r+(1+0)+2*kR s.r+1≤_
  omega
 rw[if_neg hl] at G ⊢;refine⟨⟨G,by rw[Q,k4];exact h.lt,fun p=>by rw[Q];exact c5 p,fun x J=>?_,ae⟩,aa _ rfl rfl rfl rfl rfl,S,?_,fun g=>absurd (by rw[V];show (r.length:Int)<90;omega) hl⟩
 ·rw[V] at J;exact X x J
 unfold lq;rw[V,S];show ou r+2*kR s.r+1≤_
 unfold lq at ad;omega
theorem Tt {s:Sk}(h:EI s){m:Lk}{r:List Lk}(K:s.bH=m::r)(G:m.ask=false):ajc s (iw up s) m.r∧lq (iw up s)+1≤lq s∧∃R,(iw up s).bH=r++R:=by
 have V:m∈s.bH:=by rw[K];simp
 have J:∀x∈r,x∈s.bH:=fun x hx=>by rw[K];simp[hx]
 have X:=Qv h J;have S:=h.cur m V;have hL:=h.inv.lt m V;have aa:lq s=1+(ou r+2*kR s.r):=by
  unfold lq;rw[K,ou];unfold wLk;rw[if_neg (by rw[G];decide)];omega
 have hK:iw up s=gy { s with bH:=r } s.ak m.r:=by
  unfold iw;rw[K];dsimp only
  rw[G];simp only[Bool.false_and,Bool.false_eq_true,↓reduceIte];unfold gQ;rw[if_pos G,S.to]
 have hr:yG s s.ak m.r:=by have:=hL.r G;rw[S.to] at this;exact this
 obtain⟨a,l,hl⟩:=adw X (r:=m.r) (tV (xO.rfl' (s:=s) (t:={ s with bH:=r }) rfl rfl (Int.le_refl _) rfl rfl rfl rfl) hr) (Qu (s:=s) (t:={ s with bH:=r }) rfl rfl (S.r G));rw[hK];have Q:=a.pot;have e0:lq { s with bH:=r }=ou r+2*kR s.r:=rfl;refine⟨⟨a.ei,⟨a.go.x,a.go.ep,a.go.fi,a.go.now,a.go.pr⟩,?_,a.e2,a.e3,a.e1⟩,?_,⟨_,hl⟩⟩
 ·have Q:lq (gy { s with bH:=r } s.ak m.r)≤lq { s with bH:=r }+2*0:=Q;omega
 have Q:lq (gy { s with bH:=r } s.ak m.r)≤lq { s with bH:=r }+2*0:=Q;omega
theorem afo {s:Sk}(h:EI s)(K:s.bH≠[]):EI (iw up s)∧GY s (iw up s)∧lq (iw up s)+1≤lq s:=by
 cases G:s.bH with
 |nil=>exact absurd G K
 | cons m r=>
   cases J:m.ask with
   | true=>
     have k:=Tq (up:=up) h G J;exact⟨k.ei,k.go,k.pot⟩
   | false=>
     obtain⟨a,b,_⟩:=Tt (up:=up) h G J;exact⟨a.ei,a.go,b⟩
theorem drain:∀(n:Nat) (s:Sk),EI s→lq s≤n→EI (dD up n s)∧GY s (dD up n s)∧(dD up n s).bH=[]
 | 0,s,h,J=>by
   have K:=Tp s.bH;have Q:=(Zg h).1;unfold lq at J;have:s.bH.length=0:=by omega
   exact⟨h,GY.refl s,List.eq_nil_of_length_eq_zero this⟩
 | n+1,s,h,J=>by
   by_cases G:s.bH=[]
   ·rw[o7 up _ s G];exact⟨h,GY.refl s,G⟩
   obtain⟨a,b,c⟩:=afo (up:=up) h G;obtain⟨x,y,z⟩:=drain n (iw up s) a (by omega);exact⟨x,b.trans y,z⟩
theorem Zh (to:Int):∀(G:List Rq) (s:Sk) (A:List Lk),EI s→s.bH=(G.map fun q=>(⟨true,to,q,O6⟩:Lk))++A→G.length+A.length≤90 →
  EI (dD up G.length s)∧(dD up G.length s).r=s.r∧GY s (dD up G.length s)∧lq (dD up G.length s)≤lq s ∧
  ∃B:List Lk,(dD up G.length s).bH=A++B∧(∀m∈B,m.ask=false)∧B.length≤G.length∧∀q∈G,aW up q.to=true→∃m∈B,m.r.from_=q.to∧m.r.kind=q.kind∧m.r.n=q.n
 |[],s,A,h,hb,_=>⟨h,rfl,GY.refl s,Int.le_refl _,[],by rw[List.append_nil];exact hb,(fun m hm=>by cases hm),Nat.le_refl _,(fun q hq=>by cases hq)⟩
 | q::G,s,A,h,hb,hl=>by
   have aa:s.bH=(⟨true,to,q,O6⟩:Lk)::((G.map fun q=>(⟨true,to,q,O6⟩:Lk))++A):=hb;have k:=Tq (up:=up) h aa rfl;have K:((G.map fun q=>(⟨true,to,q,O6⟩:Lk))++A).length<90:=by
    simp only[List.length_append,List.length_map,List.length_cons] at hl ⊢;omega
   have hp:=k.pot;show EI (dD up G.length (iw up s))∧(dD up G.length (iw up s)).r=s.r∧GY s (dD up G.length (iw up s))∧lq (dD up G.length (iw up s))≤lq s∧∃B:List Lk,(dD up G.length (iw up s)).bH=A++B∧_
   rcases k.bH K with ⟨g,S⟩|⟨m,S,m1,m2,m3,m4⟩
   ·obtain⟨a,b,c,d,B,V,X,e3,e4⟩:=Zh to G (iw up s) A k.ei S (by simp only[List.length_cons] at hl;omega);refine⟨a,b.trans k.rr,k.go.trans c,by omega,B,V,X,by simp only[List.length_cons];omega,fun x J Q=>?_⟩;rcases List.mem_cons.1 J with rfl|J
    ·have g:aW up x.to=false:=g;rw[g] at Q;cases Q
    exact e4 x J Q
   rw[List.append_assoc] at S;obtain⟨a,b,c,d,B,V,X,e3,e4⟩:=Zh to G (iw up s) (A++[m]) k.ei S (by simp only[List.length_cons,List.length_append,List.length_nil] at hl ⊢;omega);refine⟨a,b.trans k.rr,k.go.trans c,by omega,m::B,by rw[V,List.append_assoc];rfl,fun x J=>?_,by simp only[List.length_cons];omega,fun x J Q=>?_⟩
   ·rcases List.mem_cons.1 J with rfl|J
    ·exact m1
    exact X x J
   rcases List.mem_cons.1 J with rfl|J
   ·exact⟨m,by simp,m2,m3,m4⟩
   obtain⟨y,hy,f⟩:=e4 x J Q;exact⟨y,by simp[hy],f⟩
structure Zi (s t:Sk)(r:Rs):Prop where
 e2:r.kind=2→r.from_∈(aL s.x.af).ah→t.r.phase=4∨r.from_∈t.r.heard
 e3:r.kind=3→r.n=s.r.n→s.r.phase=2→r.from_∈aC s.r→r.from_∈s.r.heard→bO s.r<bO t.r∨r.from_∈t.r.none
 e1:r.kind=1→r.n=s.r.n→s.r.phase=3→bO s.r<bO t.r∨r.from_∈t.r.has
theorem Zj {s t u:Sk}{Q:Rs}(S:EI u)(h:Zi s t Q)(k:GY t u)(J:bO s.r≤bO t.r)(V:EI t):Zi s u Q:=by
 have K:=k.pr.rk;have hs:=J;refine⟨fun a b=>?_,fun a b c d e=>?_,fun a b c=>?_⟩
 ·rcases h.e2 a b with g|g
  ·left
   exact Ji S (by rw[Y8 g] at K;exact K)
  exact .inr (k.pr.he _ g)
 ·rcases h.e3 a b c d e with g|g
  ·exact .inl (by omega)
  by_cases G:bO s.r<bO u.r
  ·exact .inl G
  exact .inr ((k.pr.eq (by omega)).1 _ g)
 rcases h.e1 a b c with g|g
 ·exact .inl (by omega)
 by_cases G:bO s.r<bO u.r
 ·exact .inl G
 exact .inr ((k.pr.eq (by omega)).2.1 _ g)
theorem afp:∀(B:List Lk) (s:Sk) (R:List Lk),EI s→s.bH=B++R→(∀m∈B,m.ask=false) →
  EI (dD up B.length s)∧GY s (dD up B.length s)∧lq (dD up B.length s)≤lq s∧∀m∈B,Zi s (dD up B.length s) m.r
 |[],s,R,h,hb,_=>⟨h,GY.refl s,Int.le_refl _,(fun m hm=>by cases hm)⟩
 | m::B,s,R,h,hb,ha=>by
   have Q:s.bH=m::(B++R):=hb;obtain⟨k,hp,R',hR⟩:=Tt (up:=up) h Q (ha m (by simp));rw[List.append_assoc] at hR;obtain⟨a,b,c,d⟩:=afp B (iw up s) (R++R') k.ei hR (fun x G=>ha x (by simp[G]));show EI (dD up B.length (iw up s))∧GY s (dD up B.length (iw up s))∧lq (dD up B.length (iw up s))≤lq s∧∀x∈m::B,Zi s (dD up B.length (iw up s)) x.r
   refine⟨a,k.go.trans b,by omega,fun x G=>?_⟩;have BA:=k.go.pr.rk;have aa:=b.pr.rk;rcases List.mem_cons.1 G with rfl|G
   ·refine Zj a (t:=iw up s) ⟨fun e f=>?_,k.e3,k.e1⟩ b k.go.pr.rk k.ei;by_cases h4:s.r.phase=4
    ·left
     exact Ji k.ei (by rw[Y8 h4] at BA;exact BA)
    exact .inr (k.e2 e h4 f)
   have S:=d x G;refine⟨fun e f=>S.e2 e (by rw[k.go.x];exact f),fun e f K g2 g3=>?_,fun e f K=>?_⟩
   ·by_cases V:bO s.r<bO (iw up s).r
    ·exact .inl (by omega)
    obtain⟨q1,q2,q3,q4,q5,J,X⟩:=k.go.pr.eq (by omega);rcases S.e3 e (by rw[J];exact f) (by rw[X];exact K) (by unfold aC;rw[k.go.pr.l,J];exact g2) (k.go.pr.he _ g3) with w|w
    ·exact .inl (by omega)
    exact .inr w
   by_cases V:bO s.r<bO (iw up s).r
   ·exact .inl (by omega)
   obtain⟨q1,q2,q3,q4,q5,J,X⟩:=k.go.pr.eq (by omega);rcases S.e1 e (by rw[J];exact f) (by rw[X];exact K) with w|w
   ·exact .inl (by omega)
   exact .inr w
structure agH (up:List Pl)(s t:Sk)(qs:List Rq):Prop where
 ei:EI t
 go:GY s t
 bH:t.bH=[]
 e2:∀q∈qs,aW up q.to=true→q.kind=2→q.to∈(aL s.x.af).ah→t.r.phase=4∨q.to∈t.r.heard
 e3:∀q∈qs,aW up q.to=true→q.kind=3→q.n=s.r.n→s.r.phase=2→q.to∈aC s.r→q.to∈s.r.heard→bO s.r<bO t.r∨q.to∈t.r.none
 e1:∀q∈qs,aW up q.to=true→q.kind=1→q.n=s.r.n→s.r.phase=3→bO s.r<bO t.r∨q.to∈t.r.has
theorem Ei {s:Sk}(h:EI s)(to:Int)(G:List Rq)(hb:s.bH=G.map fun q=>(⟨true,to,q,O6⟩:Lk))(hl:G.length≤10):agH up s (dD up 400 s) G:=by
 have ad:lq s≤190:=by
  unfold lq;rw[hb,BD];have:=(Zg h).2;omega
 obtain⟨a,b,c,d,B,e1,e2,e3,e4⟩:=Zh (up:=up) to G s [] h (by rw[List.append_nil];exact hb) (by simp;omega);obtain⟨a2,b2,c2,d2⟩:=afp (up:=up) B (dD up G.length s) [] a (by rw[e1];simp) e2;obtain⟨a3,b3,c3⟩:=drain (up:=up) (400-G.length-B.length) (dD up B.length (dD up G.length s)) a2 (by omega);have e:dD up 400 s=dD up (400-G.length-B.length) (dD up B.length (dD up G.length s)):=by
  rw[←wV,←wV];congr 1
  omega
 rw[e];have aa:=(c.trans b2).trans b3;have Zb:∀m∈B,Zi (dD up G.length s) (dD up (400-G.length-B.length) (dD up B.length (dD up G.length s))) m.r:=fun m Q=>Zj a3 (d2 m Q) b3 b2.pr.rk a2
 refine⟨a3,aa,c3,fun q V X S K=>?_,fun q V X S hn hp K hh=>?_,fun q V X S hn hp=>?_⟩
 ·obtain⟨m,Q,J,m2,m3⟩:=e4 q V X;have:=(Zb m Q).e2 (by rw[m2,S]) (by rw[J,c.x];exact K);rw[J] at this;exact this
 ·obtain⟨m,Q,J,m2,m3⟩:=e4 q V X;have:=(Zb m Q).e3 (by rw[m2,S]) (by rw[m3,b];exact hn) (by rw[b];exact hp) (by rw[J,b];exact K) (by rw[J,b];exact hh);rw[J,b] at this;exact this
 obtain⟨m,Q,J,m2,m3⟩:=e4 q V X;have:=(Zb m Q).e1 (by rw[m2,S]) (by rw[m3,b];exact hn) (by rw[b];exact hp);rw[J,b] at this;exact this
end
theorem yI {y:Rv}(now:Int){p:Pl}(h:p∈(aZ y now).1.has):p∈y.has:=by
 unfold aZ at h;split at h
 ·rw[jM] at h;cases h
 exact h
theorem Tv {y:Rv}(now:Int){p q:Pl}(h:p∈(je y now q).1.has):p∈y.has∨p=q:=by
 unfold je at h;split at h
 ·exact .inl h
 have:=yI now h;rcases List.mem_append.1 this with g|g
 ·exact .inl g
 exact .inr (List.mem_singleton.1 g)
theorem Zk {y:Rv}(now:Int){r:Rs}{p:Pl}(h:p∈(bJ y now r).1.has):p∈y.has∨p=r.from_:=by
 unfold bJ at h;split at h
 ·exact .inl h
 split at h
 ·rw[pX] at h;split at h
  ·exact .inl h
  unfold wU at h;split at h
  ·rw[jM] at h;cases h
  split at h
  ·exact .inl h
  exact .inl h
 split at h
 ·unfold lm at h;split at h
  ·have:=yI now h;exact .inr (List.mem_singleton.1 this)
  split at h
  ·dsimp only at h
   split at h
   ·exact .inl h
   exact .inl h
  split at h
  ·exact Tv now h
  exact .inl h
 split at h
 ·unfold fI at h;split at h
  ·exact Tv now h
  split at h
  ·exact .inl h
  split at h
  ·exact .inl h
  exact .inl h
 exact .inl h
structure HU (up:List Pl)(s:Sk):Prop where
 has:∀p∈s.r.has,aW up p=true
 bH:∀m∈s.bH,m.ask=false→aW up m.r.from_=true
theorem agI {up:List Pl}{s:Sk}(h:HU up s)(V:∀m∈s.bH,m.to=s.ak∧m.to≠0):HU up (iw up s):=by
 unfold iw;split
 ·exact h
 rename_i m r hb;have hm:m∈s.bH:=by rw[hb];simp
 have J:∀x∈r,x∈s.bH:=fun x G=>by rw[hb];simp[G]
 have X:HU up { s with bH:=r }:=⟨h.has,fun x G=>h.bH x (J x G)⟩;split
 ·exact X
 rename_i hc;unfold gQ;split
 ·rename_i S;have hf:=h.bH m hm S;unfold gy;rw[if_neg (V m hm).2];split
  ·refine⟨fun p Q=>?_,fun x G K=>?_⟩
   ·rcases Zk s.now Q with g|g
    ·exact h.has p g
    rw[g];exact hf
   rcases List.mem_append.1 G with G|G
   ·exact h.bH x (J x G) K
   obtain⟨q,_,rfl⟩:=List.mem_map.1 G;cases K
  exact X
 rename_i S;have S:m.ask=true:=by simpa using S
 have hu:aW up m.q.to=true:=by
  rw[S,Bool.true_and,Bool.not_eq_true',Bool.not_eq_false] at hc;exact hc
 obtain⟨k1,k2,k3,k4,k5,k6⟩:=lW { s with bH:=r } m.q (m.to==0);have Zl:(bQ { s with bH:=r } m.q (m.to==0)).2.from_=m.q.to:=by
  unfold bQ;dsimp only
  split
  ·split<;>rfl
  split
  ·rfl
  split
  ·cases mK s.has m.q.to m.q.n<;>rfl
  rfl
 dsimp only
 generalize bQ { s with bH:=r } m.q (m.to==0)=y at *;split
 ·refine⟨fun p Q=>h.has p (by have Q:p∈y.1.r.has:=Q;rw[k2] at Q;exact Q),fun x G K=>?_⟩;have G:x∈y.1.bH++[⟨false,m.to,Xv,y.2⟩]:=G;rw[k5] at G;rcases List.mem_append.1 G with G|G
  ·exact h.bH x (J x G) K
  rw[List.mem_singleton] at G;subst G;show aW up y.2.from_=true
  rw[Zl];exact hu
 exact⟨fun p Q=>h.has p (by rw[k2] at Q;exact Q),fun x G K=>h.bH x (J x (by rw[k5] at G;exact G)) K⟩
theorem z8 {up:List Pl}:∀(n:Nat) {s:Sk},EI s→HU up s→HU up (dD up n s)
 |0,s,_,h=>h
 | n+1,s,G,h=>by
   have J:∀m∈s.bH,m.to=s.ak∧m.to≠0:=fun m S=>by
    have:=(G.cur m S).to;have:=G.inv.f0;have:=G.lt;exact⟨by assumption,by omega⟩
   have Q:=agI h J;by_cases K:s.bH=[]
   ·rw[o7 up _ s K];exact h
   exact z8 n (afo (up:=up) G K).1 Q
theorem MU {up:List Pl}(to:Int):∀(G:List Rq) (s:Sk),s.bH=(G.map fun q=>(⟨true,to,q,O6⟩:Lk))→(∀q∈G,aW up q.to=false)→dD up G.length s={ s with bH:=[] }
 | [],s,J,_=>by
   have J:s.bH=[]:=J;show s={ s with bH:=[] }
   rw[←J]
 | q::G,s,J,K=>by
   have Q:iw up s={ s with bH:=G.map fun q=>(⟨true,to,q,O6⟩:Lk) }:=by
    unfold iw;rw[J,List.map_cons];exact if_pos (by rw[K q (by simp)];rfl)
   show dD up G.length (iw up s)=_
   rw[Q,MU to G _ rfl (fun x S=>K x (by simp[S]))]
theorem FY (is:Pl→Bool)(p:Pl):∀(l b:List Pl),p∈aB is b l→p∈b∨(p∈l∧is p=true)
 |[],b,h=>.inl h
 | q::r,b,h=>by
   rw[aB] at h;rcases FY is p r _ h with g|g
   ·split at g
    ·rename_i hc;simp only[Bool.and_eq_true] at hc;rcases List.mem_append.1 g with g|g
     ·exact .inl g
     rw[List.mem_singleton] at g;subst g;exact .inr ⟨by simp,hc.1⟩
    exact .inl g
   exact .inr ⟨by simp[g.1],g.2⟩
theorem adx {has S:List Pl}{p:Pl}:aW (aB (fun p=>!has.any (· == p)) [] S) p=true↔p∈S∧aW has p=false:=by
 constructor
 ·intro h;rcases FY _ p S [] (gZ.1 h) with g|⟨J,K⟩
  ·cases g
  exact⟨J,by simpa[aW] using K⟩
 rintro⟨Q,G⟩
 have:=yJ (fun p=>!has.any (· == p)) p (by unfold aW at G;rw[G];rfl) S [] Q;exact this
theorem Ej {now since k:Int}(h:since≤now):dY now since k=decide (now-since≥k):=by
 unfold dY;rw[if_neg (by omega)]
theorem Zm {x:Rv}{now:Int}{known:List Pl}(hp:x.phase=2∨x.phase=3)(J:x.phase=3→dY now x.born 9=false)(Q:x.bad=[]) :
  dJ x now known=if dY now x.since 3 then qz x now else (x,[]):=by
 have G:iX x now=x:=by
  unfold iX;rcases hp with g|g
  ·rw[if_neg (by rw[g];simp)]
  rw[if_neg (by rw[J g];simp)]
 unfold dJ;rw[G];dsimp only
 rw[if_neg (by rw[Q];simp)];have K:(x.phase != 4)=true:=by rcases hp with g|g<;>rw[g]<;>rfl
 rw[K,Bool.true_and]
theorem Qx {x:Rv}{now:Int}{known:List Pl}(hp:x.phase=3)(S:dY now x.born 9=true)(Q:x.bad=[])
  (G:aB (fun p=>!x.has.any (· == p)) [] (aj x)≠[]) (V:(dH { x with bad:=aB (fun p=>!x.has.any (· == p)) [] (aj x),born:=now } known).2=true) :
  ∃z:Rv,z={ (dH { x with bad:=aB (fun p=>!x.has.any (· == p)) [] (aj x),born:=now } known).1 with phase:=3,born:=now,since:=now } ∧
   dJ x now known=((aZ z now).1,aU z (aj z)++(aZ z now).2):=by
 have K:iX x now={ x with bad:=aB (fun p=>!x.has.any (· == p)) [] (aj x),born:=now }:=by
  unfold iX;rw[if_pos (by rw[S,hp];rfl),Q]
 refine⟨_,rfl,?_⟩;unfold dJ;rw[K];dsimp only
 have X:0<(aB (fun p=>!x.has.any (· == p)) [] (aj x)).length:=List.length_pos_iff.2 G;have J:(x.phase==3&&decide (((aB (fun p=>!x.has.any (· == p)) [] (aj x)).length:Int)>0))=true:=by
  rw[hp];simp only[Bool.and_eq_true,decide_eq_true_eq];exact⟨rfl,by omega⟩
 rw[if_pos J,if_pos V]
structure Kn (up known:List Pl)(x:Lg):Prop where
 nd:(known.map (·.node)).Nodup
 w:x.w≤(known.length:Int)
 ajd:∀p∈known,aW up p=true
 ok:pY known
 dn:((zY up (aL x.af).ah).length:Int)≤x.a-1
def lK (up:List Pl)(y:Rv):Bool:=(aj y).all fun p=>!aW up p||aW y.has p
def iL (y:Rv)(c:Int):Int:=4*(18-bO y)+10*(2-c)
def FH (up:List Pl)(now:Int)(y:Rv)(c:Int):Int:=
 if y.phase=3∧lK up y=true then iL y c-10+max 0 (9-(now-y.born)) else iL y c+max 0 (3-(now-y.since))
def RCk (up:List Pl)(w a:Int)(G:List Fr)(c:Int):Prop:=
 (c=0∧(G.length:Int)≤4∧((zY up (aL G).ah).length:Int)≤a-1) ∨
 (c=1∧(G.length:Int)≤5∧((zY up (aL G).ah).length:Int)+(w-a+1)≤a-1∧((zY up (aL G).ah).length:Int)≤5-w) ∨
 (c=2∧(G.length:Int)≤6∧((zY up (aL G).ah).length:Int)+2*(w-a+1)≤a-1∧((zY up (aL G).ah).length:Int)+(w-a+1)≤5-w)
structure HZ (up:List Pl)(c:Int)(s:Sk):Prop where
 ei:EI s
 bH:s.bH=[]
 ph:s.r.phase=2∨s.r.phase=3
 hu:∀p∈(aL s.x.af).ah,aW up p=true→p∈s.r.heard
 rc:RCk up s.x.w s.x.a s.r.af c
 tm:s.r.born≤s.now∧s.r.since≤s.now
 un:s.r.phase=3→lK up s.r=false→s.r.since=s.r.born∧s.now-s.r.born≤2
 hs:HU up s
theorem wW {up:List Pl}{y:Rv}:lK up y=true↔∀p∈aj y,aW up p=true→p∈y.has:=by
 unfold lK;rw[List.all_eq_true];constructor
 ·intro h p G J;have:=h p G;rw[J] at this;exact gZ.1 (by simpa using this)
 intro h p G;cases e:aW up p with
 |false=>rfl
 |true=>simp only[Bool.not_true,Bool.false_or];exact gZ.2 (h p G e)
theorem Tm {s:Sk}(h:EI s):0≤bO s.r:=by
 have G:=h.inv.rv h.lt;rcases G.ph with g|g|g|g
 ·rw[FN g];omega
 ·have:=G.n1 (by rw[g];decide);rw[xM g];omega
 ·have:=G.n1 (by rw[g];decide);rw[zZ g];omega
 rw[Y8 g];omega
theorem Y1 {up:List Pl}{now:Int}{y:Rv}{c:Int}(G:y.born≤now)(J:y.since≤now):FH up now y c≤iL y c+3:=by
 unfold FH;split<;>omega
theorem Zn {up:List Pl}{c:Int}{s1 t:Sk}(h1:EI s1)(S:EI t)(G:GY s1 t)(hb:t.bH=[])(X:t.r.phase≠4)(J:bO s1.r<bO t.r)
  (hu:∀p∈(aL s1.x.af).ah,aW up p=true→p∈s1.r.heard) (V:RCk up s1.x.w s1.x.a s1.r.af c) (hs:HU up t) :
  HZ up c t∧FH up t.now t.r c≤iL s1.r c-1:=by
 have hr:=Tm h1;have hR:=S.inv.rv S.lt;have Qq:t.r.phase=2∨t.r.phase=3:=by
  rcases hR.ph with g|g|g|g
  ·rw[FN g] at J;omega
  ·exact .inl g
  ·exact .inr g
  exact absurd g X
 obtain⟨K,Q⟩:=(G.pr.tm J).resolve_left X;rw[←G.now] at K Q;refine⟨⟨S,hb,Qq,fun p hp e=>G.pr.he p (hu p (by rw[←G.x];exact hp) e),by rw[G.x,G.pr.fr];exact V,⟨by rw[K];exact Int.le_refl _,by rw[Q];exact Int.le_refl _⟩,fun _ _=>⟨by rw[K,Q],by rw[K];omega⟩,hs⟩,?_⟩;have:=Y1 (up:=up) (c:=c) (y:=t.r) (now:=t.now) (by rw[K];exact Int.le_refl _) (by rw[Q];exact Int.le_refl _);unfold iL at *;omega
theorem El {s:Sk}(h:EI s)(X:s.bH=[]){now:Int}{known:List Pl}(hk:pY known){y:Rv}{G:List Rq}(ht:dJ s.r now known=(y,G))(hl:G.length≤10)(hq:∀q∈G,Zc s q)(Q:RE s y) :
  EI (bU s now known)∧(bU s now known).bH=(G.map fun q=>(⟨true,s.ak,q,O6⟩:Lk))∧(bU s now known).r=y∧(bU s now known).x=s.x∧(bU s now known).now=now∧(bU s now known).ak=s.ak:=by
 have J:=Jk h.inv now hk;have e:bU s now known=iq { s with now:=now,r:=y } s.ak G:=by
  unfold bU;rw[if_pos h.lt,ht]
 rw[e] at J ⊢;have S:(iq { s with now:=now,r:=y } s.ak G).bH=G.map fun q=>(⟨true,s.ak,q,O6⟩:Lk):=by
  show s.bH++(G.take (90-s.bH.length)).map _=_
  rw[X,List.take_of_length_le (by simp;omega)];rfl
 refine⟨⟨J,h.lt,h.fe,fun m V=>?_,MR (s:=s) (t:=iq { s with now:=now,r:=y } s.ak G) rfl Q⟩,S,rfl,rfl,rfl,rfl⟩;rw[S] at V;obtain⟨q,K,rfl⟩:=List.mem_map.1 V;have:=hq q K;exact⟨rfl,fun _=>⟨this.le,this.ep,this.kd⟩,fun e=>by cases e⟩
theorem Em {up:List Pl}{s:Sk}(h:HU up s){now:Int}{known:List Pl}(J:∀p∈(dJ s.r now known).1.has,p∈s.r.has):HU up (bU s now known):=by
 unfold bU;split
 ·refine⟨fun p Q=>h.has p (J p Q),fun m G K=>?_⟩;rcases List.mem_append.1 G with G|G
  ·exact h.bH m G K
  obtain⟨q,_,rfl⟩:=List.mem_map.1 G;cases K
 exact⟨h.has,h.bH⟩
theorem MV {s:Sk}(h:EI s)(hp:s.r.phase=2∨s.r.phase=3):Jd (aC s.r) (aL s.x.af).ah s.x.w:=by
 have J:=tT (h.inv.rv h.lt);have G:s.r.l=s.x:=(h.inv.rv h.lt).l;unfold aC;rw[G];exact Y4 J.1 (by omega) (h.re.pf hp)
theorem Vj {s:Sk}(h:EI s)(hp:s.r.phase=3):Jd (aj s.r) (aL s.r.af).ah s.x.w:=by
 have G:=h.inv.rv h.lt;have K:=tT G;have J:s.r.l=s.x:=G.l;unfold aj;rw[J];exact Y4 G.fr (by omega) (G.n2 (.inr hp)).2
theorem afl {up known:List Pl}{s t:Sk}(h:Kn up known s.x)(e:t.x=s.x):Kn up known t.x:=by rw[e];exact h
theorem ady {up known:List Pl}{c:Int}{s:Sk}(h:HZ up c s)(hk:Kn up known s.x)(h9:s.r.phase=3→dY (s.now+1) s.r.born 9=false) :
  ∃t,t=dD up 400 (bU s (s.now+1) known)∧EI t∧t.x=s.x∧t.now=s.now+1∧(t.r.phase=4∨(HZ up c t∧FH up t.now t.r c+1≤FH up s.now s.r c)):=by
 refine⟨_,rfl,?_⟩;have hR:=h.ei.inv.rv h.ei.lt;have hl:s.r.l=s.x:=hR.l;have p8:=Zm (now:=s.now+1) (known:=known) h.ph h9 h.ei.re.nb;have aa:=Ej (k:=3) (show s.r.since≤s.now+1 by have:=h.tm.2;omega);cases hg:dY (s.now+1) s.r.since 3 with
 | false=>
   rw[hg] at p8 aa;simp only[Bool.false_eq_true,↓reduceIte] at p8;obtain⟨a,b,G,X,e3,e4⟩:=El h.ei h.bH hk.ok p8 (Nat.zero_le _) (fun q hq=>by cases hq) h.ei.re;have hb:(bU s (s.now+1) known).bH=[]:=b;have Ed:=Em h.hs (now:=s.now+1) (known:=known) (fun p S=>by rw[p8] at S;exact S);rw[o7 up 400 _ hb];have bd:s.now+1-s.r.since<3:=by simpa using aa.symm
   refine⟨a,X,e3,.inr ⟨⟨a,hb,by rw[G];exact h.ph,by rw[G,X];exact h.hu,by rw[G,X];exact h.rc,by rw[G,e3];have:=h.tm;omega,fun p3 Q=>?_,Ed⟩,?_⟩⟩
   ·rw[G] at p3 Q ⊢;rw[e3];have:=h.un p3 Q;exact⟨this.1,by omega⟩
   rw[G,e3];unfold FH;by_cases Q:s.r.phase=3∧lK up s.r=true
   ·rw[if_pos Q,if_pos Q];have Yt:=Ej (k:=9) (show s.r.born≤s.now+1 by have:=h.tm.1;omega);rw[h9 Q.1] at Yt;have:s.now+1-s.r.born<9:=by simpa using Yt.symm
    omega
   rw[if_neg Q,if_neg Q];omega
 | true=>
   rw[hg] at p8 aa;simp only[↓reduceIte] at p8;have aa:3≤s.now+1-s.r.since:=by simpa using aa.symm
   obtain⟨y,J⟩:∃y:Rv,y={ s.r with since:=s.now+1 }:=⟨_,rfl⟩;have a1:RE s y:=by rw[J];exact⟨h.ei.re.hn,h.ei.re.nb,h.ei.re.n1,h.ei.re.n2,h.ei.re.n3,h.ei.re.pf⟩
   have a2:bO y=bO s.r:=by rw[J];rfl
   rcases h.ph with p2|p3
   ·-- phase 2
    have aq:qz s.r (s.now+1)=(y,gF s.r (aC s.r)):=by
     unfold qz;rw[if_neg (by rw[p2];decide),if_pos (by rw[p2];rfl),J]
    rw[aq] at p8;have V:=BB hR s.r.l.af s.r.n;obtain⟨a,b,G,X,e3,e4⟩:=El h.ei h.bH hk.ok p8 (Nat.le_trans (rW _ _) (Nat.le_trans V (by decide))) (Ze hl hR.ep _) a1;have K:=Ei (up:=up) a s.ak _ b (Nat.le_trans (rW _ _) (Nat.le_trans V (by decide)));have Ed:=z8 400 a (Em h.hs (now:=s.now+1) (known:=known) (fun p S=>by rw[p8,J] at S;exact S));generalize ba:bU s (s.now+1) known=s1 at *;obtain⟨t,ar⟩:∃t,t=dD up 400 s1:=⟨_,rfl⟩;rw[←ar] at K Ed ⊢;refine⟨K.ei,K.go.x.trans X,K.go.now.trans e3,?_⟩;by_cases h4:t.r.phase=4
    ·exact .inl h4
    refine .inr ?_;have BA:bO s1.r<bO t.r:=by
     refine Classical.byContradiction fun hn=>?_
     have a7:=K.go.pr.rk;obtain⟨q1,q2,q3,q4,q5,q6,q7⟩:=K.go.pr.eq (by omega);have ai:t.r.phase=2:=by rw[q7,G,J];exact p2
     have al:aC t.r=aC s.r:=by
      unfold aC;rw[K.go.pr.l,q6,G,J]
     have aw:∀p∈aC s.r,aW up p=true→p∈t.r.none:=fun p S hu=>by
      have V:=MV h.ei (.inl p2);have hh:=h.hu p (V.sub p S) hu;by_cases ad:p∈s.r.none
      ·exact q1 p (by rw[G,J];exact ad)
      have hq:jB s.r p∈gF s.r (aC s.r):=by
       refine List.mem_map.2 ⟨p,List.mem_filter.2 ⟨S,?_⟩,rfl⟩;have g1:s.r.heard.any (· == p)=true:=List.any_eq_true.2 ⟨p,hh,by simp⟩;have g2:s.r.none.any (· == p)=false:=by
        rw[List.any_eq_false];intro x hx e;have:x=p:=by simpa using e
        exact ad (this▸hx)
       rw[g1,g2];rfl
      rcases K.e3 _ hq hu rfl (by rw[G,J];rfl) (by rw[G,J];exact p2) (by rw[G,J];exact S) (by rw[G,J];exact hh) with g|g
      ·exact absurd g hn
      exact g
     have hm:=tT hR;have a4:=Tn (none:=t.r.none) (MV h.ei (.inl p2)) hk.dn aw;have:=K.ei.re.n2 ai;rw[al,K.go.pr.l,G,J] at this;change dL (aC s.r) s.r.l.w s.r.l.a t.r.none=false at this
     rw[hl,a4] at this;cases this
    obtain⟨u1,u2⟩:=Zn (c:=c) a K.ei K.go K.bH h4 BA (by rw[G,X,J];exact h.hu) (by rw[G,X,J];exact h.rc) Ed;refine⟨u1,?_⟩;have ae:iL s1.r c=iL s.r c:=by rw[G];unfold iL;rw[a2]
    rw[ae] at u2;have:iL s.r c≤FH up s.now s.r c:=by
     unfold FH;rw[if_neg (by rintro⟨g,_⟩;rw[p2] at g;cases g)];omega
    omega
   -- phase 3
   have aq:qz s.r (s.now+1)=(y,aU s.r (aj s.r)):=by
    unfold qz;rw[if_neg (by rw[p3];decide),if_neg (by rw[p3];decide),if_pos (by rw[p3];rfl),J]
   rw[aq] at p8;have V:=BB hR s.r.af s.r.n;have am:(aU s.r (aj s.r)).length≤10:=Nat.le_trans (lY _ _) (Nat.le_trans V (by decide));obtain⟨a,b,G,X,e3,e4⟩:=El h.ei h.bH hk.ok p8 am (FT hl hR.ep _) a1;have a6:=Em h.hs (now:=s.now+1) (known:=known) (fun p S=>by rw[p8,J] at S;exact S);have Ed:=z8 400 a a6;by_cases Q:lK up s.r=true
   ·-- all that are up have it: nothing comes of it
    have a5:∀q∈aU s.r (aj s.r),aW up q.to=false:=fun q hq=>by
     obtain⟨p,S,rfl⟩:=List.mem_map.1 hq;obtain⟨a9,ai⟩:=List.mem_filter.1 S;show aW up p=false
     cases e:aW up p with
     |false=>rfl
     | true=>
       have:=wW.1 Q p a9 e;have:s.r.has.any (· == p)=true:=List.any_eq_true.2 ⟨p,this,by simp⟩;rw[this] at ai;cases ai
    have ap:=MU (up:=up) s.ak _ _ b a5;have az:dD up 400 (bU s (s.now+1) known)={ bU s (s.now+1) known with bH:=[] }:=by
     have:400=(aU s.r (aj s.r)).length+(400-(aU s.r (aj s.r)).length):=by omega
     rw[this,wV,ap];exact o7 up _ _ rfl
    rw[az] at Ed ⊢;have rD:=Qv a (b:=[]) (fun m hm=>by cases hm);refine⟨rD,X,e3,.inr ⟨⟨rD,rfl,by show (bU s (s.now+1) known).r.phase=2∨_;rw[G,J];exact .inr p3,by show ∀p∈(aL (bU s (s.now+1) known).x.af).ah,aW up p=true→p∈(bU s (s.now+1) known).r.heard;rw[G,X,J];exact h.hu,by show RCk up (bU s (s.now+1) known).x.w (bU s (s.now+1) known).x.a (bU s (s.now+1) known).r.af c;rw[G,X,J];exact h.rc,?_,fun _ ag=>?_,Ed⟩,?_⟩⟩
    ·show (bU s (s.now+1) known).r.born≤(bU s (s.now+1) known).now∧(bU s (s.now+1) known).r.since≤(bU s (s.now+1) known).now
     rw[G,e3,J];have:=h.tm;exact⟨by show s.r.born≤_;omega,Int.le_refl _⟩
    ·exfalso;have ag:lK up (bU s (s.now+1) known).r=false:=ag;rw[G,J] at ag;have:lK up s.r=false:=ag;rw[Q] at this;cases this
    show FH up (bU s (s.now+1) known).now (bU s (s.now+1) known).r c+1≤_
    rw[G,e3,J];unfold FH;rw[if_pos (show s.r.phase=3∧lK up s.r=true from ⟨p3,Q⟩),if_pos (show s.r.phase=3∧lK up { s.r with since:=s.now+1 }=true from ⟨p3,Q⟩)];have Yt:=Ej (k:=9) (show s.r.born≤s.now+1 by have:=h.tm.1;omega);rw[h9 p3] at Yt;have:s.now+1-s.r.born<9:=by simpa using Yt.symm
    show iL s.r c-10+max 0 (9-(s.now+1-s.r.born))+1≤iL s.r c-10+max 0 (9-(s.now-s.r.born))
    omega
   have K:=Ei (up:=up) a s.ak _ b am;generalize ba:bU s (s.now+1) known=s1 at *;obtain⟨t,ar⟩:∃t,t=dD up 400 s1:=⟨_,rfl⟩;rw[←ar] at K Ed ⊢;refine⟨K.ei,K.go.x.trans X,K.go.now.trans e3,?_⟩;by_cases h4:t.r.phase=4
   ·exact .inl h4
   refine .inr ?_;have a8:iL s.r c≤FH up s.now s.r c:=by
    unfold FH;rw[if_neg (by rintro⟨_,g⟩;exact Q g)];omega
   have ae:iL s1.r c=iL s.r c:=by rw[G];unfold iL;rw[a2]
   by_cases BA:bO s1.r<bO t.r
   ·obtain⟨u1,u2⟩:=Zn (c:=c) a K.ei K.go K.bH h4 BA (by rw[G,X,J];exact h.hu) (by rw[G,X,J];exact h.rc) Ed;refine⟨u1,?_⟩;rw[ae] at u2;omega
   have a7:=K.go.pr.rk;have Zo:bO s1.r=bO t.r:=by omega
   obtain⟨q1,q2,q3,q4,q5,q6,q7⟩:=K.go.pr.eq Zo;have a0:t.r.phase=3:=by rw[q7,G,J];exact p3
   have bb:aj t.r=aj s.r:=by
    unfold aj;rw[K.go.pr.l,q3,q6,G,J]
   have FZ:lK up t.r=true:=wW.2 fun p S hu=>by
    rw[bb] at S;by_cases ad:p∈s.r.has
    ·exact q2 p (by rw[G,J];exact ad)
    have hq:xP s.r p∈aU s.r (aj s.r):=by
     refine List.mem_map.2 ⟨p,List.mem_filter.2 ⟨S,?_⟩,rfl⟩;have g2:s.r.has.any (· == p)=false:=by
      rw[List.any_eq_false];intro x hx e;have:x=p:=by simpa using e
      exact ad (this▸hx)
     rw[g2];rfl
    rcases K.e1 _ hq hu rfl (by rw[G,J];rfl) (by rw[G,J];exact p3) with g|g
    ·exact absurd g BA
    exact g
   have ax:t.r.born=s.r.born:=by rw[q4,G,J]
   have a3:t.r.since=s.now+1:=by rw[q5,G,J]
   have cO:t.now=s.now+1:=K.go.now.trans e3;refine⟨⟨K.ei,K.bH,.inr a0,fun p S e=>K.go.pr.he p (by rw[G,J];exact h.hu p (by rw[K.go.x,X] at S;exact S) e),by rw[K.go.x,X,K.go.pr.fr,G,J];exact h.rc,by rw[ax,a3,cO];have:=h.tm;omega,(fun _ g=>by rw[FZ] at g;cases g),Ed⟩,?_⟩;have ao:iL t.r c=iL s.r c:=by rw[←ae];unfold iL;rw[Zo]
   unfold FH at a8 ⊢;rw[if_pos ⟨a0,FZ⟩,ao,cO,ax];have:=h.tm.1;rw[if_neg (show ¬(s.r.phase=3∧lK up s.r=true) from fun g=>Q g.2)];omega
theorem vO {w:Int}{f:Fr}(h:iK w f=true):(f.ah.map (·.node)).Nodup∧w≤(f.ah.length:Int)∧f.ah.length≤5:=by
 simp only[iK,Bool.and_eq_true,dA,decide_eq_true_eq] at h;exact⟨h.2.2.2,h.2.1.1,by omega⟩
theorem Vk {up known:List Pl}{c:Int}{s:Sk}(h:HZ up c s)(hk:Kn up known s.x)(p3:s.r.phase=3)(h9:dY (s.now+1) s.r.born 9=true) :
  ∃t,t=dD up 400 (bU s (s.now+1) known)∧EI t∧t.x=s.x∧t.now=s.now+1∧(t.r.phase=4∨∃c',(HZ up c' t∧FH up t.now t.r c'+1≤FH up s.now s.r c)):=by
 refine⟨_,rfl,?_⟩;have S:=h.ei.inv.rv h.ei.lt;have hl:s.r.l=s.x:=S.l;have hm:=tT S;have bj:=S.n2 (.inr p3);have am:=Ej (k:=9) (show s.r.born≤s.now+1 by have:=h.tm.1;omega);rw[h9] at am;have am:9≤s.now+1-s.r.born:=by simpa using am.symm
 have al:lK up s.r=true:=by
  cases e:lK up s.r with
  |true=>rfl
  |false=>have:=h.un p3 e;omega
 have bt:=wW.1 al;have hW:=Vj h.ei p3;obtain⟨⟨f0,f6⟩,b3⟩:=dO S.fr;have hF:=vO (b3 _ (iU f0));obtain⟨B,hB⟩:∃B,B=aB (fun p=>!s.r.has.any (· == p)) [] (aj s.r):=⟨_,rfl⟩;have ag:∀p,aW B p=true↔p∈aj s.r∧aW s.r.has p=false:=fun p=>by rw[hB];exact adx
 have ao:∀p,aW B p=true→aW up p=false:=fun p J=>by
  obtain⟨X,Q⟩:=(ag p).1 J;cases e:aW up p with
  |false=>rfl
  |true=>rw[gZ.2 (bt p X e)] at Q;cases Q
 have b1:∀p,aW B p=true→aW known p=false:=fun p J=>by
  cases e:aW known p with
  |false=>rfl
  |true=>have:=hk.ajd p (gZ.1 e);rw[ao p J] at this;cases this
 have bk:=h.ei.re.n3 p3;have ax:=Y5 (up:=up) hW hm.2.1 (by rw[hl] at bk;exact bk);obtain⟨M,hM⟩:∃M,M=(aj s.r).filter fun p=>!aW s.r.has p:=⟨_,rfl⟩
 rw[←hM] at ax;have ae:∀p∈M,aW B p=true:=fun p J=>by
  rw[hM] at J;obtain⟨X,Q⟩:=List.mem_filter.1 J;exact (ag p).2 ⟨X,by simpa using Q⟩
 have bb:M.Nodup:=by rw[hM];exact hW.nd.sublist List.filter_sublist
 have aq:∀p∈M,p∈(aL s.r.af).ah:=fun p J=>by
  rw[hM] at J;exact hW.sub p (List.mem_filter.1 J).1
 obtain⟨m0,az⟩:∃p,p∈M:=by
  cases bw:M with
  |nil=>rw[bw] at ax;simp at ax;omega
  |cons p l=>exact⟨p,by simp⟩
 have b4:B≠[]:=fun e=>by
  have:=ae m0 az;rw[e] at this;cases this
 obtain⟨V,K⟩:∃V:Rv,V={ s.r with bad:=B,born:=s.now+1 }:=⟨_,rfl⟩;have b2:gM V=aL s.r.af:=by
  unfold gM;rw[K];show (eH s.r.af s.r.n).getD kT=_
  rw[qL f0 bj.2];rfl
 have aa:=Qn (w:=s.x.w) (bad:=B) (known:=known) (f:=aL s.r.af) (e:=((aL s.r.af).ah.length:Int)) hk.nd hk.w b1 hF.1 hF.2.1 hF.2.2 ⟨m0,aq m0 az,ae m0 az⟩;have a4:dx V known=fC (aL s.r.af) s.x.w ((aL s.r.af).ah.length:Int) B known:=by
  unfold dx;rw[b2,K];show fC (aL s.r.af) s.r.l.w _ B known=_
  rw[hl]
 have cf:(s.r.af.length:Int)≤5∧(c=0∨c=1):=by
  have hD:(M.length:Int)≤((zY up (aL s.r.af).ah).length:Int):=by
   have:=bb.length_le_of_subset (l₂:=zY up (aL s.r.af).ah) fun p J=>List.mem_filter.2 ⟨aq p J,by rw[ao p (ae p J)];rfl⟩
   omega
  rcases h.rc with ⟨X,Q,g3⟩|⟨X,Q,g3,g4⟩|⟨X,Q,g3,g4⟩
  ·exact⟨by omega,.inl X⟩
  ·exact⟨by omega,.inr X⟩
  exfalso;have:=hm.2.2;omega
 have b7:(iM V).length≤s.r.af.length:=by
  have e:V.af=s.r.af:=by rw[K]
  unfold iM;rw[e];split
  ·rw[List.length_take];omega
  exact Nat.le_refl _
 have iE:(dH V known).2=true:=by
  unfold dH;rw[if_pos (by
   rw[a4,aa.1];simp only[Bool.true_and,Bool.not_eq_true',beq_eq_false_iff_ne];omega)]
 obtain⟨z,hz,p8⟩:=Qx (known:=known) p3 h9 h.ei.re.nb (by rw[←hB];exact b4) (by rw[←hB,←K];exact iE);rw[←hB,←K] at hz;have bu:kS { s with r:=V }:=by rw[K];exact⟨S.l,S.may,S.ep,S.su,S.he,S.no,S.ph,S.p1,S.n1,S.n2,S.hs,S.gd,S.fr,S.en⟩
 have cc:V.phase=3:=by rw[K];exact p3
 obtain⟨bx,ar⟩:=Jl bu cc hk.ok;have a6:kS { s with r:=z }:=by
  have e:z={ (dH V known).1 with bad:=(dH V known).1.bad,born:=s.now+1,since:=s.now+1 }:=by
   rw[hz];generalize (dH V known).1=q at ar;cases q;simp only at ar;subst ar;rfl
  rw[e];exact yK bx _ _ _
 have cd:z.af=dS s.r.af ⟨s.r.n,(fC (aL s.r.af) s.x.w ((aL s.r.af).ah.length:Int) B known).1.ah⟩∧z.heard=s.r.heard∧z.n=s.r.n∧z.has=s.r.has∧z.bad=[]∧z.l=s.r.l∧z.ak=s.r.ak:=by
  have e:(dH V known).1={ V with bad:=[],af:=iM V++[⟨V.n,(dx V known).1.ah⟩] }:=by
   unfold dH;rw[if_pos (by
    rw[a4,aa.1];simp only[Bool.true_and,Bool.not_eq_true',beq_eq_false_iff_ne];omega)]
  have Vl:=Jm (x:=V) (by rw[K];exact f0) (by rw[K];exact bj.2) (dx V known).1.ah;rw[hz,e];refine⟨?_,by rw[K],by rw[K],by rw[K],rfl,by rw[K],by rw[K]⟩;show iM V++[⟨V.n,(dx V known).1.ah⟩]=_
  rw[Vl,a4,K]
 obtain⟨z1,z2,z3,z4,z5,z6,z7⟩:=cd;have zp:z.phase=3:=by rw[hz]
 have zb:z.born=s.now+1∧z.since=s.now+1:=by rw[hz];exact⟨rfl,rfl⟩
 have a7:bO z=bO s.r:=by rw[zZ zp,zZ p3,z3]
 obtain⟨⟨ce,bp,cl⟩,br⟩:=FR (y:=z) zp a6 (by rw[z2];exact h.ei.re.hn) z5 (by rw[z3];exact h.ei.re.pf (.inr p3)) (s.now+1);obtain⟨G,hG⟩:∃G,G=(fC (aL s.r.af) s.x.w ((aL s.r.af).ah.length:Int) B known).1.ah:=⟨_,rfl⟩;have zl:aL z.af=⟨s.r.n,G⟩:=by rw[z1,F3,hG]
 have bv:G.Nodup:=by
  have:=vO ((dO a6.fr).2 _ (iU (dO a6.fr).1.1));have e:aL ({ s with r:=z }:Sk).r.af=⟨s.r.n,G⟩:=zl;rw[e] at this;exact vP this.1
 have ai:∀p∈zY up G,p∈(aL s.r.af).ah∧aW B p=false∧aW up p=false:=fun p J=>by
  obtain⟨X,Q⟩:=List.mem_filter.1 J;have Q:aW up p=false:=by simpa using Q
  rw[hG] at X;rcases aa.2 p X with g|⟨g3,g4⟩
  ·have:=hk.ajd p g;rw[Q] at this;cases this
  exact⟨g3,g4,Q⟩
 have ba:(zY up G).Nodup:=bv.sublist List.filter_sublist;have ch:(zY up G).length+M.length≤(zY up (aL s.r.af).ah).length:=by
  have a0:(zY up G++M).Nodup:=by
   rw[List.nodup_append];refine⟨ba,bb,fun x hx y hy e=>?_⟩;subst e;have:=(ai x hx).2.1;rw[ae x hy] at this;cases this
  have:=a0.length_le_of_subset (l₂:=zY up (aL s.r.af).ah) fun p J=>by
   rcases List.mem_append.1 J with J|J
   ·obtain⟨X,Q,g3⟩:=ai p J;exact List.mem_filter.2 ⟨X,by rw[g3];rfl⟩
   exact List.mem_filter.2 ⟨aq p J,by rw[ao p (ae p J)];rfl⟩
  rw[List.length_append] at this;exact this
 have ci:((zY up G).length:Int)≤5-s.x.w:=by
  have a0:(zY up G++aj s.r).Nodup:=by
   rw[List.nodup_append];refine⟨ba,hW.nd,fun x hx y hy e=>?_⟩;subst e;obtain⟨X,Q,g3⟩:=ai x hx;cases e:aW s.r.has x with
   |true=>have:=h.hs.has x (gZ.1 e);rw[g3] at this;cases this
   |false=>rw[(ag x).2 ⟨hy,e⟩] at Q;cases Q
  have:=a0.length_le_of_subset (l₂:=(aL s.r.af).ah) fun p J=>by
   rcases List.mem_append.1 J with J|J
   ·exact (ai p J).1
   exact hW.sub p J
  rw[List.length_append] at this;have:=hW.len;have:=hF.2.2;omega
 have cg:=adz s.r.af ⟨s.r.n,G⟩;have b6:RCk up s.x.w s.x.a z.af (c+1):=by
  unfold RCk;rw[zl];have e:(z.af.length:Int)≤(s.r.af.length:Int)+1:=by rw[z1,←hG];omega
  show (c+1=0∧_∧((zY up G).length:Int)≤_)∨(c+1=1∧_∧((zY up G).length:Int)+_≤_∧((zY up G).length:Int)≤_)∨(c+1=2∧_∧((zY up G).length:Int)+_≤_∧((zY up G).length:Int)+_≤_)
  rcases h.rc with ⟨X,Q,g3⟩|⟨X,Q,g3,g4⟩|⟨X,Q,g3,g4⟩
  ·right;left
   exact⟨by omega,by omega,by omega,by omega⟩
  ·right;right
   exact⟨by omega,by omega,by omega,by omega⟩
  exfalso;omega
 have a8:(aU z (aj z)++(aZ z (s.now+1)).2).length≤10:=by
  have a1:=lY z (aj z);have a2:(aj z).length≤5:=by unfold aj;rw[z6];exact BB S _ _
  have a3:=tX (y:=z) (k:=5) (fun n=>by rw[z6];exact BB S _ _) (s.now+1);rw[List.length_append];omega
 have b5:∀q∈aU z (aj z)++(aZ z (s.now+1)).2,Zc s q:=fun q hq=>by
  rcases List.mem_append.1 hq with hq|hq
  ·exact FT (z6.trans hl) (z7.trans S.ep) _ q hq
  exact FU (z6.trans hl) (z7.trans S.ep) _ q hq
 obtain⟨a,b,e1,e2,e3,e4⟩:=El h.ei h.bH hk.ok p8 a8 b5 ce;have bK:=Ei (up:=up) a s.ak _ b a8;have Ed:=z8 400 a (Em h.hs (now:=s.now+1) (known:=known) (fun p J=>by
  rw[p8] at J;have:=yI _ J;rw[z4] at this;exact this))
 generalize ck:bU s (s.now+1) known=s1 at *;obtain⟨t,b8⟩:∃t,t=dD up 400 s1:=⟨_,rfl⟩;rw[←b8] at bK Ed ⊢;refine⟨bK.ei,bK.go.x.trans e2,bK.go.now.trans e3,?_⟩;by_cases h4:t.r.phase=4
 ·exact .inl h4
 refine .inr ⟨c+1,?_⟩;have cO:t.now=s.now+1:=bK.go.now.trans e3;have bh:iL s.r c-10≤FH up s.now s.r c:=by
  unfold FH;rw[if_pos ⟨p3,al⟩];omega
 have b0:iL s.r (c+1)=iL s.r c-10:=by unfold iL;omega
 have ad:Pr (s.now+1) z t.r:=by
  have:=bK.go.pr;rw[e3,e1] at this;exact bp.trans this
 have FK:∀p∈(aL s.x.af).ah,aW up p=true→p∈t.r.heard:=fun p J e=>ad.he p (by rw[z2];exact h.hu p J e)
 have a9:RCk up t.x.w t.x.a t.r.af (c+1):=by rw[bK.go.x,e2,ad.fr];exact b6
 by_cases BA:bO z<bO t.r
 ·have bz:=bK.ei.inv.rv bK.ei.lt;obtain⟨t1,t2⟩:=(ad.tm BA).resolve_left h4;have Qq:t.r.phase=2∨t.r.phase=3:=by
   rcases bz.ph with g|g|g|g
   ·rw[FN g,a7,zZ p3] at BA;have:=S.n1 (by rw[p3];decide);omega
   ·exact .inl g
   ·exact .inr g
   exact absurd g h4
  refine⟨⟨bK.ei,bK.bH,Qq,by rw[bK.go.x,e2];exact FK,a9,by rw[t1,t2,cO];omega,fun _ _=>⟨by rw[t1,t2],by rw[t1,cO];omega⟩,Ed⟩,?_⟩;have:=Y1 (up:=up) (c:=c+1) (y:=t.r) (now:=t.now) (by rw[t1,cO];exact Int.le_refl _) (by rw[t2,cO];exact Int.le_refl _);rw[a7] at BA;unfold iL at *;omega
 have cj:=ad.rk;have Zo:bO z=bO t.r:=by omega
 obtain⟨q1,q2,q3,q4,q5,q6,q7⟩:=ad.eq Zo;have bo:t.r.phase=3:=q7.trans zp;have a5:=br (by
  have X:=bp.rk;have Q:=bK.go.pr.rk;rw[e1] at Q;omega)
 have ap:s1.r=z:=by rw[e1];exact a5.1
 have b9:aj t.r=aj z:=by
  unfold aj;rw[ad.l,q3,q6]
 have FZ:lK up t.r=true:=wW.2 fun p J hu=>by
  rw[b9] at J;by_cases bm:p∈z.has
  ·exact q2 p bm
  have hq:xP z p∈aU z (aj z)++(aZ z (s.now+1)).2:=by
   refine List.mem_append_left _ (List.mem_map.2 ⟨p,List.mem_filter.2 ⟨J,?_⟩,rfl⟩);have Q:z.has.any (· == p)=false:=by
    rw[List.any_eq_false];intro x hx e;have:x=p:=by simpa using e
    exact bm (this▸hx)
   rw[Q];rfl
  rcases bK.e1 _ hq hu rfl (by rw[ap];rfl) (by rw[ap];exact zp) with g|g
  ·rw[ap] at g;exact absurd g BA
  exact g
 have bd:t.r.born=s.now+1:=q4.trans zb.1;have bq:t.r.since=s.now+1:=q5.trans zb.2;refine⟨⟨bK.ei,bK.bH,.inr bo,by rw[bK.go.x,e2];exact FK,a9,by rw[bd,bq,cO];omega,(fun _ g=>by rw[FZ] at g;cases g),Ed⟩,?_⟩;have aw:iL t.r (c+1)=iL s.r c-10:=by rw[←b0];unfold iL;rw[←Zo,a7]
 unfold FH at bh ⊢;rw[if_pos ⟨p3,al⟩] at bh;rw[if_pos ⟨bo,FZ⟩,if_pos ⟨p3,al⟩,aw,cO,bd];omega
theorem YZ {up known:List Pl}{c:Int}{s:Sk}(h:HZ up c s)(J:Kn up known s.x) :
  ∃t,t=dD up 400 (bU s (s.now+1) known)∧EI t∧t.x=s.x∧t.now=s.now+1∧(t.r.phase=4∨∃c',(HZ up c' t∧FH up t.now t.r c'+1≤FH up s.now s.r c)):=by
 by_cases G:s.r.phase=3∧dY (s.now+1) s.r.born 9=true
 ·exact Vk h J G.1 G.2
 obtain⟨t,a,b,d,e,f⟩:=ady h J (fun K=>by
  cases g:dY (s.now+1) s.r.born 9 with
  |false=>rfl
  |true=>exact absurd ⟨K,g⟩ G)
 refine⟨t,a,b,d,e,?_⟩;rcases f with f|f
 ·exact .inl f
 exact .inr ⟨c,f⟩
structure IB (s:Sk):Prop where
 may:dN s.x=true
 cl:s.x.closed=0
 fe:∀p,iT s.aF p≤s.ak
theorem nN {s t:Sk}(h:IB s)(G:t.x=s.x)(J:t.aF=s.aF)(K:s.ak≤t.ak):IB t:=
 ⟨by rw[G];exact h.may,by rw[G];exact h.cl,fun p=>by rw[J];exact Int.le_trans (h.fe p) K⟩
theorem YU {x:Lg}{w:Wr}{G:Int}(h:Bz x G=some w):IB (FD x w G):=by
 unfold Bz at h;split at h
 ·rename_i hc;simp only[Bool.and_eq_true,dA,decide_eq_true_eq,beq_iff_eq] at hc;exact⟨hc.1,hc.2.1,fun p=>by show (0:Int)≤G;omega⟩
 cases h
theorem adp {s:Sk}(h:IB s)(b:List UInt8):IB (vL s b):=by
 unfold vL;dsimp only
 split
 ·exact nN h rfl rfl (Int.le_refl _)
 exact h
theorem adq {s:Sk}(h:IB s)(now:Int):IB (FE s now):=nN h rfl rfl (Int.le_refl _)
theorem adr {s:Sk}(h:IB s):IB (vM s):=by
 unfold vM;split
 ·exact nN h rfl rfl (Int.le_refl _)
 exact h
theorem YV {s:Sk}(h:IB s)(now:Int)(known:List Pl):IB (bU s now known):=by
 unfold bU;split<;>exact nN h rfl rfl (Int.le_refl _)
theorem ads {s:Sk}(h:IB s):IB (jv s):=by
 unfold jv;dsimp only
 split
 ·exact nN h rfl rfl (by show s.ak≤s.ak+1;omega)
 exact h
theorem Qo {s:Sk}(h:IB s)(b:List Lk):IB { s with bH:=b }:=nN h rfl rfl (Int.le_refl _)
theorem Vd {s:Sk}(h:IB s)(e:Int)(known:List Pl):IB (kF s e known):=by
 unfold kF;dsimp only
 split
 ·exact nN h rfl rfl (Int.le_refl _)
 split
 ·rename_i hc;refine⟨?_,h.cl,h.fe⟩;have:=h.may;have G:=hc.2;simp only[dN,Bool.and_eq_true] at this ⊢;exact⟨this.1,this.2.1,this.2.2.1,G,this.2.2.2.2⟩
 exact nN h rfl rfl (Int.le_refl _)
theorem Ve {s:Sk}(G:∀p,iT s.aF p≤s.ak){q:Rq}(K:q.ak≤s.ak)(o:Bool):∀p,iT (bQ s q o).1.aF p≤s.ak:=by
 have J:∀p,iT (iD s.aF q.to) p≤s.ak:=fun p=>by rw[rU];exact G p
 unfold bQ;dsimp only
 split
 ·split
  ·exact J
  intro p;show iT ((iD s.aF q.to).set (iW s.aF q.to) { eO s.aF q.to with sure:=max (eO s.aF q.to).sure q.sure }) p≤s.ak
  rw[pW s.aF q.to { eO s.aF q.to with sure:=max (eO s.aF q.to).sure q.sure } (tO _ _) p];split
  ·show (eO s.aF q.to).ak≤_
   rw[qK];exact G _
  exact G p
 split
 ·intro p;show iT ((iD s.aF q.to).set (iW s.aF q.to) { eO s.aF q.to with ak:=max (eO s.aF q.to).ak q.ak }) p≤s.ak
  rw[pW s.aF q.to { eO s.aF q.to with ak:=max (eO s.aF q.to).ak q.ak } (tO _ _) p];split
  ·show max (eO s.aF q.to).ak q.ak≤_
   rw[qK];have:=G q.to;omega
  exact G p
 split
 ·exact J
 exact J
theorem YW {s:Sk}(H:fB s)(h:IB s){m:Lk}(K:YX s m):IB (gQ s m):=by
 unfold gQ;split
 ·unfold gy;split
  ·exact nN h rfl rfl (Int.le_refl _)
  split
  ·exact nN h rfl rfl (Int.le_refl _)
  exact h
 rename_i J;have J:m.ask=true:=by simpa using J
 have Q:=K.q J;have X:m.q.ak≤s.ak:=by
  by_cases G:m.to=0
  ·rw[(Q.w0 G).1];exact H.ep
  rw[Q.ep G];rcases K.rng with g|g
  ·exact absurd g G
  exact g.2
 have hf:=Ve h.fe X (m.to==0);obtain⟨V,k2,k3,k4,k5,k6⟩:=lW s m.q (m.to==0);dsimp only
 generalize bQ s m.q (m.to==0)=y at *;have S:IB y.1:=⟨by rw[V];exact h.may,by rw[V];exact h.cl,fun p=>by rw[k3];exact hf p⟩;split
 ·exact Qo S _
 exact S
def rV (b:Nat→Bool)(a:Int)(known:List Pl):List Pl→Nat→Int→List Pl→List Pl
 |[],_,_,up=>up
 |p::r,i,g,up=>if b i&&(decide (g+1<a) && !aW known p) then rV b a known r (i+1) (g+1) up else rV b a known r (i+1) g (up++[p])
theorem Eh (b:Nat→Bool)(a:Int)(known:List Pl):∀(l:List Pl) (i:Nat) (g:Int) (up:List Pl),∀p∈up,p∈rV b a known l i g up
 |[],_,_,up,p,G=>G
 | q::r,i,g,up,p,G=>by
   unfold rV;split
   ·exact Eh b a known r _ _ up p G
   exact Eh b a known r _ _ _ p (List.mem_append_left _ G)
theorem Qp (b:Nat→Bool)(a:Int)(known:List Pl):∀(l:List Pl) (i:Nat) (g:Int) (up:List Pl),g≤a-1→((zY (rV b a known l i g up) l).length:Int)+g≤a-1
 |[],_,g,up,h=>by show ((0:Nat):Int)+g≤a-1;omega
 | q::r,i,g,up,h=>by
   unfold rV;split
   ·rename_i hc;simp only[Bool.and_eq_true,decide_eq_true_eq] at hc;have ih:=Qp b a known r (i+1) (g+1) up (by omega);generalize rV b a known r (i+1) (g+1) up=u at *;unfold zY at ih ⊢;rw[List.filter_cons];split
    ·rw[List.length_cons];omega
    omega
   have ih:=Qp b a known r (i+1) g (up++[q]) h;have G:q∈rV b a known r (i+1) g (up++[q]):=Eh b a known r (i+1) g (up++[q]) q (by simp);generalize rV b a known r (i+1) g (up++[q])=u at *;unfold zY at ih ⊢;rw[List.filter_cons,if_neg (by rw[gZ.2 G];decide)];exact ih
theorem ai0 {b:Nat→Bool}{x:Lg}{known:List Pl}(S:dN x=true)(Q:x.w≤(known.length:Int))(J:dh 0 [⟨1,known⟩]=true):Kn (rV b x.a known (aL x.af).ah 0 0 known) known x:=by
 obtain⟨V,X,m3⟩:=lX S;have G:=(dO J).2 ⟨1,known⟩ (by simp);simp only[iK,Bool.and_eq_true,dA,decide_eq_true_eq,List.all_eq_true] at G;refine⟨G.2.2.2,Q,fun p K=>gZ.2 (Eh b x.a known _ 0 0 known p K),G.2.2.1,?_⟩;have:=Qp b x.a known (aL x.af).ah 0 0 known (by omega);omega
def mJ (up known:List Pl):Nat→Sk→Bool
 |0,_=>false
 |n+1,s=>if (dD up 400 s).r.phase=4 then MO (dD up 400 s) else mJ up known n (bU (dD up 400 s) ((dD up 400 s).now+1) known)
theorem ai1 {up:List Pl}{c:Int}{s:Sk}(h:HZ up c s) : -6≤FH up s.now s.r c:=by
 have G:=h.ei.inv.rv h.ei.lt;have hc:c≤2:=by
  rcases h.rc with g|g|g<;>omega
 have J:4+10*(2-c)≤iL s.r c:=by
  have K:=(G.n2 h.ph).1;unfold iL;rcases h.ph with g|g
  ·rw[xM g];omega
  rw[zZ g];omega
 unfold FH;split<;>omega
theorem FI {up known:List Pl}:∀(n:Nat) {c:Int} {s:Sk},HZ up c s→Kn up known s.x→FH up s.now s.r c+6≤(n:Int)→∀m,n+1≤m→mJ up known m (bU s (s.now+1) known)=true
 | n,c,s,h,J,aa,m,hm=>by
   obtain⟨k,rfl⟩:∃k,m=k+1:=⟨m-1,by omega⟩;obtain⟨t,ht,S,hx,cO,G⟩:=YZ h J;unfold mJ;rw[←ht];split
   ·exact KA S.inv
   rename_i Q;obtain⟨c',K,X⟩:=G.resolve_left Q;have V:=ai1 K;obtain⟨j,rfl⟩:∃j,n=j+1:=⟨n-1,by omega⟩;exact FI j K (afl J hx) (by omega) k (by omega)
theorem Vf {s:Sk}(H:fB s)(hB:IB s)(hb:s.bH=[])(Eg:s.ak+1≤4611686018427387903)(h1:0≤s.ak)(a0:s.x.af.length≤4){up known:List Pl}(hk:Kn up known s.x):mJ up known 150 (jv s)=true:=by
 have hI:=FJ H;obtain⟨y,J⟩:∃y:Rv,y=⟨s.x,s.ak+1,1,[],0,0,[],[],[],s.x.af,[],s.now,s.now⟩:=⟨_,rfl⟩;obtain⟨t,S⟩:∃t:Sk,t={ s with ak:=s.ak+1,r:=y,bH:=(ic y (aS y).ah).map fun q=>(⟨true,s.ak+1,q,O6⟩:Lk) }:=⟨_,rfl⟩;obtain⟨m1,m2,m3⟩:=lX hB.may;obtain⟨⟨f0,f6⟩,ap⟩:=dO m1;have X:aS y=aL s.x.af:=by rw[J];exact vN f0
 have K:=vO (ap _ (iU f0));have ax:(ic y (aS y).ah).length≤5:=by
  unfold ic;rw[List.length_map,X];exact Nat.le_trans (List.length_filter_le _ _) K.2.2
 have aw:jv s=t:=by
  unfold jv oq;have hc:(!dN s.x||s.x.closed != 0||decide (s.ak+1<1)||decide (s.ak+1>4611686018427387903))=false:=by
   rw[hB.may,hB.cl];simp;omega
  rw[hc];simp only[Bool.false_eq_true,↓reduceIte];rw[←J,S];unfold iq;rw[hb];simp only[List.nil_append,List.length_nil];rw[List.take_of_length_le (by omega)]
 rw[aw] at hI ⊢;have aq:t.first<t.ak:=by rw[S];have:=H.ep;show s.first<s.ak+1;omega
 have hx:t.x=s.x:=by rw[S]
 have hr:t.r=y:=by rw[S]
 have ae:t.ak=s.ak+1:=by rw[S]
 have Qq:y.phase=1:=by rw[J]
 have V:y.heard=[]:=by rw[J]
 have hE:EI t:=by
  refine⟨hI,aq,fun p=>?_,fun m hm=>?_,?_⟩
  ·have:=hB.fe p;rw[S];show iT s.aF p≤s.ak+1
   omega
  ·rw[S] at hm;obtain⟨q,hq,rfl⟩:=List.mem_map.1 hm;refine⟨ae.symm,fun _=>?_,fun e=>by cases e⟩;exact Y0 (s:=t) (y:=y) (by rw[hx,J]) (by rw[ae,J]) _ q hq
  rw[hr];refine⟨by rw[V];exact⟨List.nodup_nil,fun p hp=>by cases hp⟩,by rw[J],fun _=>?_,fun e=>by rw[Qq] at e;exact absurd e (by decide),fun e=>by rw[Qq] at e;exact absurd e (by decide),fun e=>by rw[Qq] at e;exact absurd e (by decide)⟩;rw[V,X,J];exact MP (Int.le_trans m2 m3) K.2.1 m3
 have ao:HU up t:=by
  refine⟨fun p hp=>?_,fun m hm ha=>?_⟩
  ·rw[hr,J] at hp;cases hp
  rw[S] at hm;obtain⟨q,hq,rfl⟩:=List.mem_map.1 hm;cases ha
 have G:=Ei (up:=up) hE (s.ak+1) (ic y (aS y).ah) (by rw[S]) (by omega);have Ed:=z8 400 hE ao;generalize hz:dD up 400 t=z at G Ed;show mJ up known (149+1) t=true
 unfold mJ;rw[hz];split
 ·exact KA G.ei.inv
 rename_i h4;have Q:z.x=s.x:=G.go.x.trans hx;have FK:∀p∈(aL s.x.af).ah,aW up p=true→p∈z.r.heard:=fun p hp hu=>by
  have hq:FM y p∈ic y (aS y).ah:=by
   refine List.mem_map.2 ⟨p,List.mem_filter.2 ⟨by rw[X];exact hp,by rw[V];rfl⟩,rfl⟩
  exact (G.e2 _ hq hu rfl (by rw[hx];exact hp)).resolve_left h4
 have aa:=G.ei.inv.rv G.ei.lt;have ad:z.r.l=s.x:=aa.l.trans Q;have al:z.r.phase≠1:=fun e=>by
  have g:=G.ei.re.n1 e;have e2:aS z.r=aL s.x.af:=by rw[vN (by rw[ad];exact f0),ad]
  rw[e2,ad,Qr (Int.le_trans m2 m3) K.2.1 (vP K.1) hk.dn FK] at g;cases g
 have ag:z.r.phase=2∨z.r.phase=3:=by
  rcases aa.ph with g|g|g|g
  ·exact absurd g al
  ·exact .inl g
  ·exact .inr g
  exact absurd g h4
 have BA:bO t.r<bO z.r:=by
  have hn:=aa.n1 al;rw[hr,FN Qq];rcases ag with g|g
  ·rw[xM g];omega
  rw[zZ g];omega
 obtain⟨t1,t2⟩:=(G.go.pr.tm BA).resolve_left h4;rw[←G.go.now] at t1 t2;have ai:z.r.af=s.x.af:=by
  rw[G.go.pr.fr,hr,J]
 have am:HZ up 0 z:=by
  refine⟨G.ei,G.bH,ag,by rw[Q];exact FK,.inl ⟨rfl,?_,?_⟩,⟨by rw[t1];exact Int.le_refl _,by rw[t2];exact Int.le_refl _⟩,fun _ _=>⟨by rw[t1,t2],by rw[t1];omega⟩,Ed⟩
  ·rw[ai];omega
  rw[ai,Q];exact hk.dn
 have ar:=Y1 (up:=up) (c:=0) (y:=z.r) (now:=z.now) (by rw[t1];exact Int.le_refl _) (by rw[t2];exact Int.le_refl _);have az:0≤bO z.r:=Tm G.ei;refine FI 110 am (afl hk Q) ?_ 149 (by omega);unfold iL at ar;omega
def frn (T:Tab):Tab:=
 match T with
 |x::y::z::r=>x::y::z::z::r
 |T=>T
theorem Vg {P:Program}{T:Tab}(h:dB P T):dB P (frn T):=by
 intro t i hi;refine h t i ?_;unfold frn at hi;split at hi
 ·rename_i x y z r;rw[aG,aG,aG,aG] at hi;rw[aG,aG,aG];by_cases J:x.1=t
  ·rw[if_pos J] at hi ⊢;exact hi
  rw[if_neg J] at hi ⊢;by_cases K:y.1=t
  ·rw[if_pos K] at hi ⊢;exact hi
  rw[if_neg K] at hi ⊢;by_cases G:z.1=t
  ·rw[if_pos G] at hi ⊢;exact hi
  rw[if_neg G] at hi;rw[if_neg G] at hi ⊢;exact hi
 exact hi
theorem agy (b:Int):0≤xB b 15∧xB b 15≤15:=by
 unfold xB;have h:(BitVec.ofInt IntKind.i64.bits b &&& BitVec.ofInt IntKind.i64.bits 15).toNat≤15:=by
  rw[BitVec.toNat_and];exact Nat.le_trans Nat.and_le_right (by decide)
 rw[bF (by omega) (by omega)];omega
structure WI (s:Sk):Prop where
 f0:0≤s.first
 to:∀m∈s.bH,m.to≠0
theorem FO {s:Sk}(h:WI s){to:Int}(J:to≠0)(l:List Rq):WI (iq s to l):=
 ⟨h.f0,fun m G=>by
  rcases List.mem_append.1 G with G|G
  ·exact h.to m G
  obtain⟨q,_,rfl⟩:=List.mem_map.1 G;exact J⟩
theorem Y2 (s:Sk)(q:Rq)(o:Bool):(bQ s q o).1.w=s.w:=by
 unfold bQ;dsimp only
 split
 ·split<;>rfl
 split
 ·rfl
 split<;>rfl
theorem Vh (s:Sk)(m:Lk):(gQ s m).now=s.now:=by
 unfold gQ;split
 ·unfold gy;split
  ·rfl
  split<;>rfl
 obtain⟨J,K,Q,S,V,G⟩:=lW s m.q (m.to==0);dsimp only
 split<;>exact G
theorem Y3 {s:Sk}(h:WI s){m:Lk}(J:m.to≠0):WI (gQ s m)∧(gQ s m).w=s.w∧(gQ s m).now=s.now:=by
 unfold gQ;split
 ·unfold gy;rw[if_neg J];split
  ·exact⟨FO (s:={ s with r:=(bJ s.r s.now m.r).1 }) ⟨h.f0,h.to⟩ J _,rfl,rfl⟩
  exact⟨h,rfl,rfl⟩
 obtain⟨V,X,k3,K,Q,S⟩:=lW s m.q (m.to==0);have kw:=Y2 s m.q (m.to==0);dsimp only
 generalize bQ s m.q (m.to==0)=y at *;split
 ·refine⟨⟨by show 0≤y.1.first;rw[K];exact h.f0,fun x G=>?_⟩,kw,S⟩;rcases List.mem_append.1 G with G|G
  ·rw[Q] at G;exact h.to x G
  rw[List.mem_singleton] at G;subst G;exact J
 exact⟨⟨by rw[K];exact h.f0,fun x G=>by rw[Q] at G;exact h.to x G⟩,kw,S⟩
theorem KC (up:List Pl){s:Sk}(h:WI s):WI (iw up s)∧(iw up s).w=s.w∧(iw up s).now=s.now:=by
 unfold iw;split
 ·exact⟨h,rfl,rfl⟩
 rename_i m r G;have J:WI { s with bH:=r }:=⟨h.f0,fun x Q=>h.to x (by rw[G];exact List.mem_cons_of_mem _ Q)⟩;have K:=h.to m (by rw[G];simp);split
 ·exact⟨J,rfl,rfl⟩
 exact Y3 J K
theorem MQ {s:Sk}(h:WI s)(now:Int)(known:List Pl):WI (bU s now known)∧(bU s now known).w=s.w∧(bU s now known).now=now:=by
 unfold bU;split
 ·rename_i G;have J:=h.f0;exact⟨FO (s:={ s with now:=now,r:=(dJ s.r now known).1 }) ⟨h.f0,h.to⟩ (by omega) _,rfl,rfl⟩
 exact⟨⟨h.f0,h.to⟩,rfl,rfl⟩
theorem adu {s:Sk}(K:0≤s.first)(S:s.first≤s.ak)(Q:s.bH=[]):WI (jv s)∧(jv s).w=s.w∧(jv s).now=s.now:=by
 have G:WI s:=⟨K,fun m J=>by rw[Q] at J;cases J⟩;unfold jv;dsimp only
 split
 ·exact⟨FO (s:={ s with ak:=s.ak+1,r:=(oq s.x (s.ak+1) s.now).1 }) ⟨G.f0,G.to⟩ (by omega) _,rfl,rfl⟩
 exact⟨G,rfl,rfl⟩
open Go.ChangeShapes Go.WideShapes Go.RowKit
section
variable {H:Type}{enc:TypeId×Value→H}{P:Program}
theorem xL (hl:laidOutB P=true){W V:World}(X:Below W.heap.size W V){sp:Nat→Bool}:∀{Q:List TypeId} {vs:List Value} {ds:List (DataW H)} {ps:List MemPlace},
  (∀t∈Q,P.readableRec t=true∧t<P.types.size)→DataW.TrodAll enc P W 0 (fun _=>true) true Q vs ds ps→(∀p∈ps,p.block<W.heap.size)→(∀p∈ps,sp p.block=true) →
  DataW.TrodAll enc P V 0 sp true Q vs ds ps
 |[],[],[],_,_,h,_,_=>h
 |[],_::_,_,_,_,h,_,_=>h.elim
 |[],[],_::_,_,_,h,_,_=>h.elim
 |_::_,[],_,_,_,h,_,_=>h.elim
 |_::_,_::_,[],_,_,h,_,_=>h.elim
 | t::Q,v::vs,d::ds,_,hr,h,J,K=>by
   obtain⟨p,q,h1,h2,rfl⟩:=h;have ht:=hr t (by simp);exact⟨p,q,WideElems.Trod_stays hl ht.1 ht.2 h1 (fun x G=>X.same (J x (by simp[G]))) (fun x G=>K x (by simp[G])),
    xL hl X (fun t' S=>hr t' (by simp[S])) h2 (fun x G=>J x (by simp[G])) (fun x G=>K x (by simp[G])),rfl⟩
theorem YE {f:FuncId}{fn:Func}{s:ChangeSpec}{W:World}{args:Array Value}{ds gs:List (DataW H)}{before:List MemPlace}{ag:List PV}{bt:TypeId}
  (hl:laidOutB P=true) (ah:(fn.params.toList.all fun t=>P.readableRec t&&decide (t<P.types.size))=true) (ae:fn.resultTypes = #[bt]) (ad:P.underlying bt=some .bool)
  (J:s.vars=[]) (K:s.fn H (ds++gs)={ results:=[.lit (.bool true)],args:=ds })
  (hW:DataW.Whole enc P fn.params.toList s.vars false W args.toList ds gs before) (hc:dF P f ag (.sc (.bool true))) (hr:fE N0 W ag args.toList) :
  Calls P f args W fun e W'=>∃v,e=.returned v∧s.post enc P fn false true false false W args v W':=by
 refine (hc.2 N0 W args (fun r h=>h.elim) hr).mono fun e W' ⟨v,r,he,hq,hrep,hsame⟩=>⟨v,he,?_⟩
 subst hq;simp only[bL] at hrep;subst hrep;have hb:Below W.heap.size W W':=⟨hsame.os,hsame.tape,hsame.output,hsame.size,fun k hk=>hsame.keep k hk id⟩;have S:∀p∈before,(fun b=>decide (b<W.heap.size)) p.block=true:=fun p hp=>by simpa using hW.lt p hp
 have X:∀p∈before,p.block<W.heap.size:=fun p hp=>hW.lt p hp
 have aa:=hW;obtain⟨p,q,hA,hV,rfl,hz,hn⟩:=hW;rw[J] at hV;obtain⟨rfl,rfl⟩:=trodVars_none hV;simp only[List.append_nil] at X S hz hn aa K;have V:∀(b:Nat) (Q:Nat→Bool) (hd:Bool),DataW.TrodAll enc P W' b Q hd fn.resultTypes.toList ((Value.bool true).resultList fn.resultTypes.size) (s.fn H (ds++[])).results []:=by
  intro b Q hd;simp only[List.append_nil,K,ae];exact trodAll_mk1 (shut_bool ad true)
 have G:∀Q:Nat→Bool,(∀x∈p,Q x.block=true)→DataW.TrodAll enc P W' 0 Q true fn.params.toList args.toList (s.fn H (ds++[])).args p:=by
  intro Q ai;simp only[List.append_nil,K];exact xL hl hb (fun t ht=>by simpa using List.all_eq_true.1 ah t ht) hA X ai
 have af:∀Q:Nat→Bool,DataW.TrodVars enc P W' Q s.vars (s.fn H (ds++[])).vars []:=by
  intro Q;simp only[List.append_nil,K,J];exact rfl
 refine⟨ds,[],p,[],p,[],aa,V _ _ _,G _ S,af _,hb.frame _,fun _=>?_⟩;refine⟨ok_one ae rfl (okWide_bool_mk ad true),_,_,([]++p)++[],⟨[]++p,[],trodAll_append (G _ (fun _ _=>rfl)) (V _ _ _),af _,rfl,?_,?_⟩,?_⟩
 ·intro b off hp;simp only[List.nil_append,List.append_nil] at hp;have:=X _ hp;rw[hb.frozen (p:=⟨b,off,none⟩) this];exact hz b off hp
 ·intro ha;simpa using hn ha
 intro x hx _;simpa using hx
end
theorem zW {α:Type}{c:α→List PV}{R:α→Prop}:∀{rows:List (List PV)},(∀r∈rows,∃x:α,r=c x∧R x)→∃l:List α,rows=l.map c∧∀x∈l,R x
 |[],_=>⟨[],rfl,by simp⟩
 | r::rows,h=>by
   obtain⟨x,rfl,K⟩:=h r (by simp);obtain⟨l,rfl,G⟩:=zW (rows:=rows) (c:=c) (R:=R) fun r J=>h r (by simp[J])
   exact⟨x::l,rfl,by simpa using ⟨K,G⟩⟩
theorem wf_i64 {i:Int}(h:(Lit.int .i64 i).wf=true) : -9223372036854775808≤i∧i≤9223372036854775807:=by
 simpa[Lit.wf,IntKind.min,IntKind.max,IntKind.signed,IntKind.bits] using h
theorem wf_u64 {i:Int}(h:(Lit.int .u64 i).wf=true):0≤i∧i≤18446744073709551615:=by
 simpa[Lit.wf,IntKind.min,IntKind.max,IntKind.signed,IntKind.bits] using h
theorem wf_u8 {i:Int}(h:(Lit.int .u8 i).wf=true):0≤i∧i≤255:=by
 simpa[Lit.wf,IntKind.min,IntKind.max,IntKind.signed,IntKind.bits] using h
end Go.AX
end
