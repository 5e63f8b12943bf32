/-
  Contracts of functions of the program and of the document, each for every input that its premises name.
-/
import Derived.Test.YtfoiekbkkbnpkaaGreatBd
import Derived.Test.YtfoiekbkkbnpkaaGreatAe
import Derived.Test.YtfoiekbkkbnpkaaGreatBc
import Derived.Test.YtfoiekbkkbnpkaaGreatAf
import Derived.Test.YtfoiekbkkbnpkaaGreatBa
import Derived.Test.YtfoiekbkkbnpkaaGreatBb
set_option linter.unusedSectionVars false
set_option linter.unusedVariables false
set_option linter.unusedSimpArgs false
set_option maxRecDepth 100000
set_option maxHeartbeats 4000000
section
open Go Go.Proofs.Tryz Go.AX
namespace Go.Proofs.YtfoiekbkkbnpkaaGreat.Tb
section
variable (x:Rv)(now:Int)(r:Rs)
theorem abQ (J:x.sm)(g1:(r.bI != x.l.id)=false)(g2:(r.ak != x.ak)=false)(X:(r.kind==2)=false)(R9:(r.kind==3)=false)(k1:(r.kind==1)=true)(kn:(r.n==x.n)=true)(p3:(x.phase==3)=true)(Q:(r.code==0)=false)(S:(r.code==2)=false)(V:(r.code==4)=false) :
  dF prog 87 [.agg x.c,uu now,.agg r.c] (.cK [.agg x.c,kH []]):=by
 refine PC.le ?_;have G:=jR x J;have K:=abG x now r Q S V;clear J;refine dQ bT ?_;repeat' ((conv=>whnf);first|(with_reducible first|apply aM|apply fk<;>intro hc<;>try exact aV)|(apply mq;refine⟨_,_,G,?_⟩)|refine eF K ?_|refine aK ?_|fail)
 all_goals
  all_goals exact aJ
theorem WU (J:x.sm)(X:(r.bI != x.l.id)=false)(g2:(r.ak != x.ak)=false)(S:(r.kind==2)=false)(V:(r.kind==3)=false)(k1:(r.kind==1)=true)(kn:(r.n==x.n)=true)(p3:(x.phase==3)=true)(Q:(r.code==0)=true)(h:x.has.any (· == r.from_)=true) :
  dF prog 87 [.agg x.c,uu now,.agg r.c] (.cK [.agg x.c,kH []]):=by
 refine PC.le ?_;have G:=wC x J;have K:=WA x now r Q h;clear J h;refine dQ bT ?_;repeat' ((conv=>whnf);first|(with_reducible first|apply aM|apply fk<;>intro hc<;>try exact aV)|(apply mq;refine⟨_,_,G,?_⟩)|refine eF K ?_|refine aK ?_|fail)
 all_goals
  all_goals exact aJ
theorem WV (J:x.sm)(g1:(r.bI != x.l.id)=false)(g2:(r.ak != x.ak)=false)(R6:(r.kind==2)=false)(R9:(r.kind==3)=false)(k1:(r.kind==1)=true)(kn:(r.n==x.n)=true)(p3:(x.phase==3)=true)(k0:(r.code==0)=true)(h:x.has.any (· == r.from_)=false)(S:x.has.length≤1000000)(K:aY x.af)(V:0≤x.n∧x.n≤1000)(Q:bE (aj x) x.l.a (x.has++[r.from_])=false) :
  dF prog 87 [.agg x.c,uu now,.agg r.c] (.cK [.agg ({ x with has:=x.has++[r.from_] }:Rv).c,kH []]):=by
 refine PC.le ?_;have G:=wC x J;have X:=WB x now r k0 h S K V Q;clear J h S K V Q;refine dQ bT ?_;repeat' ((conv=>whnf);first|(with_reducible first|apply aM|apply fk<;>intro hc<;>try exact aV)|(apply mq;refine⟨_,_,G,?_⟩)|refine eF X ?_|refine aK ?_|fail)
 all_goals
  all_goals exact aJ
theorem WX (J:x.sm)(g1:(r.bI != x.l.id)=false)(g2:(r.ak != x.ak)=false)(R6:(r.kind==2)=false)(R9:(r.kind==3)=false)(k1:(r.kind==1)=true)(kn:(r.n==x.n)=true)(p3:(x.phase==3)=true)(k0:(r.code==0)=true)(h:x.has.any (· == r.from_)=false)(V:x.has.length≤1000000)(K:aY x.af)(X:0≤x.n∧x.n≤1000)(S:bE (aj x) x.l.a (x.has++[r.from_])=true)(Q:8<x.n+1) :
  dF prog 87 [.agg x.c,uu now,.agg r.c] (.cK [.agg (bB { x with has:=x.has++[r.from_] } (x.n+1) now).1.c,kH []]):=by
 refine PC.le ?_;have G:=wC x J;have hm:=WC x now r k0 h V K X S Q;clear J h V K X S Q;refine dQ bT ?_;repeat' ((conv=>whnf);first|(with_reducible first|apply aM|apply fk<;>intro hc<;>try exact aV)|(apply mq;refine⟨_,_,G,?_⟩)|refine eF hm ?_|refine aK ?_|fail)
 all_goals
  repeat' first|apply And.intro|exact aJ|fail
  all_goals try (conv=>whnf)
 all_goals (simp only[iB,j6,jM,iN,lZ];exact ay _)
theorem WY (J:x.sm)(g1:(r.bI != x.l.id)=false)(g2:(r.ak != x.ak)=false)(R6:(r.kind==2)=false)(R9:(r.kind==3)=false)(k1:(r.kind==1)=true)(kn:(r.n==x.n)=true)(p3:(x.phase==3)=true)(k0:(r.code==0)=true)(h:x.has.any (· == r.from_)=false)(X:x.has.length≤1000000)(K:aY x.af)(hn:0≤x.n∧x.n≤1000)(S:bE (aj x) x.l.a (x.has++[r.from_])=true)(Q:x.n+1≤8)(V:aY x.l.af)(hs:∀n,(setOf x.l.af x.l.w n).length≤1000000) :
  dF prog 87 [.agg x.c,uu now,.agg r.c] (.cK [.agg (bB { x with has:=x.has++[r.from_] } (x.n+1) now).1.c,kH (bB { x with has:=x.has++[r.from_] } (x.n+1) now).2]):=by
 refine PC.le ?_;have G:=wC x J;have hm:=WE x now r k0 h X K hn S Q V hs;clear J h X K hn S Q V hs;refine dQ bT ?_;repeat' ((conv=>whnf);first|(with_reducible first|apply aM|apply fk<;>intro hc<;>try exact aV)|(apply mq;refine⟨_,_,G,?_⟩)|refine eF hm ?_|refine aK ?_|fail)
 all_goals
  repeat' first|apply And.intro|exact aJ|fail
  all_goals try (conv=>whnf)
 all_goals (simp only[iB,j6,jM,iN,lZ];exact ay _)
theorem abR (J:x.sm)(g1:(r.bI != x.l.id)=false)(g2:(r.ak != x.ak)=false)(R6:(r.kind==2)=false)(R9:(r.kind==3)=false)(k1:(r.kind==1)=true)(kn:(r.n==x.n)=true)(p3:(x.phase==3)=true)(k0:(r.code==0)=false)(k2:(r.code==2)=true)(K:aY x.af)(S:0≤x.n∧x.n≤1000)(Q:x.bad.length≤1000000)(V:(aj x).length≤1000) :
  dF prog 87 [.agg x.c,uu now,.agg r.c] (.cK [.agg ({ x with bad:=aB (fun y=>y==r.from_) x.bad (aj x) }:Rv).c,kH []]):=by
 refine PC.le ?_;have G:=abt x J;have X:=abH x now r k0 k2 K S Q V;clear J K S Q V;refine dQ bT ?_;repeat' ((conv=>whnf);first|(with_reducible first|apply aM|apply fk<;>intro hc<;>try exact aV)|(apply mq;refine⟨_,_,G,?_⟩)|refine eF X ?_|refine aK ?_|fail)
 all_goals
  all_goals exact aJ
theorem abS (J:x.sm)(g1:(r.bI != x.l.id)=false)(g2:(r.ak != x.ak)=false)(R6:(r.kind==2)=false)(R9:(r.kind==3)=false)(k1:(r.kind==1)=true)(kn:(r.n==x.n)=true)(p3:(x.phase==3)=true)(k0:(r.code==0)=false)(k2:(r.code==2)=false)(k4:(r.code==4)=true)(K:aY x.af)(S:0≤x.n∧x.n≤1000)(Q:x.bad.length≤1000000)(V:(aj x).length≤1000) :
  dF prog 87 [.agg x.c,uu now,.agg r.c] (.cK [.agg ({ x with bad:=aB (fun y=>y.node==r.from_.node&&y.aH != r.from_.aH) x.bad (aj x) }:Rv).c,kH []]):=by
 refine PC.le ?_;have G:=abt x J;have X:=abI x now r k0 k2 k4 K S Q V;clear J K S Q V;refine dQ bT ?_;repeat' ((conv=>whnf);first|(with_reducible first|apply aM|apply fk<;>intro hc<;>try exact aV)|(apply mq;refine⟨_,_,G,?_⟩)|refine eF X ?_|refine aK ?_|fail)
 all_goals
  all_goals exact aJ
theorem abT (J:x.sm)(K:(r.bI != x.l.id)=true)  :
  dF prog 87 [.agg x.c,uu now,.agg r.c] (.cK [.agg x.c,kH []]):=by
 refine PC.le ?_;have G:=jR x J;clear J;refine dQ bT ?_;repeat' ((conv=>whnf);first|(with_reducible first|apply aM|apply fk<;>intro hc<;>try exact aV)|(apply mq;refine⟨_,_,G,?_⟩)|refine aK ?_|fail)
 all_goals
  all_goals exact aJ
theorem abU (J:x.sm)(K:(r.bI != x.l.id)=false)(Q:(r.ak != x.ak)=true)  :
  dF prog 87 [.agg x.c,uu now,.agg r.c] (.cK [.agg x.c,kH []]):=by
 refine PC.le ?_;have G:=jR x J;clear J;refine dQ bT ?_;repeat' ((conv=>whnf);first|(with_reducible first|apply aM|apply fk<;>intro hc<;>try exact aV)|(apply mq;refine⟨_,_,G,?_⟩)|refine aK ?_|fail)
 all_goals
  all_goals exact aJ
theorem abV (J:x.sm)(K:(r.bI != x.l.id)=false)(Q:(r.ak != x.ak)=false)(X:(r.kind==2)=true)(k3:(r.kind==3)=false)(V:(r.kind==1)=false)(S:(r.code==0)=false) :
  dF prog 87 [.agg x.c,uu now,.agg r.c] (.cK [.agg x.c,kH []]):=by
 refine PC.le ?_;have G:=jR x J;clear J;refine dQ bT ?_;repeat' ((conv=>whnf);first|(with_reducible first|apply aM|apply fk<;>intro hc<;>try exact aV)|(apply mq;refine⟨_,_,G,?_⟩)|refine aK ?_|fail)
 all_goals
  all_goals exact aJ
theorem abW (J:x.sm)(K:(r.bI != x.l.id)=false)(Q:(r.ak != x.ak)=false)(X:(r.kind==2)=true)(k3:(r.kind==3)=false)(V:(r.kind==1)=false)(S:(r.code==0)=true)(kp:decide (x.phase<4)=false) :
  dF prog 87 [.agg x.c,uu now,.agg r.c] (.cK [.agg x.c,kH []]):=by
 refine PC.le ?_;have G:=jR x J;clear J;refine dQ bT ?_;repeat' ((conv=>whnf);first|(with_reducible first|apply aM|apply fk<;>intro hc<;>try exact aV)|(apply mq;refine⟨_,_,G,?_⟩)|refine aK ?_|fail)
 all_goals
  all_goals exact aJ
theorem abX (J:x.sm)(K:(r.bI != x.l.id)=false)(Q:(r.ak != x.ak)=false)(V:(r.kind==2)=false)(X:(r.kind==3)=true)(S:(r.kind==1)=false)(kn:(r.n==x.n)=false) :
  dF prog 87 [.agg x.c,uu now,.agg r.c] (.cK [.agg x.c,kH []]):=by
 refine PC.le ?_;have G:=jR x J;clear J;refine dQ bT ?_;repeat' ((conv=>whnf);first|(with_reducible first|apply aM|apply fk<;>intro hc<;>try exact aV)|(apply mq;refine⟨_,_,G,?_⟩)|refine aK ?_|fail)
 all_goals
  all_goals exact aJ
theorem abY (J:x.sm)(K:(r.bI != x.l.id)=false)(Q:(r.ak != x.ak)=false)(V:(r.kind==2)=false)(X:(r.kind==3)=false)(S:(r.kind==1)=true)(kn:(r.n==x.n)=false) :
  dF prog 87 [.agg x.c,uu now,.agg r.c] (.cK [.agg x.c,kH []]):=by
 refine PC.le ?_;have G:=jR x J;clear J;refine dQ bT ?_;repeat' ((conv=>whnf);first|(with_reducible first|apply aM|apply fk<;>intro hc<;>try exact aV)|(apply mq;refine⟨_,_,G,?_⟩)|refine aK ?_|fail)
 all_goals
  all_goals exact aJ
theorem abZ (J:x.sm)(K:(r.bI != x.l.id)=false)(Q:(r.ak != x.ak)=false)(V:(r.kind==2)=false)(X:(r.kind==3)=false)(S:(r.kind==1)=true)(kn:(r.n==x.n)=true)(p3:(x.phase==3)=false) :
  dF prog 87 [.agg x.c,uu now,.agg r.c] (.cK [.agg x.c,kH []]):=by
 refine PC.le ?_;have G:=jR x J;clear J;refine dQ bT ?_;repeat' ((conv=>whnf);first|(with_reducible first|apply aM|apply fk<;>intro hc<;>try exact aV)|(apply mq;refine⟨_,_,G,?_⟩)|refine aK ?_|fail)
 all_goals
  all_goals exact aJ
theorem ab0 (J:x.sm)(K:(r.bI != x.l.id)=false)(Q:(r.ak != x.ak)=false)(V:(r.kind==2)=false)(X:(r.kind==3)=false)(S:(r.kind==1)=false) :
  dF prog 87 [.agg x.c,uu now,.agg r.c] (.cK [.agg x.c,kH []]):=by
 refine PC.le ?_;have G:=jR x J;clear J;refine dQ bT ?_;repeat' ((conv=>whnf);first|(with_reducible first|apply aM|apply fk<;>intro hc<;>try exact aV)|(apply mq;refine⟨_,_,G,?_⟩)|refine aK ?_|fail)
 all_goals
  all_goals exact aJ
end
theorem Ca (x:Rv)(now:Int)(r:Rs)(h:x.big)(hb:r.body.length≤1000000) :
  dF prog 87 [.agg x.c,uu now,.agg r.c] (.cK [.agg (bJ x now r).1.c,kH (bJ x now r).2]):=by
 obtain⟨G,hf,fq,h0,hn,hs,hw,ha,ai,CZ⟩:=h;obtain⟨⟨a1,a2⟩,⟨a3,a4⟩,a5,a6,a7,a8,a9⟩:=id G;have ae:∀n,(setOf x.l.af x.l.w n).length≤1000000:=fun n=>Nat.le_trans (ai n) (by decide)
 have aa:(aj x).length≤1000:=CZ x.n;have ag:(aS x).ah.length≤1000000:=by have:=a2 _ (rX h0);omega
 cases J:(r.bI != x.l.id) with
 | true=>
   rw[show bJ x now r=(x,[]) by simp only[bJ,J,Bool.true_or,↓reduceIte]];exact abT x now r G J
 |false=>
 cases K:(r.ak != x.ak) with
 | true=>
   rw[show bJ x now r=(x,[]) by simp only[bJ,J,K,Bool.or_true,↓reduceIte]];exact abU x now r G J K
 |false=>
 cases Q:(r.kind==2) with
 | true=>
   have V:=gK Q (show (2:Int)≠3 by decide);have k1:=gK Q (show (2:Int)≠1 by decide);cases S:(r.code==0) with
   | false=>
     rw[show bJ x now r=(x,[]) by simp only[bJ,J,K,Q,V,k1,S,Bool.or_self,Bool.true_and,Bool.false_and,Bool.false_eq_true,↓reduceIte]];exact abV x now r G J K Q V k1 S
   |true=>
   cases kp:decide (x.phase<4) with
   | false=>
     rw[show bJ x now r=(x,[]) by simp only[bJ,J,K,Q,V,k1,S,kp,Bool.or_self,Bool.true_and,Bool.false_and,Bool.false_eq_true,↓reduceIte]];exact abW x now r G J K Q V k1 S kp
   | true=>
     rw[show bJ x now r=fQ x now r by simp only[bJ,J,K,Q,S,kp,Bool.or_self,Bool.and_self,Bool.false_eq_true,↓reduceIte]];cases h1:(aS x).ah.any (· == r.from_) with
     | false=>
       rw[yO h1];exact WG x now r G J K Q S kp h0 a1 h1
     |true=>
     cases h2:x.heard.any (· == r.from_) with
     | true=>
       rw[yP h1 h2];exact WH x now r G J K Q S kp h0 a1 h1 h2
     |false=>
     cases p1:(x.phase==1) with
     | true=>
       have p2:=gK p1 (show (1:Int)≠2 by decide);cases h3:eu (aS x) x.l.w x.l.a (x.heard++[r.from_]) with
       | false=>
         rw[Jt h1 h2 p1 p2 h3];exact abM x now r G J K Q S kp h0 a1 a5 h1 h2 ag hw ha p1 p2 h3
       | true=>
         rw[Ju h1 h2 p1 h3];by_cases h8:8<max (min (max x.sure r.sure) 8+1) (aS x).first
         ·rw[wY h8];exact abN x now r G J K Q S kp h0 a1 a5 h1 h2 ag hw ha p1 p2 h3 hs h8
         exact abO x now r G J K Q S kp h0 a1 a5 h1 h2 ag hw ha p1 p2 h3 hs (by omega) hf ae
     |false=>
     cases p2:(x.phase==2) with
     | false=>
       rw[Jq h1 h2 p1 p2];exact abJ x now r G J K Q S kp h0 a1 a5 h1 h2 p1 p2
     |true=>
     cases h3:(aC x).any (· == r.from_) with
     | false=>
       rw[Jr h1 h2 p1 p2 h3];exact abK x now r G J K Q S kp h0 a1 a5 h1 h2 hf hn p1 p2 h3
     | true=>
       rw[Js h1 h2 p1 p2 h3];exact abL x now r G J K Q S kp h0 a1 a5 h1 h2 hf hn p1 p2 h3
 |false=>
 cases V:(r.kind==3) with
 | true=>
   have k1:=gK V (show (3:Int)≠1 by decide);cases X:(r.n==x.n) with
   | false=>
     rw[show bJ x now r=(x,[]) by simp only[bJ,J,K,Q,V,k1,X,Bool.or_self,Bool.true_and,Bool.false_and,Bool.and_false,Bool.false_eq_true,↓reduceIte]];exact abX x now r G J K Q V k1 X
   | true=>
     rw[show bJ x now r=lm x now r by simp only[bJ,J,K,Q,V,X,Bool.or_self,Bool.and_self,Bool.false_and,Bool.false_eq_true,↓reduceIte]];cases c1:(x.phase==2&&(r.code==0&&(aC x).any (· == r.from_))) with
     | true=>
       have e2:lm x now r=((aZ (aN x now r) now).1,aU (aN x now r) (aj (aN x now r))++(aZ (aN x now r) now).2):=by simp only[lm,c1,↓reduceIte]
       rw[e2];simp only[Bool.and_eq_true] at c1;obtain⟨p2,S,h1⟩:=c1;cases yD:bE (aj (aN x now r)) x.l.a [r.from_] with
       | false=>
         have e3:aZ (aN x now r) now=(aN x now r,[]):=by
          unfold aZ;exact if_neg (by show ¬(bE (aj (aN x now r)) x.l.a [r.from_]=true);rw[yD];decide)
         rw[e3,List.append_nil];exact WR x now r G J K Q V X hf fq hn hb aa p2 S h1 yD
       | true=>
         have e3:aZ (aN x now r) now=bB (aN x now r) (x.n+1) now:=by
          unfold aZ;exact if_pos yD
         rw[e3];by_cases h8:8<x.n+1
         ·rw[wY h8,List.append_nil];exact WS x now r G J K Q V X hf fq hn hb aa p2 S h1 yD h8
         exact WT x now r G J K Q V X hf fq hn hb aa p2 S h1 yD (by omega) ae
     |false=>
     cases c2:(x.phase==2&&(r.code==3&&((aC x).any (· == r.from_)&&(x.heard.any (· == r.from_) && !x.none.any (· == r.from_))))) with
     | true=>
       have e2:lm x now r=(if dL (aC x) x.l.w x.l.a (x.none++[r.from_]) then { x with none:=x.none++[r.from_],phase:=4 } else { x with none:=x.none++[r.from_] },[]):=by
        simp only[lm,c1,c2,Bool.false_eq_true,↓reduceIte]
       rw[e2];simp only[Bool.and_eq_true] at c2;obtain⟨p2,QJ,h1,h2,h3⟩:=c2;have S:=gK QJ (show (3:Int)≠0 by decide);have h3:x.none.any (· == r.from_)=false:=by simpa using h3
       cases h4:dL (aC x) x.l.w x.l.a (x.none++[r.from_]) with
       | false=>
         rw[if_neg (by decide)];exact WJ x now r G J K Q V X a6 hw ha hf hn p2 S QJ h1 h2 h3 h4
       | true=>
         rw[if_pos rfl];exact WK x now r G J K Q V X a6 hw ha hf hn p2 S QJ h1 h2 h3 h4
     |false=>
     cases c3:(x.phase==3&&(r.code==0&&decide (r.body=x.body))) with
     | false=>
       have e2:lm x now r=(x,[]):=by simp only[lm,c1,c2,c3,Bool.false_eq_true,↓reduceIte]
       rw[e2];exact abP x now r G J K Q V X hf hn c1 c2 c3
     | true=>
       have e2:lm x now r=je x now r.from_:=by simp only[lm,c1,c2,c3,Bool.false_eq_true,↓reduceIte]
       rw[e2];simp only[Bool.and_eq_true,iG] at c3;obtain⟨p3,S,ad⟩:=c3;have p2:=gK p3 (show (3:Int)≠2 by decide);cases h:x.has.any (· == r.from_) with
       | true=>
         rw[Gb h];exact WL x now r G J K Q V X hf hn p2 p3 S ad h
       |false=>
       cases yD:bE (aj x) x.l.a (x.has++[r.from_]) with
       | false=>
         rw[QE h yD];exact WM x now r G J K Q V X hf hn p2 p3 S ad h a7 fq yD
       | true=>
         rw[QG h yD];by_cases h8:8<x.n+1
         ·rw[wY h8];exact WN x now r G J K Q V X hf hn p2 p3 S ad h a7 fq yD h8
         exact WQ x now r G J K Q V X hf hn p2 p3 S ad h a7 fq yD (by omega) ae
 |false=>
 cases k1:(r.kind==1) with
 | false=>
   rw[show bJ x now r=(x,[]) by simp only[bJ,J,K,Q,V,k1,Bool.or_self,Bool.false_and,Bool.false_eq_true,↓reduceIte]];exact ab0 x now r G J K Q V k1
 |true=>
 cases X:(r.n==x.n) with
 | false=>
   rw[show bJ x now r=(x,[]) by simp only[bJ,J,K,Q,V,k1,X,Bool.or_self,Bool.true_and,Bool.false_and,Bool.false_eq_true,↓reduceIte]];exact abY x now r G J K Q V k1 X
 |true=>
 cases p3:(x.phase==3) with
 | false=>
   rw[show bJ x now r=(x,[]) by simp only[bJ,J,K,Q,V,k1,X,p3,Bool.or_self,Bool.true_and,Bool.false_and,Bool.and_false,Bool.false_eq_true,↓reduceIte]];exact abZ x now r G J K Q V k1 X p3
 | true=>
   rw[show bJ x now r=fI x now r by simp only[bJ,J,K,Q,V,k1,X,p3,Bool.or_self,Bool.and_self,Bool.false_and,Bool.false_eq_true,↓reduceIte]];cases S:(r.code==0) with
   | true=>
     rw[show fI x now r=je x now r.from_ by simp only[fI,S,↓reduceIte]];cases h:x.has.any (· == r.from_) with
     | true=>
       rw[Gb h];exact WU x now r G J K Q V k1 X p3 S h
     |false=>
     cases yD:bE (aj x) x.l.a (x.has++[r.from_]) with
     | false=>
       rw[QE h yD];exact WV x now r G J K Q V k1 X p3 S h a7 fq hn yD
     | true=>
       rw[QG h yD];by_cases h8:8<x.n+1
       ·rw[wY h8];exact WX x now r G J K Q V k1 X p3 S h a7 fq hn yD h8
       exact WY x now r G J K Q V k1 X p3 S h a7 fq hn yD (by omega) hf ae
   |false=>
   cases GZ:(r.code==2) with
   | true=>
     rw[show fI x now r=({ x with bad:=aB (· == r.from_) x.bad (aj x) },[]) by simp only[fI,S,GZ,Bool.false_eq_true,↓reduceIte]];exact abR x now r G J K Q V k1 X p3 S GZ fq hn a8 aa
   |false=>
   cases k4:(r.code==4) with
   | true=>
     rw[show fI x now r=({ x with bad:=aB (fun y=>y.node==r.from_.node&&y.aH != r.from_.aH) x.bad (aj x) },[]) by simp only[fI,S,GZ,k4,Bool.false_eq_true,↓reduceIte]];exact abS x now r G J K Q V k1 X p3 S GZ k4 fq hn a8 aa
   | false=>
     rw[show fI x now r=(x,[]) by simp only[fI,S,GZ,k4,Bool.false_eq_true,↓reduceIte]];exact abQ x now r G J K Q V k1 X p3 S GZ k4
structure Ls (s:Sk):Prop where
 w:WrB s.w
 lf:(aL s.w.l.af).ah.length≤5
 ww:s.w.l.w≤5
 ch:s.w.change.ok
 bH:s.bH.length≤90
 has:s.has.length≤100000
 told:s.told.length≤100000
 Dp:s.aF.length≤100000
 bS:s.bS.length≤8
 hb:∀h∈s.has,h.body.length≤3000
 now:gU s.now
 nx:gU s.w.next
 su:0≤s.w.sure∧s.w.sure<18446744073709551615
 ep:0≤s.first∧s.first≤s.ak∧s.ak≤2305843009213693952
 rv:s.first<s.ak→s.r.big
 pl:dh s.x.w s.x.af=true
theorem uq:bM prog 145 f145:=fO func145
theorem VY (s:Sk)(to:Int)(r:Rs)(h:Ls s)(hr:r.body.length≤1000000) :
  dX prog 145 [.ptr 1 0,.pv (uu to),.pv (.agg r.c)] (zi s) (.pv (.cK [])) (Lr (gy s to r)):=by
 refine l7 ?_ rfl;cases Q:(to==0) with
 | true=>
   have e:gy s to r={ s with w:=jf s.w r }:=by unfold gy;rw[if_pos (by simpa using Q)]
   rw[e];have J:=aee s.w s.now r h.w (Nat.le_trans h.lf (by decide));generalize jf s.w r=w' at *;clear e h;refine fw uq ?_;repeat' ((conv=>whnf);first|(with_reducible first|apply aM|apply fk<;>intro hc<;>try exact iA)|refine eT J ?_|refine aK ?_|fail)
   refine⟨_,_,⟨rfl,rfl⟩,?_⟩;all_goals exact aJ
 |false=>
 cases S:(to==s.ak) with
 | false=>
   have e:gy s to r=s:=by
    unfold gy;rw[if_neg (by simpa using Q),if_neg (fun h=>by rw[beq_eq_false_iff_ne] at S;exact S h.1)]
   rw[e];clear e h;refine fw uq ?_;repeat' ((conv=>whnf);first|(with_reducible first|apply aM|apply fk<;>intro hc<;>try exact iA)|refine aK ?_|fail)
   refine⟨_,_,⟨rfl,rfl⟩,?_⟩;all_goals exact aJ
 |true=>
 cases V:decide (s.ak>s.first) with
 | false=>
   have e:gy s to r=s:=by
    unfold gy;rw[if_neg (by simpa using Q),if_neg (fun h=>by rw[decide_eq_false_iff_not] at V;exact V h.2)]
   rw[e];clear e h;refine fw uq ?_;repeat' ((conv=>whnf);first|(with_reducible first|apply aM|apply fk<;>intro hc<;>try exact iA)|refine aK ?_|fail)
   refine⟨_,_,⟨rfl,rfl⟩,?_⟩;all_goals exact aJ
 | true=>
   have G:s.ak>s.first:=by simpa using V
   have e:gy s to r=iq { s with r:=(bJ s.r s.now r).1 } to (bJ s.r s.now r).2:=by
    unfold gy;rw[if_neg (by simpa using Q),if_pos ⟨by simpa using S,G⟩]
   rw[e];have K:=h.rv G;have J:=Ca s.r s.now r K hr;have hq:=VA K.hset K.CZ s.now r;have aa:=h.bH;obtain⟨⟨r',q⟩,hy⟩:∃y,bJ s.r s.now r=y:=⟨_,rfl⟩;rw[hy] at J hq ⊢;simp only at J hq ⊢;have X:=pq { s with r:=r' } to q (by omega) (by simp only;omega);clear e h hy K G;refine fw uq ?_;repeat' ((conv=>whnf);first|(with_reducible first|apply aM|apply fk<;>intro hc<;>try exact oG)|rewrite[nE]|rewrite[nG]|refine eT J ?_|refine eF X ?_|refine aK ?_|fail)
   refine⟨_,_,⟨rfl,rfl⟩,?_⟩;all_goals exact aJ
theorem yU:bM prog 93 f93:=fO func93
theorem VZ (s:Sk)(x:Lk)(h:Ls s)(K:x.r.body.length≤1000000) :
  dX prog 93 [.ptr 1 0,.pv (.agg x.c)] (zi s) (.pv (.cK [])) (Lr (gQ s x)):=by
 refine l7 ?_ rfl;cases Q:x.ask with
 | false=>
   have e:gQ s x=gy s x.to x.r:=by unfold gQ;rw[if_pos Q]
   rw[e];have V:=VY s x.to x.r h K;generalize gy s x.to x.r=t at *;clear e h K;refine fw yU ?_;repeat' ((conv=>whnf);first|(with_reducible first|apply aM|apply fk<;>intro hc<;>try exact iA)|rewrite[nE]|rewrite[nG]|refine eF V ?_|refine aK ?_|fail)
   refine⟨_,_,⟨rfl,rfl⟩,?_⟩;all_goals exact aJ
 | true=>
   have G:=Rm s x.q (x.to==0) (by have:=h.Dp;omega) (by have:=h.has;omega) (by have:=h.told;omega) (fun y X=>by have:=h.hb y X;omega);obtain⟨⟨t,r⟩,J⟩:∃y,bQ s x.q (x.to==0)=y:=⟨_,rfl⟩;have e:gQ s x=if (t.bH.length:Int)<90 then { t with bH:=t.bH++[⟨false,x.to,Xv,r⟩] } else t:=by
    unfold gQ;rw[if_neg (by rw[Q];decide),J]
   rw[J] at G;simp only at G;rw[e];clear e J h K;cases S:decide (((t.bH.map Lk.c).length:Int)<90) with
   | true=>
     rw[if_pos (by simpa using S)];refine fw yU ?_;repeat' ((conv=>whnf);first|(with_reducible first|apply aM|apply fk<;>intro hc<;>try exact iA)|rewrite[nE]|rewrite[nG]|refine eF G ?_|(((with_reducible apply And.intro);focus (rw[List.length_map] at *;simp only[iG,fG,jo,jq] at *;omega)))|refine aK ?_|fail)
     refine⟨_,_,⟨rfl,rfl⟩,?_⟩;repeat' first|apply And.intro|exact aJ|fail
     all_goals try (conv=>whnf)
     all_goals first
      |(rw[List.map_append];refine bW (ay _) ?_;(repeat' first|apply And.intro|exact aJ|fail);(all_goals try (conv=>whnf)))
      |trace_state
   | false=>
     rw[if_neg (by simpa using S)];refine fw yU ?_;repeat' ((conv=>whnf);first|(with_reducible first|apply aM|apply fk<;>intro hc<;>try exact iA)|rewrite[nE]|rewrite[nG]|refine eF G ?_|refine aK ?_|fail)
     refine⟨_,_,⟨rfl,rfl⟩,?_⟩;all_goals exact aJ
theorem aer (l:List Fr)(S:l.length≤1000000)(f:FuncId)(first J:List PV)(p:Fr→Bool)(hp:∀x∈l,dF prog f (first++([.agg x.c]++J)) (bl (p x))) :
  dX prog 175 [.aO 1 0,.pv (.fn (.func f) first J)] [(1,.arr 48 0 2 (l.map Fr.c))] (.pv (.cK [.agg ((iY p l).getD kT).c,bl (iY p l).isSome])) [(1,.arr 48 0 2 (l.map Fr.c))]:=by
 refine fw K3 ?_;repeat' ((conv=>whnf);first|(with_reducible first|apply aM|apply fk<;>intro hc<;>try exact aV)|refine aK ?_|fail)
 refine⟨{k:Nat // k≤l.length},fun⟨k,_⟩=>⟨[(1,.pv (.fn (.func f) first J)),(4,.ptr 1004 0),(5,.pv (bl (iY p (l.take k)).isSome)),(8,.aO 1 0),(9,.pv (ii l.length)),(10,.pv (ii k))],1000000000,[(1,.arr 48 0 2 (l.map Fr.c)),(1004,.var [.pv (uu ((iY p (l.take k)).getD kT).first),.pv (av ((iY p (l.take k)).getD kT).ah)])]⟩,fun⟨k,_⟩=>l.length-k,⟨⟨0,by simp⟩,aD ?_⟩,?_⟩
 ·repeat' first|apply And.intro|exact aJ|fail
  all_goals try (conv=>whnf)
  all_goals simp
 rintro⟨k,V⟩
 by_cases G:k<l.length
 ·have Q:decide ((k:Int)<(l.length:Int))=true:=by simp only[iG];omega
  have hs:iY p (l.take (k+1))=if p l[k] then some l[k] else iY p (l.take k):=F5 _ _ _ _ G
  repeat' ((conv=>whnf);first|(with_reducible first|apply aM|apply fk<;>intro hc<;>try exact aV)|((refine⟨_,dR _ _ _ G,?_⟩))|(apply bX;refine⟨_,hp _ (List.getElem_mem G),?_⟩)|(((with_reducible apply And.intro);focus (rw[List.length_map];omega)))|refine aK ?_|fail)
  ·refine⟨⟨k+1,G⟩,dec_lt G,aD ?_⟩;repeat' first|apply And.intro|exact aJ|fail
   all_goals try (conv=>whnf)
   all_goals first|exact bF (by omega) (by omega)|(rw[hs,if_pos hc];first|rfl|exact ay _)
  refine⟨⟨k+1,G⟩,dec_lt G,aD ?_⟩;repeat' first|apply And.intro|exact aJ|fail
  all_goals try (conv=>whnf)
  all_goals first|exact bF (by omega) (by omega)|(rw[hs,if_neg (by simp[hc])];first|done|exact ay _)
 have K:k=l.length:=by omega
 subst K;have Q:decide ((l.length:Int)<(l.length:Int))=false:=by simp
 dsimp only
 rw[List.take_length];repeat' ((conv=>whnf);first|(with_reducible first|apply aM|apply fk<;>intro hc<;>try exact aV)|refine aK ?_|fail)
 refine⟨_,_,⟨rfl,rfl⟩,?_⟩;all_goals exact aJ
theorem sJ (l:List Fr)(n:Int)(G:l.length≤1000000)(h:aY l):dX prog 150 [.aO 1 0,.pv (uu n)] [(1,.arr 48 0 2 (l.map Fr.c))] (.pv (.cK [.agg ((eH l n).getD kT).c,bl (eH l n).isSome])) [(1,.arr 48 0 2 (l.map Fr.c))]:=by
 refine fw N8 ?_;repeat' ((conv=>whnf);first|(with_reducible first|apply aM|apply fk<;>intro hc<;>try exact aV)|(apply mq;refine⟨_,_,aer l G _ _ _ _ fun x _=>N7 n x,?_⟩)|(apply bX;refine⟨_,mO _ (by have:=F6 h n;exact Nat.le_trans (Nat.mul_le_mul_right 16 this) (by decide)),?_⟩)|refine aK ?_|fail)
 refine⟨_,_,⟨rfl,rfl⟩,?_⟩;all_goals exact aJ
theorem aes (l:List Fr)(w n:Int)(hb:l.length≤1000000)(h:aY l)(hn:0≤n∧n≤18446744073709551615):dX prog 108 [.aO 1 0,.pv (ii w),.pv (uu n)] [(1,.arr 48 0 2 (l.map Fr.c))] (.pv (av (setOf l w n))) [(1,.arr 48 0 2 (l.map Fr.c))]:=by
 cases K:eH l n with
 | none=>
   have J:=sJ l n hb h;rw[K] at J;simp only[Option.getD_none,Option.isSome_none] at J;refine fw Au ?_;repeat' ((conv=>whnf);first|(with_reducible first|apply aM|apply fk<;>intro hc<;>try exact aV)|(apply mq;refine⟨_,_,J,?_⟩)|refine aK ?_|fail)
   refine⟨_,_,⟨rfl,rfl⟩,?_⟩;repeat' first|apply And.intro|exact aJ|fail
   all_goals try (conv=>whnf)
   simp[setOf,K]
 | some f=>
   obtain⟨⟨f1,f2,f3⟩,f4⟩:=wX h K;have J:=sJ l n hb h;rw[K] at J;simp only[Option.getD_some,Option.isSome_some] at J;have X (G:0<f.ah.length):IntKind.i64.wrap ((IntKind.u64.wrap (n-f.first)).tmod (IntKind.u64.wrap ((f.ah.map Pl.c).length:Int)))=(n-f.first)%(f.ah.length:Int):=by
    rw[gX (by omega) (by omega),List.length_map,gX (by omega) (by omega),Int.tmod_eq_emod_of_nonneg (by omega)];have h1:=Int.emod_nonneg (n-f.first) (b:=(f.ah.length:Int)) (by omega);have h2:=Int.emod_lt_of_pos (n-f.first) (b:=(f.ah.length:Int)) (by omega);exact bF (by omega) (by omega)
   by_cases Q:w<1
   ·have V:decide (w<1)=true:=by simp only[iG];omega
    clear Q;refine fw Au ?_;repeat' ((conv=>whnf);first|(with_reducible first|apply aM|apply fk<;>intro hc<;>try exact aV)|(apply mq;refine⟨_,_,J,?_⟩)|refine aK ?_|fail)
    all_goals
     refine⟨_,_,⟨rfl,rfl⟩,?_⟩;repeat' first|apply And.intro|exact aJ|fail
     all_goals try (conv=>whnf)
    all_goals
     simp only[iG] at V;simp only[setOf,K];rw[if_neg (by omega)];rfl
   by_cases S:w>(f.ah.length:Int)
   ·have V:decide (w<1)=false:=by simp only[uS];omega
    have d2:decide (w>((f.ah.map Pl.c).length:Int))=true:=by rw[List.length_map];simp only[iG];omega
    clear Q S;refine fw Au ?_;repeat' ((conv=>whnf);first|(with_reducible first|apply aM|apply fk<;>intro hc<;>try exact aV)|(apply mq;refine⟨_,_,J,?_⟩)|refine aK ?_|fail)
    all_goals
     refine⟨_,_,⟨rfl,rfl⟩,?_⟩;repeat' first|apply And.intro|exact aJ|fail
     all_goals try (conv=>whnf)
    all_goals
     simp only[iG,uS,fG] at V d2;simp only[setOf,K];rw[if_neg (by omega)];rfl
   have V:decide (w<1)=false:=by simp only[uS];omega
   have d2:decide (w>((f.ah.map Pl.c).length:Int))=false:=by rw[List.length_map];simp only[uS];omega
   have G:0<f.ah.length:=by omega
   have X:=X G;have h1:=Int.emod_nonneg (n-f.first) (b:=(f.ah.length:Int)) (by omega);have h2:=Int.emod_lt_of_pos (n-f.first) (b:=(f.ah.length:Int)) (by omega);have aa:=K4 f.ah (IntKind.i64.wrap ((IntKind.u64.wrap (n-f.first)).tmod (IntKind.u64.wrap ((f.ah.map Pl.c).length:Int)))) w G f3 (by rw[X];exact⟨h1,h2⟩) ⟨by omega,by omega⟩;have ad:1≤w∧w≤(f.ah.length:Int):=by omega
   clear Q S;refine fw Au ?_;repeat' ((conv=>whnf);first|(with_reducible first|apply aM|apply fk<;>intro hc<;>try exact aV)|(apply mq;refine⟨_,_,J,?_⟩)|(((with_reducible apply And.intro);focus (rw[List.length_map,gX (by omega) (by omega)];omega)))|refine eT aa ?_|refine aK ?_|fail)
   refine⟨_,_,⟨rfl,rfl⟩,?_⟩;repeat' first|apply And.intro|exact aJ|fail
   all_goals try (conv=>whnf)
   refine gJ ?_;rw[X];simp only[setOf,K];rw[if_pos (by omega)]
theorem Wj:bM prog 140 f140:=fO func140
theorem kU (now since t:Int)(G:0≤now∧now≤18446744073709551615)(J:0≤since∧since≤18446744073709551615):dF prog 140 [uu now,uu since,uu t] (bl (dY now since t)):=by
 refine PC.le ?_;have e:IntKind.u64.wrap ((if since>now then since else now)-since)=(if since>now then since else now)-since:=gX (by split<;>omega) (by split<;>omega);refine dQ Wj ?_;repeat' ((conv=>whnf);first|(with_reducible first|apply aM|apply fk<;>intro hc<;>try exact aV)|refine aK ?_|fail)
 repeat' first|apply And.intro|exact aJ|fail
 all_goals try (conv=>whnf)
 rw[e];rfl
theorem vZ:bM prog 85 f85:=fO func85
theorem afD (l:Lg)(G now:Int)(X:l.ok)(S:dN l=true→0<l.af.length∧l.af.length≤1000∧∀f∈l.af,f.ah.length≤1000) :
  dF prog 85 [.agg l.c,uu G,uu now] (.cK [.agg (oq l G now).1.c,kH (oq l G now).2.1,ii (oq l G now).2.2]):=by
 refine PC.le ?_;have K:=Dt l X;cases J:dN l with
 | false=>
   have e:oq l G now=(⟨⟨0,0,0,[],0,0⟩,0,0,[],0,0,[],[],[],[],[],0,0⟩,[],1):=by simp only[oq,J,Bool.not_false,Bool.true_or,↓reduceIte]
   rw[e];rw[J] at K;clear S;refine dQ vZ ?_;repeat' ((conv=>whnf);first|(with_reducible first|apply aM|apply fk<;>intro hc<;>try exact aV)|(apply bX;refine⟨_,K,?_⟩)|refine aK ?_|fail)
   all_goals
    all_goals exact aJ
 |true=>
 rw[J] at K;obtain⟨f0,f1,f2⟩:=S J;cases e2:(l.closed != 0) with
 | true=>
   have e:oq l G now=(⟨⟨0,0,0,[],0,0⟩,0,0,[],0,0,[],[],[],[],[],0,0⟩,[],1):=by simp only[oq,J,e2,Bool.or_true,Bool.true_or,↓reduceIte]
   rw[e];refine dQ vZ ?_;repeat' ((conv=>whnf);first|(with_reducible first|apply aM|apply fk<;>intro hc<;>try exact aV)|(apply bX;refine⟨_,K,?_⟩)|refine aK ?_|fail)
   all_goals
    all_goals exact aJ
 |false=>
 cases e3:decide (G<1) with
 | true=>
   have e:oq l G now=(⟨⟨0,0,0,[],0,0⟩,0,0,[],0,0,[],[],[],[],[],0,0⟩,[],1):=by simp only[oq,J,e2,e3,Bool.or_true,Bool.true_or,↓reduceIte]
   rw[e];refine dQ vZ ?_;repeat' ((conv=>whnf);first|(with_reducible first|apply aM|apply fk<;>intro hc<;>try exact aV)|(apply bX;refine⟨_,K,?_⟩)|refine aK ?_|fail)
   all_goals
    all_goals exact aJ
 |false=>
 cases e4:decide (G>4611686018427387903) with
 | true=>
   have e:oq l G now=(⟨⟨0,0,0,[],0,0⟩,0,0,[],0,0,[],[],[],[],[],0,0⟩,[],1):=by simp only[oq,J,e2,e3,e4,Bool.or_true,↓reduceIte]
   rw[e];refine dQ vZ ?_;repeat' ((conv=>whnf);first|(with_reducible first|apply aM|apply fk<;>intro hc<;>try exact aV)|(apply bX;refine⟨_,K,?_⟩)|refine aK ?_|fail)
   all_goals
    all_goals exact aJ
 |false=>
 obtain⟨x,V⟩:∃x:Rv,x=⟨l,G,0,[],0,0,[],[],[],l.af,[],0,0⟩:=⟨_,rfl⟩;have ad:x.sm:=by
  subst V;exact⟨⟨f1,f2⟩,⟨f1,f2⟩,by simp,by simp,by simp,by simp,by simp⟩
 have aa:=jR x ad;have gN:aS x∈x.l.af:=rX (by rw[V];exact f0);have uR:=JP { x with phase:=1,born:=now } now rfl (by rw[V];exact f0) (by rw[V];exact f1) (by have:=f2 (aS x) (by rw[V] at gN ⊢;exact gN);show (aS x).ah.length≤1000000;omega);have e:oq l G now=({ x with phase:=1,born:=now,since:=now },ic { x with phase:=1,born:=now } (aS x).ah,0):=by
  subst V;simp only[oq,J,e2,e3,e4,Bool.not_true,Bool.or_self,Bool.false_eq_true,↓reduceIte];rfl
 rw[e];rw[show aS { x with phase:=1,born:=now }=aS x from rfl] at uR;obtain⟨Q,hQ⟩:∃Q,ic { x with phase:=1,born:=now } (aS x).ah=Q:=⟨_,rfl⟩;rw[hQ] at uR ⊢;clear hQ gN ad e f0 f1 f2 S X;subst V;refine dQ vZ ?_;repeat' ((conv=>whnf);first|(with_reducible first|apply aM|apply fk<;>intro hc<;>try exact aV)|(apply bX;refine⟨_,K,?_⟩)|refine eF aa ?_|(refine Or.inr ?_;(conv=>whnf);refine⟨_,bY bV (bZ mixed bV) jN rfl ?_,fun _ _ h=>h⟩)|refine eF uR ?_|refine aK ?_|fail)
 all_goals
  all_goals exact aJ
theorem RB (x:Rv)(hf:aY x.af)(G:x.af.length≤1000000)(J:0≤x.n∧x.n≤18446744073709551615) :
  dX prog 141 [.ptr 1 0] [(1,.var (x.v (.pv (av x.heard)) (.pv (av x.none)) (.pv (av x.has)) (.aO 2 0) (.aO 3 0) (.pv (.sc (.slice none 0 0))))),(2,.arr 48 0 2 (x.af.map Fr.c)),(3,.arr 27 0 2 (x.bad.map Pl.c))] (.pv (av (aj x)))
   [(1,.var (x.v (.pv (av x.heard)) (.pv (av x.none)) (.pv (av x.has)) (.aO 2 0) (.aO 3 0) (.pv (.sc (.slice none 0 0))))),(2,.arr 48 0 2 (x.af.map Fr.c)),(3,.arr 27 0 2 (x.bad.map Pl.c))]:=by
 refine fw kr ?_;repeat' ((conv=>whnf);first|(with_reducible first|apply aM|apply fk<;>intro hc<;>try exact aV)|(apply mq;refine⟨_,_,aes _ _ _ G hf J,?_⟩)|refine aK ?_|fail)
 refine⟨_,_,⟨rfl,rfl⟩,?_⟩;all_goals exact aJ
theorem sK:bM prog 142 f142:=fO func142
section
variable (x:Rv)(known:List Pl)(hk:known.length≤1000)(hf:aY x.af)(hfl:x.af.length≤1000)(H8:∀f∈x.af,f.ah.length≤1000)
include hk hf hfl H8
theorem xh:(gM x).ah.length≤1000:=by
 unfold gM;cases h:eH x.af x.n with
 |none=>simp[kT]
 |some f=>exact H8 f (nu _ _ _ h).1
theorem Oq (S:(dx x known).2=false) :
  dX prog 142 [.ptr 1 0,.pv (av known)] [(1,.var (x.v (.pv (av x.heard)) (.pv (av x.none)) (.pv (av x.has)) (.aO 2 0) (.aO 3 0) (.pv (.sc (.slice none 0 0))))),(2,.arr 48 0 2 (x.af.map Fr.c)),(3,.arr 27 0 2 (x.bad.map Pl.c))] (.pv (bl false))
   [(1,.var (({ x with bad:=[] }:Rv).v (.pv (av x.heard)) (.pv (av x.none)) (.pv (av x.has)) (.aO 2 0) (.pv (av [])) (.pv (.sc (.slice none 0 0))))),(2,.arr 48 0 2 (x.af.map Fr.c)),(3,.d9 0 2 (x.bad.map Pl.c))]:=by
 have J:=sJ x.af x.n (by omega) hf;have K:dF prog 81 [.agg (gM x).c,ii x.l.w,ii ((List.map Pl.c (gM x).ah).length:Int),av x.bad,av known] (.cK [.agg (dx x known).1.c,bl (dx x known).2]):=by
  rw[List.length_map];exact wm _ _ _ _ _ (xh x known hk hf hfl H8) hk
 rw[S] at K;rw[show ((eH x.af x.n).getD kT)=gM x from rfl] at J;obtain⟨F,V⟩:∃F,gM x=F:=⟨_,rfl⟩;obtain⟨G,X⟩:∃G,(dx x known).1=G:=⟨_,rfl⟩;obtain⟨ok,Q⟩:∃ok,(eH x.af x.n).isSome=ok:=⟨_,rfl⟩;rw[V] at J K;rw[X] at K;rw[Q] at J;clear V X S Q H8 hf;refine fw sK ?_;repeat' ((conv=>whnf);first|(with_reducible first|apply aM|apply fk<;>intro hc<;>try exact aV)|(refine Or.inr ?_;(conv=>whnf);refine⟨_,_,bP (J) ?_,?_⟩;exact oF)|refine eT K ?_|(((with_reducible apply And.intro);focus (simp only[fG,iG] at *;rw[bF (by omega) (by omega)];omega)))|refine aK ?_|fail)
 all_goals
  refine⟨_,_,⟨rfl,rfl⟩,?_⟩;all_goals exact aJ
end
theorem JI:bM prog 35 f35:=fO func35
theorem aaz {l:Lg}(h:dh l.w l.af=true)(J now:Int):(oq l J now).2.1.length≤5:=by
 unfold oq;split
 ·exact Nat.zero_le _
 refine Nat.le_trans (Di _ _) ?_;have G:=dO h;rw[vN (by exact G.1.1)];show (aL l.af).ah.length≤5
 have:=G.2 _ (iU G.1.1);simp only[iK,Bool.and_eq_true,dA,iG] at this;omega
theorem Ob (s:Sk)(h:Ls s) :
  dX prog 35 [.ptr 1 0] (zi s) (.pv (.cK [])) (Lr (jv s)):=by
 refine l7 ?_ rfl;obtain⟨⟨l0,l6⟩,X⟩:=dO h.pl;have G:∀f∈s.x.af,f.ah.length≤5:=fun f J=>by
  have:=X f J;simp only[iK,Bool.and_eq_true,dA,iG] at this;omega
 have K:=afD s.x (s.ak+1) s.now (fun f J=>by have:=G f J;omega) (fun _=>⟨l0,by omega,fun f J=>by have:=G f J;omega⟩);have hq:=aaz h.pl (s.ak+1) s.now;have aa:=h.bH;have Eg:=h.ep;have V:IntKind.u64.wrap (s.ak+1)=s.ak+1:=gX (by omega) (by omega);unfold jv;obtain⟨⟨r',q,er⟩,hy⟩:∃y,oq s.x (s.ak+1) s.now=y:=⟨_,rfl⟩;rw[hy] at K hq ⊢;simp only at K hq ⊢;clear hy h X G l0 l6 Eg;cases S:(er==0) with
 | false=>
   rw[if_neg (by simpa using S)];refine fw JI ?_;repeat' ((conv=>whnf);first|(with_reducible first|apply aM|apply fk<;>intro hc<;>try exact iA)|rewrite[V]|refine eT K ?_|refine aK ?_|fail)
   refine⟨_,_,⟨rfl,rfl⟩,?_⟩;all_goals exact aJ
 | true=>
   rw[if_pos (by simpa using S)];have Q:=pq { s with ak:=s.ak+1,r:=r' } (s.ak+1) q (by omega) (by simp only;omega);refine fw JI ?_;repeat' ((conv=>whnf);first|(with_reducible first|apply aM|apply fk<;>intro hc<;>try exact iA)|rewrite[V]|rewrite[nE]|rewrite[nG]|refine eT K ?_|refine eF Q ?_|refine aK ?_|fail)
   refine⟨_,_,⟨rfl,rfl⟩,?_⟩;all_goals exact aJ
end Go.Proofs.YtfoiekbkkbnpkaaGreat.Tb
end
section
open Go Go.Proofs.Tryz Go.AX
namespace Go.Proofs.YtfoiekbkkbnpkaaGreat.Tb
end Go.Proofs.YtfoiekbkkbnpkaaGreat.Tb
end
section
open Go Go.Proofs.Tryz Go.AX
namespace Go.Proofs.YtfoiekbkkbnpkaaGreat.Tb
end Go.Proofs.YtfoiekbkkbnpkaaGreat.Tb
end
section
open Go Go.Proofs.Tryz Go.AX
namespace Go.Proofs.YtfoiekbkkbnpkaaGreat.Tb
def Uf (G:List Hp)(n:Int)(k:Nat):List Pl:=bn (G.take k) n
theorem Od (G:List Hp)(n:Int)(k:Nat)(h:k<G.length):Uf G n (k+1)=if G[k].n==n then Uf G n k++[G[k].x] else Uf G n k:=by
 unfold Uf bn;rw[List.take_succ_eq_append_getElem h,List.filter_append,List.map_append];cases e:(G[k].n==n)<;>simp[e]
theorem Lp:bM prog 22 f22:=fO func22
theorem Dx (l:List Fr)(hl:l.length≤1000000)(S:∀f∈l,f.ah.length≤1000000):dX prog 22 [.pv (cB l)] [] (.aO 1001 0) [(1001,.arr 48 0 2 (l.map Fr.c))]:=by
 refine fw Lp ?_;repeat' ((conv=>whnf);first|(with_reducible first|apply aM|apply fk<;>intro hc<;>try exact aV)|refine aK ?_|fail)
 refine⟨{k:Nat // k≤l.length},fun⟨k,_⟩=>⟨[(0,.pv (cB l)),(3,.aO 1001 0),(4,.pv (ii k))],1000000000,[(1001,.arr 48 0 2 ((l.take k).map Fr.c))]⟩,fun⟨k,_⟩=>l.length-k,⟨⟨0,Nat.zero_le _⟩,aD ?_⟩,?_⟩
 ·all_goals exact aJ
 rintro⟨k,hk⟩
 dsimp only
 by_cases G:k<l.length
 rotate_left
 ·have Q:k=l.length:=by omega
  subst Q;have d0:decide ((l.length:Int)<((l.map Fr.c).length:Int))=false:=by simp
  rw[List.take_length];repeat' ((conv=>whnf);first|(with_reducible first|apply aM|apply fk<;>intro hc<;>try exact aV)|refine aK ?_|fail)
  refine⟨_,_,⟨rfl,rfl⟩,?_⟩;all_goals exact aJ
 have d0:decide ((k:Int)<((l.map Fr.c).length:Int))=true:=by simp only[fG,iG];omega
 have eW:IntKind.i64.wrap ((k:Int)+1)=((k+1:Nat):Int):=by rw[bF (by omega) (by omega)];omega
 have X:=dR Fr.c l k G;have K:=S _ (List.getElem_mem G);have J:=List.take_succ_eq_append_getElem G;obtain⟨f,V⟩:∃f,l[k]=f:=⟨_,rfl⟩;rw[V] at X K J;replace J:=Hd.mk J;clear V S;repeat' ((conv=>whnf);first|(with_reducible first|apply aM|apply fk<;>intro hc<;>try exact iA)|((refine⟨_,X,?_⟩))|(((with_reducible apply And.intro);focus (simp only[fG,jo,jq,List.length_take];omega)))|refine aK ?_|fail)
 refine⟨⟨k+1,G⟩,dec_lt G,aD ?_⟩;dsimp only
 rw[J.out,List.map_append];repeat' first|apply And.intro|exact aJ|fail
 all_goals try (conv=>whnf)
 all_goals first
  |exact eW
  |(refine bW (ay _) ?_;(repeat' first|apply And.intro|exact aJ|fail);(all_goals try (conv=>whnf)))
  |skip
theorem qm {l:List Fr}{w n:Int}(h:w≤5):(setOf l w n).length≤5:=by
 have:=jI l w n;omega
theorem JY (w:Wr)(x:Wt):(kM w x).length≤w.l.w.toNat:=by
 have G:=sO w x (fD w x.n);rw[sN] at G;exact Nat.le_trans G (jI _ _ _)
theorem Rp {w:Wr}{now:Int}{b:List UInt8}(h:w.l.w≤5):(iC w now b).2.1.length≤5:=by
 unfold iC;split
 ·simp
 split
 ·simp
 split
 ·simp
 have:=JY w ⟨w.next,b,[],now,now⟩;simp only;omega
theorem Eu (n:Int):gU (IntKind.u64.wrap n):=by
 have h:(18446744073709551616:Int)≠0:=by decide
 have e:IntKind.u64.wrap n=n%18446744073709551616:=by
  simp[IntKind.wrap,IntKind.bits,IntKind.signed]
 rw[e];exact⟨Int.emod_nonneg _ h,by have:=Int.emod_lt_of_pos n (b:=18446744073709551616) (by decide);omega⟩
theorem OZ {w:Wr}(h:w.l.w≤5):∀(l:List Wt),(l.flatMap (kM w)).length≤5*l.length
 |[]=>by simp
 | y::l=>by
   have G:=JY w y;have J:=OZ h l;rw[List.flatMap_cons,List.length_append,List.length_cons];omega
theorem Lb {w:Wr}(h:WrB w)(J:w.l.w≤5)(now:Int)(ok:Bool):(dP w now ok).2.length≤5000:=by
 cases G:(w.change.first==0) with
 |true=>unfold dP;rw[if_pos (by simpa using G)];simp
 | false=>
   rw[GU w now ok G _ rfl _ rfl];simp only;refine Nat.le_trans (OZ ?_ _) ?_
   ·exact J
   rw[List.length_drop];have:=h.wl;omega
end Go.Proofs.YtfoiekbkkbnpkaaGreat.Tb
end
section
open Go Go.Proofs.Tryz Go.AX
namespace Go.Proofs.YtfoiekbkkbnpkaaGreat.Tb
end Go.Proofs.YtfoiekbkkbnpkaaGreat.Tb
end
section
open Go Go.Proofs.Tryz Go.AX
namespace Go.Proofs.YtfoiekbkkbnpkaaGreat.Tb
theorem ko:bM prog 91 f91:=fO func91
def skX (s:Sk)(X:AV)(rows:List (List PV)):List (Nat×aI):=[(1,.var ((skA s (.aO 1001 0) (.aO 1002 0) (.aO 1003 0) (.aO 1004 0) (.aO 1005 0)).set 3 X)),(2,.d9 1 21 []),(3,.d9 1 4 []),(4,.d9 1 4 []),(5,.d9 1 4 []),(6,.d9 1 1 []),(1001,.arr 95 0 21 (s.bH.map Lk.c)),(1002,.arr 202 0 4 (s.has.map Hp.c)),(1003,.arr 202 0 4 (s.told.map Hp.c)),(1004,.arr 221 0 4 (s.aF.map Fk.c)),(1005,.arr 9 0 1 (s.bS.map Ap)),(1006,.arr 48 0 2 rows)]
theorem Rn (s:Sk)(x:sP)(h:Ls s)(hk:x.known.length≤1000) :
  dX prog 91 [.ptr 1 0,.pv (.agg x.c)] (zi s) (.pv (.cK [])) (Lr (kF s x.e x.known)):=by
 have S:=aho s.w x.e x.known h.w hk h.lf h.su;obtain⟨⟨p0,p6⟩,hm⟩:=dO h.pl;have aa:∀f∈s.x.af,f.ah.length≤5:=fun f hf=>by
  have:=hm f hf;simp only[iK,Bool.and_eq_true,dA,iG] at this;omega
 have J:=Dx s.x.af (by omega) (fun f hf=>Nat.le_trans (aa f hf) (by omega));unfold kF;obtain⟨⟨w',f,ok⟩,hy⟩:∃y,iy s.w x.e x.known=y:=⟨_,rfl⟩;rw[hy] at S ⊢;simp only at S ⊢;clear hy h hk aa hm;cases ok with
 | false=>
   rw[if_pos rfl];refine l7 ?_ rfl;clear J;refine fw ko ?_;repeat' ((conv=>whnf);first|(with_reducible first|apply aM|apply fk<;>intro hc<;>try exact iA)|refine eT S ?_|refine aK ?_|fail)
   refine⟨_,_,⟨rfl,rfl⟩,?_⟩;all_goals exact aJ
 |true=>
 rw[if_neg (by decide)];obtain⟨k,hk,eI,hr⟩:=nI s.x.af p0 (by omega);have ae:s.x.af.length=k+1:=by
  rw[List.length_map,bF (by omega) (by omega)] at eI;omega
 have ag:k<(s.x.af.map Fr.c).length:=by rw[List.length_map];exact hk
 have zf:=ql s.x.w (dS s.x.af f);obtain⟨V,X⟩:∃p,dS s.x.af f=p:=⟨_,rfl⟩;rw[X] at zf ⊢;obtain⟨lf,gN⟩:∃f,aL s.x.af=f:=⟨_,rfl⟩;unfold dS at X;rw[gN] at X hr;clear gN;have ad:k=s.x.af.length-1:=by omega
 cases e1:(lf.first==f.first)
 ·have G:V.map Fr.c=s.x.af.map Fr.c++[[uu f.first,av f.ah]]:=by
   rw[←X,e1];simp only[Bool.false_eq_true,↓reduceIte,zma,zmc,zmn];rfl
  rw[cB,G] at zf;have K:=zf;clear zf X;cases d1:(s.ak==s.first) with
  | false=>
    rw[if_neg (fun g=>by rw[beq_eq_false_iff_ne] at d1;exact d1 g.1)];refine l7 ?_ rfl;clear K G;refine fw ko ?_;repeat' ((conv=>whnf);first|(with_reducible first|apply aM|apply fk<;>intro hc<;>try exact iA)|rewrite[eI]|rewrite[nE]|rewrite[nG]|refine eT S ?_|refine eF J ?_|((refine⟨_,hr,?_⟩))|(((with_reducible apply And.intro);focus (simp only[fG,jo,jq,Int.toNat_natCast,rP,List.length_take,List.length_drop];omega)))|refine aK ?_|fail)
    refine⟨_,_,⟨rfl,rfl⟩,?_⟩;all_goals exact aJ
  |true=>
  cases d2:dh s.x.w V with
  | false=>
    rw[if_neg (fun g=>by cases g.2)];rw[d2] at K;refine l7 ?_ rfl;clear G;refine fw ko ?_;repeat' ((conv=>whnf);first|(with_reducible first|apply aM|apply fk<;>intro hc<;>try exact iA)|rewrite[eI]|rewrite[nE]|rewrite[nG]|refine eT S ?_|refine eF J ?_|((refine⟨_,hr,?_⟩))|(((with_reducible apply And.intro);focus (simp only[fG,jo,jq,Int.toNat_natCast,rP,List.length_take,List.length_drop];omega)))|refine eT K ?_|refine aK ?_|fail)
    refine⟨_,_,⟨rfl,rfl⟩,?_⟩;all_goals exact aJ
  | true=>
    rw[if_pos ⟨by simpa using d1,rfl⟩];rw[d2] at K;have Q:dX prog 91 [.ptr 1 0,.pv (.agg x.c)] (zi s) (.pv (.cK [])) (skX { s with w:=w',ask:=f,taken:=true } (.aO 1006 0) (s.x.af.map Fr.c++[[uu f.first,av f.ah]])):=by
     refine l7 ?_ rfl;clear G;refine fw ko ?_;repeat' ((conv=>whnf);first|(with_reducible first|apply aM|apply fk<;>intro hc<;>try exact iA)|rewrite[eI]|rewrite[nE]|rewrite[nG]|refine eT S ?_|refine eF J ?_|((refine⟨_,hr,?_⟩))|(((with_reducible apply And.intro);focus (simp only[fG,jo,jq,Int.toNat_natCast,rP,List.length_take,List.length_drop];omega)))|refine eT K ?_|refine aK ?_|fail)
     refine⟨_,_,⟨rfl,rfl⟩,?_⟩;all_goals exact aJ
    refine gL Q [1006] ?_
    (conv=>whnf)
    refine⟨_,_,⟨rfl,rfl⟩,?_⟩;repeat' first|apply And.intro|exact aJ|fail
    all_goals try (conv=>whnf)
    all_goals first
     |(rw[G];exact ay _)
     |trace_state
 have G:V.map Fr.c=jQ (List.take ((k:Nat):Int).toNat (s.x.af.map Fr.c)++([[uu f.first,av f.ah]]++List.drop (((k:Nat):Int).toNat+[[uu f.first,av f.ah]].length) (s.x.af.map Fr.c))) 0 (((k:Nat):Int).toNat+[[uu f.first,av f.ah]].length):=by
  rw[←X,e1];simp only[↓reduceIte,jQ,List.drop_zero,Int.toNat_natCast,List.length_singleton,Nat.sub_zero];rw[List.drop_eq_nil_of_le (by rw[List.length_map];omega),List.append_nil,List.take_of_length_le (by simp only[rP,List.length_take,fG,List.length_singleton];omega),List.map_append,List.dropLast_eq_take,←ad,List.map_take];rfl
 rw[cB,G] at zf;have K:=zf;clear zf X;cases d1:(s.ak==s.first) with
 | false=>
   rw[if_neg (fun g=>by rw[beq_eq_false_iff_ne] at d1;exact d1 g.1)];refine l7 ?_ rfl;clear K G;refine fw ko ?_;repeat' ((conv=>whnf);first|(with_reducible first|apply aM|apply fk<;>intro hc<;>try exact iA)|rewrite[eI]|rewrite[nE]|rewrite[nG]|refine eT S ?_|refine eF J ?_|((refine⟨_,hr,?_⟩))|(((with_reducible apply And.intro);focus (simp only[fG,jo,jq,Int.toNat_natCast,rP,List.length_take,List.length_drop];omega)))|refine aK ?_|fail)
   refine⟨_,_,⟨rfl,rfl⟩,?_⟩;all_goals exact aJ
 |true=>
 cases d2:dh s.x.w V with
 | false=>
   rw[if_neg (fun g=>by cases g.2)];rw[d2] at K;refine l7 ?_ rfl;clear G;refine fw ko ?_;repeat' ((conv=>whnf);first|(with_reducible first|apply aM|apply fk<;>intro hc<;>try exact iA)|rewrite[eI]|rewrite[nE]|rewrite[nG]|refine eT S ?_|refine eF J ?_|((refine⟨_,hr,?_⟩))|(((with_reducible apply And.intro);focus (simp only[fG,jo,jq,Int.toNat_natCast,rP,List.length_take,List.length_drop];omega)))|refine eT K ?_|refine aK ?_|fail)
   refine⟨_,_,⟨rfl,rfl⟩,?_⟩;all_goals exact aJ
 | true=>
   rw[if_pos ⟨by simpa using d1,rfl⟩];rw[d2] at K;have Q:dX prog 91 [.ptr 1 0,.pv (.agg x.c)] (zi s) (.pv (.cK [])) (skX { s with w:=w',ask:=f,taken:=true } (.sub 1006 0 2 0 (((k:Nat):Int).toNat+[[uu f.first,av f.ah]].length)) (List.take ((k:Nat):Int).toNat (s.x.af.map Fr.c)++([[uu f.first,av f.ah]]++List.drop (((k:Nat):Int).toNat+[[uu f.first,av f.ah]].length) (s.x.af.map Fr.c)))):=by
    refine l7 ?_ rfl;clear G;refine fw ko ?_;repeat' ((conv=>whnf);first|(with_reducible first|apply aM|apply fk<;>intro hc<;>try exact iA)|rewrite[eI]|rewrite[nE]|rewrite[nG]|refine eT S ?_|refine eF J ?_|((refine⟨_,hr,?_⟩))|(((with_reducible apply And.intro);focus (simp only[fG,jo,jq,Int.toNat_natCast,rP,List.length_take,List.length_drop];omega)))|refine eT K ?_|refine aK ?_|fail)
    refine⟨_,_,⟨rfl,rfl⟩,?_⟩;all_goals exact aJ
   refine gL Q [1006] ?_
   (conv=>whnf)
   refine⟨_,_,⟨rfl,rfl⟩,?_⟩;repeat' first|apply And.intro|exact aJ|fail
   all_goals try (conv=>whnf)
   all_goals first
    |(rw[G];exact ay _)
    |trace_state
section
variable (x:Rv)(known:List Pl)(hk:known.length≤1000)(hf:aY x.af)(hfl:x.af.length≤1000)(H8:∀f∈x.af,f.ah.length≤1000)
include hk hf hfl H8
theorem Ot (h1:(dx x known).2=true)(S:((gM x).first==x.n&&decide ((x.af.length:Int)>0))=false)(X:((x.af.length:Int)==6)=true) :
  dX prog 142 [.ptr 1 0,.pv (av known)] [(1,.var (x.v (.pv (av x.heard)) (.pv (av x.none)) (.pv (av x.has)) (.aO 2 0) (.aO 3 0) (.pv (.sc (.slice none 0 0))))),(2,.arr 48 0 2 (x.af.map Fr.c)),(3,.arr 27 0 2 (x.bad.map Pl.c))] (.pv (bl false))
   [(1,.var (({ x with bad:=[] }:Rv).v (.pv (av x.heard)) (.pv (av x.none)) (.pv (av x.has)) (.aO 2 0) (.pv (av [])) (.pv (.sc (.slice none 0 0))))),(2,.arr 48 0 2 ((x.af).map Fr.c)),(3,.d9 0 2 (x.bad.map Pl.c))]:=by
 have e6:(((List.map Fr.c x.af).length:Int)==6)=true:=by rw[List.length_map];exact X
 have J:=sJ x.af x.n (by omega) hf;have K:dF prog 81 [.agg (gM x).c,ii x.l.w,ii ((List.map Pl.c (gM x).ah).length:Int),av x.bad,av known] (.cK [.agg (dx x known).1.c,bl (dx x known).2]):=by
  rw[List.length_map];exact wm _ _ _ _ _ (xh x known hk hf hfl H8) hk
 rw[h1] at K;rw[show ((eH x.af x.n).getD kT)=gM x from rfl] at J;obtain⟨F,hF⟩:∃F,gM x=F:=⟨_,rfl⟩;obtain⟨G,hG⟩:∃G,(dx x known).1=G:=⟨_,rfl⟩;obtain⟨ok,V⟩:∃ok,(eH x.af x.n).isSome=ok:=⟨_,rfl⟩;rw[hF] at J K S;rw[hG] at K;rw[V] at J;clear hF hG h1 V H8 hf;have e2:decide (((List.map Fr.c x.af).length:Int)>0)=true:=by
  have:(x.af.length:Int)=6:=by simpa using X
  rw[List.length_map,this];rfl
 have Q:decide ((x.af.length:Int)>0)=true:=by rw[List.length_map] at e2;exact e2
 rw[Q,Bool.and_true] at S;clear X Q;refine fw sK ?_;repeat' ((conv=>whnf);first|(with_reducible first|apply aM|apply fk<;>intro hc<;>try exact aV)|(refine Or.inr ?_;(conv=>whnf);refine⟨_,_,bP (J) ?_,?_⟩;exact oF)|refine eT K ?_|(((with_reducible apply And.intro);focus (simp only[jQ,fG,List.length_take,List.length_drop,jo,jq];omega)))|(((with_reducible apply And.intro);focus (rw[List.length_map,bF (by omega) (by omega)];omega)))|(((with_reducible apply And.intro);focus (rw[eL,List.length_map];simp only[jo,jq];omega)))|refine aK ?_|fail)
 all_goals
  refine⟨_,_,⟨rfl,rfl⟩,?_⟩;all_goals exact aJ
theorem Ou (h1:(dx x known).2=true)(Q:((gM x).first==x.n&&decide ((x.af.length:Int)>0))=false)(h6:((x.af.length:Int)==6)=false) :
  dX prog 142 [.ptr 1 0,.pv (av known)] [(1,.var (x.v (.pv (av x.heard)) (.pv (av x.none)) (.pv (av x.has)) (.aO 2 0) (.aO 3 0) (.pv (.sc (.slice none 0 0))))),(2,.arr 48 0 2 (x.af.map Fr.c)),(3,.arr 27 0 2 (x.bad.map Pl.c))] (.pv (bl true))
   [(1,.var (({ x with bad:=[],af:=x.af++[(⟨x.n,(dx x known).1.ah⟩:Fr)] }:Rv).v (.pv (av x.heard)) (.pv (av x.none)) (.pv (av x.has)) (.aO 1001 0) (.pv (av [])) (.pv (.sc (.slice none 0 0))))),(1001,.arr 48 0 2 ((x.af++[(⟨x.n,(dx x known).1.ah⟩:Fr)]).map Fr.c)),(2,.d9 1 2 []),(3,.d9 0 2 (x.bad.map Pl.c))]:=by
 have e6:(((List.map Fr.c x.af).length:Int)==6)=false:=by rw[List.length_map];exact h6
 have J:=sJ x.af x.n (by omega) hf;have K:dF prog 81 [.agg (gM x).c,ii x.l.w,ii ((List.map Pl.c (gM x).ah).length:Int),av x.bad,av known] (.cK [.agg (dx x known).1.c,bl (dx x known).2]):=by
  rw[List.length_map];exact wm _ _ _ _ _ (xh x known hk hf hfl H8) hk
 rw[h1] at K;rw[show ((eH x.af x.n).getD kT)=gM x from rfl] at J;obtain⟨F,hF⟩:∃F,gM x=F:=⟨_,rfl⟩;obtain⟨G,hG⟩:∃G,(dx x known).1=G:=⟨_,rfl⟩;obtain⟨ok,X⟩:∃ok,(eH x.af x.n).isSome=ok:=⟨_,rfl⟩;rw[hF] at J K Q;rw[hG] at K ⊢;rw[X] at J;clear hF hG h1 X H8 hf;have V:(x.af++[(⟨x.n,G.ah⟩:Fr)]).map Fr.c=x.af.map Fr.c++[[uu x.n,av G.ah]]:=by rw[List.map_append];rfl
 rw[V];refine nV 2 1777 rfl ?_;show GC _ _ [.ptr 1 0,.pv (av known)] [(1777,.arr 48 0 2 (x.af.map Fr.c)),(1,.var (x.v (.pv (av x.heard)) (.pv (av x.none)) (.pv (av x.has)) (.aO 1777 0) (.aO 3 0) (.pv (.sc (.slice none 0 0))))),(2,.d9 1 2 []),(3,.arr 27 0 2 (x.bad.map Pl.c))] _
 cases S:decide ((x.af.length:Int)>0) with
 | true=>
   have aa:decide (((List.map Fr.c x.af).length:Int)>0)=true:=by rw[List.length_map];exact S
   rw[S,Bool.and_true] at Q;clear h6 S;refine fw sK ?_;repeat' ((conv=>whnf);first|(with_reducible first|apply aM|apply fk<;>intro hc<;>try exact aV)|(refine Or.inr ?_;(conv=>whnf);refine⟨_,_,bP (J) ?_,?_⟩;exact oF)|refine eT K ?_|(((with_reducible apply And.intro);focus (simp only[jQ,fG,List.length_take,List.length_drop,jo,jq];omega)))|(((with_reducible apply And.intro);focus (rw[List.length_map,bF (by omega) (by omega)];omega)))|(((with_reducible apply And.intro);focus (rw[eL,List.length_map];simp only[jo,jq];omega)))|refine aK ?_|fail)
   all_goals
    refine⟨_,_,⟨rfl,rfl⟩,?_⟩;all_goals exact aJ
 | false=>
   have aa:decide (((List.map Fr.c x.af).length:Int)>0)=false:=by rw[List.length_map];exact S
   clear h6 S Q;refine fw sK ?_;repeat' ((conv=>whnf);first|(with_reducible first|apply aM|apply fk<;>intro hc<;>try exact aV)|(refine Or.inr ?_;(conv=>whnf);refine⟨_,_,bP (J) ?_,?_⟩;exact oF)|refine eT K ?_|(((with_reducible apply And.intro);focus (simp only[jQ,fG,List.length_take,List.length_drop,jo,jq];omega)))|(((with_reducible apply And.intro);focus (rw[List.length_map,bF (by omega) (by omega)];omega)))|(((with_reducible apply And.intro);focus (rw[eL,List.length_map];simp only[jo,jq];omega)))|refine aK ?_|fail)
   all_goals
    refine⟨_,_,⟨rfl,rfl⟩,?_⟩;all_goals exact aJ
theorem Wm (h1:(dx x known).2=true)(J:((gM x).first==x.n&&decide ((x.af.length:Int)>0))=true)(h6:x.af.length≤6) :
  dX prog 142 [.ptr 1 0,.pv (av known)] [(1,.var (x.v (.pv (av x.heard)) (.pv (av x.none)) (.pv (av x.has)) (.aO 2 0) (.aO 3 0) (.pv (.sc (.slice none 0 0))))),(2,.arr 48 0 2 (x.af.map Fr.c)),(3,.arr 27 0 2 (x.bad.map Pl.c))] (.pv (bl true))
   [(1,.var (({ x with bad:=[],af:=x.af.take (x.af.length-1)++[(⟨x.n,(dx x known).1.ah⟩:Fr)] }:Rv).v (.pv (av x.heard)) (.pv (av x.none)) (.pv (av x.has)) (.sub 1001 0 2 0 x.af.length) (.pv (av [])) (.pv (.sc (.slice none 0 0))))),(1001,.arr 48 0 2 ((x.af.take (x.af.length-1)++[(⟨x.n,(dx x known).1.ah⟩:Fr)]).map Fr.c)),(2,.d9 1 2 []),(3,.d9 0 2 (x.bad.map Pl.c))]:=by
 simp only[Bool.and_eq_true] at J;obtain⟨J,V⟩:=J;have h0:0<x.af.length:=by simp only[iG] at V;omega
 have X:(IntKind.i64.wrap (((List.map Fr.c x.af).length:Int)-1)).toNat=x.af.length-1:=by rw[List.length_map,bF (by omega) (by omega)];omega
 have e6:(((jQ (List.map Fr.c x.af) 0 (x.af.length-1)).length:Int)==6)=false:=by
  have:(jQ (List.map Fr.c x.af) 0 (x.af.length-1)).length=x.af.length-1:=by simp only[jQ,List.length_take,List.length_drop,fG];omega
  rw[this];simp;omega
 have aa:decide (((List.map Fr.c x.af).length:Int)>0)=true:=by rw[List.length_map];exact V
 clear V;have K:=sJ x.af x.n (by omega) hf;have Q:dF prog 81 [.agg (gM x).c,ii x.l.w,ii ((List.map Pl.c (gM x).ah).length:Int),av x.bad,av known] (.cK [.agg (dx x known).1.c,bl (dx x known).2]):=by
  rw[List.length_map];exact wm _ _ _ _ _ (xh x known hk hf hfl H8) hk
 rw[h1] at Q;rw[show ((eH x.af x.n).getD kT)=gM x from rfl] at K;obtain⟨F,hF⟩:∃F,gM x=F:=⟨_,rfl⟩;obtain⟨G,hG⟩:∃G,(dx x known).1=G:=⟨_,rfl⟩;obtain⟨ok,S⟩:∃ok,(eH x.af x.n).isSome=ok:=⟨_,rfl⟩;rw[hF] at K Q J;rw[hG] at Q ⊢;rw[S] at K;clear hF hG h1 S H8 hf;refine nV 2 1777 rfl ?_;show GC _ _ [.ptr 1 0,.pv (av known)] [(1777,.arr 48 0 2 (x.af.map Fr.c)),(1,.var (x.v (.pv (av x.heard)) (.pv (av x.none)) (.pv (av x.has)) (.aO 1777 0) (.aO 3 0) (.pv (.sc (.slice none 0 0))))),(2,.d9 1 2 []),(3,.arr 27 0 2 (x.bad.map Pl.c))] _
 refine fw sK ?_;repeat' ((conv=>whnf);first|(with_reducible first|apply aM|apply fk<;>intro hc<;>try exact aV)|(refine Or.inr ?_;(conv=>whnf);refine⟨_,_,bP (K) ?_,?_⟩;exact oF)|refine eT Q ?_|(((with_reducible apply And.intro);focus (simp only[jQ,fG,List.length_take,List.length_drop,jo,jq];omega)))|(((with_reducible apply And.intro);focus (rw[List.length_map,bF (by omega) (by omega)];omega)))|(((with_reducible apply And.intro);focus (rw[X,List.length_map];simp only[jo,jq];omega)))|refine aK ?_|fail)
 all_goals
  refine⟨_,_,⟨rfl,rfl⟩,?_⟩;repeat' first|apply And.intro|exact aJ|fail
  all_goals try (conv=>whnf)
 ·rw[X];show AV.sub 1777 0 2 0 (x.af.length-1+1)=AV.sub 1777 0 2 0 x.af.length
  rw[Nat.sub_add_cancel h0]
 refine gJ ?_;rw[X,List.map_append,←List.map_take];rw[List.drop_eq_nil_of_le (by simp only[fG,jo,jq];omega),List.append_nil];rfl
theorem Ov (J:(dx x known).2=true)(G:((gM x).first==x.n&&decide ((x.af.length:Int)>0))=true)(K:x.af.length≤6) :
  dX prog 142 [.ptr 1 0,.pv (av known)] [(1,.var (x.v (.pv (av x.heard)) (.pv (av x.none)) (.pv (av x.has)) (.aO 2 0) (.aO 3 0) (.pv (.sc (.slice none 0 0))))),(2,.arr 48 0 2 (x.af.map Fr.c)),(3,.arr 27 0 2 (x.bad.map Pl.c))] (.pv (bl true))
   [(1,.var (({ x with bad:=[],af:=x.af.take (x.af.length-1)++[(⟨x.n,(dx x known).1.ah⟩:Fr)] }:Rv).v (.pv (av x.heard)) (.pv (av x.none)) (.pv (av x.has)) (.aO 1001 0) (.pv (av [])) (.pv (.sc (.slice none 0 0))))),(1001,.arr 48 0 2 ((x.af.take (x.af.length-1)++[(⟨x.n,(dx x known).1.ah⟩:Fr)]).map Fr.c)),(2,.d9 1 2 []),(3,.d9 0 2 (x.bad.map Pl.c))]:=by
 have Q:0<x.af.length:=by
  simp only[Bool.and_eq_true,iG] at G;omega
 have h:=aai (Wm x known hk hf hfl H8 J G K) (by decide) (by
  (conv=>whnf)
  refine⟨fun _=>⟨rfl,?_⟩,?_⟩
  ·rw[List.length_map,List.length_append,List.length_take,List.length_singleton];omega
  trivial)
 exact h
end
theorem GI (x:Rv)(now:Int)(hp:x.phase=3)(V:aY x.af)(X:0≤x.n∧x.n≤18446744073709551615)(hs:(aj x).length≤1000000)(hb:x.body.length≤1000000) :
  dX prog 144 [.ptr 1 0,.pv (uu now)] [(1,.var (x.v (.pv (av x.heard)) (.pv (av x.none)) (.pv (av x.has)) (.aO 2 0) (.aO 3 0) (.pv (.sc (.slice none 0 0))))),(2,.arr 48 0 2 (x.af.map Fr.c)),(3,.arr 27 0 2 (x.bad.map Pl.c))] (.pv (.cK []))
   [(1,.var (({ x with since:=now }:Rv).v (.pv (av x.heard)) (.pv (av x.none)) (.pv (av x.has)) (.aO 2 0) (.aO 3 0) (.aO 1001 0))),(2,.d9 0 2 (x.af.map Fr.c)),(3,.arr 27 0 2 (x.bad.map Pl.c)),(1001,.arr 93 0 10 ((aU x (aj x)).map Rq.c))]:=by
 have b1:(x.phase==1)=false:=by simp[hp]
 have b2:(x.phase==2)=false:=by simp[hp]
 have b3:(x.phase==3)=true:=by simp[hp]
 clear hp;refine fw qR ?_;repeat' ((conv=>whnf);first|(with_reducible first|apply aM|apply fk<;>intro hc<;>try exact aV)|(refine Or.inr ?_;(conv=>whnf);refine⟨_,bY bV (bZ mixed bV) kr rfl ?_,fun _ _ h=>h⟩)|(apply bX;refine⟨_,jg _ _ _ V X,?_⟩)|refine aK ?_|fail)
 refine⟨{k:Nat // k≤(aj x).length},fun⟨k,_⟩=>⟨[(0,.ptr 1 0),(94,.pv (av (aj x))),(95,.pv (ii (aj x).length)),(96,.pv (ii k))],1000000000,[(1,.var (({ x with since:=now }:Rv).v (.pv (av x.heard)) (.pv (av x.none)) (.pv (av x.has)) (.aO 2 0) (.aO 3 0) (.aO 1001 0))),(2,.d9 0 2 (x.af.map Fr.c)),(3,.arr 27 0 2 (x.bad.map Pl.c)),(1001,.arr 93 0 10 ((aU x ((aj x).take k)).map Rq.c))]⟩,fun⟨k,_⟩=>(aj x).length-k,⟨⟨0,Nat.zero_le _⟩,aD ?_⟩,?_⟩
 ·repeat' first|apply And.intro|exact aJ|fail
  all_goals try (conv=>whnf)
  rw[List.length_map];rfl
 rintro⟨k,hk⟩
 by_cases G:k<(aj x).length
 ·have Q:decide ((k:Int)<((aj x).length:Int))=true:=by simp only[iG];omega
  have S:IntKind.i64.wrap ((k:Int)+1)=((k+1:Nat):Int):=by rw[bF (by omega) (by omega)];omega
  have K:=gq (fun p=>!x.has.any (· == p)) (xP x) (aj x) k G;have hl:=gT (fun p=>!x.has.any (· == p)) (xP x) (aj x) k;repeat' ((conv=>whnf);first|(with_reducible first|apply aM|apply fk<;>intro hc<;>try exact aV)|((refine⟨_,dR _ _ _ G,?_⟩))|(apply bX;refine⟨_,aA _ _ _,?_⟩)|(apply bX;refine⟨_,fM x.body (by omega),?_⟩)|(((with_reducible apply And.intro);focus (simp only[aU,fG,jo,jq] at *;omega)))|refine aK ?_|fail)
  all_goals
   refine⟨⟨k+1,G⟩,dec_lt G,aD ?_⟩;repeat' first|apply And.intro|exact aJ|fail
   all_goals try (conv=>whnf)
   all_goals first
    |exact S
    | (simp only[aU]
       rw[K,if_pos (by assumption),List.map_append];refine bW (ay _) ?_
       (repeat' first|apply And.intro|exact aJ|fail);(all_goals try (conv=>whnf)))
    | (simp only[aU]
       rw[K,if_neg (by rw[show (!x.has.any fun y=>y==(aj x)[k])=false from by assumption];simp)];exact ay _)
 have J:k=(aj x).length:=by omega
 subst J;have Q:decide (((aj x).length:Int)<((aj x).length:Int))=false:=by simp
 repeat' ((conv=>whnf);first|(with_reducible first|apply aM|apply fk<;>intro hc<;>try exact aV)|refine aK ?_|fail)
 refine⟨_,_,⟨rfl,rfl⟩,?_⟩;repeat' first|apply And.intro|exact aJ|fail
 all_goals try (conv=>whnf)
 rw[List.take_length];exact ay _
theorem xk (x:Rv)(h:x.sm):dX prog 135 [.pv (.agg x.c)] [] (.ptr 1001 0) [(1001,.var (x.v (.pv (av x.heard)) (.pv (av x.none)) (.pv (av x.has)) (.aO 1002 0) (.aO 1003 0) (.pv (.sc (.slice none 0 0))))),(1002,.arr 48 0 2 (x.af.map Fr.c)),(1003,.arr 27 0 2 (x.bad.map Pl.c))]:=by
 refine gL (Cg x h) [1002,1003,1004,1005] ?_
 (conv=>whnf)
 refine⟨_,_,⟨rfl,rfl⟩,?_⟩;all_goals exact aJ
theorem RD (x:Rv)(out:List Rq)(G:aY x.af)(J:0≤x.n∧x.n≤18446744073709551615) :
  dX prog 141 [.ptr 1 0] [(1,.var (x.v (.pv (av x.heard)) (.pv (av x.none)) (.pv (av x.has)) (.aO 2 0) (.pv (av x.bad)) (.aO 3 0))),(2,.d9 0 2 (x.af.map Fr.c)),(3,.arr 93 0 10 (out.map Rq.c))] (.pv (av (aj x))) [(1,.var (x.v (.pv (av x.heard)) (.pv (av x.none)) (.pv (av x.has)) (.aO 2 0) (.pv (av x.bad)) (.aO 3 0))),(2,.d9 0 2 (x.af.map Fr.c)),(3,.arr 93 0 10 (out.map Rq.c))]:=by
 refine fw kr ?_;repeat' ((conv=>whnf);first|(with_reducible first|apply aM|apply fk<;>intro hc<;>try exact aV)|(apply bX;refine⟨_,jg _ _ _ G J,?_⟩)|refine aK ?_|fail)
 refine⟨_,_,⟨rfl,rfl⟩,?_⟩;all_goals exact aJ
theorem JQ (x:Rv)(out:List Rq)(now:Int)(S:out.length≤1000)(X:aY x.af)(hn:0≤x.n∧x.n≤1000)(hf:aY x.l.af)(hs:∀n,(setOf x.l.af x.l.w n).length≤1000000) :
  dX prog 143 [.ptr 1 0,.pv (uu now)] [(1,.var (x.v (.pv (av x.heard)) (.pv (av x.none)) (.pv (av x.has)) (.aO 2 0) (.pv (av x.bad)) (.aO 3 0))),(2,.d9 0 2 (x.af.map Fr.c)),(3,.arr 93 0 10 (out.map Rq.c))] (.pv (.cK []))
   [(1,.var ((aZ x now).1.v (.pv (av (aZ x now).1.heard)) (.pv (av (aZ x now).1.none)) (.pv (av (aZ x now).1.has)) (.aO 2 0) (.pv (av (aZ x now).1.bad)) (.aO 1001 0))),(2,.d9 0 2 (x.af.map Fr.c)),(3,.d9 1 10 []),(1001,.arr 93 0 10 ((out++(aZ x now).2).map Rq.c))]:=by
 have hw:=RD x out X (by omega);have G:=nY (aj x) x.l.a x.has;cases J:bE (aj x) x.l.a x.has with
 | false=>
   have e:aZ x now=(x,[]):=by unfold aZ;rw[if_neg (by rw[J];decide)]
   rw[e,List.append_nil];rw[J] at G;clear J e hf hs hn X S;refine nV 3 1777 rfl ?_;show GC _ _ [.ptr 1 0,.pv (uu now)] [(1777,.arr 93 0 10 (out.map Rq.c)),(1,.var (x.v (.pv (av x.heard)) (.pv (av x.none)) (.pv (av x.has)) (.aO 2 0) (.pv (av x.bad)) (.aO 1777 0))),(2,.d9 0 2 (x.af.map Fr.c)),(3,.d9 1 10 [])] _
   refine fw jC ?_;repeat' ((conv=>whnf);first|(with_reducible first|apply aM|apply fk<;>intro hc<;>try exact aV)|(refine Or.inr ?_;(conv=>whnf);refine⟨_,_,bP (hw) ?_,?_⟩;exact oF)|refine eT G ?_|refine aK ?_|fail)
   all_goals
    refine⟨_,_,⟨rfl,rfl⟩,?_⟩;all_goals exact aJ
 |true=>
 rw[J] at G;have e:aZ x now=bB x (x.n+1) now:=by unfold aZ;rw[if_pos J]
 rw[e];have V:IntKind.u64.wrap (x.n+1)=x.n+1:=gX (by omega) (by omega);by_cases h8:8<x.n+1
 ·have d:decide (x.n+1>8)=true:=by simp only[iG];omega
  have d':decide (IntKind.u64.wrap (x.n+1)>8)=true:=by rw[V];exact d
  have Q:bB x (x.n+1) now=({ x with n:=x.n+1,none:=[],has:=[],body:=[],bad:=[],phase:=4 },[]):=by unfold bB;rw[if_pos d]
  rw[Q,List.append_nil];clear J e Q hf hs hn X S h8;refine nV 3 1777 rfl ?_;show GC _ _ [.ptr 1 0,.pv (uu now)] [(1777,.arr 93 0 10 (out.map Rq.c)),(1,.var (x.v (.pv (av x.heard)) (.pv (av x.none)) (.pv (av x.has)) (.aO 2 0) (.pv (av x.bad)) (.aO 1777 0))),(2,.d9 0 2 (x.af.map Fr.c)),(3,.d9 1 10 [])] _
  refine fw jC ?_;repeat' ((conv=>whnf);first|(with_reducible first|apply aM|apply fk<;>intro hc<;>try exact aV)|(refine Or.inr ?_;(conv=>whnf);refine⟨_,_,bP (hw) ?_,?_⟩;exact oF)|refine eT G ?_|(refine Or.inr ?_;(conv=>whnf);refine⟨_,bY bV (bZ mixed bV) nZ rfl ?_,fun _ _ h=>h⟩)|refine aK ?_|fail)
  all_goals
   refine⟨_,_,⟨rfl,rfl⟩,?_⟩;repeat' first|apply And.intro|exact aJ|fail
   all_goals try (conv=>whnf)
  all_goals exact V
 have d:decide (x.n+1>8)=false:=by simp only[uS];omega
 have d':decide (IntKind.u64.wrap (x.n+1)>8)=false:=by rw[V];exact d
 obtain⟨y,K⟩:∃y:Rv,y={ x with n:=x.n+1,none:=[],has:=[],body:=[],bad:=[],phase:=2,born:=now }:=⟨_,rfl⟩;have Q:bB x (x.n+1) now=({ y with since:=now },gF y (aC y)):=by unfold bB;rw[if_neg (by rw[d];simp),K];rfl
 rw[Q];have uR:=aaZ y now out S (by rw[K]) (by rw[K];exact hf) (by rw[K];simp only;omega) (by rw[K];exact hs _);subst K;clear J e Q hf hs hn X S h8;refine nV 3 1777 rfl ?_;show GC _ _ [.ptr 1 0,.pv (uu now)] [(1777,.arr 93 0 10 (out.map Rq.c)),(1,.var (x.v (.pv (av x.heard)) (.pv (av x.none)) (.pv (av x.has)) (.aO 2 0) (.pv (av x.bad)) (.aO 1777 0))),(2,.d9 0 2 (x.af.map Fr.c)),(3,.d9 1 10 [])] _
 refine fw jC ?_;repeat' ((conv=>whnf);first|(with_reducible first|apply aM|apply fk<;>intro hc<;>try exact aV)|(refine Or.inr ?_;(conv=>whnf);refine⟨_,_,bP (hw) ?_,?_⟩;exact oF)|refine eT G ?_|(refine Or.inr ?_;(conv=>whnf);refine⟨_,bY bV (bZ mixed bV) nZ rfl ?_,fun _ _ h=>h⟩)|(refine Or.inr ?_;(conv=>whnf);refine⟨_,bY bV (bZ mixed bV) jN rfl ?_,fun _ _ h=>h⟩)|refine eF uR ?_|refine aK ?_|fail)
 all_goals
  refine⟨_,_,⟨rfl,rfl⟩,?_⟩;repeat' first|apply And.intro|exact aJ|fail
  all_goals try (conv=>whnf)
 all_goals exact V
theorem jO:bM prog 92 f92:=fO func92
section
variable (x:Rv)(now:Int)(known:List Pl)(hsm:x.sm)(hk:known.length≤1000)(cO:0≤now∧now≤18446744073709551615)(hsi:0≤x.since∧x.since≤18446744073709551615)
include hsm hk cO hsi
theorem aa0 (K:(x.phase==3)=false)(Q:(x.phase != 4)=false) :
  dF prog 92 [.agg x.c,uu now,av known] (.cK [.agg x.c,kH []]):=by
 refine PC.le ?_;have J:=kU now x.since 3 cO hsi;have G:=jR x hsm;clear hsm hk cO hsi;refine dQ jO ?_;repeat' ((conv=>whnf);first|(with_reducible first|apply aM|apply fk<;>intro hc<;>try exact aV)|refine eF G ?_|refine eT J ?_|refine aK ?_|fail)
 all_goals
  all_goals exact aJ
theorem aa1 (Q:(x.phase==3)=false)(S:(x.phase != 4)=true)(K:dY now x.since 3=false) :
  dF prog 92 [.agg x.c,uu now,av known] (.cK [.agg x.c,kH []]):=by
 refine PC.le ?_;have G:=kU now x.since 3 cO hsi;rw[K] at G;clear K;have J:=jR x hsm;clear hsm hk cO hsi;refine dQ jO ?_;repeat' ((conv=>whnf);first|(with_reducible first|apply aM|apply fk<;>intro hc<;>try exact aV)|refine eF J ?_|refine eT G ?_|refine aK ?_|fail)
 all_goals
  all_goals exact aJ
theorem aa2 (p3:(x.phase==3)=false)(p4:(x.phase != 4)=true)(Q:dY now x.since 3=true)(hp:x.phase=1)(S:0<x.l.af.length)(G:x.l.af.length≤1000)(V:(aS x).ah.length≤1000000) :
  dF prog 92 [.agg x.c,uu now,av known] (.cK [.agg ({ x with since:=now }:Rv).c,kH (ic x (aS x).ah)]):=by
 refine PC.le ?_;have J:=kU now x.since 3 cO hsi;rw[Q] at J;have X:=JP x now hp S G V;clear Q hp S G V;have K:=jR x hsm;clear hsm hk cO hsi;refine dQ jO ?_;repeat' ((conv=>whnf);first|(with_reducible first|apply aM|apply fk<;>intro hc<;>try exact aV)|refine eF K ?_|refine eT J ?_|refine eF X ?_|refine aK ?_|fail)
 all_goals
  all_goals exact aJ
theorem aa3 (X:(x.phase==3)=false)(p4:(x.phase != 4)=true)(K:dY now x.since 3=true)(hp:x.phase=2)(Q:aY x.l.af)(S:0≤x.n∧x.n≤18446744073709551615)(hs:(aC x).length≤1000000) :
  dF prog 92 [.agg x.c,uu now,av known] (.cK [.agg ({ x with since:=now }:Rv).c,kH (gF x (aC x))]):=by
 refine PC.le ?_;have G:=kU now x.since 3 cO hsi;rw[K] at G;have V:=Uj x now hp Q S hs;clear K hp Q S hs;have J:=jR x hsm;clear hsm hk cO hsi;refine dQ jO ?_;repeat' ((conv=>whnf);first|(with_reducible first|apply aM|apply fk<;>intro hc<;>try exact aV)|refine eF J ?_|refine eT G ?_|refine eF V ?_|refine aK ?_|fail)
 all_goals
  all_goals exact aJ
end
section
variable (x:Rv)(now:Int)(known:List Pl)(hsm:x.sm)(hk:known.length≤1000)(cO:0≤now∧now≤18446744073709551615)(hsi:0≤x.since∧x.since≤18446744073709551615)(uJ:0≤x.born∧x.born≤18446744073709551615)(fq:aY x.af)(hn:0≤x.n∧x.n≤1000)(hw:(aj x).length≤1000)(p3:(x.phase==3)=true)
include hsm hk cO hsi uJ fq hn hw p3
theorem aa4 (Q:dY now x.born 9=false)(V:decide ((x.bad.length:Int)>0)=false)(S:dY now x.since 3=false) :
  dF prog 92 [.agg x.c,uu now,av known] (.cK [.agg x.c,kH []]):=by
 refine PC.le ?_;have p4:(x.phase != 4)=true:=by have:x.phase=3:=(by simpa using p3);rw[this];rfl
 have G:=kU now x.born 9 cO uJ;have J:=kU now x.since 3 cO hsi;rw[Q] at G;rw[S] at J;have X:decide (((List.map Pl.c x.bad).length:Int)>0)=false:=by rw[List.length_map];exact V
 try simp only at X
 have K:=xk x hsm;clear hsm hk cO hsi uJ fq hn hw Q S V;refine dQ jO ?_;repeat' ((conv=>whnf);first|(with_reducible first|apply aM|apply fk<;>intro hc<;>try exact aV)|refine eF K ?_|refine eT G ?_|refine eT J ?_|refine aK ?_|fail)
 all_goals
  all_goals exact aJ
theorem aa5 (V:dY now x.born 9=false)(ku:decide ((x.bad.length:Int)>0)=false)(X:dY now x.since 3=true) :
  dF prog 92 [.agg x.c,uu now,av known] (.cK [.agg ({ x with since:=now }:Rv).c,kH (aU x (aj x))]):=by
 refine PC.le ?_;have p4:(x.phase != 4)=true:=by have:x.phase=3:=(by simpa using p3);rw[this];rfl
 have J:=kU now x.born 9 cO uJ;have K:=kU now x.since 3 cO hsi;rw[V] at J;rw[X] at K;have eb:decide (((List.map Pl.c x.bad).length:Int)>0)=false:=by rw[List.length_map];exact ku
 try simp only at eb
 have G:=hsm.bo;have S:=GI x now (by simpa using p3) fq (by show 0≤x.n∧x.n≤18446744073709551615;omega) (by show (aj x).length≤1000000;omega) G;clear G;have Q:=xk x hsm;clear hsm hk cO hsi uJ fq hn hw V X ku;refine dQ jO ?_;repeat' ((conv=>whnf);first|(with_reducible first|apply aM|apply fk<;>intro hc<;>try exact aV)|refine eF Q ?_|refine eT J ?_|refine eT K ?_|refine eF S ?_|refine aK ?_|fail)
 all_goals
  all_goals exact aJ
theorem aa6 (Q:dY now x.born 9=false)(V:decide ((x.bad.length:Int)>0)=true)(S:dY now x.since 3=false)(iE:dX prog 142 [.ptr 1 0,.pv (av known)] [(1,.var (x.v (.pv (av x.heard)) (.pv (av x.none)) (.pv (av x.has)) (.aO 2 0) (.aO 3 0) (.pv (.sc (.slice none 0 0))))),(2,.arr 48 0 2 (x.af.map Fr.c)),(3,.arr 27 0 2 (x.bad.map Pl.c))] (.pv (bl false)) [(1,.var (({ x with bad:=[] }:Rv).v (.pv (av x.heard)) (.pv (av x.none)) (.pv (av x.has)) (.aO 2 0) (.pv (av [])) (.pv (.sc (.slice none 0 0))))),(2,.arr 48 0 2 (x.af.map Fr.c)),(3,.d9 0 2 (x.bad.map Pl.c))]) :
  dF prog 92 [.agg x.c,uu now,av known] (.cK [.agg ({ x with bad:=[] }:Rv).c,kH []]):=by
 refine PC.le ?_;have p4:(x.phase != 4)=true:=by have:x.phase=3:=(by simpa using p3);rw[this];rfl
 have G:=kU now x.born 9 cO uJ;have J:=kU now x.since 3 cO hsi;rw[Q] at G;rw[S] at J;have X:decide (((List.map Pl.c x.bad).length:Int)>0)=true:=by rw[List.length_map];exact V
 try simp only at X
 have K:=xk x hsm;clear hsm hk cO hsi uJ fq hn hw Q S V;refine dQ jO ?_;repeat' ((conv=>whnf);first|(with_reducible first|apply aM|apply fk<;>intro hc<;>try exact aV)|refine eF K ?_|refine eT G ?_|refine eT J ?_|refine eF iE ?_|refine aK ?_|fail)
 all_goals
  all_goals exact aJ
theorem aa7 (V:dY now x.born 9=false)(ku:decide ((x.bad.length:Int)>0)=true)(X:dY now x.since 3=true)(iE:dX prog 142 [.ptr 1 0,.pv (av known)] [(1,.var (x.v (.pv (av x.heard)) (.pv (av x.none)) (.pv (av x.has)) (.aO 2 0) (.aO 3 0) (.pv (.sc (.slice none 0 0))))),(2,.arr 48 0 2 (x.af.map Fr.c)),(3,.arr 27 0 2 (x.bad.map Pl.c))] (.pv (bl false)) [(1,.var (({ x with bad:=[] }:Rv).v (.pv (av x.heard)) (.pv (av x.none)) (.pv (av x.has)) (.aO 2 0) (.pv (av [])) (.pv (.sc (.slice none 0 0))))),(2,.arr 48 0 2 (x.af.map Fr.c)),(3,.d9 0 2 (x.bad.map Pl.c))]) :
  dF prog 92 [.agg x.c,uu now,av known] (.cK [.agg ({ x with bad:=[],since:=now }:Rv).c,kH (aU ({ x with bad:=[] }:Rv) (aj ({ x with bad:=[] }:Rv)))]):=by
 refine PC.le ?_;have p4:(x.phase != 4)=true:=by have:x.phase=3:=(by simpa using p3);rw[this];rfl
 have J:=kU now x.born 9 cO uJ;have K:=kU now x.since 3 cO hsi;rw[V] at J;rw[X] at K;have eb:decide (((List.map Pl.c x.bad).length:Int)>0)=true:=by rw[List.length_map];exact ku
 try simp only at eb
 have G:=hsm.bo;have S:=xq ({ x with bad:=[] }:Rv) now (by simpa using p3) fq (by show 0≤x.n∧x.n≤18446744073709551615;omega) (by show (aj x).length≤1000000;omega) G;clear G;have Q:=xk x hsm;clear hsm hk cO hsi uJ fq hn hw V X ku;refine dQ jO ?_;repeat' ((conv=>whnf);first|(with_reducible first|apply aM|apply fk<;>intro hc<;>try exact aV)|refine eF Q ?_|refine eT J ?_|refine eT K ?_|refine eF iE ?_|refine eF S ?_|refine aK ?_|fail)
 all_goals
  all_goals exact aJ
theorem aa8 (g1:dY now x.born 9=false)(ku:decide ((x.bad.length:Int)>0)=true)(G:List Fr)(Q:aY G)(iE:dX prog 142 [.ptr 1 0,.pv (av known)] [(1,.var (x.v (.pv (av x.heard)) (.pv (av x.none)) (.pv (av x.has)) (.aO 2 0) (.aO 3 0) (.pv (.sc (.slice none 0 0))))),(2,.arr 48 0 2 (x.af.map Fr.c)),(3,.arr 27 0 2 (x.bad.map Pl.c))] (.pv (bl true)) [(1,.var (({ x with bad:=[],af:=G }:Rv).v (.pv (av x.heard)) (.pv (av x.none)) (.pv (av x.has)) (.aO 1001 0) (.pv (av [])) (.pv (.sc (.slice none 0 0))))),(1001,.arr 48 0 2 (G.map Fr.c)),(2,.d9 1 2 []),(3,.d9 0 2 (x.bad.map Pl.c))])(ad:(setOf G x.l.w x.n).length≤1000)(hf:aY x.l.af)(hs:∀n,(setOf x.l.af x.l.w n).length≤1000000) :
  dF prog 92 [.agg x.c,uu now,av known] (.cK [.agg (aZ ({ x with bad:=[],af:=G,phase:=3,born:=now,since:=now }:Rv) now).1.c,kH (aU ({ x with bad:=[],af:=G,phase:=3,born:=now,since:=now }:Rv) (aj ({ x with bad:=[],af:=G,phase:=3,born:=now,since:=now }:Rv))++(aZ ({ x with bad:=[],af:=G,phase:=3,born:=now,since:=now }:Rv) now).2)]):=by
 refine PC.le ?_;have p4:(x.phase != 4)=true:=by have:x.phase=3:=(by simpa using p3);rw[this];rfl
 have S:=kU now x.born 9 cO uJ;have ag:=kU now x.since 3 cO hsi;rw[g1] at S;have eb:decide (((List.map Pl.c x.bad).length:Int)>0)=true:=by rw[List.length_map];exact ku
 try simp only at eb
 have J:=hsm.bo;have K:=xq ({ x with bad:=[],af:=G,phase:=3,born:=now }:Rv) now rfl Q (by show 0≤x.n∧x.n≤18446744073709551615;omega) (by show (setOf G x.l.w x.n).length≤1000000;omega) J;have X:(aU ({ x with bad:=[],af:=G,phase:=3,born:=now,since:=now }:Rv) (aj ({ x with bad:=[],af:=G,phase:=3,born:=now,since:=now }:Rv))).length≤1000:=by
  unfold aU;rw[List.length_map];exact Nat.le_trans (List.length_filter_le _ _) ad
 have Wn:=JQ ({ x with bad:=[],af:=G,phase:=3,born:=now,since:=now }:Rv) (aU ({ x with bad:=[],af:=G,phase:=3,born:=now,since:=now }:Rv) (aj ({ x with bad:=[],af:=G,phase:=3,born:=now,since:=now }:Rv))) now X Q hn hf hs;obtain⟨u,hu⟩:∃u,aZ ({ x with bad:=[],af:=G,phase:=3,born:=now,since:=now }:Rv) now=u:=⟨_,rfl⟩;have ae:u.1.af=G:=by rw[←hu];exact xQ _ _
 rw[hu] at Wn ⊢;have K:dX _ _ _ _ _ [(1,.var (({ x with bad:=[],af:=G,phase:=3,born:=now,since:=now }:Rv).v (.pv (av x.heard)) (.pv (av x.none)) (.pv (av x.has)) (.aO 2 0) (.pv (av [])) (.aO 1001 0))),(2,.d9 0 2 (G.map Fr.c)),(1001,.arr 93 0 10 ((aU ({ x with bad:=[],af:=G,phase:=3,born:=now,since:=now }:Rv) (aj ({ x with bad:=[],af:=G,phase:=3,born:=now,since:=now }:Rv))).map Rq.c))]:=K;obtain⟨qq,aa⟩:∃qq,aU ({ x with bad:=[],af:=G,phase:=3,born:=now,since:=now }:Rv) (aj ({ x with bad:=[],af:=G,phase:=3,born:=now,since:=now }:Rv))=qq:=⟨_,rfl⟩;rw[aa] at K Wn ⊢;clear hu aa X J ad hf hs Q;have V:=xk x hsm;clear hsm hk cO hsi uJ fq hn hw g1 ku;refine dQ jO ?_;repeat' ((conv=>whnf);first|(with_reducible first|apply aM|apply fk<;>intro hc<;>try exact aV)|refine eF V ?_|refine eT S ?_|refine eT ag ?_|refine eF iE ?_|(refine Or.inr ?_;(conv=>whnf);refine⟨_,bY bV (bZ mixed bV) jN rfl ?_,fun _ _ h=>h⟩)|refine eF K ?_|refine eF Wn ?_|refine aK ?_|fail)
 all_goals
  repeat' first|apply And.intro|exact aJ|fail
  all_goals try (conv=>whnf)
 all_goals (rw[ae];exact ay _)
end
end Go.Proofs.YtfoiekbkkbnpkaaGreat.Tb
end
