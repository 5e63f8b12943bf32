/-
  Contracts of functions of the program and of the document, each for every input that its premises name.
-/
import Derived.Test.YtfoiekbkkbnpkaaGreatBc
import Derived.Test.YtfoiekbkkbnpkaaGreatAe
set_option linter.unusedSectionVars false
set_option linter.unusedVariables false
set_option linter.unusedSimpArgs false
set_option maxRecDepth 100000
set_option maxHeartbeats 4000000
section
open Go Go.Proofs.Tryz Go.AX
namespace Go.Proofs.YtfoiekbkkbnpkaaGreat.Tb
theorem abu (x:Rv)(n now:Int)(G:8<n) :
  dX prog 166 [.ptr 1 0,.pv (uu n),.pv (uu now)] [(1,.var (x.v (.aO 2 0) (.pv (av x.none)) (.pv (av x.has)) (.pv (cB x.af)) (.pv (av x.bad)) (.pv (.sc (.slice none 0 0))))),(2,.arr 27 0 2 (x.heard.map Pl.c))] (.pv (.cK []))
   [(1,.var ((bB x n now).1.v (.aO 2 0) (.pv (av [])) (.pv (av [])) (.pv (cB x.af)) (.pv (av [])) (.pv (.sc (.slice none 0 0))))),(2,.arr 27 0 2 (x.heard.map Pl.c))]:=by
 have d:decide (n>8)=true:=by simp only[iG];omega
 have e:bB x n now=({ x with n:=n,none:=[],has:=[],body:=[],bad:=[],phase:=4 },[]):=by unfold bB;rw[if_pos d]
 rw[e];clear e G;refine fw nZ ?_;repeat' ((conv=>whnf);first|(with_reducible first|apply aM|apply fk<;>intro hc<;>try exact aV)|refine aK ?_|fail)
 all_goals
  refine⟨_,_,⟨rfl,rfl⟩,?_⟩;all_goals exact aJ
theorem abv (x:Rv)(n now:Int)(G:8<n) :
  dX prog 166 [.ptr 1 0,.pv (uu n),.pv (uu now)] [(1,.var (x.v (.pv (av x.heard)) (.pv (av x.none)) (.aO 2 0) (.pv (cB x.af)) (.pv (av x.bad)) (.pv (.sc (.slice none 0 0))))),(2,.arr 27 0 2 (x.has.map Pl.c))] (.pv (.cK []))
   [(1,.var ((bB x n now).1.v (.pv (av x.heard)) (.pv (av [])) (.pv (av [])) (.pv (cB x.af)) (.pv (av [])) (.pv (.sc (.slice none 0 0))))),(2,.arr 27 0 2 (x.has.map Pl.c))]:=by
 have d:decide (n>8)=true:=by simp only[iG];omega
 have e:bB x n now=({ x with n:=n,none:=[],has:=[],body:=[],bad:=[],phase:=4 },[]):=by unfold bB;rw[if_pos d]
 rw[e];clear e G;refine fw nZ ?_;repeat' ((conv=>whnf);first|(with_reducible first|apply aM|apply fk<;>intro hc<;>try exact aV)|refine aK ?_|fail)
 all_goals
  refine⟨_,_,⟨rfl,rfl⟩,?_⟩;all_goals exact aJ
theorem abw (x:Rv)(n now:Int)(K:0≤n∧n≤8)(J:aY x.l.af)(hs:∀n,(setOf x.l.af x.l.w n).length≤1000000) :
  dX prog 166 [.ptr 1 0,.pv (uu n),.pv (uu now)] [(1,.var (x.v (.aO 2 0) (.pv (av x.none)) (.pv (av x.has)) (.pv (cB x.af)) (.pv (av x.bad)) (.pv (.sc (.slice none 0 0))))),(2,.arr 27 0 2 (x.heard.map Pl.c))] (.pv (.cK []))
   [(1,.var ((bB x n now).1.v (.aO 2 0) (.pv (av [])) (.pv (av [])) (.pv (cB x.af)) (.pv (av [])) (.aO 1001 0))),(2,.arr 27 0 2 (x.heard.map Pl.c)),(1001,.arr 93 0 10 ((bB x n now).2.map Rq.c))]:=by
 have d:decide (n>8)=false:=by simp only[uS];omega
 obtain⟨y,G⟩:∃y:Rv,y={ x with n:=n,none:=[],has:=[],body:=[],bad:=[],phase:=2,born:=now }:=⟨_,rfl⟩;have e:bB x n now=({ y with since:=now },gF y (aC y)):=by unfold bB;rw[if_neg (by rw[d];simp),G];rfl
 rw[e];have Q:=aew y now (by rw[G]) (by rw[G];exact J) (by rw[G];simp only;omega) (by rw[G];exact hs _);subst G;clear e K;refine fw nZ ?_;repeat' ((conv=>whnf);first|(with_reducible first|apply aM|apply fk<;>intro hc<;>try exact aV)|(refine Or.inr ?_;(conv=>whnf);refine⟨_,bY bV (bZ mixed bV) jN rfl ?_,fun _ _ h=>h⟩)|refine eF Q ?_|refine aK ?_|fail)
 all_goals
  refine⟨_,_,⟨rfl,rfl⟩,?_⟩;all_goals exact aJ
theorem abx (x:Rv)(n now:Int)(K:0≤n∧n≤8)(J:aY x.l.af)(hs:∀n,(setOf x.l.af x.l.w n).length≤1000000) :
  dX prog 166 [.ptr 1 0,.pv (uu n),.pv (uu now)] [(1,.var (x.v (.pv (av x.heard)) (.pv (av x.none)) (.aO 2 0) (.pv (cB x.af)) (.pv (av x.bad)) (.pv (.sc (.slice none 0 0))))),(2,.arr 27 0 2 (x.has.map Pl.c))] (.pv (.cK []))
   [(1,.var ((bB x n now).1.v (.pv (av x.heard)) (.pv (av [])) (.pv (av [])) (.pv (cB x.af)) (.pv (av [])) (.aO 1001 0))),(2,.arr 27 0 2 (x.has.map Pl.c)),(1001,.arr 93 0 10 ((bB x n now).2.map Rq.c))]:=by
 have d:decide (n>8)=false:=by simp only[uS];omega
 obtain⟨y,G⟩:∃y:Rv,y={ x with n:=n,none:=[],has:=[],body:=[],bad:=[],phase:=2,born:=now }:=⟨_,rfl⟩;have e:bB x n now=({ y with since:=now },gF y (aC y)):=by unfold bB;rw[if_neg (by rw[d];simp),G];rfl
 rw[e];have Q:=Uj y now (by rw[G]) (by rw[G];exact J) (by rw[G];simp only;omega) (by rw[G];exact hs _);subst G;clear e K;refine fw nZ ?_;repeat' ((conv=>whnf);first|(with_reducible first|apply aM|apply fk<;>intro hc<;>try exact aV)|(refine Or.inr ?_;(conv=>whnf);refine⟨_,bY bV (bZ mixed bV) jN rfl ?_,fun _ _ h=>h⟩)|refine eF Q ?_|refine aK ?_|fail)
 all_goals
  refine⟨_,_,⟨rfl,rfl⟩,?_⟩;all_goals exact aJ
section
variable (x:Rv)(now:Int)(p:Pl)
theorem aby (h:x.has.any (· == p)=true) :
  dX prog 170 [.ptr 1 0,.pv (uu now),.pv (.agg p.c)] [(1,.var (x.v (.pv (av x.heard)) (.pv (av x.none)) (.aO 2 0) (.pv (cB x.af)) (.pv (av x.bad)) (.pv (.sc (.slice none 0 0))))),(2,.arr 27 0 2 (x.has.map Pl.c))] (.pv (.cK []))
   [(1,.var (x.v (.pv (av x.heard)) (.pv (av x.none)) (.aO 2 0) (.pv (cB x.af)) (.pv (av x.bad)) (.pv (.sc (.slice none 0 0))))),(2,.arr 27 0 2 (x.has.map Pl.c))]:=by
 have G:=aA x.has p.node p.aH;rw[show (x.has.any fun y=>y==(⟨p.node,p.aH⟩:Pl))=true from h] at G;clear h;refine fw Ev ?_;repeat' ((conv=>whnf);first|(with_reducible first|apply aM|apply fk<;>intro hc<;>try exact aV)|(apply bX;refine⟨_,G,?_⟩)|refine aK ?_|fail)
 refine⟨_,_,⟨rfl,rfl⟩,?_⟩;all_goals exact aJ
theorem abz (h:x.has.any (· == p)=false)(X:x.has.length≤1000000)(V:aY x.af)(hn:0≤x.n∧x.n≤1000)(Q:bE (aj x) x.l.a (x.has++[p])=false) :
  dX prog 170 [.ptr 1 0,.pv (uu now),.pv (.agg p.c)] [(1,.var (x.v (.pv (av x.heard)) (.pv (av x.none)) (.aO 2 0) (.pv (cB x.af)) (.pv (av x.bad)) (.pv (.sc (.slice none 0 0))))),(2,.arr 27 0 2 (x.has.map Pl.c))] (.pv (.cK []))
   [(1,.var (({ x with has:=x.has++[p] }:Rv).v (.pv (av x.heard)) (.pv (av x.none)) (.aO 2 1) (.pv (cB x.af)) (.pv (av x.bad)) (.pv (.sc (.slice none 0 0))))),(2,.arr 27 1 2 ((x.has++[p]).map Pl.c))]:=by
 have J:=aA x.has p.node p.aH;rw[show (x.has.any fun y=>y==(⟨p.node,p.aH⟩:Pl))=false from h] at J;clear h;have S:=Ck { x with has:=x.has++[p] } [] V (by simp only;omega);have G:=nY (aj { x with has:=x.has++[p] }) x.l.a (x.has++[p]);rw[show bE (aj { x with has:=x.has++[p] }) x.l.a (x.has++[p])=false from Q] at G;clear Q;have K:(x.has++[p]).map Pl.c=x.has.map Pl.c++[p.c]:=by rw[List.map_append];rfl
 rw[av] at G;simp only[av,K] at S G ⊢;refine fw Ev ?_;repeat' ((conv=>whnf);first|(with_reducible first|apply aM|apply fk<;>intro hc<;>try exact aV)|(apply bX;refine⟨_,J,?_⟩)|(((with_reducible apply And.intro);focus (simp only[fG,jo,jq];omega)))|(refine Or.inr ?_;(conv=>whnf);refine⟨_,bY bV (bZ mixed bV) jC rfl ?_,fun _ _ h=>h⟩)|(refine Or.inr ?_;(conv=>whnf);refine⟨_,_,bP (S) ?_,?_⟩;exact oF)|refine eT G ?_|refine aK ?_|fail)
 refine⟨_,_,⟨rfl,rfl⟩,?_⟩;all_goals exact aJ
theorem abA (h:x.has.any (· == p)=false)(hl:x.has.length≤1000000)(hf:aY x.af)(hn:0≤x.n∧x.n≤1000)(X:bE (aj x) x.l.a (x.has++[p])=true)(V:8<x.n+1) :
  dX prog 170 [.ptr 1 0,.pv (uu now),.pv (.agg p.c)] [(1,.var (x.v (.pv (av x.heard)) (.pv (av x.none)) (.aO 2 0) (.pv (cB x.af)) (.pv (av x.bad)) (.pv (.sc (.slice none 0 0))))),(2,.arr 27 0 2 (x.has.map Pl.c))] (.pv (.cK []))
   [(1,.var ((bB { x with has:=x.has++[p] } (x.n+1) now).1.v (.pv (av x.heard)) (.pv (av [])) (.pv (av [])) (.pv (cB x.af)) (.pv (av [])) (.pv (.sc (.slice none 0 0))))),(2,.arr 27 1 2 ((x.has++[p]).map Pl.c))]:=by
 have J:=aA x.has p.node p.aH;rw[show (x.has.any fun y=>y==(⟨p.node,p.aH⟩:Pl))=false from h] at J;clear h;have hw:=Ck { x with has:=x.has++[p] } [] hf (by simp only;omega);have G:=nY (aj { x with has:=x.has++[p] }) x.l.a (x.has++[p]);rw[show bE (aj { x with has:=x.has++[p] }) x.l.a (x.has++[p])=true from X] at G;clear X;have K:(x.has++[p]).map Pl.c=x.has.map Pl.c++[p.c]:=by rw[List.map_append];rfl
 rw[av] at G;have S:IntKind.u64.wrap (x.n+1)=x.n+1:=gX (by omega) (by omega);have Q:=abv { x with has:=x.has++[p] } (x.n+1) now V;rw[←S] at Q ⊢;clear S V;simp only[av,K] at hw G Q ⊢;refine fw Ev ?_;repeat' ((conv=>whnf);first|(with_reducible first|apply aM|apply fk<;>intro hc<;>try exact aV)|(apply bX;refine⟨_,J,?_⟩)|(((with_reducible apply And.intro);focus (simp only[fG,jo,jq];omega)))|(refine Or.inr ?_;(conv=>whnf);refine⟨_,bY bV (bZ mixed bV) jC rfl ?_,fun _ _ h=>h⟩)|(refine Or.inr ?_;(conv=>whnf);refine⟨_,_,bP (hw) ?_,?_⟩;exact oF)|refine eT G ?_|refine eF Q ?_|refine aK ?_|fail)
 refine⟨_,_,⟨rfl,rfl⟩,?_⟩;all_goals exact aJ
theorem abB (h:x.has.any (· == p)=false)(hl:x.has.length≤1000000)(hf:aY x.af)(hn:0≤x.n∧x.n≤1000)(X:bE (aj x) x.l.a (x.has++[p])=true)(h8:x.n+1≤8)(Q:aY x.l.af)(hs:∀n,(setOf x.l.af x.l.w n).length≤1000000) :
  dX prog 170 [.ptr 1 0,.pv (uu now),.pv (.agg p.c)] [(1,.var (x.v (.pv (av x.heard)) (.pv (av x.none)) (.aO 2 0) (.pv (cB x.af)) (.pv (av x.bad)) (.pv (.sc (.slice none 0 0))))),(2,.arr 27 0 2 (x.has.map Pl.c))] (.pv (.cK []))
   [(1,.var ((bB { x with has:=x.has++[p] } (x.n+1) now).1.v (.pv (av x.heard)) (.pv (av [])) (.pv (av [])) (.pv (cB x.af)) (.pv (av [])) (.aO 1001 0))),(2,.arr 27 1 2 ((x.has++[p]).map Pl.c)),(1001,.arr 93 0 10 ((bB { x with has:=x.has++[p] } (x.n+1) now).2.map Rq.c))]:=by
 have J:=aA x.has p.node p.aH;rw[show (x.has.any fun y=>y==(⟨p.node,p.aH⟩:Pl))=false from h] at J;clear h;have hw:=Ck { x with has:=x.has++[p] } [] hf (by simp only;omega);have G:=nY (aj { x with has:=x.has++[p] }) x.l.a (x.has++[p]);rw[show bE (aj { x with has:=x.has++[p] }) x.l.a (x.has++[p])=true from X] at G;clear X;have K:(x.has++[p]).map Pl.c=x.has.map Pl.c++[p.c]:=by rw[List.map_append];rfl
 rw[av] at G;have V:IntKind.u64.wrap (x.n+1)=x.n+1:=gX (by omega) (by omega);have S:=abx { x with has:=x.has++[p] } (x.n+1) now (by omega) Q hs;rw[←V] at S ⊢;clear V h8 hs;simp only[av,K] at hw G S ⊢;refine fw Ev ?_;repeat' ((conv=>whnf);first|(with_reducible first|apply aM|apply fk<;>intro hc<;>try exact aV)|(apply bX;refine⟨_,J,?_⟩)|(((with_reducible apply And.intro);focus (simp only[fG,jo,jq];omega)))|(refine Or.inr ?_;(conv=>whnf);refine⟨_,bY bV (bZ mixed bV) jC rfl ?_,fun _ _ h=>h⟩)|(refine Or.inr ?_;(conv=>whnf);refine⟨_,_,bP (hw) ?_,?_⟩;exact oF)|refine eT G ?_|refine eF S ?_|refine aK ?_|fail)
 refine⟨_,_,⟨rfl,rfl⟩,?_⟩;all_goals exact aJ
end
theorem RQ (x:Rv)(now:Int)(r:Rs)(V:0<x.l.af.length)(K:x.l.af.length≤1000)(X:(aS x).ah.any (· == r.from_)=false) :
  dX prog 137 [.ptr 1 0,.pv (uu now),.pv (.agg r.c)] [(1,.var (x.v (.aO 2 0) (.pv (av x.none)) (.pv (av x.has)) (.pv (cB x.af)) (.pv (av x.bad)) (.pv (.sc (.slice none 0 0))))),(2,.arr 27 0 2 (x.heard.map Pl.c))] (.pv (.cK []))
   [(1,.var (x.v (.aO 2 0) (.pv (av x.none)) (.pv (av x.has)) (.pv (cB x.af)) (.pv (av x.bad)) (.pv (.sc (.slice none 0 0))))),(2,.arr 27 0 2 (x.heard.map Pl.c))]:=by
 have Q:=mQ x V K;have G:=aA (aS x).ah r.from_.node r.from_.aH;have J:=aA x.heard r.from_.node r.from_.aH;rw[show ((aS x).ah.any fun y=>y==(⟨r.from_.node,r.from_.aH⟩:Pl))=false from X] at G;clear V K;obtain⟨lf,S⟩:∃lf,aS x=lf:=⟨_,rfl⟩;rw[S] at Q G;clear S;rw[av] at J;refine fw kz ?_;repeat' ((conv=>whnf);first|(with_reducible first|apply aM|apply fk<;>intro hc<;>try exact aV)|(refine Or.inr ?_;(conv=>whnf);refine⟨_,_,bP (Q) ?_,?_⟩;exact oF)|(apply bX;refine⟨_,G,?_⟩)|refine eT J ?_|refine aK ?_|fail)
 refine⟨_,_,⟨rfl,rfl⟩,?_⟩;all_goals exact aJ
theorem RS (x:Rv)(now:Int)(r:Rs)(V:0<x.l.af.length)(K:x.l.af.length≤1000)(X:(aS x).ah.any (· == r.from_)=true)(h2:x.heard.any (· == r.from_)=true) :
  dX prog 137 [.ptr 1 0,.pv (uu now),.pv (.agg r.c)] [(1,.var (x.v (.aO 2 0) (.pv (av x.none)) (.pv (av x.has)) (.pv (cB x.af)) (.pv (av x.bad)) (.pv (.sc (.slice none 0 0))))),(2,.arr 27 0 2 (x.heard.map Pl.c))] (.pv (.cK []))
   [(1,.var (x.v (.aO 2 0) (.pv (av x.none)) (.pv (av x.has)) (.pv (cB x.af)) (.pv (av x.bad)) (.pv (.sc (.slice none 0 0))))),(2,.arr 27 0 2 (x.heard.map Pl.c))]:=by
 have Q:=mQ x V K;have J:=aA (aS x).ah r.from_.node r.from_.aH;have G:=aA x.heard r.from_.node r.from_.aH;rw[show ((aS x).ah.any fun y=>y==(⟨r.from_.node,r.from_.aH⟩:Pl))=true from X] at J;rw[show (x.heard.any fun y=>y==(⟨r.from_.node,r.from_.aH⟩:Pl))=true from h2] at G;clear V K;obtain⟨lf,S⟩:∃lf,aS x=lf:=⟨_,rfl⟩;rw[S] at Q J;clear S;rw[av] at G;refine fw kz ?_;repeat' ((conv=>whnf);first|(with_reducible first|apply aM|apply fk<;>intro hc<;>try exact aV)|(refine Or.inr ?_;(conv=>whnf);refine⟨_,_,bP (Q) ?_,?_⟩;exact oF)|(apply bX;refine⟨_,J,?_⟩)|refine eT G ?_|refine aK ?_|fail)
 refine⟨_,_,⟨rfl,rfl⟩,?_⟩;all_goals exact aJ
theorem Wu (x:Rv)(now:Int)(r:Rs)(X:0<x.l.af.length)(S:x.l.af.length≤1000)(hl:x.heard.length≤1000000)(h1:(aS x).ah.any (· == r.from_)=true)(h2:x.heard.any (· == r.from_)=false)(p1:(x.phase==1)=false)(p2:(x.phase==2)=false) :
  dX prog 137 [.ptr 1 0,.pv (uu now),.pv (.agg r.c)] [(1,.var (x.v (.aO 2 0) (.pv (av x.none)) (.pv (av x.has)) (.pv (cB x.af)) (.pv (av x.bad)) (.pv (.sc (.slice none 0 0))))),(2,.arr 27 0 2 (x.heard.map Pl.c))] (.pv (.cK []))
   [(1,.var (({ x with heard:=x.heard++[r.from_],sure:=min (max x.sure r.sure) 8 }:Rv).v (.aO 2 1) (.pv (av x.none)) (.pv (av x.has)) (.pv (cB x.af)) (.pv (av x.bad)) (.pv (.sc (.slice none 0 0))))),(2,.arr 27 1 2 ((x.heard++[r.from_]).map Pl.c))]:=by
 have Q:=mQ x X S;have J:=aA (aS x).ah r.from_.node r.from_.aH;have G:=aA x.heard r.from_.node r.from_.aH;rw[show ((aS x).ah.any fun y=>y==(⟨r.from_.node,r.from_.aH⟩:Pl))=true from h1] at J;rw[show (x.heard.any fun y=>y==(⟨r.from_.node,r.from_.aH⟩:Pl))=false from h2] at G;have K:(x.heard++[r.from_]).map Pl.c=x.heard.map Pl.c++[r.from_.c]:=by rw[List.map_append];rfl
 clear X S;obtain⟨lf,V⟩:∃lf,aS x=lf:=⟨_,rfl⟩;rw[V] at Q J;clear V h1 h2;rw[av] at G;rw[K];refine fw kz ?_;repeat' ((conv=>whnf);first|(with_reducible first|apply aM|apply fk<;>intro hc<;>try exact aV)|(refine Or.inr ?_;(conv=>whnf);refine⟨_,_,bP (Q) ?_,?_⟩;exact oF)|(apply bX;refine⟨_,J,?_⟩)|refine eT G ?_|(((with_reducible apply And.intro);focus (simp only[fG,jo,jq];omega)))|refine aK ?_|fail)
 refine⟨_,_,⟨rfl,rfl⟩,?_⟩;repeat' first|apply And.intro|exact aJ|fail
 all_goals try (conv=>whnf)
 show _=min (max x.sure r.sure) 8
 clear Q J G K;repeat' split
 all_goals omega
theorem Wv (x:Rv)(now:Int)(r:Rs)(h0:0<x.l.af.length)(S:x.l.af.length≤1000)(hl:x.heard.length≤1000000)(h1:(aS x).ah.any (· == r.from_)=true)(h2:x.heard.any (· == r.from_)=false)(hf:aY x.l.af)(hn:0≤x.n∧x.n≤1000)(p1:(x.phase==1)=false)(p2:(x.phase==2)=true)(h3:(aC x).any (· == r.from_)=false) :
  dX prog 137 [.ptr 1 0,.pv (uu now),.pv (.agg r.c)] [(1,.var (x.v (.aO 2 0) (.pv (av x.none)) (.pv (av x.has)) (.pv (cB x.af)) (.pv (av x.bad)) (.pv (.sc (.slice none 0 0))))),(2,.arr 27 0 2 (x.heard.map Pl.c))] (.pv (.cK []))
   [(1,.var (({ x with heard:=x.heard++[r.from_],sure:=min (max x.sure r.sure) 8 }:Rv).v (.aO 2 1) (.pv (av x.none)) (.pv (av x.has)) (.pv (cB x.af)) (.pv (av x.bad)) (.pv (.sc (.slice none 0 0))))),(2,.arr 27 1 2 ((x.heard++[r.from_]).map Pl.c))]:=by
 have V:=mQ x h0 S;have K:=aA (aS x).ah r.from_.node r.from_.aH;have J:=aA x.heard r.from_.node r.from_.aH;rw[show ((aS x).ah.any fun y=>y==(⟨r.from_.node,r.from_.aH⟩:Pl))=true from h1] at K;rw[show (x.heard.any fun y=>y==(⟨r.from_.node,r.from_.aH⟩:Pl))=false from h2] at J;have G:(x.heard++[r.from_]).map Pl.c=x.heard.map Pl.c++[r.from_.c]:=by rw[List.map_append];rfl
 have Q:=OG ({ x with heard:=x.heard++[r.from_],sure:=min (max x.sure r.sure) 8 }:Rv) [] hf (by simp only;omega);have uL:=aA (aC x) r.from_.node r.from_.aH;rw[show ((aC x).any fun y=>y==(⟨r.from_.node,r.from_.aH⟩:Pl))=false from h3] at uL;have X:min (max x.sure r.sure) 8=(if 8<if r.sure>x.sure then r.sure else x.sure then 8 else if r.sure>x.sure then r.sure else x.sure):=by (repeat' split)<;>omega
 rw[X] at Q ⊢;simp only[av,G] at Q;clear X hf hn h3;clear h0 S;obtain⟨lf,gN⟩:∃lf,aS x=lf:=⟨_,rfl⟩;rw[gN] at V K;clear gN h1 h2;rw[av] at J;rw[G];refine fw kz ?_;repeat' ((conv=>whnf);first|(with_reducible first|apply aM|apply fk<;>intro hc<;>try exact aV)|(refine Or.inr ?_;(conv=>whnf);refine⟨_,_,bP (V) ?_,?_⟩;exact oF)|(apply bX;refine⟨_,K,?_⟩)|refine eT J ?_|(((with_reducible apply And.intro);focus (simp only[fG,jo,jq];omega)))|(refine Or.inr ?_;(conv=>whnf);refine⟨_,_,bP (Q) ?_,?_⟩;exact oF)|(apply bX;refine⟨_,uL,?_⟩)|refine aK ?_|fail)
 refine⟨_,_,⟨rfl,rfl⟩,?_⟩;all_goals exact aJ
theorem Ww (x:Rv)(now:Int)(r:Rs)(h0:0<x.l.af.length)(S:x.l.af.length≤1000)(hl:x.heard.length≤1000000)(h1:(aS x).ah.any (· == r.from_)=true)(h2:x.heard.any (· == r.from_)=false)(hb:(aS x).ah.length≤1000000)(hw:0≤x.l.w∧x.l.w≤9223372036854775807)(ha:0≤x.l.a)(p1:(x.phase==1)=true)(p2:(x.phase==2)=false)(h3:eu (aS x) x.l.w x.l.a (x.heard++[r.from_])=false) :
  dX prog 137 [.ptr 1 0,.pv (uu now),.pv (.agg r.c)] [(1,.var (x.v (.aO 2 0) (.pv (av x.none)) (.pv (av x.has)) (.pv (cB x.af)) (.pv (av x.bad)) (.pv (.sc (.slice none 0 0))))),(2,.arr 27 0 2 (x.heard.map Pl.c))] (.pv (.cK []))
   [(1,.var (({ x with heard:=x.heard++[r.from_],sure:=min (max x.sure r.sure) 8 }:Rv).v (.aO 2 1) (.pv (av x.none)) (.pv (av x.has)) (.pv (cB x.af)) (.pv (av x.bad)) (.pv (.sc (.slice none 0 0))))),(2,.arr 27 1 2 ((x.heard++[r.from_]).map Pl.c))]:=by
 have X:=mQ x h0 S;have Q:=aA (aS x).ah r.from_.node r.from_.aH;have K:=aA x.heard r.from_.node r.from_.aH;rw[show ((aS x).ah.any fun y=>y==(⟨r.from_.node,r.from_.aH⟩:Pl))=true from h1] at Q;rw[show (x.heard.any fun y=>y==(⟨r.from_.node,r.from_.aH⟩:Pl))=false from h2] at K;have J:(x.heard++[r.from_]).map Pl.c=x.heard.map Pl.c++[r.from_.c]:=by rw[List.map_append];rfl
 have V:=mQ ({ x with heard:=x.heard++[r.from_],sure:=min (max x.sure r.sure) 8 }:Rv) h0 S;rw[show aS ({ x with heard:=x.heard++[r.from_],sure:=min (max x.sure r.sure) 8 }:Rv)=aS x from rfl] at V;have G:=y8 (aS x) x.l.w x.l.a (x.heard++[r.from_]) hw ha (by omega);rw[h3] at G;have es:min (max x.sure r.sure) 8=(if 8<if r.sure>x.sure then r.sure else x.sure then 8 else if r.sure>x.sure then r.sure else x.sure):=by (repeat' split)<;>omega
 rw[es] at V ⊢;simp only[av,J] at V G;clear es h3 hb hw ha;clear h0 S;obtain⟨lf,gN⟩:∃lf,aS x=lf:=⟨_,rfl⟩;rw[gN] at X Q V G;clear gN h1 h2;rw[av] at K;rw[J];refine fw kz ?_;repeat' ((conv=>whnf);first|(with_reducible first|apply aM|apply fk<;>intro hc<;>try exact aV)|(refine Or.inr ?_;(conv=>whnf);refine⟨_,_,bP (X) ?_,?_⟩;exact oF)|(apply bX;refine⟨_,Q,?_⟩)|refine eT K ?_|(((with_reducible apply And.intro);focus (simp only[fG,jo,jq];omega)))|(refine Or.inr ?_;(conv=>whnf);refine⟨_,_,bP (V) ?_,?_⟩;exact oF)|refine eT G ?_|refine aK ?_|fail)
 refine⟨_,_,⟨rfl,rfl⟩,?_⟩;all_goals exact aJ
theorem Wx (x:Rv)(now:Int)(r:Rs)(h0:0<x.l.af.length)(S:x.l.af.length≤1000)(hl:x.heard.length≤1000000)(h1:(aS x).ah.any (· == r.from_)=true)(h2:x.heard.any (· == r.from_)=false)(hb:(aS x).ah.length≤1000000)(hw:0≤x.l.w∧x.l.w≤9223372036854775807)(ha:0≤x.l.a)(p1:(x.phase==1)=true)(p2:(x.phase==2)=false)(h3:eu (aS x) x.l.w x.l.a (x.heard++[r.from_])=true)(hs:0≤x.sure)(h8:8<max (min (max x.sure r.sure) 8+1) (aS x).first) :
  dX prog 137 [.ptr 1 0,.pv (uu now),.pv (.agg r.c)] [(1,.var (x.v (.aO 2 0) (.pv (av x.none)) (.pv (av x.has)) (.pv (cB x.af)) (.pv (av x.bad)) (.pv (.sc (.slice none 0 0))))),(2,.arr 27 0 2 (x.heard.map Pl.c))] (.pv (.cK []))
   [(1,.var ((bB { x with heard:=x.heard++[r.from_],sure:=min (max x.sure r.sure) 8 } (max (min (max x.sure r.sure) 8+1) (aS x).first) now).1.v (.aO 2 1) (.pv (av [])) (.pv (av [])) (.pv (cB x.af)) (.pv (av [])) (.pv (.sc (.slice none 0 0))))),(2,.arr 27 1 2 ((x.heard++[r.from_]).map Pl.c))]:=by
 have aa:=mQ x h0 S;have Q:=aA (aS x).ah r.from_.node r.from_.aH;have K:=aA x.heard r.from_.node r.from_.aH;rw[show ((aS x).ah.any fun y=>y==(⟨r.from_.node,r.from_.aH⟩:Pl))=true from h1] at Q;rw[show (x.heard.any fun y=>y==(⟨r.from_.node,r.from_.aH⟩:Pl))=false from h2] at K;have J:(x.heard++[r.from_]).map Pl.c=x.heard.map Pl.c++[r.from_.c]:=by rw[List.map_append];rfl
 have V:=mQ ({ x with heard:=x.heard++[r.from_],sure:=min (max x.sure r.sure) 8 }:Rv) h0 S;rw[show aS ({ x with heard:=x.heard++[r.from_],sure:=min (max x.sure r.sure) 8 }:Rv)=aS x from rfl] at V;have G:=y8 (aS x) x.l.w x.l.a (x.heard++[r.from_]) hw ha (by omega);rw[h3] at G;have X:=abu ({ x with heard:=x.heard++[r.from_],sure:=min (max x.sure r.sure) 8 }:Rv) (max (min (max x.sure r.sure) 8+1) (aS x).first) now h8;have es:min (max x.sure r.sure) 8=(if 8<if r.sure>x.sure then r.sure else x.sure then 8 else if r.sure>x.sure then r.sure else x.sure):=by (repeat' split)<;>omega
 have ew:IntKind.u64.wrap (min (max x.sure r.sure) 8+1)=min (max x.sure r.sure) 8+1:=gX (by omega) (by omega);have en:(max (min (max x.sure r.sure) 8+1) (aS x).first)=(if (aS x).first>IntKind.u64.wrap (min (max x.sure r.sure) 8+1) then (aS x).first else IntKind.u64.wrap (min (max x.sure r.sure) 8+1)):=by rw[ew];split<;>omega
 rw[en] at X ⊢;clear en ew h8 hs;rw[es] at V X ⊢;simp only[av,J] at V G X;clear es h3 hb hw ha;clear h0 S;obtain⟨lf,gN⟩:∃lf,aS x=lf:=⟨_,rfl⟩;rw[gN] at aa Q V G X ⊢;clear gN h1 h2;rw[av] at K;rw[J];refine fw kz ?_;repeat' ((conv=>whnf);first|(with_reducible first|apply aM|apply fk<;>intro hc<;>try exact aV)|(refine Or.inr ?_;(conv=>whnf);refine⟨_,_,bP (aa) ?_,?_⟩;exact oF)|(apply bX;refine⟨_,Q,?_⟩)|refine eT K ?_|(((with_reducible apply And.intro);focus (simp only[fG,jo,jq];omega)))|(refine Or.inr ?_;(conv=>whnf);refine⟨_,_,bP (V) ?_,?_⟩;exact oF)|refine eT G ?_|refine eF X ?_|refine aK ?_|fail)
 refine⟨_,_,⟨rfl,rfl⟩,?_⟩;all_goals exact aJ
theorem Wy (x:Rv)(now:Int)(r:Rs)(h0:0<x.l.af.length)(S:x.l.af.length≤1000)(hl:x.heard.length≤1000000)(h1:(aS x).ah.any (· == r.from_)=true)(h2:x.heard.any (· == r.from_)=false)(hb:(aS x).ah.length≤1000000)(hw:0≤x.l.w∧x.l.w≤9223372036854775807)(ha:0≤x.l.a)(p1:(x.phase==1)=true)(p2:(x.phase==2)=false)(h3:eu (aS x) x.l.w x.l.a (x.heard++[r.from_])=true)(hs:0≤x.sure)(h8:(max (min (max x.sure r.sure) 8+1) (aS x).first)≤8)(X:aY x.l.af)(ad:∀n,(setOf x.l.af x.l.w n).length≤1000000) :
  dX prog 137 [.ptr 1 0,.pv (uu now),.pv (.agg r.c)] [(1,.var (x.v (.aO 2 0) (.pv (av x.none)) (.pv (av x.has)) (.pv (cB x.af)) (.pv (av x.bad)) (.pv (.sc (.slice none 0 0))))),(2,.arr 27 0 2 (x.heard.map Pl.c))] (.pv (.cK []))
   [(1,.var ((bB { x with heard:=x.heard++[r.from_],sure:=min (max x.sure r.sure) 8 } (max (min (max x.sure r.sure) 8+1) (aS x).first) now).1.v (.aO 2 1) (.pv (av [])) (.pv (av [])) (.pv (cB x.af)) (.pv (av [])) (.aO 1001 0))),(2,.arr 27 1 2 ((x.heard++[r.from_]).map Pl.c)),(1001,.arr 93 0 10 ((bB { x with heard:=x.heard++[r.from_],sure:=min (max x.sure r.sure) 8 } (max (min (max x.sure r.sure) 8+1) (aS x).first) now).2.map Rq.c))]:=by
 have aa:=mQ x h0 S;have Q:=aA (aS x).ah r.from_.node r.from_.aH;have K:=aA x.heard r.from_.node r.from_.aH;rw[show ((aS x).ah.any fun y=>y==(⟨r.from_.node,r.from_.aH⟩:Pl))=true from h1] at Q;rw[show (x.heard.any fun y=>y==(⟨r.from_.node,r.from_.aH⟩:Pl))=false from h2] at K;have J:(x.heard++[r.from_]).map Pl.c=x.heard.map Pl.c++[r.from_.c]:=by rw[List.map_append];rfl
 have V:=mQ ({ x with heard:=x.heard++[r.from_],sure:=min (max x.sure r.sure) 8 }:Rv) h0 S;rw[show aS ({ x with heard:=x.heard++[r.from_],sure:=min (max x.sure r.sure) 8 }:Rv)=aS x from rfl] at V;have G:=y8 (aS x) x.l.w x.l.a (x.heard++[r.from_]) hw ha (by omega);rw[h3] at G;have hg:=abw ({ x with heard:=x.heard++[r.from_],sure:=min (max x.sure r.sure) 8 }:Rv) (max (min (max x.sure r.sure) 8+1) (aS x).first) now (by omega) X ad;have es:min (max x.sure r.sure) 8=(if 8<if r.sure>x.sure then r.sure else x.sure then 8 else if r.sure>x.sure then r.sure else x.sure):=by (repeat' split)<;>omega
 have ew:IntKind.u64.wrap (min (max x.sure r.sure) 8+1)=min (max x.sure r.sure) 8+1:=gX (by omega) (by omega);have en:(max (min (max x.sure r.sure) 8+1) (aS x).first)=(if (aS x).first>IntKind.u64.wrap (min (max x.sure r.sure) 8+1) then (aS x).first else IntKind.u64.wrap (min (max x.sure r.sure) 8+1)):=by rw[ew];split<;>omega
 rw[en] at hg ⊢;clear en ew h8 hs ad X;rw[es] at V hg ⊢;simp only[av,J] at V G hg;clear es h3 hb hw ha;clear h0 S;obtain⟨lf,gN⟩:∃lf,aS x=lf:=⟨_,rfl⟩;rw[gN] at aa Q V G hg ⊢;clear gN h1 h2;rw[av] at K;rw[J];refine fw kz ?_;repeat' ((conv=>whnf);first|(with_reducible first|apply aM|apply fk<;>intro hc<;>try exact aV)|(refine Or.inr ?_;(conv=>whnf);refine⟨_,_,bP (aa) ?_,?_⟩;exact oF)|(apply bX;refine⟨_,Q,?_⟩)|refine eT K ?_|(((with_reducible apply And.intro);focus (simp only[fG,jo,jq];omega)))|(refine Or.inr ?_;(conv=>whnf);refine⟨_,_,bP (V) ?_,?_⟩;exact oF)|refine eT G ?_|refine eF hg ?_|refine aK ?_|fail)
 refine⟨_,_,⟨rfl,rfl⟩,?_⟩;all_goals exact aJ
theorem Wz (x:Rv)(now:Int)(r:Rs)(h0:0<x.l.af.length)(S:x.l.af.length≤1000)(hl:x.heard.length≤1000000)(h1:(aS x).ah.any (· == r.from_)=true)(h2:x.heard.any (· == r.from_)=false)(hf:aY x.l.af)(hn:0≤x.n∧x.n≤1000)(p1:(x.phase==1)=false)(p2:(x.phase==2)=true)(h3:(aC x).any (· == r.from_)=true) :
  dX prog 137 [.ptr 1 0,.pv (uu now),.pv (.agg r.c)] [(1,.var (x.v (.aO 2 0) (.pv (av x.none)) (.pv (av x.has)) (.pv (cB x.af)) (.pv (av x.bad)) (.pv (.sc (.slice none 0 0))))),(2,.arr 27 0 2 (x.heard.map Pl.c))] (.pv (.cK []))
   [(1,.var (({ x with heard:=x.heard++[r.from_],sure:=min (max x.sure r.sure) 8 }:Rv).v (.aO 2 1) (.pv (av x.none)) (.pv (av x.has)) (.pv (cB x.af)) (.pv (av x.bad)) (.aO 1001 0))),(2,.arr 27 1 2 ((x.heard++[r.from_]).map Pl.c)),(1001,.arr 93 0 10 ([jB x r.from_].map Rq.c))]:=by
 have V:=mQ x h0 S;have K:=aA (aS x).ah r.from_.node r.from_.aH;have J:=aA x.heard r.from_.node r.from_.aH;rw[show ((aS x).ah.any fun y=>y==(⟨r.from_.node,r.from_.aH⟩:Pl))=true from h1] at K;rw[show (x.heard.any fun y=>y==(⟨r.from_.node,r.from_.aH⟩:Pl))=false from h2] at J;have G:(x.heard++[r.from_]).map Pl.c=x.heard.map Pl.c++[r.from_.c]:=by rw[List.map_append];rfl
 have Q:=OG ({ x with heard:=x.heard++[r.from_],sure:=min (max x.sure r.sure) 8 }:Rv) [] hf (by simp only;omega);have uL:=aA (aC x) r.from_.node r.from_.aH;rw[show ((aC x).any fun y=>y==(⟨r.from_.node,r.from_.aH⟩:Pl))=true from h3] at uL;have X:min (max x.sure r.sure) 8=(if 8<if r.sure>x.sure then r.sure else x.sure then 8 else if r.sure>x.sure then r.sure else x.sure):=by (repeat' split)<;>omega
 rw[X] at Q ⊢;simp only[av,G] at Q;clear X hf hn h3;clear h0 S;obtain⟨lf,gN⟩:∃lf,aS x=lf:=⟨_,rfl⟩;rw[gN] at V K;clear gN h1 h2;rw[av] at J;rw[G];refine fw kz ?_;repeat' ((conv=>whnf);first|(with_reducible first|apply aM|apply fk<;>intro hc<;>try exact aV)|(refine Or.inr ?_;(conv=>whnf);refine⟨_,_,bP (V) ?_,?_⟩;exact oF)|(apply bX;refine⟨_,K,?_⟩)|refine eT J ?_|(((with_reducible apply And.intro);focus (simp only[fG,jo,jq];omega)))|(refine Or.inr ?_;(conv=>whnf);refine⟨_,_,bP (Q) ?_,?_⟩;exact oF)|(apply bX;refine⟨_,uL,?_⟩)|(refine Or.inr ?_;(conv=>whnf);refine⟨_,bY bV (bZ mixed bV) AA rfl ?_,fun _ _ h=>h⟩)|refine aK ?_|fail)
 refine⟨_,_,⟨rfl,rfl⟩,?_⟩;all_goals exact aJ
theorem abC (x:Rv)(out:List Rq)(n now:Int)(G:8<n) :
  dX prog 166 [.ptr 1 0,.pv (uu n),.pv (uu now)] [(1,.var (x.v (.pv (av x.heard)) (.pv (av x.none)) (.aO 2 0) (.pv (cB x.af)) (.pv (av x.bad)) (.aO 3 0))),(2,.arr 27 0 2 (x.has.map Pl.c)),(3,.arr 93 0 10 (out.map Rq.c))] (.pv (.cK []))
   [(1,.var ((bB x n now).1.v (.pv (av x.heard)) (.pv (av [])) (.pv (av [])) (.pv (cB x.af)) (.pv (av [])) (.aO 3 0))),(2,.arr 27 0 2 (x.has.map Pl.c)),(3,.arr 93 0 10 (out.map Rq.c))]:=by
 have d:decide (n>8)=true:=by simp only[iG];omega
 have e:bB x n now=({ x with n:=n,none:=[],has:=[],body:=[],bad:=[],phase:=4 },[]):=by unfold bB;rw[if_pos d]
 rw[e];clear e G;refine fw nZ ?_;repeat' ((conv=>whnf);first|(with_reducible first|apply aM|apply fk<;>intro hc<;>try exact aV)|refine aK ?_|fail)
 all_goals
  refine⟨_,_,⟨rfl,rfl⟩,?_⟩;all_goals exact aJ
theorem abD (x:Rv)(out:List Rq)(J:out.length≤1000)(n now:Int)(Q:0≤n∧n≤8)(K:aY x.l.af)(hs:∀n,(setOf x.l.af x.l.w n).length≤1000000) :
  dX prog 166 [.ptr 1 0,.pv (uu n),.pv (uu now)] [(1,.var (x.v (.pv (av x.heard)) (.pv (av x.none)) (.aO 2 0) (.pv (cB x.af)) (.pv (av x.bad)) (.aO 3 0))),(2,.arr 27 0 2 (x.has.map Pl.c)),(3,.arr 93 0 10 (out.map Rq.c))] (.pv (.cK []))
   [(1,.var ((bB x n now).1.v (.pv (av x.heard)) (.pv (av [])) (.pv (av [])) (.pv (cB x.af)) (.pv (av [])) (.aO 1001 0))),(2,.arr 27 0 2 (x.has.map Pl.c)),(3,.d9 1 10 []),(1001,.arr 93 0 10 ((out++(bB x n now).2).map Rq.c))]:=by
 have d:decide (n>8)=false:=by simp only[uS];omega
 obtain⟨y,G⟩:∃y:Rv,y={ x with n:=n,none:=[],has:=[],body:=[],bad:=[],phase:=2,born:=now }:=⟨_,rfl⟩;have e:bB x n now=({ y with since:=now },gF y (aC y)):=by unfold bB;rw[if_neg (by rw[d];simp),G];rfl
 rw[e];have S:=abp y now out J (by rw[G]) (by rw[G];exact K) (by rw[G];simp only;omega) (by rw[G];exact hs _);subst G;clear e Q;refine fw nZ ?_;repeat' ((conv=>whnf);first|(with_reducible first|apply aM|apply fk<;>intro hc<;>try exact aV)|(refine Or.inr ?_;(conv=>whnf);refine⟨_,bY bV (bZ mixed bV) jN rfl ?_,fun _ _ h=>h⟩)|refine eF S ?_|refine aK ?_|fail)
 all_goals
  refine⟨_,_,⟨rfl,rfl⟩,?_⟩;all_goals exact aJ
section
variable (x:Rv)(out:List Rq)(now:Int)
theorem RU (K:aY x.af)(S:0≤x.n∧x.n≤1000)(J:bE (aj x) x.l.a x.has=false) :
  dX prog 143 [.ptr 1 0,.pv (uu now)] [(1,.var (x.v (.pv (av x.heard)) (.pv (av x.none)) (.aO 2 0) (.pv (cB x.af)) (.pv (av x.bad)) (.aO 3 0))),(2,.arr 27 0 2 (x.has.map Pl.c)),(3,.arr 93 0 10 (out.map Rq.c))] (.pv (.cK []))
   [(1,.var (x.v (.pv (av x.heard)) (.pv (av x.none)) (.aO 2 0) (.pv (cB x.af)) (.pv (av x.bad)) (.aO 3 0))),(2,.arr 27 0 2 (x.has.map Pl.c)),(3,.arr 93 0 10 (out.map Rq.c))]:=by
 have Q:=y9 x out K (by omega);have G:=nY (aj x) x.l.a x.has;rw[J] at G;clear J;refine fw jC ?_;repeat' ((conv=>whnf);first|(with_reducible first|apply aM|apply fk<;>intro hc<;>try exact aV)|(refine Or.inr ?_;(conv=>whnf);refine⟨_,_,bP (Q) ?_,?_⟩;exact oF)|refine eT G ?_|refine aK ?_|fail)
 refine⟨_,_,⟨rfl,rfl⟩,?_⟩;all_goals exact aJ
theorem RV (V:aY x.af)(hn:0≤x.n∧x.n≤1000)(Q:bE (aj x) x.l.a x.has=true)(K:8<x.n+1) :
  dX prog 143 [.ptr 1 0,.pv (uu now)] [(1,.var (x.v (.pv (av x.heard)) (.pv (av x.none)) (.aO 2 0) (.pv (cB x.af)) (.pv (av x.bad)) (.aO 3 0))),(2,.arr 27 0 2 (x.has.map Pl.c)),(3,.arr 93 0 10 (out.map Rq.c))] (.pv (.cK []))
   [(1,.var ((bB x (x.n+1) now).1.v (.pv (av x.heard)) (.pv (av [])) (.pv (av [])) (.pv (cB x.af)) (.pv (av [])) (.aO 3 0))),(2,.arr 27 0 2 (x.has.map Pl.c)),(3,.arr 93 0 10 (out.map Rq.c))]:=by
 have X:=y9 x out V (by omega);have G:=nY (aj x) x.l.a x.has;rw[Q] at G;clear Q;have J:IntKind.u64.wrap (x.n+1)=x.n+1:=gX (by omega) (by omega);have S:=abC x out (x.n+1) now K;rw[←J] at S ⊢;clear J K;refine fw jC ?_;repeat' ((conv=>whnf);first|(with_reducible first|apply aM|apply fk<;>intro hc<;>try exact aV)|(refine Or.inr ?_;(conv=>whnf);refine⟨_,_,bP (X) ?_,?_⟩;exact oF)|refine eT G ?_|refine eF S ?_|refine aK ?_|fail)
 refine⟨_,_,⟨rfl,rfl⟩,?_⟩;all_goals exact aJ
theorem RX (V:out.length≤1000)(hf:aY x.af)(hn:0≤x.n∧x.n≤1000)(Q:bE (aj x) x.l.a x.has=true)(X:x.n+1≤8)(J:aY x.l.af)(hs:∀n,(setOf x.l.af x.l.w n).length≤1000000) :
  dX prog 143 [.ptr 1 0,.pv (uu now)] [(1,.var (x.v (.pv (av x.heard)) (.pv (av x.none)) (.aO 2 0) (.pv (cB x.af)) (.pv (av x.bad)) (.aO 3 0))),(2,.arr 27 0 2 (x.has.map Pl.c)),(3,.arr 93 0 10 (out.map Rq.c))] (.pv (.cK []))
   [(1,.var ((bB x (x.n+1) now).1.v (.pv (av x.heard)) (.pv (av [])) (.pv (av [])) (.pv (cB x.af)) (.pv (av [])) (.aO 1001 0))),(2,.arr 27 0 2 (x.has.map Pl.c)),(3,.d9 1 10 []),(1001,.arr 93 0 10 ((out++(bB x (x.n+1) now).2).map Rq.c))]:=by
 have hw:=y9 x out hf (by omega);have G:=nY (aj x) x.l.a x.has;rw[Q] at G;clear Q;have K:IntKind.u64.wrap (x.n+1)=x.n+1:=gX (by omega) (by omega);have S:=abD x out V (x.n+1) now (by omega) J hs;rw[←K] at S ⊢;clear K X hs;refine fw jC ?_;repeat' ((conv=>whnf);first|(with_reducible first|apply aM|apply fk<;>intro hc<;>try exact aV)|(refine Or.inr ?_;(conv=>whnf);refine⟨_,_,bP (hw) ?_,?_⟩;exact oF)|refine eT G ?_|refine eF S ?_|refine aK ?_|fail)
 refine⟨_,_,⟨rfl,rfl⟩,?_⟩;all_goals exact aJ
end
section
variable (x:Rv)(now:Int)(r:Rs)
theorem ahx (hf:aY x.l.af)(hn:0≤x.n∧x.n≤1000)
  (c1:(x.phase==2&&(r.code==0&&(aC x).any (· == r.from_)))=false)
  (c2:(x.phase==2&&(r.code==3&&((aC x).any (· == r.from_)&&(x.heard.any (· == r.from_) && !x.none.any (· == r.from_)))))=false)
  (c3:(x.phase==3&&(r.code==0&&decide (r.body=x.body)))=false) :
  dX prog 138 [.ptr 1 0,.pv (uu now),.pv (.agg r.c)] [(1,.var (x.v (.pv (av x.heard)) (.pv (av x.none)) (.pv (av x.has)) (.pv (cB x.af)) (.pv (av x.bad)) (.pv (.sc (.slice none 0 0)))))] (.pv (.cK []))
   [(1,.var (x.v (.pv (av x.heard)) (.pv (av x.none)) (.pv (av x.has)) (.pv (cB x.af)) (.pv (av x.bad)) (.pv (.sc (.slice none 0 0)))))]:=by
 have J:=AB x [] hf (by omega);have Q:=aA (aC x) r.from_.node r.from_.aH;have G:=aA x.heard r.from_.node r.from_.aH;have K:=aA x.none r.from_.node r.from_.aH;obtain⟨th,X⟩:∃th,(aC x).any (· == r.from_)=th:=⟨_,rfl⟩;obtain⟨he,S⟩:∃th,x.heard.any (· == r.from_)=th:=⟨_,rfl⟩;obtain⟨no,V⟩:∃th,x.none.any (· == r.from_)=th:=⟨_,rfl⟩;rw[show ((aC x).any fun y=>y==(⟨r.from_.node,r.from_.aH⟩:Pl))=th from X] at Q;rw[show (x.heard.any fun y=>y==(⟨r.from_.node,r.from_.aH⟩:Pl))=he from S] at G;rw[show (x.none.any fun y=>y==(⟨r.from_.node,r.from_.aH⟩:Pl))=no from V] at K;rw[X] at c1 c2;rw[S,V] at c2;clear X S V hf hn;rw[←Ag] at c3;cases e1:x.phase==2
 ·cases e3:x.phase==3
  ·refine fw iO ?_;repeat' ((conv=>whnf);first|(with_reducible first|apply aM|apply fk<;>intro hc<;>try exact aV)|(refine Or.inr ?_;(conv=>whnf);refine⟨_,_,bP (J) ?_,?_⟩;exact oF)|(apply bX;refine⟨_,Q,?_⟩)|(apply bX;refine⟨_,G,?_⟩)|(apply bX;refine⟨_,K,?_⟩)|((refine⟨r.body,rfl,?_⟩))|((refine⟨x.body,rfl,?_⟩))|refine aK ?_|fail)
   all_goals
    refine⟨_,_,⟨rfl,rfl⟩,?_⟩;all_goals exact aJ
  rw[e3] at c3;simp only[Bool.true_and] at c3;cases e4:r.code==0
  ·refine fw iO ?_;repeat' ((conv=>whnf);first|(with_reducible first|apply aM|apply fk<;>intro hc<;>try exact aV)|(refine Or.inr ?_;(conv=>whnf);refine⟨_,_,bP (J) ?_,?_⟩;exact oF)|(apply bX;refine⟨_,Q,?_⟩)|(apply bX;refine⟨_,G,?_⟩)|(apply bX;refine⟨_,K,?_⟩)|((refine⟨r.body,rfl,?_⟩))|((refine⟨x.body,rfl,?_⟩))|refine aK ?_|fail)
   all_goals
    refine⟨_,_,⟨rfl,rfl⟩,?_⟩;all_goals exact aJ
  rw[e4] at c3;simp only[Bool.true_and] at c3;refine fw iO ?_;repeat' ((conv=>whnf);first|(with_reducible first|apply aM|apply fk<;>intro hc<;>try exact aV)|(refine Or.inr ?_;(conv=>whnf);refine⟨_,_,bP (J) ?_,?_⟩;exact oF)|(apply bX;refine⟨_,Q,?_⟩)|(apply bX;refine⟨_,G,?_⟩)|(apply bX;refine⟨_,K,?_⟩)|((refine⟨r.body,rfl,?_⟩))|((refine⟨x.body,rfl,?_⟩))|refine aK ?_|fail)
  all_goals
   refine⟨_,_,⟨rfl,rfl⟩,?_⟩;all_goals exact aJ
 rw[e1] at c1 c2;simp only[Bool.true_and] at c1 c2;have e3:(x.phase==3)=false:=by
  have:x.phase=2:=by simpa using e1
  rw[this];rfl
 clear c3;cases e4:r.code==0
 ·cases e5:r.code==3
  ·refine fw iO ?_;repeat' ((conv=>whnf);first|(with_reducible first|apply aM|apply fk<;>intro hc<;>try exact aV)|(refine Or.inr ?_;(conv=>whnf);refine⟨_,_,bP (J) ?_,?_⟩;exact oF)|(apply bX;refine⟨_,Q,?_⟩)|(apply bX;refine⟨_,G,?_⟩)|(apply bX;refine⟨_,K,?_⟩)|((refine⟨r.body,rfl,?_⟩))|((refine⟨x.body,rfl,?_⟩))|refine aK ?_|fail)
   all_goals
    refine⟨_,_,⟨rfl,rfl⟩,?_⟩;all_goals exact aJ
  rw[e5] at c2;simp only[Bool.true_and] at c2;cases th
  ·refine fw iO ?_;repeat' ((conv=>whnf);first|(with_reducible first|apply aM|apply fk<;>intro hc<;>try exact aV)|(refine Or.inr ?_;(conv=>whnf);refine⟨_,_,bP (J) ?_,?_⟩;exact oF)|(apply bX;refine⟨_,Q,?_⟩)|(apply bX;refine⟨_,G,?_⟩)|(apply bX;refine⟨_,K,?_⟩)|((refine⟨r.body,rfl,?_⟩))|((refine⟨x.body,rfl,?_⟩))|refine aK ?_|fail)
   all_goals
    refine⟨_,_,⟨rfl,rfl⟩,?_⟩;all_goals exact aJ
  simp only[Bool.true_and] at c2;cases he
  ·refine fw iO ?_;repeat' ((conv=>whnf);first|(with_reducible first|apply aM|apply fk<;>intro hc<;>try exact aV)|(refine Or.inr ?_;(conv=>whnf);refine⟨_,_,bP (J) ?_,?_⟩;exact oF)|(apply bX;refine⟨_,Q,?_⟩)|(apply bX;refine⟨_,G,?_⟩)|(apply bX;refine⟨_,K,?_⟩)|((refine⟨r.body,rfl,?_⟩))|((refine⟨x.body,rfl,?_⟩))|refine aK ?_|fail)
   all_goals
    refine⟨_,_,⟨rfl,rfl⟩,?_⟩;all_goals exact aJ
  simp only[Bool.true_and] at c2;refine fw iO ?_;repeat' ((conv=>whnf);first|(with_reducible first|apply aM|apply fk<;>intro hc<;>try exact aV)|(refine Or.inr ?_;(conv=>whnf);refine⟨_,_,bP (J) ?_,?_⟩;exact oF)|(apply bX;refine⟨_,Q,?_⟩)|(apply bX;refine⟨_,G,?_⟩)|(apply bX;refine⟨_,K,?_⟩)|((refine⟨r.body,rfl,?_⟩))|((refine⟨x.body,rfl,?_⟩))|refine aK ?_|fail)
  all_goals
   refine⟨_,_,⟨rfl,rfl⟩,?_⟩;all_goals exact aJ
 rw[e4] at c1;simp only[Bool.true_and] at c1;subst c1;cases e5:r.code==3
 ·refine fw iO ?_;repeat' ((conv=>whnf);first|(with_reducible first|apply aM|apply fk<;>intro hc<;>try exact aV)|(refine Or.inr ?_;(conv=>whnf);refine⟨_,_,bP (J) ?_,?_⟩;exact oF)|(apply bX;refine⟨_,Q,?_⟩)|(apply bX;refine⟨_,G,?_⟩)|(apply bX;refine⟨_,K,?_⟩)|((refine⟨r.body,rfl,?_⟩))|((refine⟨x.body,rfl,?_⟩))|refine aK ?_|fail)
  all_goals
   refine⟨_,_,⟨rfl,rfl⟩,?_⟩;all_goals exact aJ
 simp_all
end
section
variable (x:Rv)(now:Int)(r:Rs)
theorem aex (hl:x.none.length≤1000000)(hw:0≤x.l.w∧x.l.w≤9223372036854775807)(ha:0≤x.l.a)(V:aY x.l.af)(hn:0≤x.n∧x.n≤1000)(p2:(x.phase==2)=true)(k0:(r.code==0)=false)(k3:(r.code==3)=true)(h1:(aC x).any (· == r.from_)=true)(h2:x.heard.any (· == r.from_)=true)(h3:x.none.any (· == r.from_)=false)(h4:dL (aC x) x.l.w x.l.a (x.none++[r.from_])=false) :
  dX prog 138 [.ptr 1 0,.pv (uu now),.pv (.agg r.c)] [(1,.var (x.v (.pv (av x.heard)) (.aO 2 0) (.pv (av x.has)) (.pv (cB x.af)) (.pv (av x.bad)) (.pv (.sc (.slice none 0 0))))),(2,.arr 27 0 2 (x.none.map Pl.c))] (.pv (.cK []))
   [(1,.var (({ x with none:=x.none++[r.from_],phase:=x.phase }:Rv).v (.pv (av x.heard)) (.aO 2 1) (.pv (av x.has)) (.pv (cB x.af)) (.pv (av x.bad)) (.pv (.sc (.slice none 0 0))))),(2,.arr 27 1 2 ((x.none++[r.from_]).map Pl.c))]:=by
 have X:=AJ x [] V (by omega);have uL:=aA (aC x) r.from_.node r.from_.aH;have Q:=aA x.heard r.from_.node r.from_.aH;have S:=aA x.none r.from_.node r.from_.aH;rw[show ((aC x).any fun y=>y==(⟨r.from_.node,r.from_.aH⟩:Pl))=true from h1] at uL;rw[show (x.heard.any fun y=>y==(⟨r.from_.node,r.from_.aH⟩:Pl))=true from h2] at Q;rw[show (x.none.any fun y=>y==(⟨r.from_.node,r.from_.aH⟩:Pl))=false from h3] at S;have G:(x.none++[r.from_]).map Pl.c=x.none.map Pl.c++[r.from_.c]:=by rw[List.map_append];rfl
 have K:=AJ ({ x with none:=x.none++[r.from_] }:Rv) [] V (by simp only;omega);have J:=yZ (aC x) x.l.w x.l.a (x.none++[r.from_]) hw ha;rw[h4] at J;simp only[av,G] at K J;rw[av] at S;rw[show aC ({ x with none:=x.none++[r.from_] }:Rv)=aC x from rfl] at K;clear h1 h2 h3 h4 hw ha V hn;rw[G];refine fw iO ?_;repeat' ((conv=>whnf);first|(with_reducible first|apply aM|apply fk<;>intro hc<;>try exact aV)|(refine Or.inr ?_;(conv=>whnf);refine⟨_,_,bP (X) ?_,?_⟩;exact oF)|(apply bX;refine⟨_,uL,?_⟩)|(apply bX;refine⟨_,Q,?_⟩)|refine eT S ?_|(((with_reducible apply And.intro);focus (simp only[fG,jo,jq];omega)))|(refine Or.inr ?_;(conv=>whnf);refine⟨_,_,bP (K) ?_,?_⟩;exact oF)|refine eT J ?_|refine aK ?_|fail)
 refine⟨_,_,⟨rfl,rfl⟩,?_⟩;all_goals exact aJ
theorem aey (hl:x.none.length≤1000000)(hw:0≤x.l.w∧x.l.w≤9223372036854775807)(ha:0≤x.l.a)(V:aY x.l.af)(hn:0≤x.n∧x.n≤1000)(p2:(x.phase==2)=true)(k0:(r.code==0)=false)(k3:(r.code==3)=true)(h1:(aC x).any (· == r.from_)=true)(h2:x.heard.any (· == r.from_)=true)(h3:x.none.any (· == r.from_)=false)(h4:dL (aC x) x.l.w x.l.a (x.none++[r.from_])=true) :
  dX prog 138 [.ptr 1 0,.pv (uu now),.pv (.agg r.c)] [(1,.var (x.v (.pv (av x.heard)) (.aO 2 0) (.pv (av x.has)) (.pv (cB x.af)) (.pv (av x.bad)) (.pv (.sc (.slice none 0 0))))),(2,.arr 27 0 2 (x.none.map Pl.c))] (.pv (.cK []))
   [(1,.var (({ x with none:=x.none++[r.from_],phase:=4 }:Rv).v (.pv (av x.heard)) (.aO 2 1) (.pv (av x.has)) (.pv (cB x.af)) (.pv (av x.bad)) (.pv (.sc (.slice none 0 0))))),(2,.arr 27 1 2 ((x.none++[r.from_]).map Pl.c))]:=by
 have X:=AJ x [] V (by omega);have uL:=aA (aC x) r.from_.node r.from_.aH;have Q:=aA x.heard r.from_.node r.from_.aH;have S:=aA x.none r.from_.node r.from_.aH;rw[show ((aC x).any fun y=>y==(⟨r.from_.node,r.from_.aH⟩:Pl))=true from h1] at uL;rw[show (x.heard.any fun y=>y==(⟨r.from_.node,r.from_.aH⟩:Pl))=true from h2] at Q;rw[show (x.none.any fun y=>y==(⟨r.from_.node,r.from_.aH⟩:Pl))=false from h3] at S;have G:(x.none++[r.from_]).map Pl.c=x.none.map Pl.c++[r.from_.c]:=by rw[List.map_append];rfl
 have K:=AJ ({ x with none:=x.none++[r.from_] }:Rv) [] V (by simp only;omega);have J:=yZ (aC x) x.l.w x.l.a (x.none++[r.from_]) hw ha;rw[h4] at J;simp only[av,G] at K J;rw[av] at S;rw[show aC ({ x with none:=x.none++[r.from_] }:Rv)=aC x from rfl] at K;clear h1 h2 h3 h4 hw ha V hn;rw[G];refine fw iO ?_;repeat' ((conv=>whnf);first|(with_reducible first|apply aM|apply fk<;>intro hc<;>try exact aV)|(refine Or.inr ?_;(conv=>whnf);refine⟨_,_,bP (X) ?_,?_⟩;exact oF)|(apply bX;refine⟨_,uL,?_⟩)|(apply bX;refine⟨_,Q,?_⟩)|refine eT S ?_|(((with_reducible apply And.intro);focus (simp only[fG,jo,jq];omega)))|(refine Or.inr ?_;(conv=>whnf);refine⟨_,_,bP (K) ?_,?_⟩;exact oF)|refine eT J ?_|refine aK ?_|fail)
 refine⟨_,_,⟨rfl,rfl⟩,?_⟩;all_goals exact aJ
theorem aez (K:aY x.l.af)(S:0≤x.n∧x.n≤1000)(p2:(x.phase==2)=false)(p3:(x.phase==3)=true)(k0:(r.code==0)=true)(J:r.body=x.body)(h:x.has.any (· == r.from_)=true) :
  dX prog 138 [.ptr 1 0,.pv (uu now),.pv (.agg r.c)] [(1,.var (x.v (.pv (av x.heard)) (.pv (av x.none)) (.aO 2 0) (.pv (cB x.af)) (.pv (av x.bad)) (.pv (.sc (.slice none 0 0))))),(2,.arr 27 0 2 (x.has.map Pl.c))] (.pv (.cK []))
   [(1,.var (x.v (.pv (av x.heard)) (.pv (av x.none)) (.aO 2 0) (.pv (cB x.af)) (.pv (av x.bad)) (.pv (.sc (.slice none 0 0))))),(2,.arr 27 0 2 (x.has.map Pl.c))]:=by
 have G:=AL x [] K (by omega);have V:=aA (aC x) r.from_.node r.from_.aH;have X:((⟨r.body.toArray⟩:ByteArray).toList==(⟨x.body.toArray⟩:ByteArray).toList)=true:=by rw[Ag];exact decide_eq_true J
 have Q:=aby x now r.from_ h;clear h J K S;refine fw iO ?_;repeat' ((conv=>whnf);first|(with_reducible first|apply aM|apply fk<;>intro hc<;>try exact aV)|(refine Or.inr ?_;(conv=>whnf);refine⟨_,_,bP (G) ?_,?_⟩;exact oF)|(apply bX;refine⟨_,V,?_⟩)|((refine⟨r.body,rfl,?_⟩))|((refine⟨x.body,rfl,?_⟩))|refine eF Q ?_|refine aK ?_|fail)
 all_goals
  refine⟨_,_,⟨rfl,rfl⟩,?_⟩;all_goals exact aJ
theorem aeA (S:aY x.l.af)(X:0≤x.n∧x.n≤1000)(p2:(x.phase==2)=false)(p3:(x.phase==3)=true)(k0:(r.code==0)=true)(Q:r.body=x.body)(h:x.has.any (· == r.from_)=false)(V:x.has.length≤1000000)(J:aY x.af)(K:bE (aj x) x.l.a (x.has++[r.from_])=false) :
  dX prog 138 [.ptr 1 0,.pv (uu now),.pv (.agg r.c)] [(1,.var (x.v (.pv (av x.heard)) (.pv (av x.none)) (.aO 2 0) (.pv (cB x.af)) (.pv (av x.bad)) (.pv (.sc (.slice none 0 0))))),(2,.arr 27 0 2 (x.has.map Pl.c))] (.pv (.cK []))
   [(1,.var (({ x with has:=x.has++[r.from_] }:Rv).v (.pv (av x.heard)) (.pv (av x.none)) (.aO 2 1) (.pv (cB x.af)) (.pv (av x.bad)) (.pv (.sc (.slice none 0 0))))),(2,.arr 27 1 2 ((x.has++[r.from_]).map Pl.c))]:=by
 have G:=AL x [] S (by omega);have uL:=aA (aC x) r.from_.node r.from_.aH;have hB:((⟨r.body.toArray⟩:ByteArray).toList==(⟨x.body.toArray⟩:ByteArray).toList)=true:=by rw[Ag];exact decide_eq_true Q
 have hh:=abz x now r.from_ h V J X K;clear h Q S X K V J;refine fw iO ?_;repeat' ((conv=>whnf);first|(with_reducible first|apply aM|apply fk<;>intro hc<;>try exact aV)|(refine Or.inr ?_;(conv=>whnf);refine⟨_,_,bP (G) ?_,?_⟩;exact oF)|(apply bX;refine⟨_,uL,?_⟩)|((refine⟨r.body,rfl,?_⟩))|((refine⟨x.body,rfl,?_⟩))|refine eF hh ?_|refine aK ?_|fail)
 all_goals
  refine⟨_,_,⟨rfl,rfl⟩,?_⟩;all_goals exact aJ
theorem aeB (V:aY x.l.af)(hn:0≤x.n∧x.n≤1000)(p2:(x.phase==2)=false)(p3:(x.phase==3)=true)(k0:(r.code==0)=true)(S:r.body=x.body)(h:x.has.any (· == r.from_)=false)(X:x.has.length≤1000000)(J:aY x.af)(Q:bE (aj x) x.l.a (x.has++[r.from_])=true)(K:8<x.n+1) :
  dX prog 138 [.ptr 1 0,.pv (uu now),.pv (.agg r.c)] [(1,.var (x.v (.pv (av x.heard)) (.pv (av x.none)) (.aO 2 0) (.pv (cB x.af)) (.pv (av x.bad)) (.pv (.sc (.slice none 0 0))))),(2,.arr 27 0 2 (x.has.map Pl.c))] (.pv (.cK []))
   [(1,.var ((bB { x with has:=x.has++[r.from_] } (x.n+1) now).1.v (.pv (av x.heard)) (.pv (av [])) (.pv (av [])) (.pv (cB x.af)) (.pv (av [])) (.pv (.sc (.slice none 0 0))))),(2,.arr 27 1 2 ((x.has++[r.from_]).map Pl.c))]:=by
 have G:=AL x [] V (by omega);have uL:=aA (aC x) r.from_.node r.from_.aH;have hB:((⟨r.body.toArray⟩:ByteArray).toList==(⟨x.body.toArray⟩:ByteArray).toList)=true:=by rw[Ag];exact decide_eq_true S
 have hh:=abA x now r.from_ h X J hn Q K;clear h S V hn Q X J K;refine fw iO ?_;repeat' ((conv=>whnf);first|(with_reducible first|apply aM|apply fk<;>intro hc<;>try exact aV)|(refine Or.inr ?_;(conv=>whnf);refine⟨_,_,bP (G) ?_,?_⟩;exact oF)|(apply bX;refine⟨_,uL,?_⟩)|((refine⟨r.body,rfl,?_⟩))|((refine⟨x.body,rfl,?_⟩))|refine eF hh ?_|refine aK ?_|fail)
 all_goals
  refine⟨_,_,⟨rfl,rfl⟩,?_⟩;all_goals exact aJ
theorem aeC (G:aY x.l.af)(hn:0≤x.n∧x.n≤1000)(p2:(x.phase==2)=false)(p3:(x.phase==3)=true)(k0:(r.code==0)=true)(V:r.body=x.body)(h:x.has.any (· == r.from_)=false)(X:x.has.length≤1000000)(K:aY x.af)(S:bE (aj x) x.l.a (x.has++[r.from_])=true)(Q:x.n+1≤8)(hs:∀n,(setOf x.l.af x.l.w n).length≤1000000) :
  dX prog 138 [.ptr 1 0,.pv (uu now),.pv (.agg r.c)] [(1,.var (x.v (.pv (av x.heard)) (.pv (av x.none)) (.aO 2 0) (.pv (cB x.af)) (.pv (av x.bad)) (.pv (.sc (.slice none 0 0))))),(2,.arr 27 0 2 (x.has.map Pl.c))] (.pv (.cK []))
   [(1,.var ((bB { x with has:=x.has++[r.from_] } (x.n+1) now).1.v (.pv (av x.heard)) (.pv (av [])) (.pv (av [])) (.pv (cB x.af)) (.pv (av [])) (.aO 1001 0))),(2,.arr 27 1 2 ((x.has++[r.from_]).map Pl.c)),(1001,.arr 93 0 10 ((bB { x with has:=x.has++[r.from_] } (x.n+1) now).2.map Rq.c))]:=by
 have J:=AL x [] G (by omega);have uL:=aA (aC x) r.from_.node r.from_.aH;have hB:((⟨r.body.toArray⟩:ByteArray).toList==(⟨x.body.toArray⟩:ByteArray).toList)=true:=by rw[Ag];exact decide_eq_true V
 have hh:=abB x now r.from_ h X K hn S Q G hs;clear h V G hn S X K Q hs;refine fw iO ?_;repeat' ((conv=>whnf);first|(with_reducible first|apply aM|apply fk<;>intro hc<;>try exact aV)|(refine Or.inr ?_;(conv=>whnf);refine⟨_,_,bP (J) ?_,?_⟩;exact oF)|(apply bX;refine⟨_,uL,?_⟩)|((refine⟨r.body,rfl,?_⟩))|((refine⟨x.body,rfl,?_⟩))|refine eF hh ?_|refine aK ?_|fail)
 all_goals
  refine⟨_,_,⟨rfl,rfl⟩,?_⟩;all_goals exact aJ
end
section
variable (x:Rv)(now:Int)(r:Rs)
theorem aeD (V:aY x.l.af)(G:aY x.af)(X:0≤x.n∧x.n≤1000)(hb:r.body.length≤1000000)(hw:(aj x).length≤1000)(p2:(x.phase==2)=true)(k0:(r.code==0)=true)(Q:(aC x).any (· == r.from_)=true)(S:bE (aj (aN x now r)) x.l.a [r.from_]=false) :
  dX prog 138 [.ptr 1 0,.pv (uu now),.pv (.agg r.c)] [(1,.var (x.v (.pv (av x.heard)) (.pv (av x.none)) (.pv (av x.has)) (.pv (cB x.af)) (.pv (av x.bad)) (.pv (.sc (.slice none 0 0)))))] (.pv (.cK []))
   [(1,.var ((aN x now r).v (.pv (av x.heard)) (.pv (av x.none)) (.aO 1001 0) (.pv (cB x.af)) (.pv (av x.bad)) (.aO 1002 0))),(1001,.arr 27 0 2 ([r.from_].map Pl.c)),(1002,.arr 93 0 10 ((aU (aN x now r) (aj (aN x now r))).map Rq.c))]:=by
 have K:=AB x [] V (by omega);have uL:=aA (aC x) r.from_.node r.from_.aH;rw[show ((aC x).any fun y=>y==(⟨r.from_.node,r.from_.aH⟩:Pl))=true from Q] at uL;have J:=Cj ({ x with has:=[r.from_],body:=r.body,phase:=3,born:=now }:Rv) now rfl G (by simp only;omega) (by show (aj x).length≤1000000;omega) hb;have aa:(aU (aN x now r) (aj (aN x now r))).length≤1000:=by
  unfold aU;rw[List.length_map];exact Nat.le_trans (List.length_filter_le _ _) hw
 have Wn:=RU (aN x now r) (aU (aN x now r) (aj (aN x now r))) now G X S;clear Q hw G V X S;refine fw iO ?_;repeat' ((conv=>whnf);first|(with_reducible first|apply aM|apply fk<;>intro hc<;>try exact aV)|(refine Or.inr ?_;(conv=>whnf);refine⟨_,_,bP (K) ?_,?_⟩;exact oF)|(apply bX;refine⟨_,uL,?_⟩)|(apply bX;refine⟨_,fM r.body (by omega),?_⟩)|(refine Or.inr ?_;(conv=>whnf);refine⟨_,bY bV (bZ mixed bV) jN rfl ?_,fun _ _ h=>h⟩)|refine eF J ?_|refine eF Wn ?_|refine aK ?_|fail)
 all_goals
  refine⟨_,_,⟨rfl,rfl⟩,?_⟩;all_goals exact aJ
theorem aeE (X:aY x.l.af)(G:aY x.af)(hn:0≤x.n∧x.n≤1000)(hb:r.body.length≤1000000)(hw:(aj x).length≤1000)(p2:(x.phase==2)=true)(k0:(r.code==0)=true)(Q:(aC x).any (· == r.from_)=true)(V:bE (aj (aN x now r)) x.l.a [r.from_]=true)(S:8<x.n+1) :
  dX prog 138 [.ptr 1 0,.pv (uu now),.pv (.agg r.c)] [(1,.var (x.v (.pv (av x.heard)) (.pv (av x.none)) (.pv (av x.has)) (.pv (cB x.af)) (.pv (av x.bad)) (.pv (.sc (.slice none 0 0)))))] (.pv (.cK []))
   [(1,.var ((bB (aN x now r) (x.n+1) now).1.v (.pv (av x.heard)) (.pv (av [])) (.pv (av [])) (.pv (cB x.af)) (.pv (av [])) (.aO 1001 0))),(1001,.arr 93 0 10 ((aU (aN x now r) (aj (aN x now r))).map Rq.c))]:=by
 have K:=AB x [] X (by omega);have uL:=aA (aC x) r.from_.node r.from_.aH;rw[show ((aC x).any fun y=>y==(⟨r.from_.node,r.from_.aH⟩:Pl))=true from Q] at uL;have J:=Cj ({ x with has:=[r.from_],body:=r.body,phase:=3,born:=now }:Rv) now rfl G (by simp only;omega) (by show (aj x).length≤1000000;omega) hb;have aa:(aU (aN x now r) (aj (aN x now r))).length≤1000:=by
  unfold aU;rw[List.length_map];exact Nat.le_trans (List.length_filter_le _ _) hw
 have Wn:=RV (aN x now r) (aU (aN x now r) (aj (aN x now r))) now G hn V S;clear Q hw G X hn V S;refine fw iO ?_;repeat' ((conv=>whnf);first|(with_reducible first|apply aM|apply fk<;>intro hc<;>try exact aV)|(refine Or.inr ?_;(conv=>whnf);refine⟨_,_,bP (K) ?_,?_⟩;exact oF)|(apply bX;refine⟨_,uL,?_⟩)|(apply bX;refine⟨_,fM r.body (by omega),?_⟩)|(refine Or.inr ?_;(conv=>whnf);refine⟨_,bY bV (bZ mixed bV) jN rfl ?_,fun _ _ h=>h⟩)|refine eF J ?_|refine eF Wn ?_|refine aK ?_|fail)
 all_goals
  refine⟨_,_,⟨rfl,rfl⟩,?_⟩;all_goals exact aJ
theorem aeF (K:aY x.l.af)(G:aY x.af)(hn:0≤x.n∧x.n≤1000)(hb:r.body.length≤1000000)(hw:(aj x).length≤1000)(p2:(x.phase==2)=true)(k0:(r.code==0)=true)(V:(aC x).any (· == r.from_)=true)(ha:bE (aj (aN x now r)) x.l.a [r.from_]=true)(X:x.n+1≤8)(hs:∀n,(setOf x.l.af x.l.w n).length≤1000000) :
  dX prog 138 [.ptr 1 0,.pv (uu now),.pv (.agg r.c)] [(1,.var (x.v (.pv (av x.heard)) (.pv (av x.none)) (.pv (av x.has)) (.pv (cB x.af)) (.pv (av x.bad)) (.pv (.sc (.slice none 0 0)))))] (.pv (.cK []))
   [(1,.var ((bB (aN x now r) (x.n+1) now).1.v (.pv (av x.heard)) (.pv (av [])) (.pv (av [])) (.pv (cB x.af)) (.pv (av [])) (.aO 1001 0))),(1001,.arr 93 0 10 ((aU (aN x now r) (aj (aN x now r))++(bB (aN x now r) (x.n+1) now).2).map Rq.c))]:=by
 have S:=AB x [] K (by omega);have uL:=aA (aC x) r.from_.node r.from_.aH;rw[show ((aC x).any fun y=>y==(⟨r.from_.node,r.from_.aH⟩:Pl))=true from V] at uL;have J:=Cj ({ x with has:=[r.from_],body:=r.body,phase:=3,born:=now }:Rv) now rfl G (by simp only;omega) (by show (aj x).length≤1000000;omega) hb;have Q:(aU (aN x now r) (aj (aN x now r))).length≤1000:=by
  unfold aU;rw[List.length_map];exact Nat.le_trans (List.length_filter_le _ _) hw
 have Wn:=RX (aN x now r) (aU (aN x now r) (aj (aN x now r))) now Q G hn ha X K hs;clear V hw G K hn ha X hs;refine fw iO ?_;repeat' ((conv=>whnf);first|(with_reducible first|apply aM|apply fk<;>intro hc<;>try exact aV)|(refine Or.inr ?_;(conv=>whnf);refine⟨_,_,bP (S) ?_,?_⟩;exact oF)|(apply bX;refine⟨_,uL,?_⟩)|(apply bX;refine⟨_,fM r.body (by omega),?_⟩)|(refine Or.inr ?_;(conv=>whnf);refine⟨_,bY bV (bZ mixed bV) jN rfl ?_,fun _ _ h=>h⟩)|refine eF J ?_|refine eF Wn ?_|refine aK ?_|fail)
 all_goals
  refine⟨_,_,⟨rfl,rfl⟩,?_⟩;all_goals exact aJ
end
theorem ahz {a b:Bool}(h:a=false∨b=false):¬(a&&b)=true:=by
 rcases h with h|h<;>rw[h]<;>simp
theorem RY:bM prog 171 f171:=fO func171
theorem RZ:bM prog 172 f172:=fO func172
theorem R4:bM prog 173 f173:=fO func173
theorem abE (y:Pl)(r:Rs):dF prog 172 ([]++([.agg y.c]++[.dU r.c 0])) (bl (y==r.from_)):=by
 refine PC.le ?_;refine dQ RZ ?_;repeat' ((conv=>whnf);first|(with_reducible first|apply aM|apply fk<;>intro hc<;>try exact aV)|refine aK ?_|fail)
 repeat' first|apply And.intro|exact aJ|fail
 all_goals try (conv=>whnf)
 rw[Pl.beq]
theorem abF (y:Pl)(r:Rs):dF prog 173 ([]++([.agg y.c]++[.dU r.c 0])) (bl (y.node==r.from_.node&&y.aH != r.from_.aH)):=by
 refine PC.le ?_;refine dQ R4 ?_;repeat' ((conv=>whnf);first|(with_reducible first|apply aM|apply fk<;>intro hc<;>try exact aV)|refine aK ?_|fail)
 all_goals
  repeat' first|apply And.intro|exact aJ|fail
  all_goals try (conv=>whnf)
  simp only[hc,Bool.true_and,Bool.false_and]
theorem OJ (x:Rv)(r:Rs)(f:FuncId)(is:Pl→Bool)(hp:∀y,dF prog f ([]++([.agg (Pl.c y)]++[.dU r.c 0])) (bl (is y)))(V:aY x.af)(hn:0≤x.n∧x.n≤1000)(hl:x.bad.length≤1000000)(hw:(aj x).length≤1000) :
  dX prog 171 [.pv (.fn (.func f) [] [.dU r.c 0]),.ptr 1 0] [(1,.var [.ptr 2 0]),(2,.var (x.v (.pv (av x.heard)) (.pv (av x.none)) (.pv (av x.has)) (.pv (cB x.af)) (.aO 3 0) (.pv (.sc (.slice none 0 0))))),(3,.arr 27 0 2 (x.bad.map Pl.c))] (.pv (.cK []))
   [(1,.var [.ptr 2 0]),(2,.var (({ x with bad:=aB is x.bad (aj x) }:Rv).v (.pv (av x.heard)) (.pv (av x.none)) (.pv (av x.has)) (.pv (cB x.af)) (.aO 1001 0) (.pv (.sc (.slice none 0 0))))),(3,.d9 1 2 []),(1001,.arr 27 0 2 ((aB is x.bad (aj x)).map Pl.c))]:=by
 refine nV 3 1777 rfl ?_;show GC _ _ [.pv (.fn (.func f) [] [.dU r.c 0]),.ptr 1 0] [(1777,.arr 27 0 2 (x.bad.map Pl.c)),(1,.var [.ptr 2 0]),(2,.var (x.v (.pv (av x.heard)) (.pv (av x.none)) (.pv (av x.has)) (.pv (cB x.af)) (.aO 1777 0) (.pv (.sc (.slice none 0 0))))),(3,.d9 1 2 [])] _
 obtain⟨G,K⟩:∃G,aj x=G:=⟨_,rfl⟩;have Q:=jg x.af x.l.w x.n V (by omega);rw[show setOf x.af x.l.w x.n=G from K] at Q;rw[K] at hw ⊢;clear K V hn;refine fw RY ?_;repeat' ((conv=>whnf);first|(with_reducible first|apply aM|apply fk<;>intro hc<;>try exact aV)|(refine Or.inr ?_;(conv=>whnf);refine⟨_,bY bV (bZ mixed bV) kr rfl ?_,fun _ _ h=>h⟩)|(apply bX;refine⟨_,Q,?_⟩)|refine aK ?_|fail)
 refine⟨{k:Nat // k≤G.length},fun⟨k,_⟩=>⟨[(0,.pv (.fn (.func f) [] [.dU r.c 0])),(1,.ptr 1 0),(6,.pv (av G)),(7,.pv (ii G.length)),(8,.pv (ii k))],1000000000,[(1,.var [.ptr 2 0]),(2,.var (x.v (.pv (av x.heard)) (.pv (av x.none)) (.pv (av x.has)) (.pv (cB x.af)) (.aO 1001 0) (.pv (.sc (.slice none 0 0))))),(3,.d9 1 2 []),(1001,.arr 27 0 2 ((aB is x.bad (G.take k)).map Pl.c))]⟩,fun⟨k,_⟩=>G.length-k,⟨⟨0,Nat.zero_le _⟩,aD ?_⟩,?_⟩
 ·repeat' first|apply And.intro|exact aJ|fail
  all_goals try (conv=>whnf)
  all_goals simp
 rintro⟨k,hk⟩
 by_cases J:k<G.length
 ·have d0:decide ((k:Int)<(G.length:Int))=true:=by simp only[iG];omega
  have eW:IntKind.i64.wrap ((k:Int)+1)=((k+1:Nat):Int):=by rw[bF (by omega) (by omega)];omega
  have X:=qM is x.bad G k J;have aa:=kg is (G.take k) x.bad;have ad:(G.take k).length≤1000:=by rw[List.length_take];omega
  repeat' ((conv=>whnf);first|(with_reducible first|apply aM|apply fk<;>intro hc<;>try exact aV)|((refine⟨_,dR _ _ _ J,?_⟩))|(apply bX;refine⟨_,hp _,?_⟩)|(apply bX;refine⟨_,aA _ _ _,?_⟩)|(((with_reducible apply And.intro);focus (simp only[fG,jo,jq] at *;omega)))|refine aK ?_|fail)
  all_goals
   refine⟨⟨k+1,J⟩,dec_lt J,aD ?_⟩;repeat' first|apply And.intro|exact aJ|fail
   all_goals try (conv=>whnf)
  all_goals
   first
    |exact eW
    | (rw[X,if_pos (by simp only[Bool.and_eq_true];exact⟨by assumption,by assumption⟩),List.map_append]
       refine bW (ay _) ?_
       (repeat' first|apply And.intro|exact aJ|fail);(all_goals try (conv=>whnf)))
    |(rw[X,if_neg (ahz (by first|exact .inl (by assumption)|exact .inr (by assumption)))];exact ay _)
 have S:k=G.length:=by omega
 subst S;have d0:decide ((G.length:Int)<(G.length:Int))=false:=by simp
 repeat' ((conv=>whnf);first|(with_reducible first|apply aM|apply fk<;>intro hc<;>try exact aV)|refine aK ?_|fail)
 refine⟨_,_,⟨rfl,rfl⟩,?_⟩;repeat' first|apply And.intro|exact aJ|fail
 all_goals try (conv=>whnf)
 rw[List.take_length];exact ay _
section
variable (x:Rv)(now:Int)(r:Rs)
theorem WA (J:(r.code==0)=true)(h:x.has.any (· == r.from_)=true) :
  dX prog 139 [.ptr 1 0,.pv (uu now),.pv (.agg r.c)] [(1,.var (x.v (.pv (av x.heard)) (.pv (av x.none)) (.aO 2 0) (.pv (cB x.af)) (.pv (av x.bad)) (.pv (.sc (.slice none 0 0))))),(2,.arr 27 0 2 (x.has.map Pl.c))] (.pv (.cK []))
   [(1,.var (x.v (.pv (av x.heard)) (.pv (av x.none)) (.aO 2 0) (.pv (cB x.af)) (.pv (av x.bad)) (.pv (.sc (.slice none 0 0))))),(2,.arr 27 0 2 (x.has.map Pl.c))]:=by
 have G:=aby x now r.from_ h;clear h;refine fw nK ?_;repeat' ((conv=>whnf);first|(with_reducible first|apply aM|apply fk<;>intro hc<;>try exact aV)|refine eF G ?_|refine aK ?_|fail)
 all_goals
  refine⟨_,_,⟨rfl,rfl⟩,?_⟩;all_goals exact aJ
theorem WB (V:(r.code==0)=true)(h:x.has.any (· == r.from_)=false)(K:x.has.length≤1000000)(G:aY x.af)(Q:0≤x.n∧x.n≤1000)(J:bE (aj x) x.l.a (x.has++[r.from_])=false) :
  dX prog 139 [.ptr 1 0,.pv (uu now),.pv (.agg r.c)] [(1,.var (x.v (.pv (av x.heard)) (.pv (av x.none)) (.aO 2 0) (.pv (cB x.af)) (.pv (av x.bad)) (.pv (.sc (.slice none 0 0))))),(2,.arr 27 0 2 (x.has.map Pl.c))] (.pv (.cK []))
   [(1,.var (({ x with has:=x.has++[r.from_] }:Rv).v (.pv (av x.heard)) (.pv (av x.none)) (.aO 2 1) (.pv (cB x.af)) (.pv (av x.bad)) (.pv (.sc (.slice none 0 0))))),(2,.arr 27 1 2 ((x.has++[r.from_]).map Pl.c))]:=by
 have S:=abz x now r.from_ h K G Q J;clear h Q J K G;refine fw nK ?_;repeat' ((conv=>whnf);first|(with_reducible first|apply aM|apply fk<;>intro hc<;>try exact aV)|refine eF S ?_|refine aK ?_|fail)
 all_goals
  refine⟨_,_,⟨rfl,rfl⟩,?_⟩;all_goals exact aJ
theorem WC (X:(r.code==0)=true)(h:x.has.any (· == r.from_)=false)(Q:x.has.length≤1000000)(G:aY x.af)(S:0≤x.n∧x.n≤1000)(K:bE (aj x) x.l.a (x.has++[r.from_])=true)(J:8<x.n+1) :
  dX prog 139 [.ptr 1 0,.pv (uu now),.pv (.agg r.c)] [(1,.var (x.v (.pv (av x.heard)) (.pv (av x.none)) (.aO 2 0) (.pv (cB x.af)) (.pv (av x.bad)) (.pv (.sc (.slice none 0 0))))),(2,.arr 27 0 2 (x.has.map Pl.c))] (.pv (.cK []))
   [(1,.var ((bB { x with has:=x.has++[r.from_] } (x.n+1) now).1.v (.pv (av x.heard)) (.pv (av [])) (.pv (av [])) (.pv (cB x.af)) (.pv (av [])) (.pv (.sc (.slice none 0 0))))),(2,.arr 27 1 2 ((x.has++[r.from_]).map Pl.c))]:=by
 have V:=abA x now r.from_ h Q G S K J;clear h S K Q G J;refine fw nK ?_;repeat' ((conv=>whnf);first|(with_reducible first|apply aM|apply fk<;>intro hc<;>try exact aV)|refine eF V ?_|refine aK ?_|fail)
 all_goals
  refine⟨_,_,⟨rfl,rfl⟩,?_⟩;all_goals exact aJ
theorem WE (k0:(r.code==0)=true)(h:x.has.any (· == r.from_)=false)(S:x.has.length≤1000000)(G:aY x.af)(V:0≤x.n∧x.n≤1000)(K:bE (aj x) x.l.a (x.has++[r.from_])=true)(J:x.n+1≤8)(Q:aY x.l.af)(hs:∀n,(setOf x.l.af x.l.w n).length≤1000000) :
  dX prog 139 [.ptr 1 0,.pv (uu now),.pv (.agg r.c)] [(1,.var (x.v (.pv (av x.heard)) (.pv (av x.none)) (.aO 2 0) (.pv (cB x.af)) (.pv (av x.bad)) (.pv (.sc (.slice none 0 0))))),(2,.arr 27 0 2 (x.has.map Pl.c))] (.pv (.cK []))
   [(1,.var ((bB { x with has:=x.has++[r.from_] } (x.n+1) now).1.v (.pv (av x.heard)) (.pv (av [])) (.pv (av [])) (.pv (cB x.af)) (.pv (av [])) (.aO 1001 0))),(2,.arr 27 1 2 ((x.has++[r.from_]).map Pl.c)),(1001,.arr 93 0 10 ((bB { x with has:=x.has++[r.from_] } (x.n+1) now).2.map Rq.c))]:=by
 have X:=abB x now r.from_ h S G V K J Q hs;clear h V K S G J Q hs;refine fw nK ?_;repeat' ((conv=>whnf);first|(with_reducible first|apply aM|apply fk<;>intro hc<;>try exact aV)|refine eF X ?_|refine aK ?_|fail)
 all_goals
  refine⟨_,_,⟨rfl,rfl⟩,?_⟩;all_goals exact aJ
theorem abG (G:(r.code==0)=false)(J:(r.code==2)=false)(K:(r.code==4)=false) :
  dX prog 139 [.ptr 1 0,.pv (uu now),.pv (.agg r.c)] [(1,.var (x.v (.pv (av x.heard)) (.pv (av x.none)) (.pv (av x.has)) (.pv (cB x.af)) (.pv (av x.bad)) (.pv (.sc (.slice none 0 0)))))] (.pv (.cK []))
   [(1,.var (x.v (.pv (av x.heard)) (.pv (av x.none)) (.pv (av x.has)) (.pv (cB x.af)) (.pv (av x.bad)) (.pv (.sc (.slice none 0 0)))))]:=by
 refine fw nK ?_;repeat' ((conv=>whnf);first|(with_reducible first|apply aM|apply fk<;>intro hc<;>try exact aV)|refine aK ?_|fail)
 all_goals
  refine⟨_,_,⟨rfl,rfl⟩,?_⟩;all_goals exact aJ
theorem abH (V:(r.code==0)=false)(X:(r.code==2)=true)(G:aY x.af)(K:0≤x.n∧x.n≤1000)(J:x.bad.length≤1000000)(Q:(aj x).length≤1000) :
  dX prog 139 [.ptr 1 0,.pv (uu now),.pv (.agg r.c)] [(1,.var (x.v (.pv (av x.heard)) (.pv (av x.none)) (.pv (av x.has)) (.pv (cB x.af)) (.aO 2 0) (.pv (.sc (.slice none 0 0))))),(2,.arr 27 0 2 (x.bad.map Pl.c))] (.pv (.cK []))
   [(1,.var (({ x with bad:=aB (fun y=>y==r.from_) x.bad (aj x) }:Rv).v (.pv (av x.heard)) (.pv (av x.none)) (.pv (av x.has)) (.pv (cB x.af)) (.aO 1001 0) (.pv (.sc (.slice none 0 0))))),(2,.d9 1 2 []),(1001,.arr 27 0 2 ((aB (fun y=>y==r.from_) x.bad (aj x)).map Pl.c))]:=by
 have S:=OJ x r 172 (fun y=>y==r.from_) (fun y=>abE y r) G K J Q;clear G K J Q;refine fw nK ?_;repeat' ((conv=>whnf);first|(with_reducible first|apply aM|apply fk<;>intro hc<;>try exact aV)|refine eF S ?_|refine aK ?_|fail)
 all_goals
  refine⟨_,_,⟨rfl,rfl⟩,?_⟩;all_goals exact aJ
theorem abI (V:(r.code==0)=false)(X:(r.code==2)=false)(k4:(r.code==4)=true)(G:aY x.af)(K:0≤x.n∧x.n≤1000)(J:x.bad.length≤1000000)(Q:(aj x).length≤1000) :
  dX prog 139 [.ptr 1 0,.pv (uu now),.pv (.agg r.c)] [(1,.var (x.v (.pv (av x.heard)) (.pv (av x.none)) (.pv (av x.has)) (.pv (cB x.af)) (.aO 2 0) (.pv (.sc (.slice none 0 0))))),(2,.arr 27 0 2 (x.bad.map Pl.c))] (.pv (.cK []))
   [(1,.var (({ x with bad:=aB (fun y=>y.node==r.from_.node&&y.aH != r.from_.aH) x.bad (aj x) }:Rv).v (.pv (av x.heard)) (.pv (av x.none)) (.pv (av x.has)) (.pv (cB x.af)) (.aO 1001 0) (.pv (.sc (.slice none 0 0))))),(2,.d9 1 2 []),(1001,.arr 27 0 2 ((aB (fun y=>y.node==r.from_.node&&y.aH != r.from_.aH) x.bad (aj x)).map Pl.c))]:=by
 have S:=OJ x r 173 (fun y=>y.node==r.from_.node&&y.aH != r.from_.aH) (fun y=>abF y r) G K J Q;clear G K J Q;refine fw nK ?_;repeat' ((conv=>whnf);first|(with_reducible first|apply aM|apply fk<;>intro hc<;>try exact aV)|refine eF S ?_|refine aK ?_|fail)
 all_goals
  refine⟨_,_,⟨rfl,rfl⟩,?_⟩;all_goals exact aJ
end
section
variable (x:Rv)(now:Int)(r:Rs)
theorem bT:bM prog 87 f87:=fO func87
theorem WG (K:x.sm)(X:(r.bI != x.l.id)=false)(g2:(r.ak != x.ak)=false)(k2:(r.kind==2)=true)(k0:(r.code==0)=true)(kp:decide (x.phase<4)=true)(Q:0<x.l.af.length)(G:x.l.af.length≤1000)(S:(aS x).ah.any (· == r.from_)=false) :
  dF prog 87 [.agg x.c,uu now,.agg r.c] (.cK [.agg x.c,kH []]):=by
 refine PC.le ?_;have J:=wB x K;have V:=RQ x now r Q G S;clear K Q G S;refine dQ bT ?_;repeat' ((conv=>whnf);first|(with_reducible first|apply aM|apply fk<;>intro hc<;>try exact aV)|(apply mq;refine⟨_,_,J,?_⟩)|refine eF V ?_|refine aK ?_|fail)
 all_goals
  all_goals exact aJ
theorem WH (K:x.sm)(g1:(r.bI != x.l.id)=false)(g2:(r.ak != x.ak)=false)(k2:(r.kind==2)=true)(k0:(r.code==0)=true)(kp:decide (x.phase<4)=true)(Q:0<x.l.af.length)(G:x.l.af.length≤1000)(S:(aS x).ah.any (· == r.from_)=true)(V:x.heard.any (· == r.from_)=true) :
  dF prog 87 [.agg x.c,uu now,.agg r.c] (.cK [.agg x.c,kH []]):=by
 refine PC.le ?_;have J:=wB x K;have X:=RS x now r Q G S V;clear K Q G S V;refine dQ bT ?_;repeat' ((conv=>whnf);first|(with_reducible first|apply aM|apply fk<;>intro hc<;>try exact aV)|(apply mq;refine⟨_,_,J,?_⟩)|refine eF X ?_|refine aK ?_|fail)
 all_goals
  all_goals exact aJ
theorem abJ (K:x.sm)(g1:(r.bI != x.l.id)=false)(g2:(r.ak != x.ak)=false)(k2:(r.kind==2)=true)(k0:(r.code==0)=true)(kp:decide (x.phase<4)=true)(Q:0<x.l.af.length)(G:x.l.af.length≤1000)(X:x.heard.length≤1000000)(S:(aS x).ah.any (· == r.from_)=true)(V:x.heard.any (· == r.from_)=false)(p1:(x.phase==1)=false)(p2:(x.phase==2)=false) :
  dF prog 87 [.agg x.c,uu now,.agg r.c] (.cK [.agg ({ x with heard:=x.heard++[r.from_],sure:=min (max x.sure r.sure) 8 }:Rv).c,kH []]):=by
 refine PC.le ?_;have J:=wB x K;have hm:=Wu x now r Q G X S V p1 p2;clear K Q G X S V;refine dQ bT ?_;repeat' ((conv=>whnf);first|(with_reducible first|apply aM|apply fk<;>intro hc<;>try exact aV)|(apply mq;refine⟨_,_,J,?_⟩)|refine eF hm ?_|refine aK ?_|fail)
 all_goals
  all_goals exact aJ
theorem abK (K:x.sm)(g1:(r.bI != x.l.id)=false)(g2:(r.ak != x.ak)=false)(k2:(r.kind==2)=true)(k0:(r.code==0)=true)(kp:decide (x.phase<4)=true)(Q:0<x.l.af.length)(G:x.l.af.length≤1000)(hl:x.heard.length≤1000000)(S:(aS x).ah.any (· == r.from_)=true)(V:x.heard.any (· == r.from_)=false)(hf:aY x.l.af)(hn:0≤x.n∧x.n≤1000)(p1:(x.phase==1)=false)(p2:(x.phase==2)=true)(X:(aC x).any (· == r.from_)=false) :
  dF prog 87 [.agg x.c,uu now,.agg r.c] (.cK [.agg ({ x with heard:=x.heard++[r.from_],sure:=min (max x.sure r.sure) 8 }:Rv).c,kH []]):=by
 refine PC.le ?_;have J:=wB x K;have hm:=Wv x now r Q G hl S V hf hn p1 p2 X;clear K Q G hl S V hf hn X;refine dQ bT ?_;repeat' ((conv=>whnf);first|(with_reducible first|apply aM|apply fk<;>intro hc<;>try exact aV)|(apply mq;refine⟨_,_,J,?_⟩)|refine eF hm ?_|refine aK ?_|fail)
 all_goals
  all_goals exact aJ
theorem abL (K:x.sm)(g1:(r.bI != x.l.id)=false)(g2:(r.ak != x.ak)=false)(k2:(r.kind==2)=true)(k0:(r.code==0)=true)(kp:decide (x.phase<4)=true)(Q:0<x.l.af.length)(G:x.l.af.length≤1000)(hl:x.heard.length≤1000000)(S:(aS x).ah.any (· == r.from_)=true)(V:x.heard.any (· == r.from_)=false)(hf:aY x.l.af)(hn:0≤x.n∧x.n≤1000)(p1:(x.phase==1)=false)(p2:(x.phase==2)=true)(X:(aC x).any (· == r.from_)=true) :
  dF prog 87 [.agg x.c,uu now,.agg r.c] (.cK [.agg ({ x with heard:=x.heard++[r.from_],sure:=min (max x.sure r.sure) 8 }:Rv).c,kH [jB x r.from_]]):=by
 refine PC.le ?_;have J:=wB x K;have hm:=Wz x now r Q G hl S V hf hn p1 p2 X;clear K Q G hl S V hf hn X;refine dQ bT ?_;repeat' ((conv=>whnf);first|(with_reducible first|apply aM|apply fk<;>intro hc<;>try exact aV)|(apply mq;refine⟨_,_,J,?_⟩)|refine eF hm ?_|refine aK ?_|fail)
 all_goals
  all_goals exact aJ
theorem abM (K:x.sm)(g1:(r.bI != x.l.id)=false)(g2:(r.ak != x.ak)=false)(k2:(r.kind==2)=true)(k0:(r.code==0)=true)(kp:decide (x.phase<4)=true)(Q:0<x.l.af.length)(G:x.l.af.length≤1000)(hl:x.heard.length≤1000000)(S:(aS x).ah.any (· == r.from_)=true)(V:x.heard.any (· == r.from_)=false)(hb:(aS x).ah.length≤1000000)(hw:0≤x.l.w∧x.l.w≤9223372036854775807)(ha:0≤x.l.a)(p1:(x.phase==1)=true)(p2:(x.phase==2)=false)(X:eu (aS x) x.l.w x.l.a (x.heard++[r.from_])=false) :
  dF prog 87 [.agg x.c,uu now,.agg r.c] (.cK [.agg ({ x with heard:=x.heard++[r.from_],sure:=min (max x.sure r.sure) 8 }:Rv).c,kH []]):=by
 refine PC.le ?_;have J:=wB x K;have hm:=Ww x now r Q G hl S V hb hw ha p1 p2 X;clear K Q G hl S V hb hw ha X;refine dQ bT ?_;repeat' ((conv=>whnf);first|(with_reducible first|apply aM|apply fk<;>intro hc<;>try exact aV)|(apply mq;refine⟨_,_,J,?_⟩)|refine eF hm ?_|refine aK ?_|fail)
 all_goals
  all_goals exact aJ
theorem abN (K:x.sm)(g1:(r.bI != x.l.id)=false)(g2:(r.ak != x.ak)=false)(k2:(r.kind==2)=true)(k0:(r.code==0)=true)(kp:decide (x.phase<4)=true)(Q:0<x.l.af.length)(G:x.l.af.length≤1000)(hl:x.heard.length≤1000000)(S:(aS x).ah.any (· == r.from_)=true)(V:x.heard.any (· == r.from_)=false)(hb:(aS x).ah.length≤1000000)(hw:0≤x.l.w∧x.l.w≤9223372036854775807)(ha:0≤x.l.a)(p1:(x.phase==1)=true)(p2:(x.phase==2)=false)(X:eu (aS x) x.l.w x.l.a (x.heard++[r.from_])=true)(hs:0≤x.sure)(h8:8<max (min (max x.sure r.sure) 8+1) (aS x).first) :
  dF prog 87 [.agg x.c,uu now,.agg r.c] (.cK [.agg (bB { x with heard:=x.heard++[r.from_],sure:=min (max x.sure r.sure) 8 } (max (min (max x.sure r.sure) 8+1) (aS x).first) now).1.c,kH []]):=by
 refine PC.le ?_;have J:=wB x K;have hm:=Wx x now r Q G hl S V hb hw ha p1 p2 X hs h8;clear K Q G hl S V hb hw ha X hs h8;refine dQ bT ?_;repeat' ((conv=>whnf);first|(with_reducible first|apply aM|apply fk<;>intro hc<;>try exact aV)|(apply mq;refine⟨_,_,J,?_⟩)|refine eF hm ?_|refine aK ?_|fail)
 all_goals
  repeat' first|apply And.intro|exact aJ|fail
  all_goals try (conv=>whnf)
 all_goals (simp only[iB,j6,jM,iN,lZ];exact ay _)
theorem abO (Q:x.sm)(g1:(r.bI != x.l.id)=false)(g2:(r.ak != x.ak)=false)(k2:(r.kind==2)=true)(k0:(r.code==0)=true)(kp:decide (x.phase<4)=true)(V:0<x.l.af.length)(G:x.l.af.length≤1000)(hl:x.heard.length≤1000000)(X:(aS x).ah.any (· == r.from_)=true)(h2:x.heard.any (· == r.from_)=false)(hb:(aS x).ah.length≤1000000)(hw:0≤x.l.w∧x.l.w≤9223372036854775807)(ha:0≤x.l.a)(p1:(x.phase==1)=true)(p2:(x.phase==2)=false)(h3:eu (aS x) x.l.w x.l.a (x.heard++[r.from_])=true)(hs:0≤x.sure)(h8:(max (min (max x.sure r.sure) 8+1) (aS x).first)≤8)(J:aY x.l.af)(S:∀n,(setOf x.l.af x.l.w n).length≤1000000) :
  dF prog 87 [.agg x.c,uu now,.agg r.c] (.cK [.agg (bB { x with heard:=x.heard++[r.from_],sure:=min (max x.sure r.sure) 8 } (max (min (max x.sure r.sure) 8+1) (aS x).first) now).1.c,kH (bB { x with heard:=x.heard++[r.from_],sure:=min (max x.sure r.sure) 8 } (max (min (max x.sure r.sure) 8+1) (aS x).first) now).2]):=by
 refine PC.le ?_;have K:=wB x Q;have hm:=Wy x now r V G hl X h2 hb hw ha p1 p2 h3 hs h8 J S;clear Q V G hl X h2 hb hw ha h3 hs h8 J S;refine dQ bT ?_;repeat' ((conv=>whnf);first|(with_reducible first|apply aM|apply fk<;>intro hc<;>try exact aV)|(apply mq;refine⟨_,_,K,?_⟩)|refine eF hm ?_|refine aK ?_|fail)
 all_goals
  repeat' first|apply And.intro|exact aJ|fail
  all_goals try (conv=>whnf)
 all_goals (simp only[iB,j6,jM,iN,lZ];exact ay _)
end
section
variable (x:Rv)(now:Int)(r:Rs)
theorem abP (J:x.sm)(g1:(r.bI != x.l.id)=false)(g2:(r.ak != x.ak)=false)(k2:(r.kind==2)=false)(k3:(r.kind==3)=true)(kn:(r.n==x.n)=true)(S:aY x.l.af)(V:0≤x.n∧x.n≤1000)
  (K:(x.phase==2&&(r.code==0&&(aC x).any (· == r.from_)))=false)
  (c2:(x.phase==2&&(r.code==3&&((aC x).any (· == r.from_)&&(x.heard.any (· == r.from_) && !x.none.any (· == r.from_)))))=false)
  (Q:(x.phase==3&&(r.code==0&&decide (r.body=x.body)))=false) :
  dF prog 87 [.agg x.c,uu now,.agg r.c] (.cK [.agg x.c,kH []]):=by
 refine PC.le ?_;have G:=jR x J;have X:=ahx x now r S V K c2 Q;clear J S V K c2 Q;refine dQ bT ?_;repeat' ((conv=>whnf);first|(with_reducible first|apply aM|apply fk<;>intro hc<;>try exact aV)|(apply mq;refine⟨_,_,G,?_⟩)|refine eF X ?_|refine aK ?_|fail)
 all_goals
  all_goals exact aJ
theorem WJ (J:x.sm)(g1:(r.bI != x.l.id)=false)(g2:(r.ak != x.ak)=false)(R6:(r.kind==2)=false)(R9:(r.kind==3)=true)(kn:(r.n==x.n)=true)(hl:x.none.length≤1000000)(hw:0≤x.l.w∧x.l.w≤9223372036854775807)(X:0≤x.l.a)(hf:aY x.l.af)(hn:0≤x.n∧x.n≤1000)(p2:(x.phase==2)=true)(k0:(r.code==0)=false)(k3:(r.code==3)=true)(K:(aC x).any (· == r.from_)=true)(Q:x.heard.any (· == r.from_)=true)(S:x.none.any (· == r.from_)=false)(V:dL (aC x) x.l.w x.l.a (x.none++[r.from_])=false) :
  dF prog 87 [.agg x.c,uu now,.agg r.c] (.cK [.agg ({ x with none:=x.none++[r.from_],phase:=x.phase }:Rv).c,kH []]):=by
 refine PC.le ?_;have G:=abr x J;have hm:=aex x now r hl hw X hf hn p2 k0 k3 K Q S V;clear J hl hw X hf hn K Q S V;refine dQ bT ?_;repeat' ((conv=>whnf);first|(with_reducible first|apply aM|apply fk<;>intro hc<;>try exact aV)|(apply mq;refine⟨_,_,G,?_⟩)|refine eF hm ?_|refine aK ?_|fail)
 all_goals
  all_goals exact aJ
theorem WK (J:x.sm)(g1:(r.bI != x.l.id)=false)(g2:(r.ak != x.ak)=false)(R6:(r.kind==2)=false)(R9:(r.kind==3)=true)(kn:(r.n==x.n)=true)(hl:x.none.length≤1000000)(hw:0≤x.l.w∧x.l.w≤9223372036854775807)(X:0≤x.l.a)(hf:aY x.l.af)(hn:0≤x.n∧x.n≤1000)(p2:(x.phase==2)=true)(k0:(r.code==0)=false)(k3:(r.code==3)=true)(K:(aC x).any (· == r.from_)=true)(Q:x.heard.any (· == r.from_)=true)(S:x.none.any (· == r.from_)=false)(V:dL (aC x) x.l.w x.l.a (x.none++[r.from_])=true) :
  dF prog 87 [.agg x.c,uu now,.agg r.c] (.cK [.agg ({ x with none:=x.none++[r.from_],phase:=4 }:Rv).c,kH []]):=by
 refine PC.le ?_;have G:=abr x J;have hm:=aey x now r hl hw X hf hn p2 k0 k3 K Q S V;clear J hl hw X hf hn K Q S V;refine dQ bT ?_;repeat' ((conv=>whnf);first|(with_reducible first|apply aM|apply fk<;>intro hc<;>try exact aV)|(apply mq;refine⟨_,_,G,?_⟩)|refine eF hm ?_|refine aK ?_|fail)
 all_goals
  all_goals exact aJ
theorem WL (J:x.sm)(g1:(r.bI != x.l.id)=false)(g2:(r.ak != x.ak)=false)(R6:(r.kind==2)=false)(R9:(r.kind==3)=true)(kn:(r.n==x.n)=true)(Q:aY x.l.af)(S:0≤x.n∧x.n≤1000)(p2:(x.phase==2)=false)(p3:(x.phase==3)=true)(X:(r.code==0)=true)(K:r.body=x.body)(h:x.has.any (· == r.from_)=true) :
  dF prog 87 [.agg x.c,uu now,.agg r.c] (.cK [.agg x.c,kH []]):=by
 refine PC.le ?_;have G:=wC x J;have V:=aez x now r Q S p2 p3 X K h;clear J Q S K h;refine dQ bT ?_;repeat' ((conv=>whnf);first|(with_reducible first|apply aM|apply fk<;>intro hc<;>try exact aV)|(apply mq;refine⟨_,_,G,?_⟩)|refine eF V ?_|refine aK ?_|fail)
 all_goals
  all_goals exact aJ
theorem WM (J:x.sm)(g1:(r.bI != x.l.id)=false)(g2:(r.ak != x.ak)=false)(R6:(r.kind==2)=false)(R9:(r.kind==3)=true)(kn:(r.n==x.n)=true)(V:aY x.l.af)(hn:0≤x.n∧x.n≤1000)(p2:(x.phase==2)=false)(p3:(x.phase==3)=true)(k0:(r.code==0)=true)(S:r.body=x.body)(h:x.has.any (· == r.from_)=false)(X:x.has.length≤1000000)(K:aY x.af)(Q:bE (aj x) x.l.a (x.has++[r.from_])=false) :
  dF prog 87 [.agg x.c,uu now,.agg r.c] (.cK [.agg ({ x with has:=x.has++[r.from_] }:Rv).c,kH []]):=by
 refine PC.le ?_;have G:=wC x J;have hm:=aeA x now r V hn p2 p3 k0 S h X K Q;clear J V hn S h X K Q;refine dQ bT ?_;repeat' ((conv=>whnf);first|(with_reducible first|apply aM|apply fk<;>intro hc<;>try exact aV)|(apply mq;refine⟨_,_,G,?_⟩)|refine eF hm ?_|refine aK ?_|fail)
 all_goals
  all_goals exact aJ
theorem WN (J:x.sm)(g1:(r.bI != x.l.id)=false)(g2:(r.ak != x.ak)=false)(R6:(r.kind==2)=false)(R9:(r.kind==3)=true)(kn:(r.n==x.n)=true)(X:aY x.l.af)(hn:0≤x.n∧x.n≤1000)(p2:(x.phase==2)=false)(p3:(x.phase==3)=true)(k0:(r.code==0)=true)(V:r.body=x.body)(h:x.has.any (· == r.from_)=false)(hl:x.has.length≤1000000)(K:aY x.af)(S:bE (aj x) x.l.a (x.has++[r.from_])=true)(Q:8<x.n+1) :
  dF prog 87 [.agg x.c,uu now,.agg r.c] (.cK [.agg (bB { x with has:=x.has++[r.from_] } (x.n+1) now).1.c,kH []]):=by
 refine PC.le ?_;have G:=wC x J;have hm:=aeB x now r X hn p2 p3 k0 V h hl K S Q;clear J X hn V h hl K S Q;refine dQ bT ?_;repeat' ((conv=>whnf);first|(with_reducible first|apply aM|apply fk<;>intro hc<;>try exact aV)|(apply mq;refine⟨_,_,G,?_⟩)|refine eF hm ?_|refine aK ?_|fail)
 all_goals
  repeat' first|apply And.intro|exact aJ|fail
  all_goals try (conv=>whnf)
 all_goals (simp only[iB,j6,jM,iN,lZ];exact ay _)
theorem WQ (J:x.sm)(g1:(r.bI != x.l.id)=false)(g2:(r.ak != x.ak)=false)(R6:(r.kind==2)=false)(R9:(r.kind==3)=true)(kn:(r.n==x.n)=true)(X:aY x.l.af)(hn:0≤x.n∧x.n≤1000)(p2:(x.phase==2)=false)(p3:(x.phase==3)=true)(k0:(r.code==0)=true)(V:r.body=x.body)(h:x.has.any (· == r.from_)=false)(hl:x.has.length≤1000000)(K:aY x.af)(S:bE (aj x) x.l.a (x.has++[r.from_])=true)(Q:x.n+1≤8)(hs:∀n,(setOf x.l.af x.l.w n).length≤1000000) :
  dF prog 87 [.agg x.c,uu now,.agg r.c] (.cK [.agg (bB { x with has:=x.has++[r.from_] } (x.n+1) now).1.c,kH (bB { x with has:=x.has++[r.from_] } (x.n+1) now).2]):=by
 refine PC.le ?_;have G:=wC x J;have hm:=aeC x now r X hn p2 p3 k0 V h hl K S Q hs;clear J X hn V h hl K S Q hs;refine dQ bT ?_;repeat' ((conv=>whnf);first|(with_reducible first|apply aM|apply fk<;>intro hc<;>try exact aV)|(apply mq;refine⟨_,_,G,?_⟩)|refine eF hm ?_|refine aK ?_|fail)
 all_goals
  repeat' first|apply And.intro|exact aJ|fail
  all_goals try (conv=>whnf)
 all_goals (simp only[iB,j6,jM,iN,lZ];exact ay _)
theorem WR (J:x.sm)(g1:(r.bI != x.l.id)=false)(g2:(r.ak != x.ak)=false)(R6:(r.kind==2)=false)(R9:(r.kind==3)=true)(kn:(r.n==x.n)=true)(X:aY x.l.af)(K:aY x.af)(hn:0≤x.n∧x.n≤1000)(V:r.body.length≤1000000)(hw:(aj x).length≤1000)(p2:(x.phase==2)=true)(k0:(r.code==0)=true)(Q:(aC x).any (· == r.from_)=true)(S:bE (aj (aN x now r)) x.l.a [r.from_]=false) :
  dF prog 87 [.agg x.c,uu now,.agg r.c] (.cK [.agg (aN x now r).c,kH (aU (aN x now r) (aj (aN x now r)))]):=by
 refine PC.le ?_;have G:=jR x J;have hm:=aeD x now r X K hn V hw p2 k0 Q S;clear J X K hn V hw Q S;refine dQ bT ?_;repeat' ((conv=>whnf);first|(with_reducible first|apply aM|apply fk<;>intro hc<;>try exact aV)|(apply mq;refine⟨_,_,G,?_⟩)|refine eF hm ?_|refine aK ?_|fail)
 all_goals
  all_goals exact aJ
theorem WS (J:x.sm)(g1:(r.bI != x.l.id)=false)(g2:(r.ak != x.ak)=false)(R6:(r.kind==2)=false)(R9:(r.kind==3)=true)(kn:(r.n==x.n)=true)(hf:aY x.l.af)(K:aY x.af)(hn:0≤x.n∧x.n≤1000)(X:r.body.length≤1000000)(hw:(aj x).length≤1000)(p2:(x.phase==2)=true)(k0:(r.code==0)=true)(Q:(aC x).any (· == r.from_)=true)(V:bE (aj (aN x now r)) x.l.a [r.from_]=true)(S:8<x.n+1) :
  dF prog 87 [.agg x.c,uu now,.agg r.c] (.cK [.agg (bB (aN x now r) (x.n+1) now).1.c,kH (aU (aN x now r) (aj (aN x now r)))]):=by
 refine PC.le ?_;have G:=jR x J;have hm:=aeE x now r hf K hn X hw p2 k0 Q V S;clear J hf K hn X hw Q V S;refine dQ bT ?_;repeat' ((conv=>whnf);first|(with_reducible first|apply aM|apply fk<;>intro hc<;>try exact aV)|(apply mq;refine⟨_,_,G,?_⟩)|refine eF hm ?_|refine aK ?_|fail)
 all_goals
  repeat' first|apply And.intro|exact aJ|fail
  all_goals try (conv=>whnf)
 all_goals (simp only[iB,j6,jM,iN,lZ];exact ay _)
theorem WT (J:x.sm)(g1:(r.bI != x.l.id)=false)(g2:(r.ak != x.ak)=false)(R6:(r.kind==2)=false)(R9:(r.kind==3)=true)(kn:(r.n==x.n)=true)(hf:aY x.l.af)(K:aY x.af)(hn:0≤x.n∧x.n≤1000)(X:r.body.length≤1000000)(hw:(aj x).length≤1000)(p2:(x.phase==2)=true)(k0:(r.code==0)=true)(Q:(aC x).any (· == r.from_)=true)(V:bE (aj (aN x now r)) x.l.a [r.from_]=true)(S:x.n+1≤8)(hs:∀n,(setOf x.l.af x.l.w n).length≤1000000) :
  dF prog 87 [.agg x.c,uu now,.agg r.c] (.cK [.agg (bB (aN x now r) (x.n+1) now).1.c,kH (aU (aN x now r) (aj (aN x now r))++(bB (aN x now r) (x.n+1) now).2)]):=by
 refine PC.le ?_;have G:=jR x J;have hm:=aeF x now r hf K hn X hw p2 k0 Q V S hs;clear J hf K hn X hw Q V S hs;refine dQ bT ?_;repeat' ((conv=>whnf);first|(with_reducible first|apply aM|apply fk<;>intro hc<;>try exact aV)|(apply mq;refine⟨_,_,G,?_⟩)|refine eF hm ?_|refine aK ?_|fail)
 all_goals
  repeat' first|apply And.intro|exact aJ|fail
  all_goals try (conv=>whnf)
 all_goals (simp only[iB,j6,jM,iN,lZ];exact ay _)
end
end Go.Proofs.YtfoiekbkkbnpkaaGreat.Tb
end
