/-
  Contracts of functions of the program and of the document, each for every input that its premises name.
-/
import Derived.Test.YtfoiekbkkbnpkaaGreatBd
import Derived.Test.YtfoiekbkkbnpkaaGreatAf
import Derived.Test.YtfoiekbkkbnpkaaGreatBc
import Derived.Test.YtfoiekbkkbnpkaaGreatAg
import Derived.Test.YtfoiekbkkbnpkaaGreatBa
import Derived.Test.YtfoiekbkkbnpkaaGreatBb
set_option linter.unusedSectionVars false
set_option linter.unusedVariables false
set_option linter.unusedSimpArgs false
set_option maxRecDepth 100000
set_option maxHeartbeats 4000000
section
open Go Go.Proofs.Tryz Go.AX
namespace Go.Proofs.YtfoiekbkkbnpkaaGreat.Tb
section
variable (x:Rv)(now:Int)(r:Rs)
theorem Vp (k0:(r.code==0)=true)(h:x.has.any (· == r.from_)=true) :
  dU prog 139 [.ptr 1 0,.pv (uu now),.pv (.agg r.c)] [(1,.var (x.v (.pv (ax x.heard)) (.pv (ax x.none)) (.aO 2 0) (.pv (cB x.af)) (.pv (ax x.bad)) (.pv (.sc (.slice none 0 0))))),(2,.arr 27 0 2 (x.has.map Pl.c))] (.pv (.cO []))
   [(1,.var (x.v (.pv (ax x.heard)) (.pv (ax x.none)) (.aO 2 0) (.pv (cB x.af)) (.pv (ax x.bad)) (.pv (.sc (.slice none 0 0))))),(2,.arr 27 0 2 (x.has.map Pl.c))]:=by
 have hh:=ZW x now r.from_ h;clear h;refine eO mU ?_;repeat' ((conv=>whnf);first|with_reducible apply aP|((with_reducible apply fk)<;>intro hc<;>try exact aZ)|(apply dn;refine⟨_,_,av (hh) ?_,?_⟩;exact bD)|refine aN ?_|fail)
 all_goals
  refine⟨_,_,⟨rfl,rfl⟩,?_⟩;all_goals exact aM
theorem Vq (k0:(r.code==0)=true)(h:x.has.any (· == r.from_)=false)(hl:x.has.length≤1000000)(eH:bg x.af)(hn:0≤x.n∧x.n≤1000)(ha:bI (aj x) x.l.a (x.has++[r.from_])=false) :
  dU prog 139 [.ptr 1 0,.pv (uu now),.pv (.agg r.c)] [(1,.var (x.v (.pv (ax x.heard)) (.pv (ax x.none)) (.aO 2 0) (.pv (cB x.af)) (.pv (ax x.bad)) (.pv (.sc (.slice none 0 0))))),(2,.arr 27 0 2 (x.has.map Pl.c))] (.pv (.cO []))
   [(1,.var (({ x with has:=x.has++[r.from_] }:Rv).v (.pv (ax x.heard)) (.pv (ax x.none)) (.aO 2 1) (.pv (cB x.af)) (.pv (ax x.bad)) (.pv (.sc (.slice none 0 0))))),(2,.arr 27 1 2 ((x.has++[r.from_]).map Pl.c))]:=by
 have hh:=ZX x now r.from_ h hl eH hn ha;clear h hn ha hl eH;refine eO mU ?_;repeat' ((conv=>whnf);first|with_reducible apply aP|((with_reducible apply fk)<;>intro hc<;>try exact aZ)|(apply dn;refine⟨_,_,av (hh) ?_,?_⟩;exact bD)|refine aN ?_|fail)
 all_goals
  refine⟨_,_,⟨rfl,rfl⟩,?_⟩;all_goals exact aM
theorem Vr (k0:(r.code==0)=true)(h:x.has.any (· == r.from_)=false)(hl:x.has.length≤1000000)(eH:bg x.af)(hn:0≤x.n∧x.n≤1000)(ha:bI (aj x) x.l.a (x.has++[r.from_])=true)(h8:8<x.n+1) :
  dU prog 139 [.ptr 1 0,.pv (uu now),.pv (.agg r.c)] [(1,.var (x.v (.pv (ax x.heard)) (.pv (ax x.none)) (.aO 2 0) (.pv (cB x.af)) (.pv (ax x.bad)) (.pv (.sc (.slice none 0 0))))),(2,.arr 27 0 2 (x.has.map Pl.c))] (.pv (.cO []))
   [(1,.var ((bQ { x with has:=x.has++[r.from_] } (x.n+1) now).1.v (.pv (ax x.heard)) (.pv (ax [])) (.pv (ax [])) (.pv (cB x.af)) (.pv (ax [])) (.pv (.sc (.slice none 0 0))))),(2,.arr 27 1 2 ((x.has++[r.from_]).map Pl.c))]:=by
 have hh:=ZY x now r.from_ h hl eH hn ha h8;clear h hn ha hl eH h8;refine eO mU ?_;repeat' ((conv=>whnf);first|with_reducible apply aP|((with_reducible apply fk)<;>intro hc<;>try exact aZ)|(apply dn;refine⟨_,_,av (hh) ?_,?_⟩;exact bD)|refine aN ?_|fail)
 all_goals
  refine⟨_,_,⟨rfl,rfl⟩,?_⟩;all_goals exact aM
theorem Vs (k0:(r.code==0)=true)(h:x.has.any (· == r.from_)=false)(hl:x.has.length≤1000000)(eH:bg x.af)(hn:0≤x.n∧x.n≤1000)(ha:bI (aj x) x.l.a (x.has++[r.from_])=true)(h8:x.n+1≤8)(hf:bg x.l.af)(hs:∀n,(setOf x.l.af x.l.w n).length≤1000000) :
  dU prog 139 [.ptr 1 0,.pv (uu now),.pv (.agg r.c)] [(1,.var (x.v (.pv (ax x.heard)) (.pv (ax x.none)) (.aO 2 0) (.pv (cB x.af)) (.pv (ax x.bad)) (.pv (.sc (.slice none 0 0))))),(2,.arr 27 0 2 (x.has.map Pl.c))] (.pv (.cO []))
   [(1,.var ((bQ { x with has:=x.has++[r.from_] } (x.n+1) now).1.v (.pv (ax x.heard)) (.pv (ax [])) (.pv (ax [])) (.pv (cB x.af)) (.pv (ax [])) (.aO 1001 0))),(2,.arr 27 1 2 ((x.has++[r.from_]).map Pl.c)),(1001,.arr 93 0 10 ((bQ { x with has:=x.has++[r.from_] } (x.n+1) now).2.map Rq.c))]:=by
 have hh:=Z4 x now r.from_ h hl eH hn ha h8 hf hs;clear h hn ha hl eH h8 hf hs;refine eO mU ?_;repeat' ((conv=>whnf);first|with_reducible apply aP|((with_reducible apply fk)<;>intro hc<;>try exact aZ)|(apply dn;refine⟨_,_,av (hh) ?_,?_⟩;exact bD)|refine aN ?_|fail)
 all_goals
  refine⟨_,_,⟨rfl,rfl⟩,?_⟩;all_goals exact aM
theorem Z9 (k0:(r.code==0)=false)(k2:(r.code==2)=false)(k4:(r.code==4)=false) :
  dU prog 139 [.ptr 1 0,.pv (uu now),.pv (.agg r.c)] [(1,.var (x.v (.pv (ax x.heard)) (.pv (ax x.none)) (.pv (ax x.has)) (.pv (cB x.af)) (.pv (ax x.bad)) (.pv (.sc (.slice none 0 0)))))] (.pv (.cO []))
   [(1,.var (x.v (.pv (ax x.heard)) (.pv (ax x.none)) (.pv (ax x.has)) (.pv (cB x.af)) (.pv (ax x.bad)) (.pv (.sc (.slice none 0 0)))))]:=by
 refine eO mU ?_;repeat' ((conv=>whnf);first|with_reducible apply aP|((with_reducible apply fk)<;>intro hc<;>try exact aZ)|refine aN ?_|fail)
 all_goals
  refine⟨_,_,⟨rfl,rfl⟩,?_⟩;all_goals exact aM
theorem aac (k0:(r.code==0)=false)(k2:(r.code==2)=true)(eH:bg x.af)(hn:0≤x.n∧x.n≤1000)(hl:x.bad.length≤1000000)(hw:(aj x).length≤1000) :
  dU prog 139 [.ptr 1 0,.pv (uu now),.pv (.agg r.c)] [(1,.var (x.v (.pv (ax x.heard)) (.pv (ax x.none)) (.pv (ax x.has)) (.pv (cB x.af)) (.aO 2 0) (.pv (.sc (.slice none 0 0))))),(2,.arr 27 0 2 (x.bad.map Pl.c))] (.pv (.cO []))
   [(1,.var (({ x with bad:=aD (fun y=>y==r.from_) x.bad (aj x) }:Rv).v (.pv (ax x.heard)) (.pv (ax x.none)) (.pv (ax x.has)) (.pv (cB x.af)) (.aO 1001 0) (.pv (.sc (.slice none 0 0))))),(2,.dS 1 2 []),(1001,.arr 27 0 2 ((aD (fun y=>y==r.from_) x.bad (aj x)).map Pl.c))]:=by
 have hh:=NA x r 172 (fun y=>y==r.from_) (fun y=>Z7 y r) eH hn hl hw;clear eH hn hl hw;refine eO mU ?_;repeat' ((conv=>whnf);first|with_reducible apply aP|((with_reducible apply fk)<;>intro hc<;>try exact aZ)|(apply dn;refine⟨_,_,av (hh) ?_,?_⟩;exact bD)|refine aN ?_|fail)
 all_goals
  refine⟨_,_,⟨rfl,rfl⟩,?_⟩;all_goals exact aM
theorem aad (k0:(r.code==0)=false)(k2:(r.code==2)=false)(k4:(r.code==4)=true)(eH:bg x.af)(hn:0≤x.n∧x.n≤1000)(hl:x.bad.length≤1000000)(hw:(aj x).length≤1000) :
  dU prog 139 [.ptr 1 0,.pv (uu now),.pv (.agg r.c)] [(1,.var (x.v (.pv (ax x.heard)) (.pv (ax x.none)) (.pv (ax x.has)) (.pv (cB x.af)) (.aO 2 0) (.pv (.sc (.slice none 0 0))))),(2,.arr 27 0 2 (x.bad.map Pl.c))] (.pv (.cO []))
   [(1,.var (({ x with bad:=aD (fun y=>y.node==r.from_.node&&y.aI != r.from_.aI) x.bad (aj x) }:Rv).v (.pv (ax x.heard)) (.pv (ax x.none)) (.pv (ax x.has)) (.pv (cB x.af)) (.aO 1001 0) (.pv (.sc (.slice none 0 0))))),(2,.dS 1 2 []),(1001,.arr 27 0 2 ((aD (fun y=>y.node==r.from_.node&&y.aI != r.from_.aI) x.bad (aj x)).map Pl.c))]:=by
 have hh:=NA x r 173 (fun y=>y.node==r.from_.node&&y.aI != r.from_.aI) (fun y=>Z8 y r) eH hn hl hw;clear eH hn hl hw;refine eO mU ?_;repeat' ((conv=>whnf);first|with_reducible apply aP|((with_reducible apply fk)<;>intro hc<;>try exact aZ)|(apply dn;refine⟨_,_,av (hh) ?_,?_⟩;exact bD)|refine aN ?_|fail)
 all_goals
  refine⟨_,_,⟨rfl,rfl⟩,?_⟩;all_goals exact aM
end
section
variable (x:Rv)(now:Int)(r:Rs)
theorem bS:bR prog 87 f87:=fC func87
theorem Vt (hsm:x.sm)(g1:(r.bP != x.l.id)=false)(g2:(r.au != x.au)=false)(k2:(r.kind==2)=true)(k0:(r.code==0)=true)(kp:decide (x.phase<4)=true)(h0:0<x.l.af.length)(hfl:x.l.af.length≤1000)(h1:(aW x).ah.any (· == r.from_)=false) :
  dB prog 87 [.agg x.c,uu now,.agg r.c] (.cO [.agg x.c,kD []]):=by
 refine PC.le ?_;have hown:=vR x hsm;have hm:=QA x now r h0 hfl h1;clear hsm h0 hfl h1;refine dP bS ?_;repeat' ((conv=>whnf);first|with_reducible apply aP|((with_reducible apply fk)<;>intro hc<;>try exact aZ)|(apply dn;refine⟨_,_,hown,?_⟩)|(apply dn;refine⟨_,_,av (hm) ?_,?_⟩;exact bD)|refine aN ?_|fail)
 all_goals
  all_goals exact aM
theorem Vu (hsm:x.sm)(g1:(r.bP != x.l.id)=false)(g2:(r.au != x.au)=false)(k2:(r.kind==2)=true)(k0:(r.code==0)=true)(kp:decide (x.phase<4)=true)(h0:0<x.l.af.length)(hfl:x.l.af.length≤1000)(h1:(aW x).ah.any (· == r.from_)=true)(h2:x.heard.any (· == r.from_)=true) :
  dB prog 87 [.agg x.c,uu now,.agg r.c] (.cO [.agg x.c,kD []]):=by
 refine PC.le ?_;have hown:=vR x hsm;have hm:=QB x now r h0 hfl h1 h2;clear hsm h0 hfl h1 h2;refine dP bS ?_;repeat' ((conv=>whnf);first|with_reducible apply aP|((with_reducible apply fk)<;>intro hc<;>try exact aZ)|(apply dn;refine⟨_,_,hown,?_⟩)|(apply dn;refine⟨_,_,av (hm) ?_,?_⟩;exact bD)|refine aN ?_|fail)
 all_goals
  all_goals exact aM
theorem aae (hsm:x.sm)(g1:(r.bP != x.l.id)=false)(g2:(r.au != x.au)=false)(k2:(r.kind==2)=true)(k0:(r.code==0)=true)(kp:decide (x.phase<4)=true)(h0:0<x.l.af.length)(hfl:x.l.af.length≤1000)(hl:x.heard.length≤1000000)(h1:(aW x).ah.any (· == r.from_)=true)(h2:x.heard.any (· == r.from_)=false)(p1:(x.phase==1)=false)(p2:(x.phase==2)=false) :
  dB prog 87 [.agg x.c,uu now,.agg r.c] (.cO [.agg ({ x with heard:=x.heard++[r.from_],sure:=min (max x.sure r.sure) 8 }:Rv).c,kD []]):=by
 refine PC.le ?_;have hown:=vR x hsm;have hm:=Vj x now r h0 hfl hl h1 h2 p1 p2;clear hsm h0 hfl hl h1 h2;refine dP bS ?_;repeat' ((conv=>whnf);first|with_reducible apply aP|((with_reducible apply fk)<;>intro hc<;>try exact aZ)|(apply dn;refine⟨_,_,hown,?_⟩)|(apply dn;refine⟨_,_,av (hm) ?_,?_⟩;exact bD)|refine aN ?_|fail)
 all_goals
  all_goals exact aM
theorem aaf (hsm:x.sm)(g1:(r.bP != x.l.id)=false)(g2:(r.au != x.au)=false)(k2:(r.kind==2)=true)(k0:(r.code==0)=true)(kp:decide (x.phase<4)=true)(h0:0<x.l.af.length)(hfl:x.l.af.length≤1000)(hl:x.heard.length≤1000000)(h1:(aW x).ah.any (· == r.from_)=true)(h2:x.heard.any (· == r.from_)=false)(hf:bg x.l.af)(hn:0≤x.n∧x.n≤1000)(p1:(x.phase==1)=false)(p2:(x.phase==2)=true)(h3:(aJ x).any (· == r.from_)=false) :
  dB prog 87 [.agg x.c,uu now,.agg r.c] (.cO [.agg ({ x with heard:=x.heard++[r.from_],sure:=min (max x.sure r.sure) 8 }:Rv).c,kD []]):=by
 refine PC.le ?_;have hown:=vR x hsm;have hm:=Vk x now r h0 hfl hl h1 h2 hf hn p1 p2 h3;clear hsm h0 hfl hl h1 h2 hf hn h3;refine dP bS ?_;repeat' ((conv=>whnf);first|with_reducible apply aP|((with_reducible apply fk)<;>intro hc<;>try exact aZ)|(apply dn;refine⟨_,_,hown,?_⟩)|(apply dn;refine⟨_,_,av (hm) ?_,?_⟩;exact bD)|refine aN ?_|fail)
 all_goals
  all_goals exact aM
theorem aag (hsm:x.sm)(g1:(r.bP != x.l.id)=false)(g2:(r.au != x.au)=false)(k2:(r.kind==2)=true)(k0:(r.code==0)=true)(kp:decide (x.phase<4)=true)(h0:0<x.l.af.length)(hfl:x.l.af.length≤1000)(hl:x.heard.length≤1000000)(h1:(aW x).ah.any (· == r.from_)=true)(h2:x.heard.any (· == r.from_)=false)(hf:bg x.l.af)(hn:0≤x.n∧x.n≤1000)(p1:(x.phase==1)=false)(p2:(x.phase==2)=true)(h3:(aJ x).any (· == r.from_)=true) :
  dB prog 87 [.agg x.c,uu now,.agg r.c] (.cO [.agg ({ x with heard:=x.heard++[r.from_],sure:=min (max x.sure r.sure) 8 }:Rv).c,kD [jH x r.from_]]):=by
 refine PC.le ?_;have hown:=vR x hsm;have hm:=Vo x now r h0 hfl hl h1 h2 hf hn p1 p2 h3;clear hsm h0 hfl hl h1 h2 hf hn h3;refine dP bS ?_;repeat' ((conv=>whnf);first|with_reducible apply aP|((with_reducible apply fk)<;>intro hc<;>try exact aZ)|(apply dn;refine⟨_,_,hown,?_⟩)|(apply dn;refine⟨_,_,av (hm) ?_,?_⟩;exact bD)|refine aN ?_|fail)
 all_goals
  all_goals exact aM
theorem aah (hsm:x.sm)(g1:(r.bP != x.l.id)=false)(g2:(r.au != x.au)=false)(k2:(r.kind==2)=true)(k0:(r.code==0)=true)(kp:decide (x.phase<4)=true)(h0:0<x.l.af.length)(hfl:x.l.af.length≤1000)(hl:x.heard.length≤1000000)(h1:(aW x).ah.any (· == r.from_)=true)(h2:x.heard.any (· == r.from_)=false)(hb:(aW x).ah.length≤1000000)(hw:0≤x.l.w∧x.l.w≤9223372036854775807)(ha:0≤x.l.a)(p1:(x.phase==1)=true)(p2:(x.phase==2)=false)(h3:fH (aW x) x.l.w x.l.a (x.heard++[r.from_])=false) :
  dB prog 87 [.agg x.c,uu now,.agg r.c] (.cO [.agg ({ x with heard:=x.heard++[r.from_],sure:=min (max x.sure r.sure) 8 }:Rv).c,kD []]):=by
 refine PC.le ?_;have hown:=vR x hsm;have hm:=Vl x now r h0 hfl hl h1 h2 hb hw ha p1 p2 h3;clear hsm h0 hfl hl h1 h2 hb hw ha h3;refine dP bS ?_;repeat' ((conv=>whnf);first|with_reducible apply aP|((with_reducible apply fk)<;>intro hc<;>try exact aZ)|(apply dn;refine⟨_,_,hown,?_⟩)|(apply dn;refine⟨_,_,av (hm) ?_,?_⟩;exact bD)|refine aN ?_|fail)
 all_goals
  all_goals exact aM
theorem aai (hsm:x.sm)(g1:(r.bP != x.l.id)=false)(g2:(r.au != x.au)=false)(k2:(r.kind==2)=true)(k0:(r.code==0)=true)(kp:decide (x.phase<4)=true)(h0:0<x.l.af.length)(hfl:x.l.af.length≤1000)(hl:x.heard.length≤1000000)(h1:(aW x).ah.any (· == r.from_)=true)(h2:x.heard.any (· == r.from_)=false)(hb:(aW x).ah.length≤1000000)(hw:0≤x.l.w∧x.l.w≤9223372036854775807)(ha:0≤x.l.a)(p1:(x.phase==1)=true)(p2:(x.phase==2)=false)(h3:fH (aW x) x.l.w x.l.a (x.heard++[r.from_])=true)(hs:0≤x.sure)(h8:8<max (min (max x.sure r.sure) 8+1) (aW x).first) :
  dB prog 87 [.agg x.c,uu now,.agg r.c] (.cO [.agg (bQ { x with heard:=x.heard++[r.from_],sure:=min (max x.sure r.sure) 8 } (max (min (max x.sure r.sure) 8+1) (aW x).first) now).1.c,kD []]):=by
 refine PC.le ?_;have hown:=vR x hsm;have hm:=Vm x now r h0 hfl hl h1 h2 hb hw ha p1 p2 h3 hs h8;clear hsm h0 hfl hl h1 h2 hb hw ha h3 hs h8;refine dP bS ?_;repeat' ((conv=>whnf);first|with_reducible apply aP|((with_reducible apply fk)<;>intro hc<;>try exact aZ)|(apply dn;refine⟨_,_,hown,?_⟩)|(apply dn;refine⟨_,_,av (hm) ?_,?_⟩;exact bD)|refine aN ?_|fail)
 all_goals
  repeat' first|apply And.intro|exact aM|fail
  all_goals try (conv=>whnf)
 all_goals (simp only[iD,jY,lD,iE,lF];exact aB _)
theorem aaj (hsm:x.sm)(g1:(r.bP != x.l.id)=false)(g2:(r.au != x.au)=false)(k2:(r.kind==2)=true)(k0:(r.code==0)=true)(kp:decide (x.phase<4)=true)(h0:0<x.l.af.length)(hfl:x.l.af.length≤1000)(hl:x.heard.length≤1000000)(h1:(aW x).ah.any (· == r.from_)=true)(h2:x.heard.any (· == r.from_)=false)(hb:(aW x).ah.length≤1000000)(hw:0≤x.l.w∧x.l.w≤9223372036854775807)(ha:0≤x.l.a)(p1:(x.phase==1)=true)(p2:(x.phase==2)=false)(h3:fH (aW x) x.l.w x.l.a (x.heard++[r.from_])=true)(hs:0≤x.sure)(h8:(max (min (max x.sure r.sure) 8+1) (aW x).first)≤8)(hfs:bg x.l.af)(hss:∀n,(setOf x.l.af x.l.w n).length≤1000000) :
  dB prog 87 [.agg x.c,uu now,.agg r.c] (.cO [.agg (bQ { x with heard:=x.heard++[r.from_],sure:=min (max x.sure r.sure) 8 } (max (min (max x.sure r.sure) 8+1) (aW x).first) now).1.c,kD (bQ { x with heard:=x.heard++[r.from_],sure:=min (max x.sure r.sure) 8 } (max (min (max x.sure r.sure) 8+1) (aW x).first) now).2]):=by
 refine PC.le ?_;have hown:=vR x hsm;have hm:=Vn x now r h0 hfl hl h1 h2 hb hw ha p1 p2 h3 hs h8 hfs hss;clear hsm h0 hfl hl h1 h2 hb hw ha h3 hs h8 hfs hss;refine dP bS ?_;repeat' ((conv=>whnf);first|with_reducible apply aP|((with_reducible apply fk)<;>intro hc<;>try exact aZ)|(apply dn;refine⟨_,_,hown,?_⟩)|(apply dn;refine⟨_,_,av (hm) ?_,?_⟩;exact bD)|refine aN ?_|fail)
 all_goals
  repeat' first|apply And.intro|exact aM|fail
  all_goals try (conv=>whnf)
 all_goals (simp only[iD,jY,lD,iE,lF];exact aB _)
end
section
variable (x:Rv)(now:Int)(r:Rs)
theorem aak (hsm:x.sm)(g1:(r.bP != x.l.id)=false)(g2:(r.au != x.au)=false)(k2:(r.kind==2)=false)(k3:(r.kind==3)=true)(kn:(r.n==x.n)=true)(hf:bg x.l.af)(hn:0≤x.n∧x.n≤1000)
  (c1:(x.phase==2&&(r.code==0&&(aJ x).any (· == r.from_)))=false)
  (c2:(x.phase==2&&(r.code==3&&((aJ x).any (· == r.from_)&&(x.heard.any (· == r.from_) && !x.none.any (· == r.from_)))))=false)
  (c3:(x.phase==3&&(r.code==0&&decide (r.body=x.body)))=false) :
  dB prog 87 [.agg x.c,uu now,.agg r.c] (.cO [.agg x.c,kD []]):=by
 refine PC.le ?_;have hown:=jK x hsm;have hm:=afj x now r hf hn c1 c2 c3;clear hsm hf hn c1 c2 c3;refine dP bS ?_;repeat' ((conv=>whnf);first|with_reducible apply aP|((with_reducible apply fk)<;>intro hc<;>try exact aZ)|(apply dn;refine⟨_,_,hown,?_⟩)|(apply dn;refine⟨_,_,av (hm) ?_,?_⟩;exact bD)|refine aN ?_|fail)
 all_goals
  all_goals exact aM
theorem Vv (hsm:x.sm)(g1:(r.bP != x.l.id)=false)(g2:(r.au != x.au)=false)(QJ:(r.kind==2)=false)(QK:(r.kind==3)=true)(kn:(r.n==x.n)=true)(hl:x.none.length≤1000000)(hw:0≤x.l.w∧x.l.w≤9223372036854775807)(ha:0≤x.l.a)(hf:bg x.l.af)(hn:0≤x.n∧x.n≤1000)(p2:(x.phase==2)=true)(k0:(r.code==0)=false)(k3:(r.code==3)=true)(h1:(aJ x).any (· == r.from_)=true)(h2:x.heard.any (· == r.from_)=true)(h3:x.none.any (· == r.from_)=false)(h4:fG (aJ x) x.l.w x.l.a (x.none++[r.from_])=false) :
  dB prog 87 [.agg x.c,uu now,.agg r.c] (.cO [.agg ({ x with none:=x.none++[r.from_],phase:=x.phase }:Rv).c,kD []]):=by
 refine PC.le ?_;have hown:=ZP x hsm;have hm:=acJ x now r hl hw ha hf hn p2 k0 k3 h1 h2 h3 h4;clear hsm hl hw ha hf hn h1 h2 h3 h4;refine dP bS ?_;repeat' ((conv=>whnf);first|with_reducible apply aP|((with_reducible apply fk)<;>intro hc<;>try exact aZ)|(apply dn;refine⟨_,_,hown,?_⟩)|(apply dn;refine⟨_,_,av (hm) ?_,?_⟩;exact bD)|refine aN ?_|fail)
 all_goals
  all_goals exact aM
theorem Vw (hsm:x.sm)(g1:(r.bP != x.l.id)=false)(g2:(r.au != x.au)=false)(QJ:(r.kind==2)=false)(QK:(r.kind==3)=true)(kn:(r.n==x.n)=true)(hl:x.none.length≤1000000)(hw:0≤x.l.w∧x.l.w≤9223372036854775807)(ha:0≤x.l.a)(hf:bg x.l.af)(hn:0≤x.n∧x.n≤1000)(p2:(x.phase==2)=true)(k0:(r.code==0)=false)(k3:(r.code==3)=true)(h1:(aJ x).any (· == r.from_)=true)(h2:x.heard.any (· == r.from_)=true)(h3:x.none.any (· == r.from_)=false)(h4:fG (aJ x) x.l.w x.l.a (x.none++[r.from_])=true) :
  dB prog 87 [.agg x.c,uu now,.agg r.c] (.cO [.agg ({ x with none:=x.none++[r.from_],phase:=4 }:Rv).c,kD []]):=by
 refine PC.le ?_;have hown:=ZP x hsm;have hm:=acK x now r hl hw ha hf hn p2 k0 k3 h1 h2 h3 h4;clear hsm hl hw ha hf hn h1 h2 h3 h4;refine dP bS ?_;repeat' ((conv=>whnf);first|with_reducible apply aP|((with_reducible apply fk)<;>intro hc<;>try exact aZ)|(apply dn;refine⟨_,_,hown,?_⟩)|(apply dn;refine⟨_,_,av (hm) ?_,?_⟩;exact bD)|refine aN ?_|fail)
 all_goals
  all_goals exact aM
theorem Vx (hsm:x.sm)(g1:(r.bP != x.l.id)=false)(g2:(r.au != x.au)=false)(QJ:(r.kind==2)=false)(QK:(r.kind==3)=true)(kn:(r.n==x.n)=true)(hf:bg x.l.af)(hn:0≤x.n∧x.n≤1000)(p2:(x.phase==2)=false)(p3:(x.phase==3)=true)(k0:(r.code==0)=true)(hb:r.body=x.body)(h:x.has.any (· == r.from_)=true) :
  dB prog 87 [.agg x.c,uu now,.agg r.c] (.cO [.agg x.c,kD []]):=by
 refine PC.le ?_;have hown:=vS x hsm;have hm:=acL x now r hf hn p2 p3 k0 hb h;clear hsm hf hn hb h;refine dP bS ?_;repeat' ((conv=>whnf);first|with_reducible apply aP|((with_reducible apply fk)<;>intro hc<;>try exact aZ)|(apply dn;refine⟨_,_,hown,?_⟩)|(apply dn;refine⟨_,_,av (hm) ?_,?_⟩;exact bD)|refine aN ?_|fail)
 all_goals
  all_goals exact aM
theorem Vy (hsm:x.sm)(g1:(r.bP != x.l.id)=false)(g2:(r.au != x.au)=false)(QJ:(r.kind==2)=false)(QK:(r.kind==3)=true)(kn:(r.n==x.n)=true)(hf:bg x.l.af)(hn:0≤x.n∧x.n≤1000)(p2:(x.phase==2)=false)(p3:(x.phase==3)=true)(k0:(r.code==0)=true)(hb:r.body=x.body)(h:x.has.any (· == r.from_)=false)(hl:x.has.length≤1000000)(eH:bg x.af)(ha:bI (aj x) x.l.a (x.has++[r.from_])=false) :
  dB prog 87 [.agg x.c,uu now,.agg r.c] (.cO [.agg ({ x with has:=x.has++[r.from_] }:Rv).c,kD []]):=by
 refine PC.le ?_;have hown:=vS x hsm;have hm:=acM x now r hf hn p2 p3 k0 hb h hl eH ha;clear hsm hf hn hb h hl eH ha;refine dP bS ?_;repeat' ((conv=>whnf);first|with_reducible apply aP|((with_reducible apply fk)<;>intro hc<;>try exact aZ)|(apply dn;refine⟨_,_,hown,?_⟩)|(apply dn;refine⟨_,_,av (hm) ?_,?_⟩;exact bD)|refine aN ?_|fail)
 all_goals
  all_goals exact aM
theorem Vz (hsm:x.sm)(g1:(r.bP != x.l.id)=false)(g2:(r.au != x.au)=false)(QJ:(r.kind==2)=false)(QK:(r.kind==3)=true)(kn:(r.n==x.n)=true)(hf:bg x.l.af)(hn:0≤x.n∧x.n≤1000)(p2:(x.phase==2)=false)(p3:(x.phase==3)=true)(k0:(r.code==0)=true)(hb:r.body=x.body)(h:x.has.any (· == r.from_)=false)(hl:x.has.length≤1000000)(eH:bg x.af)(ha:bI (aj x) x.l.a (x.has++[r.from_])=true)(h8:8<x.n+1) :
  dB prog 87 [.agg x.c,uu now,.agg r.c] (.cO [.agg (bQ { x with has:=x.has++[r.from_] } (x.n+1) now).1.c,kD []]):=by
 refine PC.le ?_;have hown:=vS x hsm;have hm:=acN x now r hf hn p2 p3 k0 hb h hl eH ha h8;clear hsm hf hn hb h hl eH ha h8;refine dP bS ?_;repeat' ((conv=>whnf);first|with_reducible apply aP|((with_reducible apply fk)<;>intro hc<;>try exact aZ)|(apply dn;refine⟨_,_,hown,?_⟩)|(apply dn;refine⟨_,_,av (hm) ?_,?_⟩;exact bD)|refine aN ?_|fail)
 all_goals
  repeat' first|apply And.intro|exact aM|fail
  all_goals try (conv=>whnf)
 all_goals (simp only[iD,jY,lD,iE,lF];exact aB _)
theorem VA (hsm:x.sm)(g1:(r.bP != x.l.id)=false)(g2:(r.au != x.au)=false)(QJ:(r.kind==2)=false)(QK:(r.kind==3)=true)(kn:(r.n==x.n)=true)(hf:bg x.l.af)(hn:0≤x.n∧x.n≤1000)(p2:(x.phase==2)=false)(p3:(x.phase==3)=true)(k0:(r.code==0)=true)(hb:r.body=x.body)(h:x.has.any (· == r.from_)=false)(hl:x.has.length≤1000000)(eH:bg x.af)(ha:bI (aj x) x.l.a (x.has++[r.from_])=true)(h8:x.n+1≤8)(hs:∀n,(setOf x.l.af x.l.w n).length≤1000000) :
  dB prog 87 [.agg x.c,uu now,.agg r.c] (.cO [.agg (bQ { x with has:=x.has++[r.from_] } (x.n+1) now).1.c,kD (bQ { x with has:=x.has++[r.from_] } (x.n+1) now).2]):=by
 refine PC.le ?_;have hown:=vS x hsm;have hm:=acO x now r hf hn p2 p3 k0 hb h hl eH ha h8 hs;clear hsm hf hn hb h hl eH ha h8 hs;refine dP bS ?_;repeat' ((conv=>whnf);first|with_reducible apply aP|((with_reducible apply fk)<;>intro hc<;>try exact aZ)|(apply dn;refine⟨_,_,hown,?_⟩)|(apply dn;refine⟨_,_,av (hm) ?_,?_⟩;exact bD)|refine aN ?_|fail)
 all_goals
  repeat' first|apply And.intro|exact aM|fail
  all_goals try (conv=>whnf)
 all_goals (simp only[iD,jY,lD,iE,lF];exact aB _)
theorem VB (hsm:x.sm)(g1:(r.bP != x.l.id)=false)(g2:(r.au != x.au)=false)(QJ:(r.kind==2)=false)(QK:(r.kind==3)=true)(kn:(r.n==x.n)=true)(hf:bg x.l.af)(eH:bg x.af)(hn:0≤x.n∧x.n≤1000)(hb:r.body.length≤1000000)(hw:(aj x).length≤1000)(p2:(x.phase==2)=true)(k0:(r.code==0)=true)(h1:(aJ x).any (· == r.from_)=true)(ha:bI (aj (aT x now r)) x.l.a [r.from_]=false) :
  dB prog 87 [.agg x.c,uu now,.agg r.c] (.cO [.agg (aT x now r).c,kD (bn (aT x now r) (aj (aT x now r)))]):=by
 refine PC.le ?_;have hown:=jK x hsm;have hm:=acP x now r hf eH hn hb hw p2 k0 h1 ha;clear hsm hf eH hn hb hw h1 ha;refine dP bS ?_;repeat' ((conv=>whnf);first|with_reducible apply aP|((with_reducible apply fk)<;>intro hc<;>try exact aZ)|(apply dn;refine⟨_,_,hown,?_⟩)|(apply dn;refine⟨_,_,av (hm) ?_,?_⟩;exact bD)|refine aN ?_|fail)
 all_goals
  all_goals exact aM
theorem VD (hsm:x.sm)(g1:(r.bP != x.l.id)=false)(g2:(r.au != x.au)=false)(QJ:(r.kind==2)=false)(QK:(r.kind==3)=true)(kn:(r.n==x.n)=true)(hf:bg x.l.af)(eH:bg x.af)(hn:0≤x.n∧x.n≤1000)(hb:r.body.length≤1000000)(hw:(aj x).length≤1000)(p2:(x.phase==2)=true)(k0:(r.code==0)=true)(h1:(aJ x).any (· == r.from_)=true)(ha:bI (aj (aT x now r)) x.l.a [r.from_]=true)(h8:8<x.n+1) :
  dB prog 87 [.agg x.c,uu now,.agg r.c] (.cO [.agg (bQ (aT x now r) (x.n+1) now).1.c,kD (bn (aT x now r) (aj (aT x now r)))]):=by
 refine PC.le ?_;have hown:=jK x hsm;have hm:=acQ x now r hf eH hn hb hw p2 k0 h1 ha h8;clear hsm hf eH hn hb hw h1 ha h8;refine dP bS ?_;repeat' ((conv=>whnf);first|with_reducible apply aP|((with_reducible apply fk)<;>intro hc<;>try exact aZ)|(apply dn;refine⟨_,_,hown,?_⟩)|(apply dn;refine⟨_,_,av (hm) ?_,?_⟩;exact bD)|refine aN ?_|fail)
 all_goals
  repeat' first|apply And.intro|exact aM|fail
  all_goals try (conv=>whnf)
 all_goals (simp only[iD,jY,lD,iE,lF];exact aB _)
theorem VE (hsm:x.sm)(g1:(r.bP != x.l.id)=false)(g2:(r.au != x.au)=false)(QJ:(r.kind==2)=false)(QK:(r.kind==3)=true)(kn:(r.n==x.n)=true)(hf:bg x.l.af)(eH:bg x.af)(hn:0≤x.n∧x.n≤1000)(hb:r.body.length≤1000000)(hw:(aj x).length≤1000)(p2:(x.phase==2)=true)(k0:(r.code==0)=true)(h1:(aJ x).any (· == r.from_)=true)(ha:bI (aj (aT x now r)) x.l.a [r.from_]=true)(h8:x.n+1≤8)(hs:∀n,(setOf x.l.af x.l.w n).length≤1000000) :
  dB prog 87 [.agg x.c,uu now,.agg r.c] (.cO [.agg (bQ (aT x now r) (x.n+1) now).1.c,kD (bn (aT x now r) (aj (aT x now r))++(bQ (aT x now r) (x.n+1) now).2)]):=by
 refine PC.le ?_;have hown:=jK x hsm;have hm:=acR x now r hf eH hn hb hw p2 k0 h1 ha h8 hs;clear hsm hf eH hn hb hw h1 ha h8 hs;refine dP bS ?_;repeat' ((conv=>whnf);first|with_reducible apply aP|((with_reducible apply fk)<;>intro hc<;>try exact aZ)|(apply dn;refine⟨_,_,hown,?_⟩)|(apply dn;refine⟨_,_,av (hm) ?_,?_⟩;exact bD)|refine aN ?_|fail)
 all_goals
  repeat' first|apply And.intro|exact aM|fail
  all_goals try (conv=>whnf)
 all_goals (simp only[iD,jY,lD,iE,lF];exact aB _)
end
section
variable (x:Rv)(now:Int)(r:Rs)
theorem aal (hsm:x.sm)(g1:(r.bP != x.l.id)=false)(g2:(r.au != x.au)=false)(QJ:(r.kind==2)=false)(QK:(r.kind==3)=false)(k1:(r.kind==1)=true)(kn:(r.n==x.n)=true)(p3:(x.phase==3)=true)(k0:(r.code==0)=false)(k2:(r.code==2)=false)(k4:(r.code==4)=false) :
  dB prog 87 [.agg x.c,uu now,.agg r.c] (.cO [.agg x.c,kD []]):=by
 refine PC.le ?_;have hown:=jK x hsm;have hm:=Z9 x now r k0 k2 k4;clear hsm;refine dP bS ?_;repeat' ((conv=>whnf);first|with_reducible apply aP|((with_reducible apply fk)<;>intro hc<;>try exact aZ)|(apply dn;refine⟨_,_,hown,?_⟩)|(apply dn;refine⟨_,_,av (hm) ?_,?_⟩;exact bD)|refine aN ?_|fail)
 all_goals
  all_goals exact aM
theorem VF (hsm:x.sm)(g1:(r.bP != x.l.id)=false)(g2:(r.au != x.au)=false)(QJ:(r.kind==2)=false)(QK:(r.kind==3)=false)(k1:(r.kind==1)=true)(kn:(r.n==x.n)=true)(p3:(x.phase==3)=true)(k0:(r.code==0)=true)(h:x.has.any (· == r.from_)=true) :
  dB prog 87 [.agg x.c,uu now,.agg r.c] (.cO [.agg x.c,kD []]):=by
 refine PC.le ?_;have hown:=vS x hsm;have hm:=Vp x now r k0 h;clear hsm h;refine dP bS ?_;repeat' ((conv=>whnf);first|with_reducible apply aP|((with_reducible apply fk)<;>intro hc<;>try exact aZ)|(apply dn;refine⟨_,_,hown,?_⟩)|(apply dn;refine⟨_,_,av (hm) ?_,?_⟩;exact bD)|refine aN ?_|fail)
 all_goals
  all_goals exact aM
theorem VG (hsm:x.sm)(g1:(r.bP != x.l.id)=false)(g2:(r.au != x.au)=false)(QJ:(r.kind==2)=false)(QK:(r.kind==3)=false)(k1:(r.kind==1)=true)(kn:(r.n==x.n)=true)(p3:(x.phase==3)=true)(k0:(r.code==0)=true)(h:x.has.any (· == r.from_)=false)(hl:x.has.length≤1000000)(eH:bg x.af)(hn:0≤x.n∧x.n≤1000)(ha:bI (aj x) x.l.a (x.has++[r.from_])=false) :
  dB prog 87 [.agg x.c,uu now,.agg r.c] (.cO [.agg ({ x with has:=x.has++[r.from_] }:Rv).c,kD []]):=by
 refine PC.le ?_;have hown:=vS x hsm;have hm:=Vq x now r k0 h hl eH hn ha;clear hsm h hl eH hn ha;refine dP bS ?_;repeat' ((conv=>whnf);first|with_reducible apply aP|((with_reducible apply fk)<;>intro hc<;>try exact aZ)|(apply dn;refine⟨_,_,hown,?_⟩)|(apply dn;refine⟨_,_,av (hm) ?_,?_⟩;exact bD)|refine aN ?_|fail)
 all_goals
  all_goals exact aM
theorem VH (hsm:x.sm)(g1:(r.bP != x.l.id)=false)(g2:(r.au != x.au)=false)(QJ:(r.kind==2)=false)(QK:(r.kind==3)=false)(k1:(r.kind==1)=true)(kn:(r.n==x.n)=true)(p3:(x.phase==3)=true)(k0:(r.code==0)=true)(h:x.has.any (· == r.from_)=false)(hl:x.has.length≤1000000)(eH:bg x.af)(hn:0≤x.n∧x.n≤1000)(ha:bI (aj x) x.l.a (x.has++[r.from_])=true)(h8:8<x.n+1) :
  dB prog 87 [.agg x.c,uu now,.agg r.c] (.cO [.agg (bQ { x with has:=x.has++[r.from_] } (x.n+1) now).1.c,kD []]):=by
 refine PC.le ?_;have hown:=vS x hsm;have hm:=Vr x now r k0 h hl eH hn ha h8;clear hsm h hl eH hn ha h8;refine dP bS ?_;repeat' ((conv=>whnf);first|with_reducible apply aP|((with_reducible apply fk)<;>intro hc<;>try exact aZ)|(apply dn;refine⟨_,_,hown,?_⟩)|(apply dn;refine⟨_,_,av (hm) ?_,?_⟩;exact bD)|refine aN ?_|fail)
 all_goals
  repeat' first|apply And.intro|exact aM|fail
  all_goals try (conv=>whnf)
 all_goals (simp only[iD,jY,lD,iE,lF];exact aB _)
theorem VI (hsm:x.sm)(g1:(r.bP != x.l.id)=false)(g2:(r.au != x.au)=false)(QJ:(r.kind==2)=false)(QK:(r.kind==3)=false)(k1:(r.kind==1)=true)(kn:(r.n==x.n)=true)(p3:(x.phase==3)=true)(k0:(r.code==0)=true)(h:x.has.any (· == r.from_)=false)(hl:x.has.length≤1000000)(eH:bg x.af)(hn:0≤x.n∧x.n≤1000)(ha:bI (aj x) x.l.a (x.has++[r.from_])=true)(h8:x.n+1≤8)(hf:bg x.l.af)(hs:∀n,(setOf x.l.af x.l.w n).length≤1000000) :
  dB prog 87 [.agg x.c,uu now,.agg r.c] (.cO [.agg (bQ { x with has:=x.has++[r.from_] } (x.n+1) now).1.c,kD (bQ { x with has:=x.has++[r.from_] } (x.n+1) now).2]):=by
 refine PC.le ?_;have hown:=vS x hsm;have hm:=Vs x now r k0 h hl eH hn ha h8 hf hs;clear hsm h hl eH hn ha h8 hf hs;refine dP bS ?_;repeat' ((conv=>whnf);first|with_reducible apply aP|((with_reducible apply fk)<;>intro hc<;>try exact aZ)|(apply dn;refine⟨_,_,hown,?_⟩)|(apply dn;refine⟨_,_,av (hm) ?_,?_⟩;exact bD)|refine aN ?_|fail)
 all_goals
  repeat' first|apply And.intro|exact aM|fail
  all_goals try (conv=>whnf)
 all_goals (simp only[iD,jY,lD,iE,lF];exact aB _)
theorem aam (hsm:x.sm)(g1:(r.bP != x.l.id)=false)(g2:(r.au != x.au)=false)(QJ:(r.kind==2)=false)(QK:(r.kind==3)=false)(k1:(r.kind==1)=true)(kn:(r.n==x.n)=true)(p3:(x.phase==3)=true)(k0:(r.code==0)=false)(k2:(r.code==2)=true)(eH:bg x.af)(hn:0≤x.n∧x.n≤1000)(hl:x.bad.length≤1000000)(hw:(aj x).length≤1000) :
  dB prog 87 [.agg x.c,uu now,.agg r.c] (.cO [.agg ({ x with bad:=aD (fun y=>y==r.from_) x.bad (aj x) }:Rv).c,kD []]):=by
 refine PC.le ?_;have hown:=ZQ x hsm;have hm:=aac x now r k0 k2 eH hn hl hw;clear hsm eH hn hl hw;refine dP bS ?_;repeat' ((conv=>whnf);first|with_reducible apply aP|((with_reducible apply fk)<;>intro hc<;>try exact aZ)|(apply dn;refine⟨_,_,hown,?_⟩)|(apply dn;refine⟨_,_,av (hm) ?_,?_⟩;exact bD)|refine aN ?_|fail)
 all_goals
  all_goals exact aM
theorem aan (hsm:x.sm)(g1:(r.bP != x.l.id)=false)(g2:(r.au != x.au)=false)(QJ:(r.kind==2)=false)(QK:(r.kind==3)=false)(k1:(r.kind==1)=true)(kn:(r.n==x.n)=true)(p3:(x.phase==3)=true)(k0:(r.code==0)=false)(k2:(r.code==2)=false)(k4:(r.code==4)=true)(eH:bg x.af)(hn:0≤x.n∧x.n≤1000)(hl:x.bad.length≤1000000)(hw:(aj x).length≤1000) :
  dB prog 87 [.agg x.c,uu now,.agg r.c] (.cO [.agg ({ x with bad:=aD (fun y=>y.node==r.from_.node&&y.aI != r.from_.aI) x.bad (aj x) }:Rv).c,kD []]):=by
 refine PC.le ?_;have hown:=ZQ x hsm;have hm:=aad x now r k0 k2 k4 eH hn hl hw;clear hsm eH hn hl hw;refine dP bS ?_;repeat' ((conv=>whnf);first|with_reducible apply aP|((with_reducible apply fk)<;>intro hc<;>try exact aZ)|(apply dn;refine⟨_,_,hown,?_⟩)|(apply dn;refine⟨_,_,av (hm) ?_,?_⟩;exact bD)|refine aN ?_|fail)
 all_goals
  all_goals exact aM
theorem aao (hsm:x.sm)(g1:(r.bP != x.l.id)=true)  :
  dB prog 87 [.agg x.c,uu now,.agg r.c] (.cO [.agg x.c,kD []]):=by
 refine PC.le ?_;have hown:=jK x hsm;clear hsm;refine dP bS ?_;repeat' ((conv=>whnf);first|with_reducible apply aP|((with_reducible apply fk)<;>intro hc<;>try exact aZ)|(apply dn;refine⟨_,_,hown,?_⟩)|refine aN ?_|fail)
 all_goals
  all_goals exact aM
theorem aap (hsm:x.sm)(g1:(r.bP != x.l.id)=false)(g2:(r.au != x.au)=true)  :
  dB prog 87 [.agg x.c,uu now,.agg r.c] (.cO [.agg x.c,kD []]):=by
 refine PC.le ?_;have hown:=jK x hsm;clear hsm;refine dP bS ?_;repeat' ((conv=>whnf);first|with_reducible apply aP|((with_reducible apply fk)<;>intro hc<;>try exact aZ)|(apply dn;refine⟨_,_,hown,?_⟩)|refine aN ?_|fail)
 all_goals
  all_goals exact aM
theorem aaq (hsm:x.sm)(g1:(r.bP != x.l.id)=false)(g2:(r.au != x.au)=false)(k2:(r.kind==2)=true)(k3:(r.kind==3)=false)(k1:(r.kind==1)=false)(k0:(r.code==0)=false) :
  dB prog 87 [.agg x.c,uu now,.agg r.c] (.cO [.agg x.c,kD []]):=by
 refine PC.le ?_;have hown:=jK x hsm;clear hsm;refine dP bS ?_;repeat' ((conv=>whnf);first|with_reducible apply aP|((with_reducible apply fk)<;>intro hc<;>try exact aZ)|(apply dn;refine⟨_,_,hown,?_⟩)|refine aN ?_|fail)
 all_goals
  all_goals exact aM
theorem aar (hsm:x.sm)(g1:(r.bP != x.l.id)=false)(g2:(r.au != x.au)=false)(k2:(r.kind==2)=true)(k3:(r.kind==3)=false)(k1:(r.kind==1)=false)(k0:(r.code==0)=true)(kp:decide (x.phase<4)=false) :
  dB prog 87 [.agg x.c,uu now,.agg r.c] (.cO [.agg x.c,kD []]):=by
 refine PC.le ?_;have hown:=jK x hsm;clear hsm;refine dP bS ?_;repeat' ((conv=>whnf);first|with_reducible apply aP|((with_reducible apply fk)<;>intro hc<;>try exact aZ)|(apply dn;refine⟨_,_,hown,?_⟩)|refine aN ?_|fail)
 all_goals
  all_goals exact aM
theorem aas (hsm:x.sm)(g1:(r.bP != x.l.id)=false)(g2:(r.au != x.au)=false)(k2:(r.kind==2)=false)(k3:(r.kind==3)=true)(k1:(r.kind==1)=false)(kn:(r.n==x.n)=false) :
  dB prog 87 [.agg x.c,uu now,.agg r.c] (.cO [.agg x.c,kD []]):=by
 refine PC.le ?_;have hown:=jK x hsm;clear hsm;refine dP bS ?_;repeat' ((conv=>whnf);first|with_reducible apply aP|((with_reducible apply fk)<;>intro hc<;>try exact aZ)|(apply dn;refine⟨_,_,hown,?_⟩)|refine aN ?_|fail)
 all_goals
  all_goals exact aM
theorem aat (hsm:x.sm)(g1:(r.bP != x.l.id)=false)(g2:(r.au != x.au)=false)(k2:(r.kind==2)=false)(k3:(r.kind==3)=false)(k1:(r.kind==1)=true)(kn:(r.n==x.n)=false) :
  dB prog 87 [.agg x.c,uu now,.agg r.c] (.cO [.agg x.c,kD []]):=by
 refine PC.le ?_;have hown:=jK x hsm;clear hsm;refine dP bS ?_;repeat' ((conv=>whnf);first|with_reducible apply aP|((with_reducible apply fk)<;>intro hc<;>try exact aZ)|(apply dn;refine⟨_,_,hown,?_⟩)|refine aN ?_|fail)
 all_goals
  all_goals exact aM
theorem aau (hsm:x.sm)(g1:(r.bP != x.l.id)=false)(g2:(r.au != x.au)=false)(k2:(r.kind==2)=false)(k3:(r.kind==3)=false)(k1:(r.kind==1)=true)(kn:(r.n==x.n)=true)(p3:(x.phase==3)=false) :
  dB prog 87 [.agg x.c,uu now,.agg r.c] (.cO [.agg x.c,kD []]):=by
 refine PC.le ?_;have hown:=jK x hsm;clear hsm;refine dP bS ?_;repeat' ((conv=>whnf);first|with_reducible apply aP|((with_reducible apply fk)<;>intro hc<;>try exact aZ)|(apply dn;refine⟨_,_,hown,?_⟩)|refine aN ?_|fail)
 all_goals
  all_goals exact aM
theorem aav (hsm:x.sm)(g1:(r.bP != x.l.id)=false)(g2:(r.au != x.au)=false)(k2:(r.kind==2)=false)(k3:(r.kind==3)=false)(k1:(r.kind==1)=false) :
  dB prog 87 [.agg x.c,uu now,.agg r.c] (.cO [.agg x.c,kD []]):=by
 refine PC.le ?_;have hown:=jK x hsm;clear hsm;refine dP bS ?_;repeat' ((conv=>whnf);first|with_reducible apply aP|((with_reducible apply fk)<;>intro hc<;>try exact aZ)|(apply dn;refine⟨_,_,hown,?_⟩)|refine aN ?_|fail)
 all_goals
  all_goals exact aM
end
theorem BG (x:Rv)(now:Int)(r:Rs)(h:x.big)(hb:r.body.length≤1000000) :
  dB prog 87 [.agg x.c,uu now,.agg r.c] (.cO [.agg (bX x now r).1.c,kD (bX x now r).2]):=by
 obtain⟨hsm,hf,eH,h0,hn,hs,hw,ha,hset,Cx⟩:=h;obtain⟨⟨a1,a2⟩,⟨a3,a4⟩,a5,a6,a7,a8,a9⟩:=id hsm;have hss:∀n,(setOf x.l.af x.l.w n).length≤1000000:=fun n=>Nat.le_trans (hset n) (by decide)
 have hwr:(aj x).length≤1000:=Cx x.n;have hlb:(aW x).ah.length≤1000000:=by have:=a2 _ (rD h0);omega
 cases g1:(r.bP != x.l.id) with
 | true=>
   rw[show bX x now r=(x,[]) by simp only[bX,g1,Bool.true_or,↓reduceIte]];exact aao x now r hsm g1
 |false=>
 cases g2:(r.au != x.au) with
 | true=>
   rw[show bX x now r=(x,[]) by simp only[bX,g1,g2,Bool.or_true,↓reduceIte]];exact aap x now r hsm g1 g2
 |false=>
 cases k2:(r.kind==2) with
 | true=>
   have k3:=gq k2 (show (2:Int)≠3 by decide);have k1:=gq k2 (show (2:Int)≠1 by decide);cases k0:(r.code==0) with
   | false=>
     rw[show bX x now r=(x,[]) by simp only[bX,g1,g2,k2,k3,k1,k0,Bool.or_self,Bool.true_and,Bool.false_and,Bool.false_eq_true,↓reduceIte]];exact aaq x now r hsm g1 g2 k2 k3 k1 k0
   |true=>
   cases kp:decide (x.phase<4) with
   | false=>
     rw[show bX x now r=(x,[]) by simp only[bX,g1,g2,k2,k3,k1,k0,kp,Bool.or_self,Bool.true_and,Bool.false_and,Bool.false_eq_true,↓reduceIte]];exact aar x now r hsm g1 g2 k2 k3 k1 k0 kp
   | true=>
     rw[show bX x now r=gB x now r by simp only[bX,g1,g2,k2,k0,kp,Bool.or_self,Bool.and_self,Bool.false_eq_true,↓reduceIte]];cases h1:(aW x).ah.any (· == r.from_) with
     | false=>
       rw[xY h1];exact Vt x now r hsm g1 g2 k2 k0 kp h0 a1 h1
     |true=>
     cases h2:x.heard.any (· == r.from_) with
     | true=>
       rw[xZ h1 h2];exact Vu x now r hsm g1 g2 k2 k0 kp h0 a1 h1 h2
     |false=>
     cases p1:(x.phase==1) with
     | true=>
       have p2:=gq p1 (show (1:Int)≠2 by decide);cases h3:fH (aW x) x.l.w x.l.a (x.heard++[r.from_]) with
       | false=>
         rw[Im h1 h2 p1 p2 h3];exact aah x now r hsm g1 g2 k2 k0 kp h0 a1 a5 h1 h2 hlb hw ha p1 p2 h3
       | true=>
         rw[Io h1 h2 p1 h3];by_cases h8:8<max (min (max x.sure r.sure) 8+1) (aW x).first
         ·rw[wE h8];exact aai x now r hsm g1 g2 k2 k0 kp h0 a1 a5 h1 h2 hlb hw ha p1 p2 h3 hs h8
         exact aaj x now r hsm g1 g2 k2 k0 kp h0 a1 a5 h1 h2 hlb hw ha p1 p2 h3 hs (by omega) hf hss
     |false=>
     cases p2:(x.phase==2) with
     | false=>
       rw[Ij h1 h2 p1 p2];exact aae x now r hsm g1 g2 k2 k0 kp h0 a1 a5 h1 h2 p1 p2
     |true=>
     cases h3:(aJ x).any (· == r.from_) with
     | false=>
       rw[Ik h1 h2 p1 p2 h3];exact aaf x now r hsm g1 g2 k2 k0 kp h0 a1 a5 h1 h2 hf hn p1 p2 h3
     | true=>
       rw[Il h1 h2 p1 p2 h3];exact aag x now r hsm g1 g2 k2 k0 kp h0 a1 a5 h1 h2 hf hn p1 p2 h3
 |false=>
 cases k3:(r.kind==3) with
 | true=>
   have k1:=gq k3 (show (3:Int)≠1 by decide);cases kn:(r.n==x.n) with
   | false=>
     rw[show bX x now r=(x,[]) by simp only[bX,g1,g2,k2,k3,k1,kn,Bool.or_self,Bool.true_and,Bool.false_and,Bool.and_false,Bool.false_eq_true,↓reduceIte]];exact aas x now r hsm g1 g2 k2 k3 k1 kn
   | true=>
     rw[show bX x now r=ny x now r by simp only[bX,g1,g2,k2,k3,kn,Bool.or_self,Bool.and_self,Bool.false_and,Bool.false_eq_true,↓reduceIte]];cases c1:(x.phase==2&&(r.code==0&&(aJ x).any (· == r.from_))) with
     | true=>
       have e2:ny x now r=((bO (aT x now r) now).1,bn (aT x now r) (aj (aT x now r))++(bO (aT x now r) now).2):=by simp only[ny,c1,↓reduceIte]
       rw[e2];simp only[Bool.and_eq_true] at c1;obtain⟨p2,k0,h1⟩:=c1;cases xS:bI (aj (aT x now r)) x.l.a [r.from_] with
       | false=>
         have e3:bO (aT x now r) now=(aT x now r,[]):=by
          unfold bO;exact if_neg (by show ¬(bI (aj (aT x now r)) x.l.a [r.from_]=true);rw[xS];decide)
         rw[e3,List.append_nil];exact VB x now r hsm g1 g2 k2 k3 kn hf eH hn hb hwr p2 k0 h1 xS
       | true=>
         have e3:bO (aT x now r) now=bQ (aT x now r) (x.n+1) now:=by
          unfold bO;exact if_pos xS
         rw[e3];by_cases h8:8<x.n+1
         ·rw[wE h8,List.append_nil];exact VD x now r hsm g1 g2 k2 k3 kn hf eH hn hb hwr p2 k0 h1 xS h8
         exact VE x now r hsm g1 g2 k2 k3 kn hf eH hn hb hwr p2 k0 h1 xS (by omega) hss
     |false=>
     cases c2:(x.phase==2&&(r.code==3&&((aJ x).any (· == r.from_)&&(x.heard.any (· == r.from_) && !x.none.any (· == r.from_))))) with
     | true=>
       have e2:ny x now r=(if fG (aJ x) x.l.w x.l.a (x.none++[r.from_]) then { x with none:=x.none++[r.from_],phase:=4 } else { x with none:=x.none++[r.from_] },[]):=by
        simp only[ny,c1,c2,Bool.false_eq_true,↓reduceIte]
       rw[e2];simp only[Bool.and_eq_true] at c2;obtain⟨p2,Mc,h1,h2,h3⟩:=c2;have k0:=gq Mc (show (3:Int)≠0 by decide);have h3:x.none.any (· == r.from_)=false:=by simpa using h3
       cases h4:fG (aJ x) x.l.w x.l.a (x.none++[r.from_]) with
       | false=>
         rw[if_neg (by decide)];exact Vv x now r hsm g1 g2 k2 k3 kn a6 hw ha hf hn p2 k0 Mc h1 h2 h3 h4
       | true=>
         rw[if_pos rfl];exact Vw x now r hsm g1 g2 k2 k3 kn a6 hw ha hf hn p2 k0 Mc h1 h2 h3 h4
     |false=>
     cases c3:(x.phase==3&&(r.code==0&&decide (r.body=x.body))) with
     | false=>
       have e2:ny x now r=(x,[]):=by simp only[ny,c1,c2,c3,Bool.false_eq_true,↓reduceIte]
       rw[e2];exact aak x now r hsm g1 g2 k2 k3 kn hf hn c1 c2 c3
     | true=>
       have e2:ny x now r=lY x now r.from_:=by simp only[ny,c1,c2,c3,Bool.false_eq_true,↓reduceIte]
       rw[e2];simp only[Bool.and_eq_true,iO] at c3;obtain⟨p3,k0,hbe⟩:=c3;have p2:=gq p3 (show (3:Int)≠2 by decide);cases h:x.has.any (· == r.from_) with
       | true=>
         rw[E8 h];exact Vx x now r hsm g1 g2 k2 k3 kn hf hn p2 p3 k0 hbe h
       |false=>
       cases xS:bI (aj x) x.l.a (x.has++[r.from_]) with
       | false=>
         rw[Po h xS];exact Vy x now r hsm g1 g2 k2 k3 kn hf hn p2 p3 k0 hbe h a7 eH xS
       | true=>
         rw[Pp h xS];by_cases h8:8<x.n+1
         ·rw[wE h8];exact Vz x now r hsm g1 g2 k2 k3 kn hf hn p2 p3 k0 hbe h a7 eH xS h8
         exact VA x now r hsm g1 g2 k2 k3 kn hf hn p2 p3 k0 hbe h a7 eH xS (by omega) hss
 |false=>
 cases k1:(r.kind==1) with
 | false=>
   rw[show bX x now r=(x,[]) by simp only[bX,g1,g2,k2,k3,k1,Bool.or_self,Bool.false_and,Bool.false_eq_true,↓reduceIte]];exact aav x now r hsm g1 g2 k2 k3 k1
 |true=>
 cases kn:(r.n==x.n) with
 | false=>
   rw[show bX x now r=(x,[]) by simp only[bX,g1,g2,k2,k3,k1,kn,Bool.or_self,Bool.true_and,Bool.false_and,Bool.false_eq_true,↓reduceIte]];exact aat x now r hsm g1 g2 k2 k3 k1 kn
 |true=>
 cases p3:(x.phase==3) with
 | false=>
   rw[show bX x now r=(x,[]) by simp only[bX,g1,g2,k2,k3,k1,kn,p3,Bool.or_self,Bool.true_and,Bool.false_and,Bool.and_false,Bool.false_eq_true,↓reduceIte]];exact aau x now r hsm g1 g2 k2 k3 k1 kn p3
 | true=>
   rw[show bX x now r=fT x now r by simp only[bX,g1,g2,k2,k3,k1,kn,p3,Bool.or_self,Bool.and_self,Bool.false_and,Bool.false_eq_true,↓reduceIte]];cases k0:(r.code==0) with
   | true=>
     rw[show fT x now r=lY x now r.from_ by simp only[fT,k0,↓reduceIte]];cases h:x.has.any (· == r.from_) with
     | true=>
       rw[E8 h];exact VF x now r hsm g1 g2 k2 k3 k1 kn p3 k0 h
     |false=>
     cases xS:bI (aj x) x.l.a (x.has++[r.from_]) with
     | false=>
       rw[Po h xS];exact VG x now r hsm g1 g2 k2 k3 k1 kn p3 k0 h a7 eH hn xS
     | true=>
       rw[Pp h xS];by_cases h8:8<x.n+1
       ·rw[wE h8];exact VH x now r hsm g1 g2 k2 k3 k1 kn p3 k0 h a7 eH hn xS h8
       exact VI x now r hsm g1 g2 k2 k3 k1 kn p3 k0 h a7 eH hn xS (by omega) hf hss
   |false=>
   cases DT:(r.code==2) with
   | true=>
     rw[show fT x now r=({ x with bad:=aD (· == r.from_) x.bad (aj x) },[]) by simp only[fT,k0,DT,Bool.false_eq_true,↓reduceIte]];exact aam x now r hsm g1 g2 k2 k3 k1 kn p3 k0 DT eH hn a8 hwr
   |false=>
   cases k4:(r.code==4) with
   | true=>
     rw[show fT x now r=({ x with bad:=aD (fun y=>y.node==r.from_.node&&y.aI != r.from_.aI) x.bad (aj x) },[]) by simp only[fT,k0,DT,k4,Bool.false_eq_true,↓reduceIte]];exact aan x now r hsm g1 g2 k2 k3 k1 kn p3 k0 DT k4 eH hn a8 hwr
   | false=>
     rw[show fT x now r=(x,[]) by simp only[fT,k0,DT,k4,Bool.false_eq_true,↓reduceIte]];exact aal x now r hsm g1 g2 k2 k3 k1 kn p3 k0 DT k4
structure Sv (s:Sk):Prop where
 w:WrB s.w
 lf:(bH s.w.l.af).ah.length≤5
 ww:s.w.l.w≤5
 ch:s.w.change.ok
 eG:s.eG.length≤90
 has:s.has.length≤10000
 told:s.told.length≤10000
 FN:s.aQ.length≤10000
 bT:s.bT.length≤8
 hb:∀h∈s.has,h.body.length≤3000
 now:gF s.now
 nx:gF s.w.next
 su:0≤s.w.sure∧s.w.sure<18446744073709551615
 ep:0≤s.first∧s.first≤s.au∧s.au≤2305843009213693952
 rv:s.first<s.au→s.r.big
 pl:dA s.x.w s.x.af=true
theorem tO:bR prog 145 f145:=fC func145
theorem UZ (s:Sk)(to:Int)(r:Rs)(h:Sv s)(hr:r.body.length≤1000000) :
  dU prog 145 [.ptr 1 0,.pv (uu to),.pv (.agg r.c)] (Ar s) (.pv (.cO [])) (NV (kN s to r)):=by
 refine lG ?_ rfl;cases d0:(to==0) with
 | true=>
   have e:kN s to r={ s with w:=iT s.w r }:=by unfold kN;rw[if_pos (by simpa using d0)]
   rw[e];have ht:=acs s.w s.now r h.w (Nat.le_trans h.lf (by decide));generalize iT s.w r=w' at *;clear e h;refine eO tO ?_;repeat' ((conv=>whnf);first|with_reducible apply aP|((with_reducible apply fk)<;>intro hc<;>try exact gK)|(apply bA;refine⟨_,aG (ht) ?_,?_⟩;exact bD)|refine aN ?_|fail)
   refine⟨_,_,⟨rfl,rfl⟩,?_⟩;all_goals exact aM
 |false=>
 cases d1:(to==s.au) with
 | false=>
   have e:kN s to r=s:=by
    unfold kN;rw[if_neg (by simpa using d0),if_neg (fun h=>by rw[beq_eq_false_iff_ne] at d1;exact d1 h.1)]
   rw[e];clear e h;refine eO tO ?_;repeat' ((conv=>whnf);first|with_reducible apply aP|((with_reducible apply fk)<;>intro hc<;>try exact gK)|refine aN ?_|fail)
   refine⟨_,_,⟨rfl,rfl⟩,?_⟩;all_goals exact aM
 |true=>
 cases d2:decide (s.au>s.first) with
 | false=>
   have e:kN s to r=s:=by
    unfold kN;rw[if_neg (by simpa using d0),if_neg (fun h=>by rw[decide_eq_false_iff_not] at d2;exact d2 h.2)]
   rw[e];clear e h;refine eO tO ?_;repeat' ((conv=>whnf);first|with_reducible apply aP|((with_reducible apply fk)<;>intro hc<;>try exact gK)|refine aN ?_|fail)
   refine⟨_,_,⟨rfl,rfl⟩,?_⟩;all_goals exact aM
 | true=>
   have hgt:s.au>s.first:=by simpa using d2
   have e:kN s to r=jJ { s with r:=(bX s.r s.now r).1 } to (bX s.r s.now r).2:=by
    unfold kN;rw[if_neg (by simpa using d0),if_pos ⟨by simpa using d1,hgt⟩]
   rw[e];have N8:=h.rv hgt;have ht:=BG s.r s.now r N8 hr;have hq:=Uy N8.hset N8.Cx s.now r;have hbl:=h.eG;obtain⟨⟨r',q⟩,hy⟩:∃y,bX s.r s.now r=y:=⟨_,rfl⟩;rw[hy] at ht hq ⊢;simp only at ht hq ⊢;have hse:=oD { s with r:=r' } to q (by omega) (by simp only;omega);clear e h hy N8 hgt;refine eO tO ?_;repeat' ((conv=>whnf);first|with_reducible apply aP|((with_reducible refine fk (fun hc=>?_) fun hc=>?_)<;>first|exact absurd hc (by decide)|(exfalso;simp only[*,reduceCtorEq,Bool.not_true,Bool.not_false,Bool.true_and,Bool.and_true,Bool.false_and,Bool.and_false] at hc;done)|skip)|rewrite[pY]|rewrite[p8]|(apply bA;refine⟨_,aG (ht) ?_,?_⟩;exact bD)|(apply dn;refine⟨_,_,av (hse) ?_,?_⟩;exact bD)|refine aN ?_|fail)
   refine⟨_,_,⟨rfl,rfl⟩,?_⟩;all_goals exact aM
theorem yE:bR prog 93 f93:=fC func93
theorem U0 (s:Sk)(x:Lk)(h:Sv s)(hr:x.r.body.length≤1000000) :
  dU prog 93 [.ptr 1 0,.pv (.agg x.c)] (Ar s) (.pv (.cO [])) (NV (pE s x)):=by
 refine lG ?_ rfl;cases d0:x.ask with
 | false=>
   have e:pE s x=kN s x.to x.r:=by unfold pE;rw[if_pos d0]
   rw[e];have ht:=UZ s x.to x.r h hr;generalize kN s x.to x.r=t at *;clear e h hr;refine eO yE ?_;repeat' ((conv=>whnf);first|with_reducible apply aP|((with_reducible apply fk)<;>intro hc<;>try exact gK)|rewrite[pY]|rewrite[p8]|(apply dn;refine⟨_,_,av (ht) ?_,?_⟩;exact bD)|refine aN ?_|fail)
   refine⟨_,_,⟨rfl,rfl⟩,?_⟩;all_goals exact aM
 | true=>
   have ha:=Qh s x.q (x.to==0) (by have:=h.FN;omega) (by have:=h.has;omega) (by have:=h.told;omega) (fun y hy=>by have:=h.hb y hy;omega);obtain⟨⟨t,r⟩,he⟩:∃y,eB s x.q (x.to==0)=y:=⟨_,rfl⟩;have e:pE s x=if (t.eG.length:Int)<90 then { t with eG:=t.eG++[⟨false,x.to,rq0,r⟩] } else t:=by
    unfold pE;rw[if_neg (by rw[d0];decide),he]
   rw[he] at ha;simp only at ha;rw[e];clear e he h hr;cases d1:decide (((t.eG.map Lk.c).length:Int)<90) with
   | true=>
     rw[if_pos (by simpa using d1)];refine eO yE ?_;repeat' ((conv=>whnf);first|with_reducible apply aP|((with_reducible apply fk)<;>intro hc<;>try exact gK)|rewrite[pY]|rewrite[p8]|(apply dn;refine⟨_,_,av (ha) ?_,?_⟩;exact bD)|(((with_reducible apply And.intro);focus (rw[List.length_map] at *;simp only[iO,fE,jQ,jR] at *;omega)))|refine aN ?_|fail)
     refine⟨_,_,⟨rfl,rfl⟩,?_⟩;repeat' first|apply And.intro|exact aM|fail
     all_goals try (conv=>whnf)
     all_goals first
      |(rw[List.map_append];refine bW (aB _) ?_;(repeat' first|apply And.intro|exact aM|fail);(all_goals try (conv=>whnf)))
      |trace_state
   | false=>
     rw[if_neg (by simpa using d1)];refine eO yE ?_;repeat' ((conv=>whnf);first|with_reducible apply aP|((with_reducible apply fk)<;>intro hc<;>try exact gK)|rewrite[pY]|rewrite[p8]|(apply dn;refine⟨_,_,av (ha) ?_,?_⟩;exact bD)|refine aN ?_|fail)
     refine⟨_,_,⟨rfl,rfl⟩,?_⟩;all_goals exact aM
theorem acE (l:List Fr)(hb:l.length≤1000000)(f:FuncId)(first bF:List PV)(p:Fr→Bool)(hp:∀x∈l,dB prog f (first++([.agg x.c]++bF)) (bl (p x))) :
  dU prog 175 [.aO 1 0,.pv (.fn (.func f) first bF)] [(1,.arr 48 0 2 (l.map Fr.c))] (.pv (.cO [.agg ((iK p l).getD kQ).c,bl (iK p l).isSome])) [(1,.arr 48 0 2 (l.map Fr.c))]:=by
 refine eO Ki ?_;repeat' ((conv=>whnf);first|with_reducible apply aP|((with_reducible apply fk)<;>intro hc<;>try exact aZ)|refine aN ?_|fail)
 refine⟨{k:Nat // k≤l.length},fun⟨k,_⟩=>⟨[(1,.pv (.fn (.func f) first bF)),(4,.ptr 1004 0),(5,.pv (bl (iK p (l.take k)).isSome)),(8,.aO 1 0),(9,.pv (ii l.length)),(10,.pv (ii k))],1000000000,[(1,.arr 48 0 2 (l.map Fr.c)),(1004,.var [.pv (uu ((iK p (l.take k)).getD kQ).first),.pv (ax ((iK p (l.take k)).getD kQ).ah)])]⟩,fun⟨k,_⟩=>l.length-k,⟨⟨0,by simp⟩,aH ?_⟩,?_⟩
 ·repeat' first|apply And.intro|exact aM|fail
  all_goals try (conv=>whnf)
  all_goals simp
 rintro⟨k,hk⟩
 by_cases hlt:k<l.length
 ·have d0:decide ((k:Int)<(l.length:Int))=true:=by simp only[iO];omega
  have hs:iK p (l.take (k+1))=if p l[k] then some l[k] else iK p (l.take k):=EU _ _ _ _ hlt
  repeat' ((conv=>whnf);first|with_reducible apply aP|((with_reducible apply fk)<;>intro hc<;>try exact aZ)|((refine⟨_,dR _ _ _ hlt,?_⟩))|(apply bA;refine⟨_,hp _ (List.getElem_mem hlt),?_⟩)|(((with_reducible apply And.intro);focus (rw[List.length_map];omega)))|refine aN ?_|fail)
  ·refine⟨⟨k+1,hlt⟩,dec_lt hlt,aH ?_⟩;repeat' first|apply And.intro|exact aM|fail
   all_goals try (conv=>whnf)
   all_goals first|exact bN (by omega) (by omega)|(rw[hs,if_pos hc];first|rfl|exact aB _)
  refine⟨⟨k+1,hlt⟩,dec_lt hlt,aH ?_⟩;repeat' first|apply And.intro|exact aM|fail
  all_goals try (conv=>whnf)
  all_goals first|exact bN (by omega) (by omega)|(rw[hs,if_neg (by simp[hc])];first|done|exact aB _)
 have hke:k=l.length:=by omega
 subst hke;have d0:decide ((l.length:Int)<(l.length:Int))=false:=by simp
 dsimp only
 rw[List.take_length];repeat' ((conv=>whnf);first|with_reducible apply aP|((with_reducible apply fk)<;>intro hc<;>try exact aZ)|refine aN ?_|fail)
 refine⟨_,_,⟨rfl,rfl⟩,?_⟩;all_goals exact aM
theorem rV (l:List Fr)(n:Int)(hb:l.length≤1000000)(h:bg l):dU prog 150 [.aO 1 0,.pv (uu n)] [(1,.arr 48 0 2 (l.map Fr.c))] (.pv (.cO [.agg ((eD l n).getD kQ).c,bl (eD l n).isSome])) [(1,.arr 48 0 2 (l.map Fr.c))]:=by
 refine eO M6 ?_;repeat' ((conv=>whnf);first|with_reducible apply aP|((with_reducible apply fk)<;>intro hc<;>try exact aZ)|(apply dn;refine⟨_,_,acE l hb _ _ _ _ fun x _=>M5 n x,?_⟩)|(apply bA;refine⟨_,l8 _ (by have:=EW h n;exact Nat.le_trans (Nat.mul_le_mul_right 16 this) (by decide)),?_⟩)|refine aN ?_|fail)
 refine⟨_,_,⟨rfl,rfl⟩,?_⟩;all_goals exact aM
theorem acF (l:List Fr)(w n:Int)(hb:l.length≤1000000)(h:bg l)(hn:0≤n∧n≤18446744073709551615):dU prog 108 [.aO 1 0,.pv (ii w),.pv (uu n)] [(1,.arr 48 0 2 (l.map Fr.c))] (.pv (ax (setOf l w n))) [(1,.arr 48 0 2 (l.map Fr.c))]:=by
 cases hf:eD l n with
 | none=>
   have hF:=rV l n hb h;rw[hf] at hF;simp only[Option.getD_none,Option.isSome_none] at hF;refine eO zZ ?_;repeat' ((conv=>whnf);first|with_reducible apply aP|((with_reducible apply fk)<;>intro hc<;>try exact aZ)|(apply dn;refine⟨_,_,hF,?_⟩)|refine aN ?_|fail)
   refine⟨_,_,⟨rfl,rfl⟩,?_⟩;repeat' first|apply And.intro|exact aM|fail
   all_goals try (conv=>whnf)
   simp[setOf,hf]
 | some f=>
   obtain⟨⟨f1,f2,f3⟩,f4⟩:=wC h hf;have hF:=rV l n hb h;rw[hf] at hF;simp only[Option.getD_some,Option.isSome_some] at hF;have e1 (hpos:0<f.ah.length):IntKind.i64.wrap ((IntKind.u64.wrap (n-f.first)).tmod (IntKind.u64.wrap ((f.ah.map Pl.c).length:Int)))=(n-f.first)%(f.ah.length:Int):=by
    rw[gX (by omega) (by omega),List.length_map,gX (by omega) (by omega),Int.tmod_eq_emod_of_nonneg (by omega)];have h1:=Int.emod_nonneg (n-f.first) (b:=(f.ah.length:Int)) (by omega);have h2:=Int.emod_lt_of_pos (n-f.first) (b:=(f.ah.length:Int)) (by omega);exact bN (by omega) (by omega)
   by_cases hw1:w<1
   ·have d1:decide (w<1)=true:=by simp only[iO];omega
    clear hw1;refine eO zZ ?_;repeat' ((conv=>whnf);first|with_reducible apply aP|((with_reducible apply fk)<;>intro hc<;>try exact aZ)|(apply dn;refine⟨_,_,hF,?_⟩)|refine aN ?_|fail)
    all_goals
     refine⟨_,_,⟨rfl,rfl⟩,?_⟩;repeat' first|apply And.intro|exact aM|fail
     all_goals try (conv=>whnf)
    all_goals
     simp only[iO] at d1;simp only[setOf,hf];rw[if_neg (by omega)];rfl
   by_cases hw2:w>(f.ah.length:Int)
   ·have d1:decide (w<1)=false:=by simp only[w9];omega
    have d2:decide (w>((f.ah.map Pl.c).length:Int))=true:=by rw[List.length_map];simp only[iO];omega
    clear hw1 hw2;refine eO zZ ?_;repeat' ((conv=>whnf);first|with_reducible apply aP|((with_reducible apply fk)<;>intro hc<;>try exact aZ)|(apply dn;refine⟨_,_,hF,?_⟩)|refine aN ?_|fail)
    all_goals
     refine⟨_,_,⟨rfl,rfl⟩,?_⟩;repeat' first|apply And.intro|exact aM|fail
     all_goals try (conv=>whnf)
    all_goals
     simp only[iO,w9,fE] at d1 d2;simp only[setOf,hf];rw[if_neg (by omega)];rfl
   have d1:decide (w<1)=false:=by simp only[w9];omega
   have d2:decide (w>((f.ah.map Pl.c).length:Int))=false:=by rw[List.length_map];simp only[w9];omega
   have hpos:0<f.ah.length:=by omega
   have e1:=e1 hpos;have h1:=Int.emod_nonneg (n-f.first) (b:=(f.ah.length:Int)) (by omega);have h2:=Int.emod_lt_of_pos (n-f.first) (b:=(f.ah.length:Int)) (by omega);have hfr:=Kj f.ah (IntKind.i64.wrap ((IntKind.u64.wrap (n-f.first)).tmod (IntKind.u64.wrap ((f.ah.map Pl.c).length:Int)))) w hpos f3 (by rw[e1];exact⟨h1,h2⟩) ⟨by omega,by omega⟩;have hw3:1≤w∧w≤(f.ah.length:Int):=by omega
   clear hw1 hw2;refine eO zZ ?_;repeat' ((conv=>whnf);first|with_reducible apply aP|((with_reducible apply fk)<;>intro hc<;>try exact aZ)|(apply dn;refine⟨_,_,hF,?_⟩)|(((with_reducible apply And.intro);focus (rw[List.length_map,gX (by omega) (by omega)];omega)))|(apply bA;refine⟨_,aG (hfr) ?_,?_⟩;exact bD)|refine aN ?_|fail)
   refine⟨_,_,⟨rfl,rfl⟩,?_⟩;repeat' first|apply And.intro|exact aM|fail
   all_goals try (conv=>whnf)
   refine fZ ?_;rw[e1];simp only[setOf,hf];rw[if_pos (by omega)]
theorem Vb:bR prog 140 f140:=fC func140
theorem kP (now since t:Int)(h1:0≤now∧now≤18446744073709551615)(h2:0≤since∧since≤18446744073709551615):dB prog 140 [uu now,uu since,uu t] (bl (fw now since t)):=by
 refine PC.le ?_;have e:IntKind.u64.wrap ((if since>now then since else now)-since)=(if since>now then since else now)-since:=gX (by split<;>omega) (by split<;>omega);refine dP Vb ?_;repeat' ((conv=>whnf);first|with_reducible apply aP|((with_reducible apply fk)<;>intro hc<;>try exact aZ)|refine aN ?_|fail)
 repeat' first|apply And.intro|exact aM|fail
 all_goals try (conv=>whnf)
 rw[e];rfl
theorem vN:bR prog 85 f85:=fC func85
theorem adK (l:Lg)(au now:Int)(hok:l.ok)(hfr:AX.d9 l=true→0<l.af.length∧l.af.length≤1000∧∀f∈l.af,f.ah.length≤1000) :
  dB prog 85 [.agg l.c,uu au,uu now] (.cO [.agg (pu l au now).1.c,kD (pu l au now).2.1,ii (pu l au now).2.2]):=by
 refine PC.le ?_;have Aq:=Da l hok;cases e1:AX.d9 l with
 | false=>
   have e:pu l au now=(⟨⟨0,0,0,[],0,0⟩,0,0,[],0,0,[],[],[],[],[],0,0⟩,[],1):=by simp only[pu,e1,Bool.not_false,Bool.true_or,↓reduceIte]
   rw[e];rw[e1] at Aq;clear hfr;refine dP vN ?_;repeat' ((conv=>whnf);first|with_reducible apply aP|((with_reducible apply fk)<;>intro hc<;>try exact aZ)|(apply bA;refine⟨_,Aq,?_⟩)|refine aN ?_|fail)
   all_goals
    all_goals exact aM
 |true=>
 rw[e1] at Aq;obtain⟨f0,f1,f2⟩:=hfr e1;cases e2:(l.closed != 0) with
 | true=>
   have e:pu l au now=(⟨⟨0,0,0,[],0,0⟩,0,0,[],0,0,[],[],[],[],[],0,0⟩,[],1):=by simp only[pu,e1,e2,Bool.or_true,Bool.true_or,↓reduceIte]
   rw[e];refine dP vN ?_;repeat' ((conv=>whnf);first|with_reducible apply aP|((with_reducible apply fk)<;>intro hc<;>try exact aZ)|(apply bA;refine⟨_,Aq,?_⟩)|refine aN ?_|fail)
   all_goals
    all_goals exact aM
 |false=>
 cases e3:decide (au<1) with
 | true=>
   have e:pu l au now=(⟨⟨0,0,0,[],0,0⟩,0,0,[],0,0,[],[],[],[],[],0,0⟩,[],1):=by simp only[pu,e1,e2,e3,Bool.or_true,Bool.true_or,↓reduceIte]
   rw[e];refine dP vN ?_;repeat' ((conv=>whnf);first|with_reducible apply aP|((with_reducible apply fk)<;>intro hc<;>try exact aZ)|(apply bA;refine⟨_,Aq,?_⟩)|refine aN ?_|fail)
   all_goals
    all_goals exact aM
 |false=>
 cases e4:decide (au>4611686018427387903) with
 | true=>
   have e:pu l au now=(⟨⟨0,0,0,[],0,0⟩,0,0,[],0,0,[],[],[],[],[],0,0⟩,[],1):=by simp only[pu,e1,e2,e3,e4,Bool.or_true,↓reduceIte]
   rw[e];refine dP vN ?_;repeat' ((conv=>whnf);first|with_reducible apply aP|((with_reducible apply fk)<;>intro hc<;>try exact aZ)|(apply bA;refine⟨_,Aq,?_⟩)|refine aN ?_|fail)
   all_goals
    all_goals exact aM
 |false=>
 obtain⟨x,hx⟩:∃x:Rv,x=⟨l,au,0,[],0,0,[],[],[],l.af,[],0,0⟩:=⟨_,rfl⟩;have hsm:x.sm:=by
  subst hx;exact⟨⟨f1,f2⟩,⟨f1,f2⟩,by simp,by simp,by simp,by simp,by simp⟩
 have hown:=jK x hsm;have gT:aW x∈x.l.af:=rD (by rw[hx];exact f0);have uG:=I6 { x with phase:=1,born:=now } now rfl (by rw[hx];exact f0) (by rw[hx];exact f1) (by have:=f2 (aW x) (by rw[hx] at gT ⊢;exact gT);show (aW x).ah.length≤1000000;omega);have e:pu l au now=({ x with phase:=1,born:=now,since:=now },jL { x with phase:=1,born:=now } (aW x).ah,0):=by
  subst hx;simp only[pu,e1,e2,e3,e4,Bool.not_true,Bool.or_self,Bool.false_eq_true,↓reduceIte];rfl
 rw[e];rw[show aW { x with phase:=1,born:=now }=aW x from rfl] at uG;obtain⟨Q,hQ⟩:∃Q,jL { x with phase:=1,born:=now } (aW x).ah=Q:=⟨_,rfl⟩;rw[hQ] at uG ⊢;clear hQ gT hsm e f0 f1 f2 hfr hok;subst hx;refine dP vN ?_;repeat' ((conv=>whnf);first|with_reducible apply aP|((with_reducible apply fk)<;>intro hc<;>try exact aZ)|(apply bA;refine⟨_,Aq,?_⟩)|(apply dn;refine⟨_,_,av (hown) ?_,?_⟩;exact bD)|(refine Or.inr ?_;(conv=>whnf);refine⟨_,bZ bU (cZ mixed bU) jB rfl ?_,fun _ _ h=>h⟩)|(apply dn;refine⟨_,_,av (uG) ?_,?_⟩;exact bD)|refine aN ?_|fail)
 all_goals
  all_goals exact aM
theorem Qq (x:Rv)(hf:bg x.af)(hl:x.af.length≤1000000)(hn:0≤x.n∧x.n≤18446744073709551615) :
  dU prog 141 [.ptr 1 0] [(1,.var (x.v (.pv (ax x.heard)) (.pv (ax x.none)) (.pv (ax x.has)) (.aO 2 0) (.aO 3 0) (.pv (.sc (.slice none 0 0))))),(2,.arr 48 0 2 (x.af.map Fr.c)),(3,.arr 27 0 2 (x.bad.map Pl.c))] (.pv (ax (aj x)))
   [(1,.var (x.v (.pv (ax x.heard)) (.pv (ax x.none)) (.pv (ax x.has)) (.aO 2 0) (.aO 3 0) (.pv (.sc (.slice none 0 0))))),(2,.arr 48 0 2 (x.af.map Fr.c)),(3,.arr 27 0 2 (x.bad.map Pl.c))]:=by
 refine eO j6 ?_;repeat' ((conv=>whnf);first|with_reducible apply aP|((with_reducible apply fk)<;>intro hc<;>try exact aZ)|(apply dn;refine⟨_,_,acF _ _ _ hl hf hn,?_⟩)|refine aN ?_|fail)
 refine⟨_,_,⟨rfl,rfl⟩,?_⟩;all_goals exact aM
theorem rW:bR prog 142 f142:=fC func142
section
variable (x:Rv)(known:List Pl)(hk:known.length≤1000)(hf:bg x.af)(hfl:x.af.length≤1000)(J7:∀f∈x.af,f.ah.length≤1000)
include hk hf hfl J7
theorem wL:(gJ x).ah.length≤1000:=by
 unfold gJ;cases h:eD x.af x.n with
 |none=>simp[kQ]
 |some f=>exact J7 f (mM _ _ _ h).1
theorem Nh (h1:(dG x known).2=false) :
  dU prog 142 [.ptr 1 0,.pv (ax known)] [(1,.var (x.v (.pv (ax x.heard)) (.pv (ax x.none)) (.pv (ax x.has)) (.aO 2 0) (.aO 3 0) (.pv (.sc (.slice none 0 0))))),(2,.arr 48 0 2 (x.af.map Fr.c)),(3,.arr 27 0 2 (x.bad.map Pl.c))] (.pv (bl false))
   [(1,.var (({ x with bad:=[] }:Rv).v (.pv (ax x.heard)) (.pv (ax x.none)) (.pv (ax x.has)) (.aO 2 0) (.pv (ax [])) (.pv (.sc (.slice none 0 0))))),(2,.arr 48 0 2 (x.af.map Fr.c)),(3,.dS 0 2 (x.bad.map Pl.c))]:=by
 have hfr:=rV x.af x.n (by omega) hf;have hre:dB prog 81 [.agg (gJ x).c,ii x.l.w,ii ((List.map Pl.c (gJ x).ah).length:Int),ax x.bad,ax known] (.cO [.agg (dG x known).1.c,bl (dG x known).2]):=by
  rw[List.length_map];exact vO _ _ _ _ _ (wL x known hk hf hfl J7) hk
 rw[h1] at hre;rw[show ((eD x.af x.n).getD kQ)=gJ x from rfl] at hfr;obtain⟨F,hF⟩:∃F,gJ x=F:=⟨_,rfl⟩;obtain⟨G,hG⟩:∃G,(dG x known).1=G:=⟨_,rfl⟩;obtain⟨ok,hok⟩:∃ok,(eD x.af x.n).isSome=ok:=⟨_,rfl⟩;rw[hF] at hfr hre;rw[hG] at hre;rw[hok] at hfr;clear hF hG h1 hok J7 hf;refine eO rW ?_;repeat' ((conv=>whnf);first|with_reducible apply aP|((with_reducible apply fk)<;>intro hc<;>try exact aZ)|(refine Or.inr ?_;(conv=>whnf);refine⟨_,_,av (hfr) ?_,?_⟩;exact bD)|(apply bA;refine⟨_,aG (hre) ?_,?_⟩;exact bD)|(((with_reducible apply And.intro);focus (simp only[fE,iO] at *;rw[bN (by omega) (by omega)];omega)))|refine aN ?_|fail)
 all_goals
  refine⟨_,_,⟨rfl,rfl⟩,?_⟩;all_goals exact aM
end
theorem IY:bR prog 35 f35:=fC func35
theorem Y6 {l:Lg}(h:dA l.w l.af=true)(au now:Int):(pu l au now).2.1.length≤5:=by
 unfold pu;split
 ·exact Nat.zero_le _
 refine Nat.le_trans (CR _ _) ?_;have h0:=j3 h;rw[Ml (by exact h0.1.1)];show (bH l.af).ah.length≤5
 have:=h0.2 _ (yg h0.1.1);simp only[kW,Bool.and_eq_true,dI,iO] at this;omega
theorem Y7 (s:Sk)(h:Sv s) :
  dU prog 35 [.ptr 1 0] (Ar s) (.pv (.cO [])) (NV (zM s)):=by
 refine lG ?_ rfl;obtain⟨⟨l0,l6⟩,hm⟩:=j3 h.pl;have hb5:∀f∈s.x.af,f.ah.length≤5:=fun f hf=>by
  have:=hm f hf;simp only[kW,Bool.and_eq_true,dI,iO] at this;omega
 have hn:=adK s.x (s.au+1) s.now (fun f hf=>by have:=hb5 f hf;omega) (fun _=>⟨l0,by omega,fun f hf=>by have:=hb5 f hf;omega⟩);have hq:=Y6 h.pl (s.au+1) s.now;have hbl:=h.eG;have hep:=h.ep;have eW:IntKind.u64.wrap (s.au+1)=s.au+1:=gX (by omega) (by omega);unfold zM;obtain⟨⟨r',q,er⟩,hy⟩:∃y,pu s.x (s.au+1) s.now=y:=⟨_,rfl⟩;rw[hy] at hn hq ⊢;simp only at hn hq ⊢;clear hy h hm hb5 l0 l6 hep;cases d1:(er==0) with
 | false=>
   rw[if_neg (by simpa using d1)];refine eO IY ?_;repeat' ((conv=>whnf);first|with_reducible apply aP|((with_reducible apply fk)<;>intro hc<;>try exact gK)|rewrite[eW]|(apply bA;refine⟨_,aG (hn) ?_,?_⟩;exact bD)|refine aN ?_|fail)
   refine⟨_,_,⟨rfl,rfl⟩,?_⟩;all_goals exact aM
 | true=>
   rw[if_pos (by simpa using d1)];have hse:=oD { s with au:=s.au+1,r:=r' } (s.au+1) q (by omega) (by simp only;omega);refine eO IY ?_;repeat' ((conv=>whnf);first|with_reducible apply aP|((with_reducible apply fk)<;>intro hc<;>try exact gK)|rewrite[eW]|rewrite[pY]|rewrite[p8]|(apply bA;refine⟨_,aG (hn) ?_,?_⟩;exact bD)|(apply dn;refine⟨_,_,av (hse) ?_,?_⟩;exact bD)|refine aN ?_|fail)
   refine⟨_,_,⟨rfl,rfl⟩,?_⟩;all_goals exact aM
end Go.Proofs.YtfoiekbkkbnpkaaGreat.Tb
end
section
open Go Go.Proofs.Tryz Go.AX
namespace Go.Proofs.YtfoiekbkkbnpkaaGreat.Tb
end Go.Proofs.YtfoiekbkkbnpkaaGreat.Tb
end
section
open Go Go.Proofs.Tryz Go.AX
namespace Go.Proofs.YtfoiekbkkbnpkaaGreat.Tb
end Go.Proofs.YtfoiekbkkbnpkaaGreat.Tb
end
section
open Go Go.Proofs.Tryz Go.AX
namespace Go.Proofs.YtfoiekbkkbnpkaaGreat.Tb
def Sy (had:List Hp)(n:Int)(k:Nat):List Pl:=bB (had.take k) n
theorem Na (had:List Hp)(n:Int)(k:Nat)(h:k<had.length):Sy had n (k+1)=if had[k].n==n then Sy had n k++[had[k].x] else Sy had n k:=by
 unfold Sy bB;rw[List.take_succ_eq_append_getElem h,List.filter_append,List.map_append];cases e:(had[k].n==n)<;>simp[e]
theorem KD:bR prog 22 f22:=fC func22
theorem Dg (l:List Fr)(hl:l.length≤1000000)(hb:∀f∈l,f.ah.length≤1000000):dU prog 22 [.pv (cB l)] [] (.aO 1001 0) [(1001,.arr 48 0 2 (l.map Fr.c))]:=by
 refine eO KD ?_;repeat' ((conv=>whnf);first|with_reducible apply aP|((with_reducible apply fk)<;>intro hc<;>try exact aZ)|refine aN ?_|fail)
 refine⟨{k:Nat // k≤l.length},fun⟨k,_⟩=>⟨[(0,.pv (cB l)),(3,.aO 1001 0),(4,.pv (ii k))],1000000000,[(1001,.arr 48 0 2 ((l.take k).map Fr.c))]⟩,fun⟨k,_⟩=>l.length-k,⟨⟨0,Nat.zero_le _⟩,aH ?_⟩,?_⟩
 ·all_goals exact aM
 rintro⟨k,hk⟩
 dsimp only
 by_cases hlt:k<l.length
 rotate_left
 ·have hke:k=l.length:=by omega
  subst hke;have d0:decide ((l.length:Int)<((l.map Fr.c).length:Int))=false:=by simp
  rw[List.take_length];repeat' ((conv=>whnf);first|with_reducible apply aP|((with_reducible apply fk)<;>intro hc<;>try exact aZ)|refine aN ?_|fail)
  refine⟨_,_,⟨rfl,rfl⟩,?_⟩;all_goals exact aM
 have d0:decide ((k:Int)<((l.map Fr.c).length:Int))=true:=by simp only[fE,iO];omega
 have eW:IntKind.i64.wrap ((k:Int)+1)=((k+1:Nat):Int):=by rw[bN (by omega) (by omega)];omega
 have hr:=dR Fr.c l k hlt;have hbk:=hb _ (List.getElem_mem hlt);have hts:=List.take_succ_eq_append_getElem hlt;obtain⟨f,hf⟩:∃f,l[k]=f:=⟨_,rfl⟩;rw[hf] at hr hbk hts;replace hts:=Hd.mk hts;clear hf hb;repeat' ((conv=>whnf);first|with_reducible apply aP|((with_reducible apply fk)<;>intro hc<;>try exact gK)|((refine⟨_,hr,?_⟩))|(((with_reducible apply And.intro);focus (simp only[fE,jQ,jR,List.length_take];omega)))|refine aN ?_|fail)
 refine⟨⟨k+1,hlt⟩,dec_lt hlt,aH ?_⟩;dsimp only
 rw[hts.out,List.map_append];repeat' first|apply And.intro|exact aM|fail
 all_goals try (conv=>whnf)
 all_goals first
  |exact eW
  |(refine bW (aB _) ?_;(repeat' first|apply And.intro|exact aM|fail);(all_goals try (conv=>whnf)))
  |skip
theorem pR {l:List Fr}{w n:Int}(h:w≤5):(setOf l w n).length≤5:=by
 have:=jr l w n;omega
theorem Jd (w:Wr)(x:Wt):(kJ w x).length≤w.l.w.toNat:=by
 have h1:=rZ w x (eT w x.n);rw[rY] at h1;exact Nat.le_trans h1 (jr _ _ _)
theorem Qk {w:Wr}{now:Int}{b:List UInt8}(h:w.l.w≤5):(gP w now b).2.1.length≤5:=by
 unfold gP;split
 ·simp
 split
 ·simp
 split
 ·simp
 have:=Jd w ⟨w.next,b,[],now,now⟩;simp only;omega
theorem DX (n:Int):gF (IntKind.u64.wrap n):=by
 have h:(18446744073709551616:Int)≠0:=by decide
 have e:IntKind.u64.wrap n=n%18446744073709551616:=by
  simp[IntKind.wrap,IntKind.bits,IntKind.signed]
 rw[e];exact⟨Int.emod_nonneg _ h,by have:=Int.emod_lt_of_pos n (b:=18446744073709551616) (by decide);omega⟩
theorem NP {w:Wr}(h:w.l.w≤5):∀(l:List Wt),(l.flatMap (kJ w)).length≤5*l.length
 |[]=>by simp
 | y::l=>by
   have h1:=Jd w y;have h2:=NP h l;rw[List.flatMap_cons,List.length_append,List.length_cons];omega
theorem Kr {w:Wr}(h:WrB w)(hw:w.l.w≤5)(now:Int)(ok:Bool):(dK w now ok).2.length≤5000:=by
 cases c1:(w.change.first==0) with
 |true=>unfold dK;rw[if_pos (by simpa using c1)];simp
 | false=>
   rw[F7 w now ok c1 _ rfl _ rfl];simp only;refine Nat.le_trans (NP ?_ _) ?_
   ·exact hw
   rw[List.length_drop];have:=h.wl;omega
end Go.Proofs.YtfoiekbkkbnpkaaGreat.Tb
end
section
open Go Go.Proofs.Tryz Go.AX
namespace Go.Proofs.YtfoiekbkkbnpkaaGreat.Tb
end Go.Proofs.YtfoiekbkkbnpkaaGreat.Tb
end
section
open Go Go.Proofs.Tryz Go.AX
namespace Go.Proofs.YtfoiekbkkbnpkaaGreat.Tb
theorem j5:bR prog 91 f91:=fC func91
def skX (s:Sk)(X:AV)(rows:List (List PV)):List (Nat×aF):=[(1,.var ((skA s (.aO 1001 0) (.aO 1002 0) (.aO 1003 0) (.aO 1004 0) (.aO 1005 0)).set 3 X)),(2,.dS 1 21 []),(3,.dS 1 4 []),(4,.dS 1 4 []),(5,.dS 1 4 []),(6,.dS 1 1 []),(1001,.arr 95 0 21 (s.eG.map Lk.c)),(1002,.arr 202 0 4 (s.has.map Hp.c)),(1003,.arr 202 0 4 (s.told.map Hp.c)),(1004,.arr 221 0 4 (s.aQ.map Fk.c)),(1005,.arr 9 0 1 (s.bT.map zW)),(1006,.arr 48 0 2 rows)]
theorem Qi (s:Sk)(x:wQ)(h:Sv s)(hk:x.known.length≤1000) :
  dU prog 91 [.ptr 1 0,.pv (.agg x.c)] (Ar s) (.pv (.cO [])) (NV (nV s x.e x.known)):=by
 have hp:=afe s.w x.e x.known h.w hk h.lf h.su;obtain⟨⟨p0,p6⟩,hm⟩:=j3 h.pl;have hb5:∀f∈s.x.af,f.ah.length≤5:=fun f hf=>by
  have:=hm f hf;simp only[kW,Bool.and_eq_true,dI,iO] at this;omega
 have hcp:=Dg s.x.af (by omega) (fun f hf=>Nat.le_trans (hb5 f hf) (by omega));unfold nV;obtain⟨⟨w',f,ok⟩,hy⟩:∃y,gL s.w x.e x.known=y:=⟨_,rfl⟩;rw[hy] at hp ⊢;simp only at hp ⊢;clear hy h hk hb5 hm;cases ok with
 | false=>
   rw[if_pos rfl];refine lG ?_ rfl;clear hcp;refine eO j5 ?_;repeat' ((conv=>whnf);first|with_reducible apply aP|((with_reducible apply fk)<;>intro hc<;>try exact gK)|(apply bA;refine⟨_,aG (hp) ?_,?_⟩;exact bD)|refine aN ?_|fail)
   refine⟨_,_,⟨rfl,rfl⟩,?_⟩;all_goals exact aM
 |true=>
 rw[if_neg (by decide)];obtain⟨k,hk,eI,hr⟩:=pQ s.x.af p0 (by omega);have hk1:s.x.af.length=k+1:=by
  rw[List.length_map,bN (by omega) (by omega)] at eI;omega
 have hkm:k<(s.x.af.map Fr.c).length:=by rw[List.length_map];exact hk
 have Iy:=tN s.x.w (dX s.x.af f);obtain⟨pl',Qj⟩:∃p,dX s.x.af f=p:=⟨_,rfl⟩;rw[Qj] at Iy ⊢;obtain⟨lf,gT⟩:∃f,bH s.x.af=f:=⟨_,rfl⟩;unfold dX at Qj;rw[gT] at Qj hr;clear gT;have hkl:k=s.x.af.length-1:=by omega
 cases e1:(lf.first==f.first)
 ·have hle:pl'.map Fr.c=s.x.af.map Fr.c++[[uu f.first,ax f.ah]]:=by
   rw[←Qj,e1];simp only[Bool.false_eq_true,↓reduceIte,zma,zmc,zmn];rfl
  rw[cB,hle] at Iy;have FQ:=Iy;clear Iy Qj;cases d1:(s.au==s.first) with
  | false=>
    rw[if_neg (fun g=>by rw[beq_eq_false_iff_ne] at d1;exact d1 g.1)];refine lG ?_ rfl;clear FQ hle;refine eO j5 ?_;repeat' ((conv=>whnf);first|with_reducible apply aP|((with_reducible apply fk)<;>intro hc<;>try exact gK)|rewrite[eI]|rewrite[pY]|rewrite[p8]|(apply bA;refine⟨_,aG (hp) ?_,?_⟩;exact bD)|(apply dn;refine⟨_,_,av (hcp) ?_,?_⟩;exact bD)|((refine⟨_,hr,?_⟩))|(((with_reducible apply And.intro);focus (simp only[fE,jQ,jR,Int.toNat_natCast,rq,List.length_take,List.length_drop];omega)))|refine aN ?_|fail)
    refine⟨_,_,⟨rfl,rfl⟩,?_⟩;all_goals exact aM
  |true=>
  cases d2:dA s.x.w pl' with
  | false=>
    rw[if_neg (fun g=>by cases g.2)];rw[d2] at FQ;refine lG ?_ rfl;clear hle;refine eO j5 ?_;repeat' ((conv=>whnf);first|with_reducible apply aP|((with_reducible apply fk)<;>intro hc<;>try exact gK)|rewrite[eI]|rewrite[pY]|rewrite[p8]|(apply bA;refine⟨_,aG (hp) ?_,?_⟩;exact bD)|(apply dn;refine⟨_,_,av (hcp) ?_,?_⟩;exact bD)|((refine⟨_,hr,?_⟩))|(((with_reducible apply And.intro);focus (simp only[fE,jQ,jR,Int.toNat_natCast,rq,List.length_take,List.length_drop];omega)))|(apply bA;refine⟨_,aG (FQ) ?_,?_⟩;exact bD)|refine aN ?_|fail)
    refine⟨_,_,⟨rfl,rfl⟩,?_⟩;all_goals exact aM
  | true=>
    rw[if_pos ⟨by simpa using d1,rfl⟩];rw[d2] at FQ;have hraw:dU prog 91 [.ptr 1 0,.pv (.agg x.c)] (Ar s) (.pv (.cO [])) (skX { s with w:=w',ask:=f,taken:=true } (.aO 1006 0) (s.x.af.map Fr.c++[[uu f.first,ax f.ah]])):=by
     refine lG ?_ rfl;clear hle;refine eO j5 ?_;repeat' ((conv=>whnf);first|with_reducible apply aP|((with_reducible apply fk)<;>intro hc<;>try exact gK)|rewrite[eI]|rewrite[pY]|rewrite[p8]|(apply bA;refine⟨_,aG (hp) ?_,?_⟩;exact bD)|(apply dn;refine⟨_,_,av (hcp) ?_,?_⟩;exact bD)|((refine⟨_,hr,?_⟩))|(((with_reducible apply And.intro);focus (simp only[fE,jQ,jR,Int.toNat_natCast,rq,List.length_take,List.length_drop];omega)))|(apply bA;refine⟨_,aG (FQ) ?_,?_⟩;exact bD)|refine aN ?_|fail)
     refine⟨_,_,⟨rfl,rfl⟩,?_⟩;all_goals exact aM
    refine gu hraw [1006] ?_
    (conv=>whnf)
    refine⟨_,_,⟨rfl,rfl⟩,?_⟩;repeat' first|apply And.intro|exact aM|fail
    all_goals try (conv=>whnf)
    all_goals first
     |(rw[hle];exact aB _)
     |trace_state
 have hle:pl'.map Fr.c=jF (List.take ((k:Nat):Int).toNat (s.x.af.map Fr.c)++([[uu f.first,ax f.ah]]++List.drop (((k:Nat):Int).toNat+[[uu f.first,ax f.ah]].length) (s.x.af.map Fr.c))) 0 (((k:Nat):Int).toNat+[[uu f.first,ax f.ah]].length):=by
  rw[←Qj,e1];simp only[↓reduceIte,jF,List.drop_zero,Int.toNat_natCast,List.length_singleton,Nat.sub_zero];rw[List.drop_eq_nil_of_le (by rw[List.length_map];omega),List.append_nil,List.take_of_length_le (by simp only[rq,List.length_take,fE,List.length_singleton];omega),List.map_append,List.dropLast_eq_take,←hkl,List.map_take];rfl
 rw[cB,hle] at Iy;have FQ:=Iy;clear Iy Qj;cases d1:(s.au==s.first) with
 | false=>
   rw[if_neg (fun g=>by rw[beq_eq_false_iff_ne] at d1;exact d1 g.1)];refine lG ?_ rfl;clear FQ hle;refine eO j5 ?_;repeat' ((conv=>whnf);first|with_reducible apply aP|((with_reducible apply fk)<;>intro hc<;>try exact gK)|rewrite[eI]|rewrite[pY]|rewrite[p8]|(apply bA;refine⟨_,aG (hp) ?_,?_⟩;exact bD)|(apply dn;refine⟨_,_,av (hcp) ?_,?_⟩;exact bD)|((refine⟨_,hr,?_⟩))|(((with_reducible apply And.intro);focus (simp only[fE,jQ,jR,Int.toNat_natCast,rq,List.length_take,List.length_drop];omega)))|refine aN ?_|fail)
   refine⟨_,_,⟨rfl,rfl⟩,?_⟩;all_goals exact aM
 |true=>
 cases d2:dA s.x.w pl' with
 | false=>
   rw[if_neg (fun g=>by cases g.2)];rw[d2] at FQ;refine lG ?_ rfl;clear hle;refine eO j5 ?_;repeat' ((conv=>whnf);first|with_reducible apply aP|((with_reducible apply fk)<;>intro hc<;>try exact gK)|rewrite[eI]|rewrite[pY]|rewrite[p8]|(apply bA;refine⟨_,aG (hp) ?_,?_⟩;exact bD)|(apply dn;refine⟨_,_,av (hcp) ?_,?_⟩;exact bD)|((refine⟨_,hr,?_⟩))|(((with_reducible apply And.intro);focus (simp only[fE,jQ,jR,Int.toNat_natCast,rq,List.length_take,List.length_drop];omega)))|(apply bA;refine⟨_,aG (FQ) ?_,?_⟩;exact bD)|refine aN ?_|fail)
   refine⟨_,_,⟨rfl,rfl⟩,?_⟩;all_goals exact aM
 | true=>
   rw[if_pos ⟨by simpa using d1,rfl⟩];rw[d2] at FQ;have hraw:dU prog 91 [.ptr 1 0,.pv (.agg x.c)] (Ar s) (.pv (.cO [])) (skX { s with w:=w',ask:=f,taken:=true } (.sub 1006 0 2 0 (((k:Nat):Int).toNat+[[uu f.first,ax f.ah]].length)) (List.take ((k:Nat):Int).toNat (s.x.af.map Fr.c)++([[uu f.first,ax f.ah]]++List.drop (((k:Nat):Int).toNat+[[uu f.first,ax f.ah]].length) (s.x.af.map Fr.c)))):=by
    refine lG ?_ rfl;clear hle;refine eO j5 ?_;repeat' ((conv=>whnf);first|with_reducible apply aP|((with_reducible apply fk)<;>intro hc<;>try exact gK)|rewrite[eI]|rewrite[pY]|rewrite[p8]|(apply bA;refine⟨_,aG (hp) ?_,?_⟩;exact bD)|(apply dn;refine⟨_,_,av (hcp) ?_,?_⟩;exact bD)|((refine⟨_,hr,?_⟩))|(((with_reducible apply And.intro);focus (simp only[fE,jQ,jR,Int.toNat_natCast,rq,List.length_take,List.length_drop];omega)))|(apply bA;refine⟨_,aG (FQ) ?_,?_⟩;exact bD)|refine aN ?_|fail)
    refine⟨_,_,⟨rfl,rfl⟩,?_⟩;all_goals exact aM
   refine gu hraw [1006] ?_
   (conv=>whnf)
   refine⟨_,_,⟨rfl,rfl⟩,?_⟩;repeat' first|apply And.intro|exact aM|fail
   all_goals try (conv=>whnf)
   all_goals first
    |(rw[hle];exact aB _)
    |trace_state
section
variable (x:Rv)(known:List Pl)(hk:known.length≤1000)(hf:bg x.af)(hfl:x.af.length≤1000)(J7:∀f∈x.af,f.ah.length≤1000)
include hk hf hfl J7
theorem Ni (h1:(dG x known).2=true)(hc1:((gJ x).first==x.n&&decide ((x.af.length:Int)>0))=false)(h6:((x.af.length:Int)==6)=true) :
  dU prog 142 [.ptr 1 0,.pv (ax known)] [(1,.var (x.v (.pv (ax x.heard)) (.pv (ax x.none)) (.pv (ax x.has)) (.aO 2 0) (.aO 3 0) (.pv (.sc (.slice none 0 0))))),(2,.arr 48 0 2 (x.af.map Fr.c)),(3,.arr 27 0 2 (x.bad.map Pl.c))] (.pv (bl false))
   [(1,.var (({ x with bad:=[] }:Rv).v (.pv (ax x.heard)) (.pv (ax x.none)) (.pv (ax x.has)) (.aO 2 0) (.pv (ax [])) (.pv (.sc (.slice none 0 0))))),(2,.arr 48 0 2 ((x.af).map Fr.c)),(3,.dS 0 2 (x.bad.map Pl.c))]:=by
 have e6:(((List.map Fr.c x.af).length:Int)==6)=true:=by rw[List.length_map];exact h6
 have hfr:=rV x.af x.n (by omega) hf;have hre:dB prog 81 [.agg (gJ x).c,ii x.l.w,ii ((List.map Pl.c (gJ x).ah).length:Int),ax x.bad,ax known] (.cO [.agg (dG x known).1.c,bl (dG x known).2]):=by
  rw[List.length_map];exact vO _ _ _ _ _ (wL x known hk hf hfl J7) hk
 rw[h1] at hre;rw[show ((eD x.af x.n).getD kQ)=gJ x from rfl] at hfr;obtain⟨F,hF⟩:∃F,gJ x=F:=⟨_,rfl⟩;obtain⟨G,hG⟩:∃G,(dG x known).1=G:=⟨_,rfl⟩;obtain⟨ok,hok⟩:∃ok,(eD x.af x.n).isSome=ok:=⟨_,rfl⟩;rw[hF] at hfr hre hc1;rw[hG] at hre;rw[hok] at hfr;clear hF hG h1 hok J7 hf;have e2:decide (((List.map Fr.c x.af).length:Int)>0)=true:=by
  have:(x.af.length:Int)=6:=by simpa using h6
  rw[List.length_map,this];rfl
 have e2':decide ((x.af.length:Int)>0)=true:=by rw[List.length_map] at e2;exact e2
 rw[e2',Bool.and_true] at hc1;clear h6 e2';refine eO rW ?_;repeat' ((conv=>whnf);first|with_reducible apply aP|((with_reducible apply fk)<;>intro hc<;>try exact aZ)|(refine Or.inr ?_;(conv=>whnf);refine⟨_,_,av (hfr) ?_,?_⟩;exact bD)|(apply bA;refine⟨_,aG (hre) ?_,?_⟩;exact bD)|(((with_reducible apply And.intro);focus (simp only[jF,fE,List.length_take,List.length_drop,jQ,jR];omega)))|(((with_reducible apply And.intro);focus (rw[List.length_map,bN (by omega) (by omega)];omega)))|(((with_reducible apply And.intro);focus (rw[eL,List.length_map];simp only[jQ,jR];omega)))|refine aN ?_|fail)
 all_goals
  refine⟨_,_,⟨rfl,rfl⟩,?_⟩;all_goals exact aM
theorem Nj (h1:(dG x known).2=true)(hc1:((gJ x).first==x.n&&decide ((x.af.length:Int)>0))=false)(h6:((x.af.length:Int)==6)=false) :
  dU prog 142 [.ptr 1 0,.pv (ax known)] [(1,.var (x.v (.pv (ax x.heard)) (.pv (ax x.none)) (.pv (ax x.has)) (.aO 2 0) (.aO 3 0) (.pv (.sc (.slice none 0 0))))),(2,.arr 48 0 2 (x.af.map Fr.c)),(3,.arr 27 0 2 (x.bad.map Pl.c))] (.pv (bl true))
   [(1,.var (({ x with bad:=[],af:=x.af++[(⟨x.n,(dG x known).1.ah⟩:Fr)] }:Rv).v (.pv (ax x.heard)) (.pv (ax x.none)) (.pv (ax x.has)) (.aO 1001 0) (.pv (ax [])) (.pv (.sc (.slice none 0 0))))),(1001,.arr 48 0 2 ((x.af++[(⟨x.n,(dG x known).1.ah⟩:Fr)]).map Fr.c)),(2,.dS 1 2 []),(3,.dS 0 2 (x.bad.map Pl.c))]:=by
 have e6:(((List.map Fr.c x.af).length:Int)==6)=false:=by rw[List.length_map];exact h6
 have hfr:=rV x.af x.n (by omega) hf;have hre:dB prog 81 [.agg (gJ x).c,ii x.l.w,ii ((List.map Pl.c (gJ x).ah).length:Int),ax x.bad,ax known] (.cO [.agg (dG x known).1.c,bl (dG x known).2]):=by
  rw[List.length_map];exact vO _ _ _ _ _ (wL x known hk hf hfl J7) hk
 rw[h1] at hre;rw[show ((eD x.af x.n).getD kQ)=gJ x from rfl] at hfr;obtain⟨F,hF⟩:∃F,gJ x=F:=⟨_,rfl⟩;obtain⟨G,hG⟩:∃G,(dG x known).1=G:=⟨_,rfl⟩;obtain⟨ok,hok⟩:∃ok,(eD x.af x.n).isSome=ok:=⟨_,rfl⟩;rw[hF] at hfr hre hc1;rw[hG] at hre ⊢;rw[hok] at hfr;clear hF hG h1 hok J7 hf;have hmap:(x.af++[(⟨x.n,G.ah⟩:Fr)]).map Fr.c=x.af.map Fr.c++[[uu x.n,ax G.ah]]:=by rw[List.map_append];rfl
 rw[hmap];refine nD 2 1777 rfl ?_;show GC _ _ [.ptr 1 0,.pv (ax known)] [(1777,.arr 48 0 2 (x.af.map Fr.c)),(1,.var (x.v (.pv (ax x.heard)) (.pv (ax x.none)) (.pv (ax x.has)) (.aO 1777 0) (.aO 3 0) (.pv (.sc (.slice none 0 0))))),(2,.dS 1 2 []),(3,.arr 27 0 2 (x.bad.map Pl.c))] _
 cases e2:decide ((x.af.length:Int)>0) with
 | true=>
   have e2':decide (((List.map Fr.c x.af).length:Int)>0)=true:=by rw[List.length_map];exact e2
   rw[e2,Bool.and_true] at hc1;clear h6 e2;refine eO rW ?_;repeat' ((conv=>whnf);first|with_reducible apply aP|((with_reducible apply fk)<;>intro hc<;>try exact aZ)|(refine Or.inr ?_;(conv=>whnf);refine⟨_,_,av (hfr) ?_,?_⟩;exact bD)|(apply bA;refine⟨_,aG (hre) ?_,?_⟩;exact bD)|(((with_reducible apply And.intro);focus (simp only[jF,fE,List.length_take,List.length_drop,jQ,jR];omega)))|(((with_reducible apply And.intro);focus (rw[List.length_map,bN (by omega) (by omega)];omega)))|(((with_reducible apply And.intro);focus (rw[eL,List.length_map];simp only[jQ,jR];omega)))|refine aN ?_|fail)
   all_goals
    refine⟨_,_,⟨rfl,rfl⟩,?_⟩;all_goals exact aM
 | false=>
   have e2':decide (((List.map Fr.c x.af).length:Int)>0)=false:=by rw[List.length_map];exact e2
   clear h6 e2 hc1;refine eO rW ?_;repeat' ((conv=>whnf);first|with_reducible apply aP|((with_reducible apply fk)<;>intro hc<;>try exact aZ)|(refine Or.inr ?_;(conv=>whnf);refine⟨_,_,av (hfr) ?_,?_⟩;exact bD)|(apply bA;refine⟨_,aG (hre) ?_,?_⟩;exact bD)|(((with_reducible apply And.intro);focus (simp only[jF,fE,List.length_take,List.length_drop,jQ,jR];omega)))|(((with_reducible apply And.intro);focus (rw[List.length_map,bN (by omega) (by omega)];omega)))|(((with_reducible apply And.intro);focus (rw[eL,List.length_map];simp only[jQ,jR];omega)))|refine aN ?_|fail)
   all_goals
    refine⟨_,_,⟨rfl,rfl⟩,?_⟩;all_goals exact aM
theorem Vd (h1:(dG x known).2=true)(hc1:((gJ x).first==x.n&&decide ((x.af.length:Int)>0))=true)(h6:x.af.length≤6) :
  dU prog 142 [.ptr 1 0,.pv (ax known)] [(1,.var (x.v (.pv (ax x.heard)) (.pv (ax x.none)) (.pv (ax x.has)) (.aO 2 0) (.aO 3 0) (.pv (.sc (.slice none 0 0))))),(2,.arr 48 0 2 (x.af.map Fr.c)),(3,.arr 27 0 2 (x.bad.map Pl.c))] (.pv (bl true))
   [(1,.var (({ x with bad:=[],af:=x.af.take (x.af.length-1)++[(⟨x.n,(dG x known).1.ah⟩:Fr)] }:Rv).v (.pv (ax x.heard)) (.pv (ax x.none)) (.pv (ax x.has)) (.sub 1001 0 2 0 x.af.length) (.pv (ax [])) (.pv (.sc (.slice none 0 0))))),(1001,.arr 48 0 2 ((x.af.take (x.af.length-1)++[(⟨x.n,(dG x known).1.ah⟩:Fr)]).map Fr.c)),(2,.dS 1 2 []),(3,.dS 0 2 (x.bad.map Pl.c))]:=by
 simp only[Bool.and_eq_true] at hc1;obtain⟨hc1,e2⟩:=hc1;have h0:0<x.af.length:=by simp only[iO] at e2;omega
 have eL:(IntKind.i64.wrap (((List.map Fr.c x.af).length:Int)-1)).toNat=x.af.length-1:=by rw[List.length_map,bN (by omega) (by omega)];omega
 have e6:(((jF (List.map Fr.c x.af) 0 (x.af.length-1)).length:Int)==6)=false:=by
  have:(jF (List.map Fr.c x.af) 0 (x.af.length-1)).length=x.af.length-1:=by simp only[jF,List.length_take,List.length_drop,fE];omega
  rw[this];simp;omega
 have e2':decide (((List.map Fr.c x.af).length:Int)>0)=true:=by rw[List.length_map];exact e2
 clear e2;have hfr:=rV x.af x.n (by omega) hf;have hre:dB prog 81 [.agg (gJ x).c,ii x.l.w,ii ((List.map Pl.c (gJ x).ah).length:Int),ax x.bad,ax known] (.cO [.agg (dG x known).1.c,bl (dG x known).2]):=by
  rw[List.length_map];exact vO _ _ _ _ _ (wL x known hk hf hfl J7) hk
 rw[h1] at hre;rw[show ((eD x.af x.n).getD kQ)=gJ x from rfl] at hfr;obtain⟨F,hF⟩:∃F,gJ x=F:=⟨_,rfl⟩;obtain⟨G,hG⟩:∃G,(dG x known).1=G:=⟨_,rfl⟩;obtain⟨ok,hok⟩:∃ok,(eD x.af x.n).isSome=ok:=⟨_,rfl⟩;rw[hF] at hfr hre hc1;rw[hG] at hre ⊢;rw[hok] at hfr;clear hF hG h1 hok J7 hf;refine nD 2 1777 rfl ?_;show GC _ _ [.ptr 1 0,.pv (ax known)] [(1777,.arr 48 0 2 (x.af.map Fr.c)),(1,.var (x.v (.pv (ax x.heard)) (.pv (ax x.none)) (.pv (ax x.has)) (.aO 1777 0) (.aO 3 0) (.pv (.sc (.slice none 0 0))))),(2,.dS 1 2 []),(3,.arr 27 0 2 (x.bad.map Pl.c))] _
 refine eO rW ?_;repeat' ((conv=>whnf);first|with_reducible apply aP|((with_reducible apply fk)<;>intro hc<;>try exact aZ)|(refine Or.inr ?_;(conv=>whnf);refine⟨_,_,av (hfr) ?_,?_⟩;exact bD)|(apply bA;refine⟨_,aG (hre) ?_,?_⟩;exact bD)|(((with_reducible apply And.intro);focus (simp only[jF,fE,List.length_take,List.length_drop,jQ,jR];omega)))|(((with_reducible apply And.intro);focus (rw[List.length_map,bN (by omega) (by omega)];omega)))|(((with_reducible apply And.intro);focus (rw[eL,List.length_map];simp only[jQ,jR];omega)))|refine aN ?_|fail)
 all_goals
  refine⟨_,_,⟨rfl,rfl⟩,?_⟩;repeat' first|apply And.intro|exact aM|fail
  all_goals try (conv=>whnf)
 ·rw[eL];show AV.sub 1777 0 2 0 (x.af.length-1+1)=AV.sub 1777 0 2 0 x.af.length
  rw[Nat.sub_add_cancel h0]
 refine fZ ?_;rw[eL,List.map_append,←List.map_take];rw[List.drop_eq_nil_of_le (by simp only[fE,jQ,jR];omega),List.append_nil];rfl
theorem Nk (h1:(dG x known).2=true)(hc1:((gJ x).first==x.n&&decide ((x.af.length:Int)>0))=true)(h6:x.af.length≤6) :
  dU prog 142 [.ptr 1 0,.pv (ax known)] [(1,.var (x.v (.pv (ax x.heard)) (.pv (ax x.none)) (.pv (ax x.has)) (.aO 2 0) (.aO 3 0) (.pv (.sc (.slice none 0 0))))),(2,.arr 48 0 2 (x.af.map Fr.c)),(3,.arr 27 0 2 (x.bad.map Pl.c))] (.pv (bl true))
   [(1,.var (({ x with bad:=[],af:=x.af.take (x.af.length-1)++[(⟨x.n,(dG x known).1.ah⟩:Fr)] }:Rv).v (.pv (ax x.heard)) (.pv (ax x.none)) (.pv (ax x.has)) (.aO 1001 0) (.pv (ax [])) (.pv (.sc (.slice none 0 0))))),(1001,.arr 48 0 2 ((x.af.take (x.af.length-1)++[(⟨x.n,(dG x known).1.ah⟩:Fr)]).map Fr.c)),(2,.dS 1 2 []),(3,.dS 0 2 (x.bad.map Pl.c))]:=by
 have h0:0<x.af.length:=by
  simp only[Bool.and_eq_true,iO] at hc1;omega
 have h:=YJ (Vd x known hk hf hfl J7 h1 hc1 h6) (by decide) (by
  (conv=>whnf)
  refine⟨fun _=>⟨rfl,?_⟩,?_⟩
  ·rw[List.length_map,List.length_append,List.length_take,List.length_singleton];omega
  trivial)
 exact h
end
end Go.Proofs.YtfoiekbkkbnpkaaGreat.Tb
end
