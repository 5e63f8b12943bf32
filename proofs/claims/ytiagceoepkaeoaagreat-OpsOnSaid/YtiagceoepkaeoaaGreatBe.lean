/-
  Contracts of functions of the program and of the document, each for every input that its premises name.
-/
import Derived.Test.YtiagceoepkaeoaaGreatBd
import Derived.Test.YtiagceoepkaeoaaGreatAf
set_option linter.unusedSectionVars false
set_option linter.unusedVariables false
set_option linter.unusedSimpArgs false
set_option maxRecDepth 100000
set_option maxHeartbeats 4000000
section
open Go Go.Proofs.Tryz Go.AX
namespace Go.Proofs.YtiagceoepkaeoaaGreat.Tb
def Iq (n x:Int):Bool:=IntKind.i64.wrap (BitVec.toNat (BitVec.ofInt IntKind.i64.bits n &&& BitVec.ofInt IntKind.i64.bits x)) != 0
theorem Rm:Mg prog 95 f95:=bZ func95
theorem iw:Mg prog 40 f40:=bZ func40
theorem abB (n x:Int):bE prog 95 ([]++([ii x]++[.bU [ii n] 0])) (bl (Iq n x)):=by
 refine PC.le ?_;refine bN Rm ?_;repeat' ((conv=>whnf);first|with_reducible apply aK|((with_reducible apply fk)<;>intro hc<;>try exact aM)|((with_reducible apply And.intro);exact aG)|fail)
 all_goals exact aL
theorem aH (n x:Int)(b:Bool)(h:Iq n x=b):bE prog 95 ([]++([ii x]++[.bU [ii n] 0])) (bl b):=by
 subst h;exact abB n x
theorem abC (o:aV):bE prog 40 [.agg o.c,ii 17] (.agg (fQ o (dZ 1)).c):=by
 refine PC.le ?_;have e:fQ o (dZ 1)={ who:=o.who,inc:=o.inc,n:=o.n,kind:=o.kind,channel:=o.channel,aY:=0,bA:=0,at_:=0,now:=o.now,sub:=0,w:=0,a:=0,aA:=[],seen:=[],from_:=Da,nD:=Da }:=rfl;rw[e];clear e;have b0:=aH 17 1 true (by decide);have b1:=aH 17 2 false (by decide);have b2:=aH 17 4 false (by decide);have b3:=aH 17 8 false (by decide);have b4:=aH 17 16 true (by decide);have b5:=aH 17 32 false (by decide);have b6:=aH 17 64 false (by decide);have b7:=aH 17 128 false (by decide);have b8:=aH 17 256 false (by decide);have b9:=aH 17 512 false (by decide);refine bN iw ?_;repeat' ((conv=>whnf);first|with_reducible apply aK|((with_reducible apply fk)<;>intro hc<;>try exact aM)|(apply aC;(conv=>whnf);refine⟨_,b0,?_⟩)|(apply aC;(conv=>whnf);refine⟨_,b1,?_⟩)|(apply aC;(conv=>whnf);refine⟨_,b2,?_⟩)|(apply aC;(conv=>whnf);refine⟨_,b3,?_⟩)|(apply aC;(conv=>whnf);refine⟨_,b4,?_⟩)|(apply aC;(conv=>whnf);refine⟨_,b5,?_⟩)|(apply aC;(conv=>whnf);refine⟨_,b6,?_⟩)|(apply aC;(conv=>whnf);refine⟨_,b7,?_⟩)|(apply aC;(conv=>whnf);refine⟨_,b8,?_⟩)|(apply aC;(conv=>whnf);refine⟨_,b9,?_⟩)|((with_reducible apply And.intro);exact aG)|fail)
 all_goals exact aL
theorem abD (o:aV):bE prog 40 [.agg o.c,ii 19] (.agg (fQ o (dZ 2)).c):=by
 refine PC.le ?_;have e:fQ o (dZ 2)={ who:=o.who,inc:=o.inc,n:=o.n,kind:=o.kind,channel:=o.channel,aY:=o.aY,bA:=0,at_:=0,now:=o.now,sub:=0,w:=0,a:=0,aA:=[],seen:=[],from_:=Da,nD:=Da }:=rfl;rw[e];clear e;have b0:=aH 19 1 true (by decide);have b1:=aH 19 2 true (by decide);have b2:=aH 19 4 false (by decide);have b3:=aH 19 8 false (by decide);have b4:=aH 19 16 true (by decide);have b5:=aH 19 32 false (by decide);have b6:=aH 19 64 false (by decide);have b7:=aH 19 128 false (by decide);have b8:=aH 19 256 false (by decide);have b9:=aH 19 512 false (by decide);refine bN iw ?_;repeat' ((conv=>whnf);first|with_reducible apply aK|((with_reducible apply fk)<;>intro hc<;>try exact aM)|(apply aC;(conv=>whnf);refine⟨_,b0,?_⟩)|(apply aC;(conv=>whnf);refine⟨_,b1,?_⟩)|(apply aC;(conv=>whnf);refine⟨_,b2,?_⟩)|(apply aC;(conv=>whnf);refine⟨_,b3,?_⟩)|(apply aC;(conv=>whnf);refine⟨_,b4,?_⟩)|(apply aC;(conv=>whnf);refine⟨_,b5,?_⟩)|(apply aC;(conv=>whnf);refine⟨_,b6,?_⟩)|(apply aC;(conv=>whnf);refine⟨_,b7,?_⟩)|(apply aC;(conv=>whnf);refine⟨_,b8,?_⟩)|(apply aC;(conv=>whnf);refine⟨_,b9,?_⟩)|((with_reducible apply And.intro);exact aG)|fail)
 all_goals exact aL
theorem abE (o:aV):bE prog 40 [.agg o.c,ii 3] (.agg (fQ o (dZ 3)).c):=by
 refine PC.le ?_;have e:fQ o (dZ 3)={ who:=o.who,inc:=o.inc,n:=o.n,kind:=o.kind,channel:=o.channel,aY:=o.aY,bA:=0,at_:=0,now:=0,sub:=0,w:=0,a:=0,aA:=[],seen:=[],from_:=Da,nD:=Da }:=rfl;rw[e];clear e;have b0:=aH 3 1 true (by decide);have b1:=aH 3 2 true (by decide);have b2:=aH 3 4 false (by decide);have b3:=aH 3 8 false (by decide);have b4:=aH 3 16 false (by decide);have b5:=aH 3 32 false (by decide);have b6:=aH 3 64 false (by decide);have b7:=aH 3 128 false (by decide);have b8:=aH 3 256 false (by decide);have b9:=aH 3 512 false (by decide);refine bN iw ?_;repeat' ((conv=>whnf);first|with_reducible apply aK|((with_reducible apply fk)<;>intro hc<;>try exact aM)|(apply aC;(conv=>whnf);refine⟨_,b0,?_⟩)|(apply aC;(conv=>whnf);refine⟨_,b1,?_⟩)|(apply aC;(conv=>whnf);refine⟨_,b2,?_⟩)|(apply aC;(conv=>whnf);refine⟨_,b3,?_⟩)|(apply aC;(conv=>whnf);refine⟨_,b4,?_⟩)|(apply aC;(conv=>whnf);refine⟨_,b5,?_⟩)|(apply aC;(conv=>whnf);refine⟨_,b6,?_⟩)|(apply aC;(conv=>whnf);refine⟨_,b7,?_⟩)|(apply aC;(conv=>whnf);refine⟨_,b8,?_⟩)|(apply aC;(conv=>whnf);refine⟨_,b9,?_⟩)|((with_reducible apply And.intro);exact aG)|fail)
 all_goals exact aL
theorem abF (o:aV):bE prog 40 [.agg o.c,ii 195] (.agg (fQ o (dZ 4)).c):=by
 refine PC.le ?_;have e:fQ o (dZ 4)={ who:=o.who,inc:=o.inc,n:=o.n,kind:=o.kind,channel:=o.channel,aY:=o.aY,bA:=0,at_:=0,now:=0,sub:=0,w:=o.w,a:=o.a,aA:=o.aA,seen:=[],from_:=Da,nD:=Da }:=rfl;rw[e];clear e;have b0:=aH 195 1 true (by decide);have b1:=aH 195 2 true (by decide);have b2:=aH 195 4 false (by decide);have b3:=aH 195 8 false (by decide);have b4:=aH 195 16 false (by decide);have b5:=aH 195 32 false (by decide);have b6:=aH 195 64 true (by decide);have b7:=aH 195 128 true (by decide);have b8:=aH 195 256 false (by decide);have b9:=aH 195 512 false (by decide);refine bN iw ?_;repeat' ((conv=>whnf);first|with_reducible apply aK|((with_reducible apply fk)<;>intro hc<;>try exact aM)|(apply aC;(conv=>whnf);refine⟨_,b0,?_⟩)|(apply aC;(conv=>whnf);refine⟨_,b1,?_⟩)|(apply aC;(conv=>whnf);refine⟨_,b2,?_⟩)|(apply aC;(conv=>whnf);refine⟨_,b3,?_⟩)|(apply aC;(conv=>whnf);refine⟨_,b4,?_⟩)|(apply aC;(conv=>whnf);refine⟨_,b5,?_⟩)|(apply aC;(conv=>whnf);refine⟨_,b6,?_⟩)|(apply aC;(conv=>whnf);refine⟨_,b7,?_⟩)|(apply aC;(conv=>whnf);refine⟨_,b8,?_⟩)|(apply aC;(conv=>whnf);refine⟨_,b9,?_⟩)|((with_reducible apply And.intro);exact aG)|fail)
 all_goals exact aL
theorem abG (o:aV):bE prog 40 [.agg o.c,ii 135] (.agg (fQ o (dZ 5)).c):=by
 refine PC.le ?_;have e:fQ o (dZ 5)={ who:=o.who,inc:=o.inc,n:=o.n,kind:=o.kind,channel:=o.channel,aY:=o.aY,bA:=o.bA,at_:=0,now:=0,sub:=0,w:=0,a:=0,aA:=o.aA,seen:=[],from_:=Da,nD:=Da }:=rfl;rw[e];clear e;have b0:=aH 135 1 true (by decide);have b1:=aH 135 2 true (by decide);have b2:=aH 135 4 true (by decide);have b3:=aH 135 8 false (by decide);have b4:=aH 135 16 false (by decide);have b5:=aH 135 32 false (by decide);have b6:=aH 135 64 false (by decide);have b7:=aH 135 128 true (by decide);have b8:=aH 135 256 false (by decide);have b9:=aH 135 512 false (by decide);refine bN iw ?_;repeat' ((conv=>whnf);first|with_reducible apply aK|((with_reducible apply fk)<;>intro hc<;>try exact aM)|(apply aC;(conv=>whnf);refine⟨_,b0,?_⟩)|(apply aC;(conv=>whnf);refine⟨_,b1,?_⟩)|(apply aC;(conv=>whnf);refine⟨_,b2,?_⟩)|(apply aC;(conv=>whnf);refine⟨_,b3,?_⟩)|(apply aC;(conv=>whnf);refine⟨_,b4,?_⟩)|(apply aC;(conv=>whnf);refine⟨_,b5,?_⟩)|(apply aC;(conv=>whnf);refine⟨_,b6,?_⟩)|(apply aC;(conv=>whnf);refine⟨_,b7,?_⟩)|(apply aC;(conv=>whnf);refine⟨_,b8,?_⟩)|(apply aC;(conv=>whnf);refine⟨_,b9,?_⟩)|((with_reducible apply And.intro);exact aG)|fail)
 all_goals exact aL
theorem abH (o:aV):bE prog 40 [.agg o.c,ii 143] (.agg (fQ o (dZ 6)).c):=by
 refine PC.le ?_;have e:fQ o (dZ 6)={ who:=o.who,inc:=o.inc,n:=o.n,kind:=o.kind,channel:=o.channel,aY:=o.aY,bA:=o.bA,at_:=o.at_,now:=0,sub:=0,w:=0,a:=0,aA:=o.aA,seen:=[],from_:=Da,nD:=Da }:=rfl;rw[e];clear e;have b0:=aH 143 1 true (by decide);have b1:=aH 143 2 true (by decide);have b2:=aH 143 4 true (by decide);have b3:=aH 143 8 true (by decide);have b4:=aH 143 16 false (by decide);have b5:=aH 143 32 false (by decide);have b6:=aH 143 64 false (by decide);have b7:=aH 143 128 true (by decide);have b8:=aH 143 256 false (by decide);have b9:=aH 143 512 false (by decide);refine bN iw ?_;repeat' ((conv=>whnf);first|with_reducible apply aK|((with_reducible apply fk)<;>intro hc<;>try exact aM)|(apply aC;(conv=>whnf);refine⟨_,b0,?_⟩)|(apply aC;(conv=>whnf);refine⟨_,b1,?_⟩)|(apply aC;(conv=>whnf);refine⟨_,b2,?_⟩)|(apply aC;(conv=>whnf);refine⟨_,b3,?_⟩)|(apply aC;(conv=>whnf);refine⟨_,b4,?_⟩)|(apply aC;(conv=>whnf);refine⟨_,b5,?_⟩)|(apply aC;(conv=>whnf);refine⟨_,b6,?_⟩)|(apply aC;(conv=>whnf);refine⟨_,b7,?_⟩)|(apply aC;(conv=>whnf);refine⟨_,b8,?_⟩)|(apply aC;(conv=>whnf);refine⟨_,b9,?_⟩)|((with_reducible apply And.intro);exact aG)|fail)
 all_goals exact aL
theorem abI (o:aV):bE prog 40 [.agg o.c,ii 11] (.agg (fQ o (dZ 7)).c):=by
 refine PC.le ?_;have e:fQ o (dZ 7)={ who:=o.who,inc:=o.inc,n:=o.n,kind:=o.kind,channel:=o.channel,aY:=o.aY,bA:=0,at_:=o.at_,now:=0,sub:=0,w:=0,a:=0,aA:=[],seen:=[],from_:=Da,nD:=Da }:=rfl;rw[e];clear e;have b0:=aH 11 1 true (by decide);have b1:=aH 11 2 true (by decide);have b2:=aH 11 4 false (by decide);have b3:=aH 11 8 true (by decide);have b4:=aH 11 16 false (by decide);have b5:=aH 11 32 false (by decide);have b6:=aH 11 64 false (by decide);have b7:=aH 11 128 false (by decide);have b8:=aH 11 256 false (by decide);have b9:=aH 11 512 false (by decide);refine bN iw ?_;repeat' ((conv=>whnf);first|with_reducible apply aK|((with_reducible apply fk)<;>intro hc<;>try exact aM)|(apply aC;(conv=>whnf);refine⟨_,b0,?_⟩)|(apply aC;(conv=>whnf);refine⟨_,b1,?_⟩)|(apply aC;(conv=>whnf);refine⟨_,b2,?_⟩)|(apply aC;(conv=>whnf);refine⟨_,b3,?_⟩)|(apply aC;(conv=>whnf);refine⟨_,b4,?_⟩)|(apply aC;(conv=>whnf);refine⟨_,b5,?_⟩)|(apply aC;(conv=>whnf);refine⟨_,b6,?_⟩)|(apply aC;(conv=>whnf);refine⟨_,b7,?_⟩)|(apply aC;(conv=>whnf);refine⟨_,b8,?_⟩)|(apply aC;(conv=>whnf);refine⟨_,b9,?_⟩)|((with_reducible apply And.intro);exact aG)|fail)
 all_goals exact aL
theorem abJ (o:aV):bE prog 40 [.agg o.c,ii 263] (.agg (fQ o (dZ 8)).c):=by
 refine PC.le ?_;have e:fQ o (dZ 8)={ who:=o.who,inc:=o.inc,n:=o.n,kind:=o.kind,channel:=o.channel,aY:=o.aY,bA:=o.bA,at_:=0,now:=0,sub:=0,w:=0,a:=0,aA:=[],seen:=o.seen,from_:=Da,nD:=Da }:=rfl;rw[e];clear e;have b0:=aH 263 1 true (by decide);have b1:=aH 263 2 true (by decide);have b2:=aH 263 4 true (by decide);have b3:=aH 263 8 false (by decide);have b4:=aH 263 16 false (by decide);have b5:=aH 263 32 false (by decide);have b6:=aH 263 64 false (by decide);have b7:=aH 263 128 false (by decide);have b8:=aH 263 256 true (by decide);have b9:=aH 263 512 false (by decide);refine bN iw ?_;repeat' ((conv=>whnf);first|with_reducible apply aK|((with_reducible apply fk)<;>intro hc<;>try exact aM)|(apply aC;(conv=>whnf);refine⟨_,b0,?_⟩)|(apply aC;(conv=>whnf);refine⟨_,b1,?_⟩)|(apply aC;(conv=>whnf);refine⟨_,b2,?_⟩)|(apply aC;(conv=>whnf);refine⟨_,b3,?_⟩)|(apply aC;(conv=>whnf);refine⟨_,b4,?_⟩)|(apply aC;(conv=>whnf);refine⟨_,b5,?_⟩)|(apply aC;(conv=>whnf);refine⟨_,b6,?_⟩)|(apply aC;(conv=>whnf);refine⟨_,b7,?_⟩)|(apply aC;(conv=>whnf);refine⟨_,b8,?_⟩)|(apply aC;(conv=>whnf);refine⟨_,b9,?_⟩)|((with_reducible apply And.intro);exact aG)|fail)
 all_goals exact aL
theorem abK (o:aV):bE prog 40 [.agg o.c,ii 43] (.agg (fQ o (dZ 9)).c):=by
 refine PC.le ?_;have e:fQ o (dZ 9)={ who:=o.who,inc:=o.inc,n:=o.n,kind:=o.kind,channel:=o.channel,aY:=o.aY,bA:=0,at_:=o.at_,now:=0,sub:=o.sub,w:=0,a:=0,aA:=[],seen:=[],from_:=Da,nD:=Da }:=rfl;rw[e];clear e;have b0:=aH 43 1 true (by decide);have b1:=aH 43 2 true (by decide);have b2:=aH 43 4 false (by decide);have b3:=aH 43 8 true (by decide);have b4:=aH 43 16 false (by decide);have b5:=aH 43 32 true (by decide);have b6:=aH 43 64 false (by decide);have b7:=aH 43 128 false (by decide);have b8:=aH 43 256 false (by decide);have b9:=aH 43 512 false (by decide);refine bN iw ?_;repeat' ((conv=>whnf);first|with_reducible apply aK|((with_reducible apply fk)<;>intro hc<;>try exact aM)|(apply aC;(conv=>whnf);refine⟨_,b0,?_⟩)|(apply aC;(conv=>whnf);refine⟨_,b1,?_⟩)|(apply aC;(conv=>whnf);refine⟨_,b2,?_⟩)|(apply aC;(conv=>whnf);refine⟨_,b3,?_⟩)|(apply aC;(conv=>whnf);refine⟨_,b4,?_⟩)|(apply aC;(conv=>whnf);refine⟨_,b5,?_⟩)|(apply aC;(conv=>whnf);refine⟨_,b6,?_⟩)|(apply aC;(conv=>whnf);refine⟨_,b7,?_⟩)|(apply aC;(conv=>whnf);refine⟨_,b8,?_⟩)|(apply aC;(conv=>whnf);refine⟨_,b9,?_⟩)|((with_reducible apply And.intro);exact aG)|fail)
 all_goals exact aL
theorem YW (o:aV):bE prog 40 [.agg o.c,ii 43] (.agg (fQ o (dZ 10)).c):=by
 refine PC.le ?_;have e:fQ o (dZ 10)={ who:=o.who,inc:=o.inc,n:=o.n,kind:=o.kind,channel:=o.channel,aY:=o.aY,bA:=0,at_:=o.at_,now:=0,sub:=o.sub,w:=0,a:=0,aA:=[],seen:=[],from_:=Da,nD:=Da }:=rfl;rw[e];clear e;have b0:=aH 43 1 true (by decide);have b1:=aH 43 2 true (by decide);have b2:=aH 43 4 false (by decide);have b3:=aH 43 8 true (by decide);have b4:=aH 43 16 false (by decide);have b5:=aH 43 32 true (by decide);have b6:=aH 43 64 false (by decide);have b7:=aH 43 128 false (by decide);have b8:=aH 43 256 false (by decide);have b9:=aH 43 512 false (by decide);refine bN iw ?_;repeat' ((conv=>whnf);first|with_reducible apply aK|((with_reducible apply fk)<;>intro hc<;>try exact aM)|(apply aC;(conv=>whnf);refine⟨_,b0,?_⟩)|(apply aC;(conv=>whnf);refine⟨_,b1,?_⟩)|(apply aC;(conv=>whnf);refine⟨_,b2,?_⟩)|(apply aC;(conv=>whnf);refine⟨_,b3,?_⟩)|(apply aC;(conv=>whnf);refine⟨_,b4,?_⟩)|(apply aC;(conv=>whnf);refine⟨_,b5,?_⟩)|(apply aC;(conv=>whnf);refine⟨_,b6,?_⟩)|(apply aC;(conv=>whnf);refine⟨_,b7,?_⟩)|(apply aC;(conv=>whnf);refine⟨_,b8,?_⟩)|(apply aC;(conv=>whnf);refine⟨_,b9,?_⟩)|((with_reducible apply And.intro);exact aG)|fail)
 all_goals exact aL
theorem YX (o:aV):bE prog 40 [.agg o.c,ii 35] (.agg (fQ o (dZ 11)).c):=by
 refine PC.le ?_;have e:fQ o (dZ 11)={ who:=o.who,inc:=o.inc,n:=o.n,kind:=o.kind,channel:=o.channel,aY:=o.aY,bA:=0,at_:=0,now:=0,sub:=o.sub,w:=0,a:=0,aA:=[],seen:=[],from_:=Da,nD:=Da }:=rfl;rw[e];clear e;have b0:=aH 35 1 true (by decide);have b1:=aH 35 2 true (by decide);have b2:=aH 35 4 false (by decide);have b3:=aH 35 8 false (by decide);have b4:=aH 35 16 false (by decide);have b5:=aH 35 32 true (by decide);have b6:=aH 35 64 false (by decide);have b7:=aH 35 128 false (by decide);have b8:=aH 35 256 false (by decide);have b9:=aH 35 512 false (by decide);refine bN iw ?_;repeat' ((conv=>whnf);first|with_reducible apply aK|((with_reducible apply fk)<;>intro hc<;>try exact aM)|(apply aC;(conv=>whnf);refine⟨_,b0,?_⟩)|(apply aC;(conv=>whnf);refine⟨_,b1,?_⟩)|(apply aC;(conv=>whnf);refine⟨_,b2,?_⟩)|(apply aC;(conv=>whnf);refine⟨_,b3,?_⟩)|(apply aC;(conv=>whnf);refine⟨_,b4,?_⟩)|(apply aC;(conv=>whnf);refine⟨_,b5,?_⟩)|(apply aC;(conv=>whnf);refine⟨_,b6,?_⟩)|(apply aC;(conv=>whnf);refine⟨_,b7,?_⟩)|(apply aC;(conv=>whnf);refine⟨_,b8,?_⟩)|(apply aC;(conv=>whnf);refine⟨_,b9,?_⟩)|((with_reducible apply And.intro);exact aG)|fail)
 all_goals exact aL
theorem YZ (o:aV):bE prog 40 [.agg o.c,ii 516] (.agg (fQ o (dZ 12)).c):=by
 refine PC.le ?_;have e:fQ o (dZ 12)={ who:=o.who,inc:=o.inc,n:=o.n,kind:=o.kind,channel:=0,aY:=0,bA:=o.bA,at_:=0,now:=0,sub:=0,w:=0,a:=0,aA:=[],seen:=[],from_:=o.from_,nD:=o.nD }:=rfl;rw[e];clear e;have b0:=aH 516 1 false (by decide);have b1:=aH 516 2 false (by decide);have b2:=aH 516 4 true (by decide);have b3:=aH 516 8 false (by decide);have b4:=aH 516 16 false (by decide);have b5:=aH 516 32 false (by decide);have b6:=aH 516 64 false (by decide);have b7:=aH 516 128 false (by decide);have b8:=aH 516 256 false (by decide);have b9:=aH 516 512 true (by decide);refine bN iw ?_;repeat' ((conv=>whnf);first|with_reducible apply aK|((with_reducible apply fk)<;>intro hc<;>try exact aM)|(apply aC;(conv=>whnf);refine⟨_,b0,?_⟩)|(apply aC;(conv=>whnf);refine⟨_,b1,?_⟩)|(apply aC;(conv=>whnf);refine⟨_,b2,?_⟩)|(apply aC;(conv=>whnf);refine⟨_,b3,?_⟩)|(apply aC;(conv=>whnf);refine⟨_,b4,?_⟩)|(apply aC;(conv=>whnf);refine⟨_,b5,?_⟩)|(apply aC;(conv=>whnf);refine⟨_,b6,?_⟩)|(apply aC;(conv=>whnf);refine⟨_,b7,?_⟩)|(apply aC;(conv=>whnf);refine⟨_,b8,?_⟩)|(apply aC;(conv=>whnf);refine⟨_,b9,?_⟩)|((with_reducible apply And.intro);exact aG)|fail)
 all_goals exact aL
def ajc:Tab:=pin tab
theorem Ci:bP prog ajc:=U2 Ox
def own (l:List (List PV)):List (Bool×List PV):=l.map fun r=>(true,r)
theorem Te (l:List (List PV)):(own l).map (·.2)=l:=by
 induction l with
 |nil=>rfl
 |cons x l ih=>simp only[own,List.map_cons] at ih ⊢;rw[ih]
theorem Oy {α:Type}(f:α→List PV)(l:List α)(k:Nat)(h:k<l.length):own ((l.take (k+1)).map f)=own ((l.take k).map f)++[(true,f l[k])]:=by
 unfold own;rw[List.take_succ_eq_append_getElem h,List.map_append,List.map_append];rfl
theorem La (f:Fr)(h:f.aI.length≤1000000):dR prog 102 ([]++([.pv (.agg f.c)]++[])) [] (.agg [.pv (uu f.first),.aF 1001 0]) [(1001,.arr 36 0 2 (f.aI.map Pl.c))]:=by
 refine jA yF ?_;repeat' ((conv=>whnf);first|with_reducible apply aK|((with_reducible apply fk)<;>intro hc<;>try exact aM)|(apply fq;(conv=>whnf);refine⟨_,_,AR _ (by omega),?_⟩)|((with_reducible apply And.intro);exact aG)|fail)
 refine⟨_,_,⟨rfl,rfl⟩,?_⟩;all_goals exact aL
theorem Vh (l:List Fr)(h:l.length≤1000000)(hb:∀x∈l,x.aI.length≤1000000):dR prog 101 [.pv (p8 l),.pv (.fn (.func 102) [] [])] [] (.aF 1001 0)
  [(1001,.fK 80 0 2 1 36 2 (own (l.map Fr.c)) [] [])]:=by
 refine zU Ci (Ab mixed Ci) FW rfl ?_;repeat' ((conv=>whnf);first|with_reducible apply aK|((with_reducible apply fk)<;>intro hc<;>try exact aM)|((with_reducible apply And.intro);exact aG)|fail)
 refine⟨{k:Nat // k≤l.length},fun⟨k,_⟩=>⟨[(1,.pv (.fn (.func 102) [] [])),(5,.aF 1001 0),(8,.pv (p8 l)),(9,.pv (ii l.length)),(10,.pv (ii k))],1000000000,[(1001,.fK 80 0 2 1 36 2 (own ((l.take k).map Fr.c)) [] [])]⟩,fun⟨k,_⟩=>l.length-k,⟨⟨0,by simp⟩,ak ?_⟩,?_⟩
 ·repeat' first
   |fail
   |with_reducible exact True.intro
   |with_reducible exact rfl
   |with_reducible exact ah _
   |((conv=>whnf);with_reducible apply And.intro)
   |((conv=>whnf);with_reducible exact True.intro)
   |exact rfl
   |exact fun h=>h
   |exact ah _
  all_goals try (conv=>whnf)
  all_goals simp[own]
 rintro⟨k,hk⟩
 by_cases hlt:k<l.length
 ·have d0:decide ((k:Int)<(l.length:Int))=true:=by simp only[kC];omega
  have eW:IntKind.i64.wrap ((k:Int)+1)=((k+1:Nat):Int):=by rw[aO (by omega) (by omega)];omega
  repeat' ((conv=>whnf);first|with_reducible apply aK|((with_reducible apply fk)<;>intro hc<;>try exact aM)|((refine⟨_,cu _ _ _ hlt,?_⟩))|(apply fq;(conv=>whnf);refine⟨_,_,La _ (hb _ (List.getElem_mem hlt)),?_⟩)|(((with_reducible apply And.intro);focus (simp only[List.length_map,List.length_cons,List.length_nil,List.length_take,own] at *;omega)))|((with_reducible apply And.intro);exact aG)|fail)
  refine⟨⟨k+1,hlt⟩,dec_lt hlt,?_⟩;refine gU (rr:=l[k].aI.map Pl.c) (vd:=0) 1001 _ (Fr.c l[k]) rfl ?_ rfl rfl ?_
  ·exact rfl
  refine ak ?_;repeat' first|((conv=>whnf);with_reducible apply And.intro)|exact aL|fail
  all_goals try (conv=>whnf)
  ·exact (Oy _ _ _ hlt).symm
  exact eW
 have hke:k=l.length:=by omega
 subst hke;have d0:decide ((l.length:Int)<(l.length:Int))=false:=by simp
 repeat' ((conv=>whnf);first|with_reducible apply aK|((with_reducible apply fk)<;>intro hc<;>try exact aM)|((with_reducible apply And.intro);exact aG)|fail)
 refine⟨_,_,⟨rfl,rfl⟩,?_⟩;repeat' first|((conv=>whnf);with_reducible apply And.intro)|exact aL|fail
 all_goals try (conv=>whnf)
 rw[List.take_length]
theorem Oz (l:Lg)(h:ZG l):dR prog 55 [.pv (.agg l.c)] [] (.agg [.pv (uu l.id),.pv (ii l.w),.pv (ii l.a),.aF 1001 0,.pv (ii l.closed),.pv (uu l.last)])
  [(1001,.fK 80 0 2 1 36 2 (own (l.aA.map Fr.c)) [] [])]:=by
 refine jA A8 ?_;repeat' ((conv=>whnf);first|with_reducible apply aK|((with_reducible apply fk)<;>intro hc<;>try exact aM)|(apply fq;(conv=>whnf);refine⟨_,_,Vh l.aA h.aA h.aI,?_⟩)|((with_reducible apply And.intro);exact aG)|fail)
 refine⟨_,_,⟨rfl,rfl⟩,?_⟩;all_goals exact aL
theorem agK {α:Type}(c:α→List PV)(A:List α)(x:α)(B:List α)(k:Nat)(h:k<A.length):((A++x::B).map c)[k]? = some (c A[k]):=by
 rw[List.map_append,List.getElem?_append_left (by simpa using h)];simp[h]
theorem agL {α:Type}(c:α→List PV)(A:List α)(x:α)(B:List α):((A++x::B).map c)[A.length]? = some (c x):=by
 simp
theorem agM {α:Type}(c:α→List PV)(A:List α)(x:α)(B:List α)(k:Nat)(h:k<B.length):((A++x::B).map c)[A.length+1+k]? = some (c B[k]):=by
 rw[List.map_append,List.getElem?_append_right (by simp;omega)];simp[show A.length+1+k-A.length=k+1 by omega,h]
def OA (c:Ch):List AV:=[.pv (uu c.aY),.pv (ii c.owner),.pv (uu c.inc),.pv (uu c.eB),.pv (uu c.first),.pv (uu c.trim),.aF 1002 0,.pv (qp c.seen),.aF 1003 0]
def Tf (l:Lg):List AV:=[.pv (uu l.id),.pv (ii l.w),.pv (ii l.a),.aF 1002 0,.pv (ii l.closed),.pv (uu l.last)]
theorem JJ:Mg prog 63 f63:=bZ func63
theorem YD (l:List Int)(h:l.length*8≤140737488355328):dR prog 63 [.pv (p9 l)] [] (.aF 1001 0) [(1001,.arr 23 0 1 (l.map dh))]:=by
 refine MV [] ?_ fun h0=>?_
 all_goals
  refine jA JJ ?_;repeat' ((conv=>whnf);first|with_reducible apply aK|((with_reducible apply fk)<;>intro hc<;>try exact aM)|((with_reducible apply And.intro);exact aG)|fail)
  refine⟨_,_,⟨rfl,rfl⟩,?_⟩;repeat' first|((conv=>whnf);with_reducible apply And.intro)|exact aL|fail
  all_goals try (conv=>whnf)
 exact h0
theorem Bb (l:List Int)(h:l.length*8≤140737488355328):bE prog 63 [p9 l] (p9 l):=by
 refine PC.le (Sn [] ?_ fun h0=>?_);all_goals
  refine bN JJ ?_;repeat' ((conv=>whnf);first|with_reducible apply aK|((with_reducible apply fk)<;>intro hc<;>try exact aM)|((with_reducible apply And.intro);exact aG)|fail)
  repeat' first|((conv=>whnf);with_reducible apply And.intro)|exact aL|fail
  all_goals try (conv=>whnf)
 exact h0
theorem wO:Mg prog 64 f64:=bZ func64
theorem Ik (l:List Cu)(h:l.length*16≤140737488355328):dR prog 64 [.pv (H8 l)] [] (.aF 1001 0) [(1001,.arr 127 0 2 (l.map Cu.c))]:=by
 refine MV [] ?_ fun h0=>?_
 all_goals
  refine jA wO ?_;repeat' ((conv=>whnf);first|with_reducible apply aK|((with_reducible apply fk)<;>intro hc<;>try exact aM)|((with_reducible apply And.intro);exact aG)|fail)
  refine⟨_,_,⟨rfl,rfl⟩,?_⟩;repeat' first|((conv=>whnf);with_reducible apply And.intro)|exact aL|fail
  all_goals try (conv=>whnf)
 exact h0
theorem Il (l:List Cu)(h:l.length*16≤140737488355328):bE prog 64 [H8 l] (H8 l):=by
 refine PC.le (Sn [] ?_ fun h0=>?_);all_goals
  refine bN wO ?_;repeat' ((conv=>whnf);first|with_reducible apply aK|((with_reducible apply fk)<;>intro hc<;>try exact aM)|((with_reducible apply And.intro);exact aG)|fail)
  repeat' first|((conv=>whnf);with_reducible apply And.intro)|exact aL|fail
  all_goals try (conv=>whnf)
 exact h0
theorem Lb:Mg prog 66 f66:=bZ func66
theorem qI (l:List Pa)(h:l.length*64≤140737488355328):dR prog 66 [.pv (uR l)] [] (.aF 1001 0) [(1001,.arr 68 0 8 (l.map Pa.c))]:=by
 refine MV [] ?_ fun h0=>?_
 all_goals
  refine jA Lb ?_;repeat' ((conv=>whnf);first|with_reducible apply aK|((with_reducible apply fk)<;>intro hc<;>try exact aM)|((with_reducible apply And.intro);exact aG)|fail)
  refine⟨_,_,⟨rfl,rfl⟩,?_⟩;repeat' first|((conv=>whnf);with_reducible apply And.intro)|exact aL|fail
  all_goals try (conv=>whnf)
 exact h0
theorem JK:Mg prog 62 f62:=bZ func62
theorem Gf (c:Ch)(h:ChB c):bE prog 62 ([]++([.agg c.c]++[])) (.agg c.c):=by
 have h1:=h.af;have h2:=h.seen;have h3:=h.au;refine PC.le ?_;refine bN JK ?_;repeat' ((conv=>whnf);first|with_reducible apply aK|((with_reducible apply fk)<;>intro hc<;>try exact aM)|(apply aC;(conv=>whnf);refine⟨_,Bb _ (by omega),?_⟩)|(apply aC;(conv=>whnf);refine⟨_,wM _ (by omega),?_⟩)|(apply aC;(conv=>whnf);refine⟨_,Il _ (by omega),?_⟩)|((with_reducible apply And.intro);exact aG)|fail)
 all_goals exact aL
theorem YE (c:Ch)(h:ChB c):dR prog 62 ([]++([.pv (.agg c.c)]++[])) [] (.agg [.pv (uu c.aY),.pv (ii c.owner),.pv (uu c.inc),.pv (uu c.eB),.pv (uu c.first),.pv (uu c.trim),.aF 1001 0,.pv (qp c.seen),.aF 1002 0])
  [(1001,.arr 23 0 1 (c.af.map dh)),(1002,.arr 127 0 2 (c.au.map Cu.c))]:=by
 have h1:=h.af;have h2:=h.seen;have h3:=h.au;refine jA JK ?_;repeat' ((conv=>whnf);first|with_reducible apply aK|((with_reducible apply fk)<;>intro hc<;>try exact aM)|(apply fq;(conv=>whnf);refine⟨_,_,YD _ (by omega),?_⟩)|(apply aC;(conv=>whnf);refine⟨_,wM _ (by omega),?_⟩)|(apply fq;(conv=>whnf);refine⟨_,_,Ik _ (by omega),?_⟩)|((with_reducible apply And.intro);exact aG)|fail)
 refine⟨_,_,⟨rfl,rfl⟩,?_⟩;all_goals exact aL
theorem Gg:Mg prog 65 f65:=bZ func65
theorem Gh:Mg prog 61 f61:=bZ func61
theorem Cj (l:List Lg)(h:l.length≤1000000)(hb:∀x∈l,ZG x):dR prog 65 [.pv (dN l),.pv (.fn (.func 55) [] [])] [] (.aF 1001 0) [(1001,.arr 50 0 6 (l.map Lg.c))]:=by
 refine jA Gg ?_;repeat' ((conv=>whnf);first|with_reducible apply aK|((with_reducible apply fk)<;>intro hc<;>try exact aM)|((with_reducible apply And.intro);exact aG)|fail)
 refine⟨{k:Nat // k≤l.length},fun⟨k,_⟩=>⟨[(1,.pv (.fn (.func 55) [] [])),(5,.aF 1001 0),(8,.pv (dN l)),(9,.pv (ii l.length)),(10,.pv (ii k))],1000000000,[(1001,.arr 50 0 6 ((l.take k).map Lg.c))]⟩,fun⟨k,_⟩=>l.length-k,⟨⟨0,by simp⟩,ak ?_⟩,?_⟩
 ·repeat' first
   |fail
   |with_reducible exact True.intro
   |with_reducible exact rfl
   |with_reducible exact ah _
   |((conv=>whnf);with_reducible apply And.intro)
   |((conv=>whnf);with_reducible exact True.intro)
   |exact rfl
   |exact fun h=>h
   |exact ah _
  all_goals try (conv=>whnf)
  all_goals simp
 rintro⟨k,hk⟩
 by_cases hlt:k<l.length
 ·have d0:decide ((k:Int)<(l.length:Int))=true:=by simp only[kC];omega
  have eW:IntKind.i64.wrap ((k:Int)+1)=((k+1:Nat):Int):=by rw[aO (by omega) (by omega)];omega
  repeat' ((conv=>whnf);first|with_reducible apply aK|((with_reducible apply fk)<;>intro hc<;>try exact aM)|((refine⟨_,cu _ _ _ hlt,?_⟩))|(apply aC;(conv=>whnf);refine⟨_,qG _ (hb _ (List.getElem_mem hlt)),?_⟩)|(((with_reducible apply And.intro);focus (simp only[List.length_map,List.length_cons,List.length_nil,List.length_take,List.length_append] at *;omega)))|((with_reducible apply And.intro);exact aG)|fail)
  refine⟨⟨k+1,hlt⟩,dec_lt hlt,ak ?_⟩;repeat' first|((conv=>whnf);with_reducible apply And.intro)|exact aL|fail
  all_goals try (conv=>whnf)
  all_goals first
   |exact eW
   | (rw[List.take_succ_eq_append_getElem hlt,List.map_append]
      refine nJ (ah _) ?_
      (repeat' first|((conv=>whnf);with_reducible apply And.intro)|exact aL|fail);(all_goals try (conv=>whnf)))
 have hke:k=l.length:=by omega
 subst hke;have d0:decide ((l.length:Int)<(l.length:Int))=false:=by simp
 repeat' ((conv=>whnf);first|with_reducible apply aK|((with_reducible apply fk)<;>intro hc<;>try exact aM)|((with_reducible apply And.intro);exact aG)|fail)
 refine⟨_,_,⟨rfl,rfl⟩,?_⟩;repeat' first|((conv=>whnf);with_reducible apply And.intro)|exact aL|fail
 all_goals try (conv=>whnf)
 all_goals (rw[List.take_length];exact ah _)
theorem Vi (A:List Lg)(x:Lg)(B:List Lg)(h:A.length+(1+B.length)≤1000000)(hA:∀y∈A,ZG y)(hx:ZG x)(hB:∀y∈B,ZG y):dR prog 65 [.pv (dN (A++x::B)),.pv (.fn (.func 55) [] [])] [] (.aF 1001 0)
  [(1001,.dM 50 0 6 (A.map Lg.c) (Tf x) (B.map Lg.c)),(1002,.fK 80 0 2 1 36 2 (own (x.aA.map Fr.c)) [] [])]:=by
 have hn:(A++x::B).length=A.length+(1+B.length):=by simp[Nat.add_comm]
 have hm:(((A++x::B).map Lg.c).length:Int)=((A.length+(1+B.length):Nat):Int):=by rw[List.length_map,hn]
 refine zU Ci (Ab mixed Ci) Gg rfl ?_;repeat' ((conv=>whnf);first|with_reducible apply aK|((with_reducible apply fk)<;>intro hc<;>try exact aM)|((with_reducible apply And.intro);exact aG)|fail)
 refine⟨{k:Nat // k≤A.length} ⊕ {k:Nat // k≤B.length},fun i=>match i with
   |.inl ⟨k,_⟩=>⟨[(1,.pv (.fn (.func 55) [] [])),(5,.aF 1001 0),(8,.pv (dN (A++x::B))),(9,.pv (ii ((A.length+(1+B.length):Nat)))),(10,.pv (ii k))],1000000000,[(1001,.arr 50 0 6 ((A.take k).map Lg.c))]⟩
   |.inr ⟨k,_⟩=>⟨[(1,.pv (.fn (.func 55) [] [])),(5,.aF 1001 0),(8,.pv (dN (A++x::B))),(9,.pv (ii ((A.length+(1+B.length):Nat)))),(10,.pv (ii ((A.length+1+k:Nat))))],1000000000,[(1001,.dM 50 0 6 (A.map Lg.c) (Tf x) ((B.take k).map Lg.c)),(1002,.fK 80 0 2 1 36 2 (own (x.aA.map Fr.c)) [] [])]⟩,
  fun i=>match i with
   |.inl ⟨k,_⟩=>A.length+(1+B.length)-k
   |.inr ⟨k,_⟩=>B.length-k,⟨.inl ⟨0,by simp⟩,ak ?_⟩,?_⟩
 ·repeat' first
   |fail
   |with_reducible exact True.intro
   |with_reducible exact rfl
   |with_reducible exact ah _
   |((conv=>whnf);with_reducible apply And.intro)
   |((conv=>whnf);with_reducible exact True.intro)
   |exact rfl
   |exact fun h=>h
   |exact ah _
  all_goals try (conv=>whnf)
  all_goals first
   |exact hm
   |simp
 rintro (⟨k,hk⟩|⟨k,hk⟩)
 ·by_cases hlt:k<A.length
  ·have d0:decide ((k:Int)<((A.length+(1+B.length):Nat):Int))=true:=by simp only[kC];omega
   have eW:IntKind.i64.wrap ((k:Int)+1)=((k+1:Nat):Int):=by rw[aO (by omega) (by omega)];omega
   have hr:=agK Lg.c A x B k hlt;repeat' ((conv=>whnf);first|with_reducible apply aK|((with_reducible apply fk)<;>intro hc<;>try exact aM)|((refine⟨_,hr,?_⟩))|(apply aC;(conv=>whnf);refine⟨_,qG _ (hA _ (List.getElem_mem hlt)),?_⟩)|(((with_reducible apply And.intro);focus (simp only[List.length_map,List.length_cons,List.length_nil,List.length_take,List.length_append] at *;omega)))|((with_reducible apply And.intro);exact aG)|fail)
   refine⟨.inl ⟨k+1,hlt⟩,by simp only;omega,ak ?_⟩;repeat' first|((conv=>whnf);with_reducible apply And.intro)|exact aL|fail
   all_goals try (conv=>whnf)
   all_goals first
    |exact eW
    | (rw[List.take_succ_eq_append_getElem hlt,List.map_append]
       refine nJ (ah _) ?_
       (repeat' first|((conv=>whnf);with_reducible apply And.intro)|exact aL|fail);(all_goals try (conv=>whnf)))
  have hke:k=A.length:=by omega
  subst hke;have d0:decide ((A.length:Int)<((A.length+(1+B.length):Nat):Int))=true:=by simp only[kC];omega
  have eW:IntKind.i64.wrap ((A.length:Int)+1)=((A.length+1+0:Nat):Int):=by rw[aO (by omega) (by omega)];omega
  have hr:=agL Lg.c A x B;repeat' ((conv=>whnf);first|with_reducible apply aK|((with_reducible apply fk)<;>intro hc<;>try exact aM)|((refine⟨_,hr,?_⟩))|(apply fq;(conv=>whnf);refine⟨_,_,Oz _ hx,?_⟩)|(((with_reducible apply And.intro);focus (simp only[List.length_map,List.length_cons,List.length_nil,List.length_take,List.length_append] at *;omega)))|((with_reducible apply And.intro);exact aG)|fail)
  refine⟨.inr ⟨0,by omega⟩,by simp only;omega,ak ?_⟩;repeat' first|((conv=>whnf);with_reducible apply And.intro)|exact aL|fail
  all_goals try (conv=>whnf)
  all_goals first
   |exact eW
   |(rw[List.take_length];exact ah _)
   |simp
 by_cases hlt:k<B.length
 ·have d0:decide (((A.length+1+k:Nat):Int)<((A.length+(1+B.length):Nat):Int))=true:=by simp only[kC];omega
  have eW:IntKind.i64.wrap (((A.length+1+k:Nat):Int)+1)=((A.length+1+(k+1):Nat):Int):=by rw[aO (by omega) (by omega)];omega
  have hr:=agM Lg.c A x B k hlt;repeat' ((conv=>whnf);first|with_reducible apply aK|((with_reducible apply fk)<;>intro hc<;>try exact aM)|((refine⟨_,hr,?_⟩))|(apply aC;(conv=>whnf);refine⟨_,qG _ (hB _ (List.getElem_mem hlt)),?_⟩)|(((with_reducible apply And.intro);focus (simp only[List.length_map,List.length_cons,List.length_nil,List.length_take,List.length_append] at *;omega)))|((with_reducible apply And.intro);exact aG)|fail)
  refine⟨.inr ⟨k+1,hlt⟩,by simp only;omega,ak ?_⟩;repeat' first|((conv=>whnf);with_reducible apply And.intro)|exact aL|fail
  all_goals try (conv=>whnf)
  all_goals first
   |exact eW
   | (rw[List.take_succ_eq_append_getElem hlt,List.map_append]
      refine nJ (ah _) ?_
      (repeat' first|((conv=>whnf);with_reducible apply And.intro)|exact aL|fail);(all_goals try (conv=>whnf)))
 have hke:k=B.length:=by omega
 subst hke;have d0:decide (((A.length+1+B.length:Nat):Int)<((A.length+(1+B.length):Nat):Int))=false:=by simp only[tq];omega
 repeat' ((conv=>whnf);first|with_reducible apply aK|((with_reducible apply fk)<;>intro hc<;>try exact aM)|((with_reducible apply And.intro);exact aG)|fail)
 refine⟨_,_,⟨rfl,rfl⟩,?_⟩;repeat' first|((conv=>whnf);with_reducible apply And.intro)|exact aL|fail
 all_goals try (conv=>whnf)
 all_goals (rw[List.take_length];exact ah _)
theorem Ck (l:List Ch)(h:l.length≤1000000)(hb:∀x∈l,ChB x):dR prog 61 [.pv (jL l),.pv (.fn (.func 62) [] [])] [] (.aF 1001 0) [(1001,.arr 47 0 9 (l.map Ch.c))]:=by
 refine jA Gh ?_;repeat' ((conv=>whnf);first|with_reducible apply aK|((with_reducible apply fk)<;>intro hc<;>try exact aM)|((with_reducible apply And.intro);exact aG)|fail)
 refine⟨{k:Nat // k≤l.length},fun⟨k,_⟩=>⟨[(1,.pv (.fn (.func 62) [] [])),(5,.aF 1001 0),(8,.pv (jL l)),(9,.pv (ii l.length)),(10,.pv (ii k))],1000000000,[(1001,.arr 47 0 9 ((l.take k).map Ch.c))]⟩,fun⟨k,_⟩=>l.length-k,⟨⟨0,by simp⟩,ak ?_⟩,?_⟩
 ·repeat' first
   |fail
   |with_reducible exact True.intro
   |with_reducible exact rfl
   |with_reducible exact ah _
   |((conv=>whnf);with_reducible apply And.intro)
   |((conv=>whnf);with_reducible exact True.intro)
   |exact rfl
   |exact fun h=>h
   |exact ah _
  all_goals try (conv=>whnf)
  all_goals simp
 rintro⟨k,hk⟩
 by_cases hlt:k<l.length
 ·have d0:decide ((k:Int)<(l.length:Int))=true:=by simp only[kC];omega
  have eW:IntKind.i64.wrap ((k:Int)+1)=((k+1:Nat):Int):=by rw[aO (by omega) (by omega)];omega
  repeat' ((conv=>whnf);first|with_reducible apply aK|((with_reducible apply fk)<;>intro hc<;>try exact aM)|((refine⟨_,cu _ _ _ hlt,?_⟩))|(apply aC;(conv=>whnf);refine⟨_,Gf _ (hb _ (List.getElem_mem hlt)),?_⟩)|(((with_reducible apply And.intro);focus (simp only[List.length_map,List.length_cons,List.length_nil,List.length_take,List.length_append] at *;omega)))|((with_reducible apply And.intro);exact aG)|fail)
  refine⟨⟨k+1,hlt⟩,dec_lt hlt,ak ?_⟩;repeat' first|((conv=>whnf);with_reducible apply And.intro)|exact aL|fail
  all_goals try (conv=>whnf)
  all_goals first
   |exact eW
   | (rw[List.take_succ_eq_append_getElem hlt,List.map_append]
      refine nJ (ah _) ?_
      (repeat' first|((conv=>whnf);with_reducible apply And.intro)|exact aL|fail);(all_goals try (conv=>whnf)))
 have hke:k=l.length:=by omega
 subst hke;have d0:decide ((l.length:Int)<(l.length:Int))=false:=by simp
 repeat' ((conv=>whnf);first|with_reducible apply aK|((with_reducible apply fk)<;>intro hc<;>try exact aM)|((with_reducible apply And.intro);exact aG)|fail)
 refine⟨_,_,⟨rfl,rfl⟩,?_⟩;repeat' first|((conv=>whnf);with_reducible apply And.intro)|exact aL|fail
 all_goals try (conv=>whnf)
 all_goals (rw[List.take_length];exact ah _)
theorem Vj (A:List Ch)(x:Ch)(B:List Ch)(h:A.length+(1+B.length)≤1000000)(hA:∀y∈A,ChB y)(hx:ChB x)(hB:∀y∈B,ChB y):dR prog 61 [.pv (jL (A++x::B)),.pv (.fn (.func 62) [] [])] [] (.aF 1001 0)
  [(1001,.dM 47 0 9 (A.map Ch.c) (OA x) (B.map Ch.c)),(1002,.arr 23 0 1 (x.af.map dh)),(1003,.arr 127 0 2 (x.au.map Cu.c))]:=by
 have hn:(A++x::B).length=A.length+(1+B.length):=by simp[Nat.add_comm]
 have hm:(((A++x::B).map Ch.c).length:Int)=((A.length+(1+B.length):Nat):Int):=by rw[List.length_map,hn]
 refine zU Ci (Ab mixed Ci) Gh rfl ?_;repeat' ((conv=>whnf);first|with_reducible apply aK|((with_reducible apply fk)<;>intro hc<;>try exact aM)|((with_reducible apply And.intro);exact aG)|fail)
 refine⟨{k:Nat // k≤A.length} ⊕ {k:Nat // k≤B.length},fun i=>match i with
   |.inl ⟨k,_⟩=>⟨[(1,.pv (.fn (.func 62) [] [])),(5,.aF 1001 0),(8,.pv (jL (A++x::B))),(9,.pv (ii ((A.length+(1+B.length):Nat)))),(10,.pv (ii k))],1000000000,[(1001,.arr 47 0 9 ((A.take k).map Ch.c))]⟩
   |.inr ⟨k,_⟩=>⟨[(1,.pv (.fn (.func 62) [] [])),(5,.aF 1001 0),(8,.pv (jL (A++x::B))),(9,.pv (ii ((A.length+(1+B.length):Nat)))),(10,.pv (ii ((A.length+1+k:Nat))))],1000000000,[(1001,.dM 47 0 9 (A.map Ch.c) (OA x) ((B.take k).map Ch.c)),(1002,.arr 23 0 1 (x.af.map dh)),(1003,.arr 127 0 2 (x.au.map Cu.c))]⟩,
  fun i=>match i with
   |.inl ⟨k,_⟩=>A.length+(1+B.length)-k
   |.inr ⟨k,_⟩=>B.length-k,⟨.inl ⟨0,by simp⟩,ak ?_⟩,?_⟩
 ·repeat' first
   |fail
   |with_reducible exact True.intro
   |with_reducible exact rfl
   |with_reducible exact ah _
   |((conv=>whnf);with_reducible apply And.intro)
   |((conv=>whnf);with_reducible exact True.intro)
   |exact rfl
   |exact fun h=>h
   |exact ah _
  all_goals try (conv=>whnf)
  all_goals first
   |exact hm
   |simp
 rintro (⟨k,hk⟩|⟨k,hk⟩)
 ·by_cases hlt:k<A.length
  ·have d0:decide ((k:Int)<((A.length+(1+B.length):Nat):Int))=true:=by simp only[kC];omega
   have eW:IntKind.i64.wrap ((k:Int)+1)=((k+1:Nat):Int):=by rw[aO (by omega) (by omega)];omega
   have hr:=agK Ch.c A x B k hlt;repeat' ((conv=>whnf);first|with_reducible apply aK|((with_reducible apply fk)<;>intro hc<;>try exact aM)|((refine⟨_,hr,?_⟩))|(apply aC;(conv=>whnf);refine⟨_,Gf _ (hA _ (List.getElem_mem hlt)),?_⟩)|(((with_reducible apply And.intro);focus (simp only[List.length_map,List.length_cons,List.length_nil,List.length_take,List.length_append] at *;omega)))|((with_reducible apply And.intro);exact aG)|fail)
   refine⟨.inl ⟨k+1,hlt⟩,by simp only;omega,ak ?_⟩;repeat' first|((conv=>whnf);with_reducible apply And.intro)|exact aL|fail
   all_goals try (conv=>whnf)
   all_goals first
    |exact eW
    | (rw[List.take_succ_eq_append_getElem hlt,List.map_append]
       refine nJ (ah _) ?_
       (repeat' first|((conv=>whnf);with_reducible apply And.intro)|exact aL|fail);(all_goals try (conv=>whnf)))
  have hke:k=A.length:=by omega
  subst hke;have d0:decide ((A.length:Int)<((A.length+(1+B.length):Nat):Int))=true:=by simp only[kC];omega
  have eW:IntKind.i64.wrap ((A.length:Int)+1)=((A.length+1+0:Nat):Int):=by rw[aO (by omega) (by omega)];omega
  have hr:=agL Ch.c A x B;repeat' ((conv=>whnf);first|with_reducible apply aK|((with_reducible apply fk)<;>intro hc<;>try exact aM)|((refine⟨_,hr,?_⟩))|(apply fq;(conv=>whnf);refine⟨_,_,YE _ hx,?_⟩)|(((with_reducible apply And.intro);focus (simp only[List.length_map,List.length_cons,List.length_nil,List.length_take,List.length_append] at *;omega)))|((with_reducible apply And.intro);exact aG)|fail)
  refine⟨.inr ⟨0,by omega⟩,by simp only;omega,ak ?_⟩;repeat' first|((conv=>whnf);with_reducible apply And.intro)|exact aL|fail
  all_goals try (conv=>whnf)
  all_goals first
   |exact eW
   |(rw[List.take_length];exact ah _)
   |simp
 by_cases hlt:k<B.length
 ·have d0:decide (((A.length+1+k:Nat):Int)<((A.length+(1+B.length):Nat):Int))=true:=by simp only[kC];omega
  have eW:IntKind.i64.wrap (((A.length+1+k:Nat):Int)+1)=((A.length+1+(k+1):Nat):Int):=by rw[aO (by omega) (by omega)];omega
  have hr:=agM Ch.c A x B k hlt;repeat' ((conv=>whnf);first|with_reducible apply aK|((with_reducible apply fk)<;>intro hc<;>try exact aM)|((refine⟨_,hr,?_⟩))|(apply aC;(conv=>whnf);refine⟨_,Gf _ (hB _ (List.getElem_mem hlt)),?_⟩)|(((with_reducible apply And.intro);focus (simp only[List.length_map,List.length_cons,List.length_nil,List.length_take,List.length_append] at *;omega)))|((with_reducible apply And.intro);exact aG)|fail)
  refine⟨.inr ⟨k+1,hlt⟩,by simp only;omega,ak ?_⟩;repeat' first|((conv=>whnf);with_reducible apply And.intro)|exact aL|fail
  all_goals try (conv=>whnf)
  all_goals first
   |exact eW
   | (rw[List.take_succ_eq_append_getElem hlt,List.map_append]
      refine nJ (ah _) ?_
      (repeat' first|((conv=>whnf);with_reducible apply And.intro)|exact aL|fail);(all_goals try (conv=>whnf)))
 have hke:k=B.length:=by omega
 subst hke;have d0:decide (((A.length+1+B.length:Nat):Int)<((A.length+(1+B.length):Nat):Int))=false:=by simp only[tq];omega
 repeat' ((conv=>whnf);first|with_reducible apply aK|((with_reducible apply fk)<;>intro hc<;>try exact aM)|((with_reducible apply And.intro);exact aG)|fail)
 refine⟨_,_,⟨rfl,rfl⟩,?_⟩;repeat' first|((conv=>whnf);with_reducible apply And.intro)|exact aL|fail
 all_goals try (conv=>whnf)
 all_goals (rw[List.take_length];exact ah _)
theorem Bc:Mg prog 30 f30:=bZ func30
theorem Lc (p:Pn)(h:tK p):dR prog 30 [.pv (.agg p.c)] [] (.agg [.pv (uu p.version),.pv (uu p.next),.aF 1001 0,.aF 1002 0,.aF 1003 0])
  [(1001,.arr 47 0 9 (p.channels.map Ch.c)),(1002,.arr 50 0 6 (p.af.map Lg.c)),(1003,.arr 68 0 8 (p.past.map Pa.c))]:=by
 have h1:=h.past;refine jA Bc ?_;repeat' ((conv=>whnf);first|with_reducible apply aK|((with_reducible apply fk)<;>intro hc<;>try exact aM)|(apply fq;(conv=>whnf);refine⟨_,_,Ck _ h.channels h.ch,?_⟩)|(apply fq;(conv=>whnf);refine⟨_,_,Cj _ h.af h.lg,?_⟩)|(apply fq;(conv=>whnf);refine⟨_,_,qI _ (by omega),?_⟩)|((with_reducible apply And.intro);exact aG)|fail)
 refine⟨_,_,⟨rfl,rfl⟩,?_⟩;all_goals exact aL
theorem Eg (p:Pn)(h:tK p):bE prog 30 [.agg p.c] (.agg p.c):=by
 have h1:=h.past;refine PC.le ?_;refine bN Bc ?_;repeat' ((conv=>whnf);first|with_reducible apply aK|((with_reducible apply fk)<;>intro hc<;>try exact aM)|(apply fq;(conv=>whnf);refine⟨_,_,Ck _ h.channels h.ch,?_⟩)|(apply fq;(conv=>whnf);refine⟨_,_,Cj _ h.af h.lg,?_⟩)|(apply fq;(conv=>whnf);refine⟨_,_,qI _ (by omega),?_⟩)|((with_reducible apply And.intro);exact aG)|fail)
 all_goals exact aL
theorem OB (p:Pn)(A:List Ch)(c:Ch)(B:List Ch)(hp:p.channels=A++c::B)(h:tK p):dR prog 30 [.pv (.agg p.c)] [] (.agg [.pv (uu p.version),.pv (uu p.next),.aF 1001 0,.aF 1004 0,.aF 1005 0])
  [(1001,.dM 47 0 9 (A.map Ch.c) (OA c) (B.map Ch.c)),(1002,.arr 23 0 1 (c.af.map dh)),(1003,.arr 127 0 2 (c.au.map Cu.c)),
   (1004,.arr 50 0 6 (p.af.map Lg.c)),(1005,.arr 68 0 8 (p.past.map Pa.c))]:=by
 have h1:=h.past;have hn:=h.channels;have hch:=h.ch;rw[hp] at hn hch;have hL:=h.af;have YF:=h.lg;have cC:=Vj A c B (by simpa[Nat.add_comm] using hn) (fun y hy=>hch y (by simp[hy])) (hch c (by simp)) (fun y hy=>hch y (by simp[hy]));rw[←hp] at cC;clear hp hn hch h;refine jA Bc ?_;repeat' ((conv=>whnf);first|with_reducible apply aK|((with_reducible apply fk)<;>intro hc<;>try exact aM)|(apply fq;(conv=>whnf);refine⟨_,_,cC,?_⟩)|(apply fq;(conv=>whnf);refine⟨_,_,Cj _ hL YF,?_⟩)|(apply fq;(conv=>whnf);refine⟨_,_,qI _ (by omega),?_⟩)|((with_reducible apply And.intro);exact aG)|fail)
 refine⟨_,_,⟨rfl,rfl⟩,?_⟩;all_goals exact aL
theorem YG (p:Pn)(A:List Lg)(x:Lg)(B:List Lg)(hp:p.af=A++x::B)(h:tK p):dR prog 30 [.pv (.agg p.c)] [] (.agg [.pv (uu p.version),.pv (uu p.next),.aF 1003 0,.aF 1001 0,.aF 1004 0])
  [(1001,.dM 50 0 6 (A.map Lg.c) (Tf x) (B.map Lg.c)),(1002,.fK 80 0 2 1 36 2 (own (x.aA.map Fr.c)) [] []),
   (1003,.arr 47 0 9 (p.channels.map Ch.c)),(1004,.arr 68 0 8 (p.past.map Pa.c))]:=by
 have h1:=h.past;have hn:=h.af;have YF:=h.lg;rw[hp] at hn YF;have hC:=h.channels;have hch:=h.ch;have cL:=Vi A x B (by simpa[Nat.add_comm] using hn) (fun y hy=>YF y (by simp[hy])) (YF x (by simp)) (fun y hy=>YF y (by simp[hy]));rw[←hp] at cL;clear hp hn YF h;refine jA Bc ?_;repeat' ((conv=>whnf);first|with_reducible apply aK|((with_reducible apply fk)<;>intro hc<;>try exact aM)|(apply fq;(conv=>whnf);refine⟨_,_,Ck _ hC hch,?_⟩)|(apply fq;(conv=>whnf);refine⟨_,_,cL,?_⟩)|(apply fq;(conv=>whnf);refine⟨_,_,qI _ (by omega),?_⟩)|((with_reducible apply And.intro);exact aG)|fail)
 refine⟨_,_,⟨rfl,rfl⟩,?_⟩;all_goals exact aL
def wC (a b:Int)(ch lg pa:AV)(o:aV)(c:AV)(out:Oc):List AV:=[.pv (uu a),.pv (uu b),ch,lg,pa]++(o.c.map .pv++(c::out.c.map .pv))
def wV (a b:Int)(ch lg pa:PV)(o:aV)(c:PV)(out:Oc):List PV:=[uu a,uu b,ch,lg,pa]++(o.c++(c::out.c))
def jv (row:List AV)(A B:List Ch)(L:List Lg)(Q:List Pa):List (Nat×aD):=
 [(2,.dM 47 0 9 (A.map Ch.c) row (B.map Ch.c)),(3,.arr 50 0 6 (L.map Lg.c)),(4,.arr 68 0 8 (Q.map Pa.c))]
theorem xO:Mg prog 34 f34:=bZ func34
theorem Ra:Mg prog 125 f125:=bZ func125
theorem Ld:Mg prog 126 f126:=bZ func126
theorem wP (a b:Int)(A:List Ch)(c:Ch)(B:List Ch)(L:List Lg)(Q:List Pa)(o:aV)(n:Int)(out:Oc):dR prog 34 [.ptr 1 0,.pv (ii n)]
  ((1,.var (wC a b (.aF 2 0) (.aF 3 0) (.aF 4 0) o (.bn 2 0 (A.map Ch.c).length 0) out))::jv (c.c.map .pv) A B L Q) (.pv (.dn []))
  ((1,.var (wC a b (.aF 2 0) (.aF 3 0) (.aF 4 0) o (.bn 2 0 (A.map Ch.c).length 0) (ig n)))::jv (c.c.map .pv) A B L Q):=by
 refine jA xO ?_;repeat' ((conv=>whnf);first|with_reducible apply aK|((with_reducible apply fk)<;>intro hc<;>try exact aM)|((with_reducible apply And.intro);exact aG)|fail)
 refine⟨_,_,⟨rfl,rfl⟩,?_⟩;all_goals exact aL
theorem abo (a b:Int)(A:List Ch)(c:Ch)(B:List Ch)(L:List Lg)(Q:List Pa)(o:aV):dR prog 125 [.ptr 1 0]
  ((1,.var (wC a b (.aF 2 0) (.aF 3 0) (.aF 4 0) o (.bn 2 0 (A.map Ch.c).length 0) bS))::jv (c.c.map .pv) A B L Q) (.pv (.dn []))
  ((1,.var (wC a b (.aF 2 0) (.aF 3 0) (.aF 4 0) o (.bn 2 0 (A.map Ch.c).length 0) bS))::jv ((vS c o).c.map .pv) A B L Q):=by
 refine jA Ra ?_;repeat' ((conv=>whnf);first|with_reducible apply aK|((with_reducible apply fk)<;>intro hc<;>try exact aM)|((with_reducible apply And.intro);exact aG)|fail)
 refine⟨_,_,⟨rfl,rfl⟩,?_⟩;all_goals exact aL
theorem Vk (a b:Int)(A:List Ch)(c:Ch)(B:List Ch)(L:List Lg)(Q:List Pa)(o:aV):dR prog 126 [.ptr 1 0]
  ((1,.var (wC a b (.aF 2 0) (.aF 3 0) (.aF 4 0) o (.bn 2 0 (A.map Ch.c).length 0) bS))::jv (c.c.map .pv) A B L Q) (.pv (.dn []))
  ((1,.var (wC a b (.aF 2 0) (.aF 3 0) (.aF 4 0) o (.bn 2 0 (A.map Ch.c).length 0) { bS with at_:=c.trim }))::jv (c.c.map .pv) A B L Q):=by
 refine jA Ld ?_;repeat' ((conv=>whnf);first|with_reducible apply aK|((with_reducible apply fk)<;>intro hc<;>try exact aM)|((with_reducible apply And.intro);exact aG)|fail)
 refine⟨_,_,⟨rfl,rfl⟩,?_⟩;all_goals exact aL
theorem OC {f:FuncId}{args:List PV}{r r':PV}(h:bE prog f args r)(e:Sg r r'):bE prog f args r':=
 PC.le (PC.mono h fun x hx=>by rw[hx];exact e)
def lgJ (l:Lg):PV:=.agg [uu l.id,ii l.w,ii l.a,.junk,ii l.closed,uu l.last]
theorem YI (l:Lg)(b:PV):Sg (.dn [.agg l.c,b]) (.dn [lgJ l,b]):=by
 unfold Sg pY lgJ Lg.c;simp only;unfold jB;refine⟨?_,oO _⟩;unfold pY;simp only;repeat (first|exact oO _|(unfold jB;refine⟨by first|exact MK _|(unfold pY;trivial),?_⟩))
theorem Eh (p:Pn)(n:Int)(h:tK p):bE prog 22 [.agg p.c,ii n] (.dn [lgJ ((gX p n).getD UB),bl (gX p n).isSome]):=OC (Td p n h) (YI _ _)
theorem abp (p:Pn)(n:Int)(h:tK p):bE prog 24 [.agg p.c,uu n] (.dn [lgJ (dm p n),bl (bg p n).isSome]):=OC (A9 p n h) (YI _ _)
def wQ (a b:Int):Int:=if decide (a<b) then -1 else if decide (a>b) then 1 else 0
theorem abr:Mg prog 83 f83:=bZ func83
theorem YL (a b:Int):bE prog 83 [uu a,uu b] (ii (wQ a b)):=by
 refine PC.le ?_;obtain⟨X,hX⟩:∃X,X=wQ a b:=⟨_,rfl⟩;rw[←hX];unfold wQ at hX;refine bN abr ?_;repeat' ((conv=>whnf);first|with_reducible apply aK|((with_reducible apply fk)<;>intro hc<;>try exact aM)|(apply aC;(conv=>whnf);refine⟨_,YM _,?_⟩)|((with_reducible apply And.intro);exact aG)|fail)
 all_goals
  simp only[Bool.not_true, *,Bool.true_or,Bool.or_true,Bool.false_or,Bool.or_false,Bool.true_and,Bool.and_true,Bool.false_and,Bool.and_false,Bool.not_true,Bool.not_false,Bool.false_eq_true,↓reduceIte] at hX;subst hX;all_goals exact aL
theorem YN:Mg prog 82 f82:=bZ func82
def ZJ (a b:Int):Int:=if (a != 0)=true then a else b
theorem Vp:Mg prog 19 f19:=bZ func19
theorem nQ (o:aV)(h:o.aA.length≤1000000)(hb:∀x∈o.aA,x.aI.length≤1000000)(hs:o.seen.length≤1000000):bE prog 19 [.agg o.c] (.agg o.c):=by
 refine PC.le ?_;have hm:((o.aA.map Fr.c).length:Int)=(o.aA.length:Int):=by rw[List.length_map]
 refine bN Vp ?_;repeat' ((conv=>whnf);first|with_reducible apply aK|((with_reducible apply fk)<;>intro hc<;>try exact aM)|((with_reducible apply And.intro);exact aG)|fail)
 refine⟨{k:Nat // k≤o.aA.length},fun⟨k,_⟩=>⟨[(1,.ptr 1002 0),(2,.ptr 1003 0),(3,.aF 1001 0),(7,.pv (p8 o.aA)),(8,.pv (ii o.aA.length)),(9,.pv (ii k))],1000000000,[(1001,.arr 80 0 2 ((o.aA.take k).map Fr.c)),(1002,.var (o.c.map .pv)),(1003,.var ((⟨0,0,0,0,0,0,0,0,0,0,0,0,[],[],Da,Da⟩:aV).c.map .pv))]⟩,fun⟨k,_⟩=>o.aA.length-k,⟨⟨0,by simp⟩,ak ?_⟩,?_⟩
 ·repeat' first
   |fail
   |with_reducible exact True.intro
   |with_reducible exact rfl
   |with_reducible exact ah _
   |((conv=>whnf);with_reducible apply And.intro)
   |((conv=>whnf);with_reducible exact True.intro)
   |exact rfl
   |exact fun h=>h
   |exact ah _
  all_goals try (conv=>whnf)
  all_goals first
   |exact hm
   |simp
 rintro⟨k,hk⟩
 by_cases hlt:k<o.aA.length
 ·have d0:decide ((k:Int)<(o.aA.length:Int))=true:=by simp only[kC];omega
  have eW:IntKind.i64.wrap ((k:Int)+1)=((k+1:Nat):Int):=by rw[aO (by omega) (by omega)];omega
  have hbk:=hb _ (List.getElem_mem hlt);repeat' ((conv=>whnf);first|with_reducible apply aK|((with_reducible apply fk)<;>intro hc<;>try exact aM)|((refine⟨_,cu _ _ _ hlt,?_⟩))|(apply aC;(conv=>whnf);refine⟨_,AU _ (by omega),?_⟩)|(((with_reducible apply And.intro);focus (simp only[List.length_map,List.length_cons,List.length_nil,List.length_take] at *;omega)))|((with_reducible apply And.intro);exact aG)|fail)
  refine⟨⟨k+1,hlt⟩,dec_lt hlt,ak ?_⟩;repeat' first|((conv=>whnf);with_reducible apply And.intro)|exact aL|fail
  all_goals try (conv=>whnf)
  all_goals first
   |exact eW
   | (rw[List.take_succ_eq_append_getElem hlt,List.map_append]
      refine nJ (ah _) ?_
      (repeat' first|((conv=>whnf);with_reducible apply And.intro)|exact aL|fail);(all_goals try (conv=>whnf)))
 have hke:k=o.aA.length:=by omega
 subst hke;have d0:decide ((o.aA.length:Int)<(o.aA.length:Int))=false:=by simp
 repeat' ((conv=>whnf);first|with_reducible apply aK|((with_reducible apply fk)<;>intro hc<;>try exact aM)|(apply aC;(conv=>whnf);refine⟨_,wM _ (by omega),?_⟩)|((with_reducible apply And.intro);exact aG)|fail)
 repeat' first|((conv=>whnf);with_reducible apply And.intro)|exact aL|fail
 all_goals try (conv=>whnf)
 all_goals (rw[List.take_length];exact ah _)
theorem Vv:Mg prog 32 f32:=bZ func32
def tO (l:List Pa)(o:aV):Oc×Bool:=match kg l o with
 |some (some x)=>(x,true)
 |some none=>(ig 9,true)
 |none=>(bS,false)
theorem agV (a b c d:Int):(ZJ (wQ a b) (wQ c d)==0)=decide (a=b∧c=d):=by
 unfold ZJ wQ;simp only[kC];by_cases h1:a<b
 ·simp[h1];omega
 by_cases h2:a>b
 ·simp[h1,h2];omega
 have:a=b:=by omega
 subst this;by_cases h3:c<d
 ·simp[h3];omega
 by_cases h4:c>d
 ·simp[h3,h4];omega
 have:c=d:=by omega
 subst this;simp
theorem agW (a b c d:Int):decide (ZJ (wQ a b) (wQ c d)>0)=decide (a>b∨(a=b∧c>d)):=by
 unfold ZJ wQ;simp only[kC];by_cases h1:a<b
 ·simp[h1];omega
 by_cases h2:a>b
 ·simp[h1,h2]
 have:a=b:=by omega
 subst this;by_cases h3:c<d
 ·simp[h3];omega
 by_cases h4:c>d
 ·simp[h3,h4]
 have:c=d:=by omega
 subst this;simp
theorem abx (x:Pa)(l:List Pa)(o:aV):tO (x::l) o=if (x.who != o.who)=true then tO l o else if (ZJ (wQ x.inc o.inc) (wQ x.n o.n)==0)=true then (x.out,true) else if decide (ZJ (wQ x.inc o.inc) (wQ x.n o.n)>0)=true then (ig 9,true) else tO l o:=by
 rw[agV,agW];unfold tO;conv=>lhs;unfold kg
 simp only[bne_iff_ne,ne_eq,decide_eq_true_eq];by_cases h1:x.who=o.who
 ·simp only[h1,not_true_eq_false,if_false];by_cases h2:x.inc=o.inc∧x.n=o.n
  ·simp only[if_pos h2]
  simp only[if_neg h2];by_cases h3:x.inc>o.inc∨(x.inc=o.inc∧x.n>o.n)
  ·simp only[if_pos h3]
  simp only[if_neg h3]
 simp only[h1,not_false_eq_true,if_true]
theorem YU (a b:Int):bE prog 82 [.sl false 1 [[ii a],[ii b]]] (ii (ZJ a b)):=by
 refine PC.le ?_;obtain⟨X,hX⟩:∃X,X=ZJ a b:=⟨_,rfl⟩;rw[←hX];unfold ZJ at hX;refine bN YN ?_;repeat' ((conv=>whnf);first|with_reducible apply aK|((with_reducible apply fk)<;>intro hc<;>try exact aM)|((with_reducible apply And.intro);exact aG)|fail)
 refine⟨{k:Nat // k=0∨(k=1∧(a != 0)=false)∨(k=2∧(a != 0)=false∧(b != 0)=false)},fun⟨k,_⟩=>⟨[(3,.pv (ii 0)),(6,.pv (.sl false 1 [[ii a],[ii b]])),(7,.pv (ii 2)),(8,.pv (ii k))],1000000000,[]⟩,fun⟨k,_⟩=>2-k,⟨⟨0,.inl rfl⟩,ak ?_⟩,?_⟩
 ·repeat' first
   |fail
   |with_reducible exact True.intro
   |with_reducible exact rfl
   |with_reducible exact ah _
   |((conv=>whnf);with_reducible apply And.intro)
   |((conv=>whnf);with_reducible exact True.intro)
   |exact rfl
   |exact fun h=>h
   |exact ah _
  all_goals try (conv=>whnf)
 rintro⟨k,rfl|⟨rfl,h1⟩|⟨rfl,h1,h2⟩⟩
 ·repeat' ((conv=>whnf)
           first
           |with_reducible apply aK
           |((with_reducible apply fk)<;>intro hc<;>try exact aM)
           |((refine⟨_,rfl,?_⟩))
           |((with_reducible apply And.intro);exact aG)|fail)
  ·simp only[*,↓reduceIte] at hX;subst hX;all_goals exact aL
  ·refine⟨⟨1,.inr (.inl ⟨rfl,hc⟩)⟩,by show 2-1<2-0;omega,ak ?_⟩;all_goals exact aL
 ·repeat' ((conv=>whnf)
           first
           |with_reducible apply aK
           |((with_reducible apply fk)<;>intro hc<;>try exact aM)
           |((refine⟨_,rfl,?_⟩))
           |((with_reducible apply And.intro);exact aG)|fail)
  ·simp only[*,Bool.false_eq_true,↓reduceIte] at hX;subst hX;all_goals exact aL
  ·refine⟨⟨2,.inr (.inr ⟨rfl,h1,hc⟩)⟩,by show 2-2<2-1;omega,ak ?_⟩;all_goals exact aL
 have h3:b=0:=by simpa using h2
 simp only[*,Bool.false_eq_true,↓reduceIte] at hX;subst hX;repeat' ((conv=>whnf);first|with_reducible apply aK|((with_reducible apply fk)<;>intro hc<;>try exact aM)|((with_reducible apply And.intro);exact aG)|fail)
 all_goals exact aL
theorem qY (p:Pn)(o:aV)(hl:p.past.length≤1000000):bE prog 32 [.agg p.c,.agg o.c] (.dn [.agg (tO p.past o).1.c,bl (tO p.past o).2]):=by
 refine PC.le ?_;obtain⟨X,hX⟩:∃X,X=tO p.past o:=⟨_,rfl⟩;rw[←hX];have hm:((p.past.map Pa.c).length:Int)=(p.past.length:Int):=by rw[List.length_map]
 refine bN Vv ?_;repeat' ((conv=>whnf);first|with_reducible apply aK|((with_reducible apply fk)<;>intro hc<;>try exact aM)|((with_reducible apply And.intro);exact aG)|fail)
 refine⟨{k:Nat // k≤p.past.length∧X=tO (p.past.drop k) o},fun⟨k,_⟩=>⟨[(2,.ptr 1002 0),(3,.ptr 1003 0),(4,.ptr 1004 0),(5,.pv (bl false)),(10,.pv (uR p.past)),(11,.pv (ii p.past.length)),(12,.pv (ii k))],1000000000,[(1002,.var (p.c.map .pv)),(1003,.var (o.c.map .pv)),(1004,.var (bS.c.map .pv))]⟩,fun⟨k,_⟩=>p.past.length-k,⟨⟨0,by simpa using hX⟩,ak ?_⟩,?_⟩
 ·repeat' first
   |fail
   |with_reducible exact True.intro
   |with_reducible exact rfl
   |with_reducible exact ah _
   |((conv=>whnf);with_reducible apply And.intro)
   |((conv=>whnf);with_reducible exact True.intro)
   |exact rfl
   |exact fun h=>h
   |exact ah _
  all_goals try (conv=>whnf)
  all_goals exact hm
 rintro⟨k,hk,hn⟩
 clear hX;dsimp only
 by_cases hlt:k<p.past.length
 ·have d0:decide ((k:Int)<(p.past.length:Int))=true:=by simp only[kC];omega
  have eW:IntKind.i64.wrap ((k:Int)+1)=((k+1:Nat):Int):=by rw[aO (by omega) (by omega)];omega
  have hr:=cu Pa.c p.past k hlt;rw[List.drop_eq_getElem_cons hlt,abx] at hn;have cU:=YL p.past[k].inc o.inc;have cV:=YL p.past[k].n o.n;have cO:=YU (wQ p.past[k].inc o.inc) (wQ p.past[k].n o.n);generalize ZJ (wQ p.past[k].inc o.inc) (wQ p.past[k].n o.n)=z at *;generalize p.past[k]=x at *;repeat' ((conv=>whnf);first|with_reducible apply aK|((with_reducible apply fk)<;>intro hc<;>try exact aM)|((refine⟨_,hr,?_⟩))|(apply aC;(conv=>whnf);refine⟨_,cU,?_⟩)|(apply aC;(conv=>whnf);refine⟨_,cV,?_⟩)|(apply aC;(conv=>whnf);refine⟨_,cO,?_⟩)|(((with_reducible apply And.intro);exact mg))|((with_reducible apply And.intro);exact aG)|fail)
  ·simp only[*,Bool.false_eq_true,↓reduceIte] at hn;refine⟨⟨k+1,hlt,hn⟩,dec_lt hlt,ak ?_⟩;repeat' first|((conv=>whnf);with_reducible apply And.intro)|exact aL|fail
   all_goals try (conv=>whnf)
   all_goals exact eW
  ·simp only[*,Bool.false_eq_true,↓reduceIte] at hn;subst hn;all_goals exact aL
  ·simp only[*,Bool.false_eq_true,↓reduceIte] at hn;subst hn;all_goals exact aL
  simp only[*,Bool.false_eq_true,↓reduceIte] at hn;refine⟨⟨k+1,hlt,hn⟩,dec_lt hlt,ak ?_⟩;repeat' first|((conv=>whnf);with_reducible apply And.intro)|exact aL|fail
  all_goals try (conv=>whnf)
  all_goals exact eW
 have hke:k=p.past.length:=by omega
 subst hke;have d0:decide ((p.past.length:Int)<(p.past.length:Int))=false:=by simp
 have hn:X=(bS,false):=by rw[hn,List.drop_length];rfl
 subst hn;repeat' ((conv=>whnf);first|with_reducible apply aK|((with_reducible apply fk)<;>intro hc<;>try exact aM)|((with_reducible apply And.intro);exact aG)|fail)
 all_goals exact aL
theorem zF:Mg prog 33 f33:=bZ func33
theorem aby (n:Int)(h1:1≤n)(h2:n≤12):∃(nm:Int) (F:FuncId),bE prog 35 [ii n] (.agg [ii nm,.fn (.func F) [] []])∧∀i,i<10→Iq nm ((2:Int) ^ i)=dZ n i:=by
 rcases (by omega:n=1∨n=2∨n=3∨n=4∨n=5∨n=6∨n=7∨n=8∨n=9∨n=10∨n=11∨n=12) with rfl|rfl|rfl|rfl|rfl|rfl|rfl|rfl|rfl|rfl|rfl|rfl
 ·exact⟨_,_,F5,by decide⟩
 ·exact⟨_,_,F6,by decide⟩
 ·exact⟨_,_,F7,by decide⟩
 ·exact⟨_,_,F8,by decide⟩
 ·exact⟨_,_,F9,by decide⟩
 ·exact⟨_,_,Ga,by decide⟩
 ·exact⟨_,_,Gb,by decide⟩
 ·exact⟨_,_,Gc,by decide⟩
 ·exact⟨_,_,Gd,by decide⟩
 ·exact⟨_,_,Cf,by decide⟩
 ·exact⟨_,_,Cg,by decide⟩
 exact⟨_,_,xN,by decide⟩
theorem oH (p:Pn)(o:aV)(hp:p.channels.length≤1000000)(h1:1≤o.kind)(h2:o.kind≤12)(hch:dZ o.kind 1=true→1≤o.channel∧o.channel≤3):bE prog 33 [.agg p.c,.agg o.c] (bl (gJ p o)):=by
 refine PC.le ?_;obtain⟨nm,F,nG,Gu⟩:=aby o.kind h1 h2;have hb:Iq nm 2=dZ o.kind 1:=(by rfl:(2:Int) ^ 1=2)▸Gu 1 (by omega);clear Gu;have hm:((p.channels.map Ch.c).length:Int)=(p.channels.length:Int):=by rw[List.length_map]
 obtain⟨X,hX⟩:∃X,X=gJ p o:=⟨_,rfl⟩;rw[←hX];unfold gJ at hX;unfold Iq at hb;cases hk:dZ o.kind 1 with
 | false=>
   rw[hk] at hb hX;simp only[Bool.false_and] at hX;subst hX;clear hch hk;refine bN zF ?_;repeat' ((conv=>whnf);first|with_reducible apply aK|((with_reducible apply fk)<;>intro hc<;>try exact aM)|(apply aC;(conv=>whnf);refine⟨_,nG,?_⟩)|((rewrite[hb]))|((with_reducible apply And.intro);exact aG)|fail)
   all_goals exact aL
 | true=>
   rw[hk] at hb hX;have hch:=hch hk;simp only[Bool.true_and] at hX;by_cases hle:o.channel≤(p.channels.length:Int)
   ·have hi:(o.channel-1).toNat<p.channels.length:=by omega
    have hw:IntKind.i64.wrap (o.channel-1)=((o.channel-1).toNat:Int):=by rw[aO (by omega) (by omega)];omega
    have hr:=cu Ch.c p.channels (o.channel-1).toNat hi;have hg:bq p o.channel=p.channels[(o.channel-1).toNat]:=by unfold bq;rw[getElem!_pos p.channels _ hi]
    rw[hg] at hX;generalize p.channels[(o.channel-1).toNat]=x at *;have hd:decide (o.channel≤((p.channels.map Ch.c).length:Int))=true:=by rw[hm];simpa using hle
    replace hX:X=(x.aY != o.aY):=by rw[hX];by_cases he:x.aY=o.aY<;>simp[hle,he]
    subst hX;clear hg hch hk hm hle;refine bN zF ?_;repeat' ((conv=>whnf);first|with_reducible apply aK|((with_reducible apply fk)<;>intro hc<;>try exact aM)|(apply aC;(conv=>whnf);refine⟨_,nG,?_⟩)|((rewrite[hb]))|((rewrite[hw]))|((rewrite[hd]))|((refine⟨_,hr,?_⟩))|((with_reducible apply And.intro);exact aG)|fail)
    all_goals exact aL
   replace hX:X=false:=by rw[hX];simp[hle]
   subst hX;have hd:decide (o.channel≤((p.channels.map Ch.c).length:Int))=false:=by rw[hm];simpa using hle
   clear hch hk hm hle;refine bN zF ?_;repeat' ((conv=>whnf);first|with_reducible apply aK|((with_reducible apply fk)<;>intro hc<;>try exact aM)|(apply aC;(conv=>whnf);refine⟨_,nG,?_⟩)|((rewrite[hb]))|((rewrite[hd]))|((with_reducible apply And.intro);exact aG)|fail)
   all_goals exact aL
theorem OT:Mg prog 97 f97:=bZ func97
theorem Rl:Mg prog 42 f42:=bZ func42
theorem YV (x:Pl):bE prog 97 ([]++([.agg x.c]++[])) (bl (!cnt x.dB)):=by
 refine PC.le ?_;have e:(!cnt x.dB)=decide (x.dB>4611686018427387903):=by unfold cnt;rw[Bool.not_not]
 rw[e];clear e;refine bN OT ?_;repeat' ((conv=>whnf);first|with_reducible apply aK|((with_reducible apply fk)<;>intro hc<;>try exact aM)|((with_reducible apply And.intro);exact aG)|fail)
 all_goals exact aL
theorem abz (f:Fr):XK f = !(decide (f.first>4611686018427387903)||f.aI.any fun x=>!cnt x.dB):=by
 unfold XK;rw[Bool.not_or,show cnt f.first = !decide (f.first>4611686018427387903) from rfl];congr 1
 induction f.aI with
 |nil=>rfl
 |cons a l ih=>rw[List.all_cons,List.any_cons,Bool.not_or,Bool.not_not,ih]
def Gv (o:aV):Bool:=if (o.kind==4)=true then (((o.aA.length:Int)==1)&&(decide (o.a≥1)&&(decide (o.a≤o.w)&&fw o.w o.aA))) else if (o.kind==5)=true then ((o.aA.length:Int)==1) else if (o.kind==6)=true then decide ((o.aA.length:Int)≥1) else true
theorem JR (o:aV):pM o=(o.aA.all XK&&Gv o):=by
 unfold pM Gv;simp only[beq_iff_eq];congr 1
theorem abA (o:aV)(hl:o.aA.length≤1000000)(hb:∀x∈o.aA,x.aI.length≤1000000):bE prog 42 [.agg o.c] (bl (pM o)):=by
 refine PC.le ?_;have cM:=mZ o.w o.aA fun x hx=>by have:=hb x hx;omega
 have hm:((o.aA.map Fr.c).length:Int)=(o.aA.length:Int):=by rw[List.length_map]
 obtain⟨X,hX⟩:∃X,X=pM o:=⟨_,rfl⟩;rw[←hX];rw[JR] at hX;refine bN Rl ?_;repeat' ((conv=>whnf);first|with_reducible apply aK|((with_reducible apply fk)<;>intro hc<;>try exact aM)|((with_reducible apply And.intro);exact aG)|fail)
 refine⟨{k:Nat // k≤o.aA.length∧X=((o.aA.drop k).all XK&&Gv o)},fun⟨k,_⟩=>⟨[(1,.ptr 1001 0),(6,.pv (p8 o.aA)),(7,.pv (ii o.aA.length)),(8,.pv (ii k))],1000000000,[(1001,.var (o.c.map .pv))]⟩,fun⟨k,_⟩=>o.aA.length-k,⟨⟨0,by simpa using hX⟩,ak ?_⟩,?_⟩
 ·repeat' first
   |fail
   |with_reducible exact True.intro
   |with_reducible exact rfl
   |with_reducible exact ah _
   |((conv=>whnf);with_reducible apply And.intro)
   |((conv=>whnf);with_reducible exact True.intro)
   |exact rfl
   |exact fun h=>h
   |exact ah _
  all_goals try (conv=>whnf)
  all_goals exact hm
 rintro⟨k,hk,hn⟩
 clear hX;dsimp only
 by_cases hlt:k<o.aA.length
 ·have d0:decide ((k:Int)<(o.aA.length:Int))=true:=by simp only[kC];omega
  have eW:IntKind.i64.wrap ((k:Int)+1)=((k+1:Nat):Int):=by rw[aO (by omega) (by omega)];omega
  have hr:=cu Fr.c o.aA k hlt;rw[List.drop_eq_getElem_cons hlt,List.all_cons,abz] at hn;have cF:=om o.aA[k].aI 97 [] [] (fun x=>!cnt x.dB) fun x _=>YV x
  generalize (o.aA[k].aI.any fun x=>!cnt x.dB)=z at *;generalize o.aA[k]=x at *;clear cM;repeat' ((conv=>whnf);first|with_reducible apply aK|((with_reducible apply fk)<;>intro hc<;>try exact aM)|((refine⟨_,hr,?_⟩))|(apply aC;(conv=>whnf);refine⟨_,cF,?_⟩)|(((with_reducible apply And.intro);exact mg))|((with_reducible apply And.intro);exact aG)|fail)
  ·simp only[*,Bool.true_or,Bool.or_true,Bool.not_true,Bool.false_and] at hn;subst hn;all_goals exact aL
  ·simp only[*,Bool.true_or,Bool.or_true,Bool.not_true,Bool.false_and] at hn;subst hn;all_goals exact aL
  simp only[*,Bool.or_false,Bool.false_or,Bool.not_false,Bool.true_and] at hn;refine⟨⟨k+1,hlt,hn⟩,dec_lt hlt,ak ?_⟩;repeat' first|((conv=>whnf);with_reducible apply And.intro)|exact aL|fail
  all_goals try (conv=>whnf)
  all_goals exact eW
 have hke:k=o.aA.length:=by omega
 subst hke;have d0:decide ((o.aA.length:Int)<(o.aA.length:Int))=false:=by simp
 rw[List.drop_length,List.all_nil,Bool.true_and] at hn;unfold Gv at hn;generalize fw o.w o.aA=mf at *;rw[←hm] at hn;clear hm;repeat' ((conv=>whnf);first|with_reducible apply aK|((with_reducible apply fk)<;>intro hc<;>try exact aM)|(apply aC;(conv=>whnf);refine⟨_,cM,?_⟩)|((with_reducible apply And.intro);exact aG)|fail)
 all_goals
  simp only[*,Bool.true_and,Bool.and_true,Bool.false_and,Bool.and_false,Bool.false_eq_true,↓reduceIte] at hn;subst hn;all_goals exact aL
theorem Ro:Mg prog 43 f43:=bZ func43
def nZ (l:List Int):List (Int×Int):=l.foldl (fun es n=>yw es n (IntKind.i64.wrap (NG es n+1))) []
def aez (last:Int)(x:Mk):Bool:=!(decide (x.producer≤last)||(decide (x.producer>15)||(decide (x.seq<1)||(decide (x.seq>4611686018427387903)||decide (x.offset>4611686018427387903)))))
def yJ:Int→List Mk→Bool
 |_,[]=>true
 |last,x::l=>aez last x&&yJ x.producer l
theorem abL (l:List Mk)(hl:l.length≤1000000):bE prog 43 [qp l] (bl (yJ 0 l&&(decide ((l.length:Int)≤6)&&(((nZ (l.map (·.offset))).length:Int)==(l.length:Int))))):=by
 refine PC.le ?_;have hm:((l.map Mk.c).length:Int)=(l.length:Int):=by rw[List.length_map]
 obtain⟨X,hX⟩:∃X,X=(yJ 0 l&&(decide ((l.length:Int)≤6)&&(((nZ (l.map (·.offset))).length:Int)==(l.length:Int)))):=⟨_,rfl⟩;rw[←hX];refine bN Ro ?_;repeat' ((conv=>whnf);first|with_reducible apply aK|((with_reducible apply fk)<;>intro hc<;>try exact aM)|((with_reducible apply And.intro);exact aG)|fail)
 refine⟨{kf:Nat×Int // kf.1≤l.length∧X=(yJ kf.2 (l.drop kf.1)&&(decide ((l.length:Int)≤6)&&(((nZ (l.map (·.offset))).length:Int)==(l.length:Int))))},fun⟨(k,f),_⟩=>⟨[(0,.pv (qp l)),(3,.bn 1003 0 0 0),(4,.pv (ii f)),(8,.pv (qp l)),(9,.pv (ii l.length)),(10,.pv (ii k))],1000000000,[(1003,.mp .u64 .i64 (nZ ((l.take k).map (·.offset))))]⟩,fun⟨(k,_),_⟩=>l.length-k,⟨⟨(0,0),by simpa using hX⟩,ak ?_⟩,?_⟩
 ·repeat' first
   |fail
   |with_reducible exact True.intro
   |with_reducible exact rfl
   |with_reducible exact ah _
   |((conv=>whnf);with_reducible apply And.intro)
   |((conv=>whnf);with_reducible exact True.intro)
   |exact rfl
   |exact fun h=>h
   |exact ah _
  all_goals try (conv=>whnf)
  all_goals first
   |exact hm
   |simp[nZ]
 rintro⟨⟨k,f⟩,hk,hn⟩
 clear hX;dsimp only at hk hn ⊢
 by_cases hlt:k<l.length
 ·have d0:decide ((k:Int)<(l.length:Int))=true:=by simp only[kC];omega
  have eW:IntKind.i64.wrap ((k:Int)+1)=((k+1:Nat):Int):=by rw[aO (by omega) (by omega)];omega
  have hr:=cu Mk.c l k hlt;have hstep:nZ ((l.take (k+1)).map (·.offset))=yw (nZ ((l.take k).map (·.offset))) l[k].offset (IntKind.i64.wrap (NG (nZ ((l.take k).map (·.offset))) l[k].offset+1)):=by
   rw[List.take_succ_eq_append_getElem hlt,List.map_append];unfold nZ;rw[List.foldl_append];rfl
  rw[List.drop_eq_getElem_cons hlt] at hn;unfold yJ aez at hn;generalize l[k]=x at *;clear hm;repeat' ((conv=>whnf);first|with_reducible apply aK|((with_reducible apply fk)<;>intro hc<;>try exact aM)|((refine⟨_,hr,?_⟩))|(((with_reducible apply And.intro);exact mg))|((with_reducible apply And.intro);exact aG)|fail)
  ·simp only[*,Bool.true_or,Bool.or_true,Bool.false_or,Bool.not_true,Bool.false_and] at hn;subst hn;all_goals exact aL
  ·simp only[*,Bool.true_or,Bool.or_true,Bool.false_or,Bool.not_true,Bool.false_and] at hn;subst hn;all_goals exact aL
  ·simp only[*,Bool.true_or,Bool.or_true,Bool.false_or,Bool.not_true,Bool.false_and] at hn;subst hn;all_goals exact aL
  ·simp only[*,Bool.true_or,Bool.or_true,Bool.false_or,Bool.not_true,Bool.false_and] at hn;subst hn;all_goals exact aL
  ·simp only[*,Bool.true_or,Bool.or_true,Bool.false_or,Bool.not_true,Bool.false_and] at hn;subst hn;all_goals exact aL
  simp only[*,Bool.false_or,Bool.not_false,Bool.true_and] at hn;refine⟨⟨(k+1,x.producer),hlt,hn⟩,dec_lt hlt,ak ?_⟩;repeat' first|((conv=>whnf);with_reducible apply And.intro)|exact aL|fail
  all_goals try (conv=>whnf)
  all_goals first
   |exact eW
   |exact hstep
   |exact hstep.symm
 have hke:k=l.length:=by omega
 subst hke;have d0:decide ((l.length:Int)<(l.length:Int))=false:=by simp
 rw[List.drop_length,List.take_length] at *;unfold yJ at hn;rw[←hm] at hn;clear hm;repeat' ((conv=>whnf);first|with_reducible apply aK|((with_reducible apply fk)<;>intro hc<;>try exact aM)|((with_reducible apply And.intro);exact aG)|fail)
 all_goals
  simp only[*,Bool.true_and,Bool.and_true,Bool.false_and,Bool.and_false,Bool.false_eq_true,↓reduceIte] at hn;subst hn;all_goals exact aL
theorem Mk.aey (x y:Mk):((x.producer==y.producer)&&((x.seq==y.seq)&&(x.offset==y.offset)))=(x==y):=by
 rw[Bool.eq_iff_iff];obtain⟨_,_,_⟩:=x;obtain⟨_,_,_⟩:=y;simp
theorem yH:Mg prog 94 f94:=bZ func94
theorem Lj (l m:List Pl):bE prog 94 [vP l,vP m] (bl (decide (l=m))):=by
 refine PC.le (kL yH fun hb=>?_);have hb:l.length≤9223372036854775807∧m.length≤9223372036854775807:=by simpa[DR,y7,vP] using hb
 refine bN yH ?_;repeat' ((conv=>whnf);first|with_reducible apply aK|((with_reducible apply fk)<;>intro hc<;>try exact aM)|((with_reducible apply And.intro);exact aG)|fail)
 ·repeat' first
   |fail
   |with_reducible exact True.intro
   |with_reducible exact rfl
   |with_reducible exact ah _
   |((conv=>whnf);with_reducible apply And.intro)
   |((conv=>whnf);with_reducible exact True.intro)
   |exact rfl
   |exact fun h=>h
   |exact ah _
  all_goals try (conv=>whnf)
  simp at hc;simp;rintro rfl;exact hc rfl
 have hlen:l.length=m.length:=by simp at hc;omega
 refine⟨{k:Nat // k≤l.length∧∀j (hj:j<l.length),j<k→l[j]=m[j]},fun⟨k,_⟩=>⟨[(0,.pv (vP l)),(1,.pv (vP m)),(12,.pv (ii l.length)),(13,.pv (ii k))],1000000000,[]⟩,fun⟨k,_⟩=>l.length-k,⟨⟨0,by simp⟩,ak ?_⟩,?_⟩
 ·repeat' first
   |fail
   |with_reducible exact True.intro
   |with_reducible exact rfl
   |with_reducible exact ah _
   |((conv=>whnf);with_reducible apply And.intro)
   |((conv=>whnf);with_reducible exact True.intro)
   |exact rfl
   |exact fun h=>h
   |exact ah _
  all_goals try (conv=>whnf)
  simp
 rintro⟨k,hk,hn⟩
 repeat' ((conv=>whnf);first|with_reducible apply aK|((with_reducible apply fk)<;>intro hc<;>try exact aM)|((with_reducible apply And.intro);exact aG)|fail)
 ·have hlt:k<l.length:=by simpa using hc
  refine⟨_,cu _ _ _ hlt,?_⟩;repeat' ((conv=>whnf);first|with_reducible apply aK|((with_reducible apply fk)<;>intro hc<;>try exact aM)|((with_reducible apply And.intro);exact aG)|fail)
  refine⟨_,cu _ _ _ (hlen▸hlt),?_⟩;repeat' ((conv=>whnf);first|with_reducible apply aK|((with_reducible apply fk)<;>intro hc<;>try exact aM)|((with_reducible apply And.intro);exact aG)|fail)
  ·repeat' first
    |fail
    |with_reducible exact True.intro
    |with_reducible exact rfl
    |with_reducible exact ah _
    |((conv=>whnf);with_reducible apply And.intro)
    |((conv=>whnf);with_reducible exact True.intro)
    |exact rfl
    |exact fun h=>h
    |exact ah _
   all_goals try (conv=>whnf)
   rw[Pl.beq] at hc;simp at hc ⊢;rintro rfl
   exact hc rfl
  repeat' ((conv=>whnf)
           first
           |with_reducible apply aK
           |((with_reducible apply fk)<;>intro hc<;>try exact aM)
           |((with_reducible apply And.intro);exact aG)|fail)
  refine⟨⟨k+1,hlt,dS hn fun _=>?_⟩,dec_lt hlt,ak ?_⟩
  ·rw[Pl.beq] at hc;simpa using hc
  repeat' first|((conv=>whnf);with_reducible apply And.intro)|exact aL|fail
  all_goals try (conv=>whnf)
  exact aO (by omega) (by omega)
 repeat' first
  |fail
  |with_reducible exact True.intro
  |with_reducible exact rfl
  |with_reducible exact ah _
  |((conv=>whnf);with_reducible apply And.intro)
  |((conv=>whnf);with_reducible exact True.intro)
  |exact rfl
  |exact fun h=>h
  |exact ah _
 all_goals try (conv=>whnf)
 have:k=l.length:=by simp at hc;omega
 subst this;simp;exact List.ext_getElem hlen fun i h1 h2=>hn i h1 h1
theorem Bf:Mg prog 91 f91:=bZ func91
theorem OU (l m:List Mk):bE prog 91 [qp l,qp m] (bl (decide (l=m))):=by
 refine PC.le (kL Bf fun hb=>?_);have hb:l.length≤9223372036854775807∧m.length≤9223372036854775807:=by simpa[DR,y7,qp] using hb
 refine bN Bf ?_;repeat' ((conv=>whnf);first|with_reducible apply aK|((with_reducible apply fk)<;>intro hc<;>try exact aM)|((with_reducible apply And.intro);exact aG)|fail)
 ·repeat' first
   |fail
   |with_reducible exact True.intro
   |with_reducible exact rfl
   |with_reducible exact ah _
   |((conv=>whnf);with_reducible apply And.intro)
   |((conv=>whnf);with_reducible exact True.intro)
   |exact rfl
   |exact fun h=>h
   |exact ah _
  all_goals try (conv=>whnf)
  simp at hc;simp;rintro rfl;exact hc rfl
 have hlen:l.length=m.length:=by simp at hc;omega
 refine⟨{k:Nat // k≤l.length∧∀j (hj:j<l.length),j<k→l[j]=m[j]},fun⟨k,_⟩=>⟨[(0,.pv (qp l)),(1,.pv (qp m)),(12,.pv (ii l.length)),(13,.pv (ii k))],1000000000,[]⟩,fun⟨k,_⟩=>l.length-k,⟨⟨0,by simp⟩,ak ?_⟩,?_⟩
 ·repeat' first
   |fail
   |with_reducible exact True.intro
   |with_reducible exact rfl
   |with_reducible exact ah _
   |((conv=>whnf);with_reducible apply And.intro)
   |((conv=>whnf);with_reducible exact True.intro)
   |exact rfl
   |exact fun h=>h
   |exact ah _
  all_goals try (conv=>whnf)
  simp
 rintro⟨k,hk,hn⟩
 repeat' ((conv=>whnf);first|with_reducible apply aK|((with_reducible apply fk)<;>intro hc<;>try exact aM)|((with_reducible apply And.intro);exact aG)|fail)
 ·have hlt:k<l.length:=by simpa using hc
  refine⟨_,cu _ _ _ hlt,?_⟩;repeat' ((conv=>whnf);first|with_reducible apply aK|((with_reducible apply fk)<;>intro hc<;>try exact aM)|((with_reducible apply And.intro);exact aG)|fail)
  refine⟨_,cu _ _ _ (hlen▸hlt),?_⟩;repeat' ((conv=>whnf);first|with_reducible apply aK|((with_reducible apply fk)<;>intro hc<;>try exact aM)|((with_reducible apply And.intro);exact aG)|fail)
  ·repeat' first
    |fail
    |with_reducible exact True.intro
    |with_reducible exact rfl
    |with_reducible exact ah _
    |((conv=>whnf);with_reducible apply And.intro)
    |((conv=>whnf);with_reducible exact True.intro)
    |exact rfl
    |exact fun h=>h
    |exact ah _
   all_goals try (conv=>whnf)
   rw[Mk.aey] at hc;simp at hc ⊢;rintro rfl
   exact hc rfl
  repeat' ((conv=>whnf)
           first
           |with_reducible apply aK
           |((with_reducible apply fk)<;>intro hc<;>try exact aM)
           |((with_reducible apply And.intro);exact aG)|fail)
  refine⟨⟨k+1,hlt,dS hn fun _=>?_⟩,dec_lt hlt,ak ?_⟩
  ·rw[Mk.aey] at hc;simpa using hc
  repeat' first|((conv=>whnf);with_reducible apply And.intro)|exact aL|fail
  all_goals try (conv=>whnf)
  exact aO (by omega) (by omega)
 repeat' first
  |fail
  |with_reducible exact True.intro
  |with_reducible exact rfl
  |with_reducible exact ah _
  |((conv=>whnf);with_reducible apply And.intro)
  |((conv=>whnf);with_reducible exact True.intro)
  |exact rfl
  |exact fun h=>h
  |exact ah _
 all_goals try (conv=>whnf)
 have:k=l.length:=by simp at hc;omega
 subst this;simp;exact List.ext_getElem hlen fun i h1 h2=>hn i h1 h1
theorem Rn:Mg prog 93 f93:=bZ func93
theorem Vw (x y:Fr):bE prog 93 ([]++([.agg x.c,.agg y.c]++[])) (bl (decide (x=y))):=by
 refine PC.le ?_;refine bN Rn ?_;repeat' ((conv=>whnf);first|with_reducible apply aK|((with_reducible apply fk)<;>intro hc<;>try exact aM)|(apply aC;(conv=>whnf);refine⟨_,Lj _ _,?_⟩)|((with_reducible apply And.intro);exact aG)|fail)
 all_goals
  repeat' first|((conv=>whnf);with_reducible apply And.intro)|exact aL|fail
  all_goals try (conv=>whnf)
  cases x;cases y;simp_all
theorem yI:Mg prog 92 f92:=bZ func92
theorem Ll (l m:List Fr):bE prog 92 [p8 l,p8 m,.fn (.func 93) [] []] (bl (decide (l=m))):=by
 refine PC.le (kL yI fun hb=>?_);have hb:l.length≤9223372036854775807∧m.length≤9223372036854775807:=by simp[DR,y7,p8] at hb;omega
 refine bN yI ?_;repeat' ((conv=>whnf);first|with_reducible apply aK|((with_reducible apply fk)<;>intro hc<;>try exact aM)|((with_reducible apply And.intro);exact aG)|fail)
 ·repeat' first
   |fail
   |with_reducible exact True.intro
   |with_reducible exact rfl
   |with_reducible exact ah _
   |((conv=>whnf);with_reducible apply And.intro)
   |((conv=>whnf);with_reducible exact True.intro)
   |exact rfl
   |exact fun h=>h
   |exact ah _
  all_goals try (conv=>whnf)
  simp at hc;simp;rintro rfl;exact hc rfl
 have hlen:l.length=m.length:=by simp at hc;omega
 refine⟨{k:Nat // k≤l.length∧∀j (hj:j<l.length),j<k→l[j]=m[j]},fun⟨k,_⟩=>⟨[(1,.pv (p8 m)),(2,.pv (.fn (.func 93) [] [])),(15,.pv (p8 l)),(16,.pv (ii l.length)),(17,.pv (ii k))],1000000000,[]⟩,fun⟨k,_⟩=>l.length-k,⟨⟨0,by simp⟩,ak ?_⟩,?_⟩
 ·repeat' first
   |fail
   |with_reducible exact True.intro
   |with_reducible exact rfl
   |with_reducible exact ah _
   |((conv=>whnf);with_reducible apply And.intro)
   |((conv=>whnf);with_reducible exact True.intro)
   |exact rfl
   |exact fun h=>h
   |exact ah _
  all_goals try (conv=>whnf)
  simp
 rintro⟨k,hk,hn⟩
 repeat' ((conv=>whnf);first|with_reducible apply aK|((with_reducible apply fk)<;>intro hc<;>try exact aM)|((with_reducible apply And.intro);exact aG)|fail)
 ·have hlt:k<l.length:=by simpa using hc
  refine⟨_,cu _ _ _ hlt,?_⟩;repeat' ((conv=>whnf);first|with_reducible apply aK|((with_reducible apply fk)<;>intro hc<;>try exact aM)|((with_reducible apply And.intro);exact aG)|fail)
  refine⟨_,cu _ _ _ (hlen▸hlt),?_⟩;repeat' ((conv=>whnf);first|with_reducible apply aK|((with_reducible apply fk)<;>intro hc<;>try exact aM)|(apply aC;(conv=>whnf);refine⟨_,Vw (l[k]) (m[k]),?_⟩)|((with_reducible apply And.intro);exact aG)|fail)
  ·repeat' first
    |fail
    |with_reducible exact True.intro
    |with_reducible exact rfl
    |with_reducible exact ah _
    |((conv=>whnf);with_reducible apply And.intro)
    |((conv=>whnf);with_reducible exact True.intro)
    |exact rfl
    |exact fun h=>h
    |exact ah _
   all_goals try (conv=>whnf)
   simp at hc ⊢;rintro rfl
   exact hc rfl
  repeat' ((conv=>whnf)
           first
           |with_reducible apply aK
           |((with_reducible apply fk)<;>intro hc<;>try exact aM)
           |((with_reducible apply And.intro);exact aG)|fail)
  refine⟨⟨k+1,hlt,dS hn fun _=>?_⟩,dec_lt hlt,ak ?_⟩
  ·simpa using hc
  repeat' first|((conv=>whnf);with_reducible apply And.intro)|exact aL|fail
  all_goals try (conv=>whnf)
  exact aO (by omega) (by omega)
 repeat' first
  |fail
  |with_reducible exact True.intro
  |with_reducible exact rfl
  |with_reducible exact ah _
  |((conv=>whnf);with_reducible apply And.intro)
  |((conv=>whnf);with_reducible exact True.intro)
  |exact rfl
  |exact fun h=>h
  |exact ah _
 all_goals try (conv=>whnf)
 have:k=l.length:=by simp at hc;omega
 subst this;simp;exact List.ext_getElem hlen fun i h1 h2=>hn i h1 h1
def Y0 (a b:aV):Bool:=
 (a.who==b.who)&&((a.inc==b.inc)&&((a.n==b.n)&&((a.kind==b.kind)&&((a.channel==b.channel)&&((a.aY==b.aY)&&((a.bA==b.bA)&&((a.at_==b.at_)&&((a.now==b.now)&&((a.sub==b.sub)&&((a.w==b.w)&&((a.a==b.a)&&((a.from_==b.from_)&&((a.nD==b.nD)&&(decide (a.seen=b.seen)&&decide (a.aA=b.aA)))))))))))))))
theorem Vx (a b:aV):Y0 a b=decide (a=b):=by
 rw[Bool.eq_iff_iff];obtain⟨_,_,_,_,_,_,_,_,_,_,_,_,_,_,_,_⟩:=a;obtain⟨_,_,_,_,_,_,_,_,_,_,_,_,_,_,_,_⟩:=b;simp[Y0];grind
theorem Vy:Mg prog 39 f39:=bZ func39
theorem Y1 (a b:aV):bE prog 39 [.agg a.c,.agg b.c] (bl (decide (a=b))):=by
 refine PC.le ?_;rw[←Vx];refine bN Vy ?_;repeat' ((conv=>whnf);first|with_reducible apply aK|((with_reducible apply fk)<;>intro hc<;>try exact aM)|(apply aC;(conv=>whnf);refine⟨_,Ll _ _,?_⟩)|(apply aC;(conv=>whnf);refine⟨_,OU _ _,?_⟩)|((with_reducible apply And.intro);exact aG)|fail)
 all_goals
  repeat' first|((conv=>whnf);with_reducible apply And.intro)|exact aL|fail
  all_goals try (conv=>whnf)
  simp only[Pl.beq] at *;simp only[Y0, *,Bool.true_and,Bool.false_and,Bool.and_true,Bool.and_false]
theorem OV:Mg prog 18 f18:=bZ func18
theorem Y2 (n:Int)(h1:1≤n)(h2:n≤12):∃(nm:Int) (F:FuncId),bE prog 35 [ii n] (.agg [ii nm,.fn (.func F) [] []])∧(∀i,i<10→Iq nm ((2:Int) ^ i)=dZ n i)∧∀o:aV,bE prog 40 [.agg o.c,ii nm] (.agg (fQ o (dZ n)).c):=by
 rcases (by omega:n=1∨n=2∨n=3∨n=4∨n=5∨n=6∨n=7∨n=8∨n=9∨n=10∨n=11∨n=12) with rfl|rfl|rfl|rfl|rfl|rfl|rfl|rfl|rfl|rfl|rfl|rfl
 ·exact⟨_,_,F5,by decide,abC⟩
 ·exact⟨_,_,F6,by decide,abD⟩
 ·exact⟨_,_,F7,by decide,abE⟩
 ·exact⟨_,_,F8,by decide,abF⟩
 ·exact⟨_,_,F9,by decide,abG⟩
 ·exact⟨_,_,Ga,by decide,abH⟩
 ·exact⟨_,_,Gb,by decide,abI⟩
 ·exact⟨_,_,Gc,by decide,abJ⟩
 ·exact⟨_,_,Gd,by decide,abK⟩
 ·exact⟨_,_,Cf,by decide,YW⟩
 ·exact⟨_,_,Cg,by decide,YX⟩
 exact⟨_,_,xN,by decide,YZ⟩
def Y3 (l:List Mk):Bool:=yJ 0 l&&(decide ((l.length:Int)≤6)&&(((nZ (l.map (·.offset))).length:Int)==(l.length:Int)))
def Tp (o:aV):Bool:=!((dZ o.kind 0&&(decide (o.channel<1)||decide (o.channel>3)))||(dZ o.kind 5&&(decide (o.sub<1)||decide (o.sub>3)))) &&
 (!(dZ o.kind 9&&(!qH o.from_||(!qH o.nD||(o.from_==o.nD))))&&(pM o&&Y3 o.seen))
def Ir (o:aV):List Int:=[o.inc,o.n,o.aY,o.bA,o.at_,o.now]
def xZ (o:aV):Bool:=(decide (1≤o.kind)&&decide (o.kind≤12))&&(!(decide (o.who<1)||(decide (o.who>15)||(decide (o.inc<1)||(decide (o.n<1) || !decide (o=fQ o (dZ o.kind))))))&&((Ir o).all cnt&&Tp o))
theorem ng (o:aV)(hl:o.aA.length≤1000000)(hb:∀x∈o.aA,x.aI.length≤1000000)(hs:o.seen.length≤1000000):bE prog 18 [.agg o.c] (bl (xZ o)):=by
 refine PC.le ?_;by_cases hr:1≤o.kind∧o.kind≤12
 ·obtain⟨nm,F,nG,Gu,hbare⟩:=Y2 o.kind hr.1 hr.2;have hb0:Iq nm 1=dZ o.kind 0:=(by rfl:(2:Int) ^ 0=1)▸Gu 0 (by omega);have hb5:Iq nm 32=dZ o.kind 5:=(by rfl:(2:Int) ^ 5=32)▸Gu 5 (by omega);have hb9:Iq nm 512=dZ o.kind 9:=(by rfl:(2:Int) ^ 9=512)▸Gu 9 (by omega);unfold Iq at hb0 hb5 hb9;have hbare:=hbare o;have cS:=Y1 o (fQ o (dZ o.kind));have cF:=abA o hl hb;have cM:bE prog 43 [qp o.seen] (bl (Y3 o.seen)):=abL o.seen hs;have cP1:=F4 o.from_;have cP2:=F4 o.nD;obtain⟨X,hX⟩:∃X,X=xZ o:=⟨_,rfl⟩;rw[←hX];unfold xZ at hX;rw[decide_eq_true hr.1,decide_eq_true hr.2] at hX;obtain⟨Z,hZ⟩:∃Z,Z=Tp o:=⟨_,rfl⟩;rw[←hZ] at hX;unfold Tp at hZ;simp only[Bool.true_and] at hX;generalize decide (o=fQ o (dZ o.kind))=sm at *;generalize fQ o (dZ o.kind)=o2 at *;generalize dZ o.kind 0=b0 at *;generalize dZ o.kind 5=b5 at *;generalize dZ o.kind 9=b9 at *;generalize qH o.from_=pf at *;generalize qH o.nD=pt at *;generalize pM o=fr at *;generalize Y3 o.seen=mk at *;clear Gu hr hb hs hl;refine bN OV ?_;repeat' ((conv=>whnf);first|with_reducible apply aK|((with_reducible apply fk)<;>intro hc<;>try exact aM)|(apply aC;(conv=>whnf);refine⟨_,nG,?_⟩)|(apply aC;(conv=>whnf);refine⟨_,hbare,?_⟩)|(apply aC;(conv=>whnf);refine⟨_,cS,?_⟩)|((with_reducible apply And.intro);exact aG)|fail)
  iterate 5
   ·simp only[*,Bool.true_or,Bool.or_true,Bool.false_or,Bool.or_false,Bool.true_and,Bool.and_true,Bool.false_and,Bool.and_false,Bool.not_true,Bool.not_false,Bool.false_eq_true,↓reduceIte] at hX;subst hX;all_goals exact aL
  have hX2:X=((Ir o).all cnt&&Z):=by simp only[*,Bool.true_or,Bool.or_true,Bool.false_or,Bool.or_false,Bool.true_and,Bool.and_true,Bool.false_and,Bool.and_false,Bool.not_true,Bool.not_false,Bool.false_eq_true,↓reduceIte]
  clear hX cS hbare nG;have h6:(Ir o).length=6:=rfl;refine⟨{k:Nat // k≤6∧X=(((Ir o).drop k).all cnt&&Z)},fun⟨k,_⟩=>⟨[(1,.ptr 1001 0),(3,.ptr 1003 0),(53,.aF 1053 0),(54,.pv (ii 6)),(55,.pv (ii k))],1000000000,[(1001,.var (o.c.map .pv)),(1003,.var [.pv (ii nm),.pv (.fn (.func F) [] [])]),(1053,.arr 23 0 1 ((Ir o).map dh))]⟩,fun⟨k,_⟩=>6-k,⟨⟨0,by simpa using hX2⟩,ak ?_⟩,?_⟩
  ·repeat' first
    |fail
    |with_reducible exact True.intro
    |with_reducible exact rfl
    |with_reducible exact ah _
    |((conv=>whnf);with_reducible apply And.intro)
    |((conv=>whnf);with_reducible exact True.intro)
    |exact rfl
    |exact fun h=>h
    |exact ah _
   all_goals try (conv=>whnf)
  rintro⟨k,hk,hn⟩
  clear hX2;dsimp only
  by_cases hlt:k<6
  ·have d0:decide ((k:Int)<6)=true:=by simp only[kC];omega
   have eW:IntKind.i64.wrap ((k:Int)+1)=((k+1:Nat):Int):=by rw[aO (by omega) (by omega)];omega
   have hlt2:k<(Ir o).length:=by omega
   have hr:=cu dh (Ir o) k hlt2;rw[List.drop_eq_getElem_cons hlt2,List.all_cons] at hn;unfold cnt at hn;have hkl:k<((Ir o).map dh).length:=by rw[List.length_map];exact hlt2
   generalize (Ir o)[k]=x at *;simp only[dh] at hr;clear hb0 hb5 hb9 cF cM cP1 cP2 hZ;repeat' ((conv=>whnf);first|with_reducible apply aK|((with_reducible apply fk)<;>intro hc<;>try exact aM)|((refine⟨_,hr,?_⟩))|(((with_reducible apply And.intro);exact mg))|(((with_reducible apply And.intro);focus omega))|((with_reducible apply And.intro);exact aG)|fail)
   ·simp only[*,Bool.true_or,Bool.or_true,Bool.false_or,Bool.or_false,Bool.true_and,Bool.and_true,Bool.false_and,Bool.and_false,Bool.not_true,Bool.not_false,Bool.false_eq_true,↓reduceIte] at hn;subst hn;all_goals exact aL
   simp only[*,Bool.true_or,Bool.or_true,Bool.false_or,Bool.or_false,Bool.true_and,Bool.and_true,Bool.false_and,Bool.and_false,Bool.not_true,Bool.not_false,Bool.false_eq_true,↓reduceIte] at hn;refine⟨⟨k+1,hlt,hn⟩,dec_lt hlt,ak ?_⟩;repeat' first|((conv=>whnf);with_reducible apply And.intro)|exact aL|fail
   all_goals try (conv=>whnf)
   all_goals exact eW
  have hke:k=6:=by omega
  subst hke;have d0:decide (((6:Nat):Int)<6)=false:=by decide
  have hn:X=Z:=by rw[hn];rfl
  subst hn;clear hlt;subst hb0;subst hb5;subst hb9;clear hn d0 h6 hk hbare;have ePl:((o.from_.node==o.nD.node)&&(o.from_.dB==o.nD.dB))=(o.from_==o.nD):=Pl.beq _ _;rw[←ePl] at hZ;clear ePl;repeat' ((conv=>whnf);first|with_reducible apply aK|((with_reducible apply fk)<;>intro hc<;>try exact aM)|(apply aC;(conv=>whnf);refine⟨_,cP1,?_⟩)|(apply aC;(conv=>whnf);refine⟨_,cP2,?_⟩)|(apply aC;(conv=>whnf);refine⟨_,cF,?_⟩)|(apply aC;(conv=>whnf);refine⟨_,cM,?_⟩)|((with_reducible apply And.intro);exact aG)|fail)
  all_goals
   clear cF cM cP1 cP2;simp only[*,Bool.true_or,Bool.or_true,Bool.false_or,Bool.or_false,Bool.true_and,Bool.and_true,Bool.false_and,Bool.and_false,Bool.not_true,Bool.not_false,Bool.false_eq_true,↓reduceIte] at hZ;subst hZ;all_goals exact aL
 have hX:xZ o=false:=by
  unfold xZ;rw[Bool.and_eq_false_iff,Bool.and_eq_false_iff];left
  by_cases h1:1≤o.kind
  ·right;simp;omega
  left;simp[h1]
 rw[hX];have nG:=YC o.kind (by omega);clear hX hr hb hs hl;refine bN OV ?_;repeat' ((conv=>whnf);first|with_reducible apply aK|((with_reducible apply fk)<;>intro hc<;>try exact aM)|(apply aC;(conv=>whnf);refine⟨_,nG,?_⟩)|((with_reducible apply And.intro);exact aG)|fail)
 all_goals exact aL
end Go.Proofs.YtiagceoepkaeoaaGreat.Tb
end
