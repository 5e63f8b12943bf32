/-
  Contracts of functions of the program and of the document, each for every input that its premises name.
-/
import Derived.Test.YtfoiekbkkbnpkaaGreatBe
import Derived.Test.YtfoiekbkkbnpkaaGreatAf
import Derived.Test.YtfoiekbkkbnpkaaGreatBb
set_option linter.unusedSectionVars false
set_option linter.unusedVariables false
set_option linter.unusedSimpArgs false
set_option maxRecDepth 100000
set_option maxHeartbeats 4000000
section
open Go Go.Proofs.Tryz Go.AX
namespace Go.Proofs.YtfoiekbkkbnpkaaGreat.Tb
structure Hd6 (p:Prop):Prop where
 h:p
section
variable (x:Rv)(now:Int)(known:List Pl)(hsm:x.sm)(hk:known.length≤1000)(cO:0≤now∧now≤18446744073709551615)(hsi:0≤x.since∧x.since≤18446744073709551615)(uJ:0≤x.born∧x.born≤18446744073709551615)(fq:aY x.af)(hn:0≤x.n∧x.n≤1000)(hw:(aj x).length≤1000)(p3:(x.phase==3)=true)
include hsm hk cO hsi uJ fq hn hw p3
theorem Az (g1:dY now x.born 9=true)(Y:Rv)(O:List Rq)(S:(decide ((({ x with bad:=aB (fun p=>!x.has.any (· == p)) x.bad (aj x),born:=now }:Rv).bad.length:Int)>0)=false∧dY now x.since 3=false∧Y=({ x with bad:=aB (fun p=>!x.has.any (· == p)) x.bad (aj x),born:=now }:Rv)∧O=[])∨(decide ((({ x with bad:=aB (fun p=>!x.has.any (· == p)) x.bad (aj x),born:=now }:Rv).bad.length:Int)>0)=false∧dY now x.since 3=true∧Y=({ ({ x with bad:=aB (fun p=>!x.has.any (· == p)) x.bad (aj x),born:=now }:Rv) with since:=now }:Rv)∧O=aU ({ x with bad:=aB (fun p=>!x.has.any (· == p)) x.bad (aj x),born:=now }:Rv) (aj ({ x with bad:=aB (fun p=>!x.has.any (· == p)) x.bad (aj x),born:=now }:Rv)))∨(decide ((({ x with bad:=aB (fun p=>!x.has.any (· == p)) x.bad (aj x),born:=now }:Rv).bad.length:Int)>0)=true∧dY now x.since 3=false∧dX prog 142 [.ptr 1 0,.pv (av known)] [(1,.var (({ x with bad:=aB (fun p=>!x.has.any (· == p)) x.bad (aj x),born:=now }:Rv).v (.pv (av x.heard)) (.pv (av x.none)) (.pv (av x.has)) (.aO 2 0) (.aO 3 0) (.pv (.sc (.slice none 0 0))))),(2,.arr 48 0 2 (x.af.map Fr.c)),(3,.arr 27 0 2 (({ x with bad:=aB (fun p=>!x.has.any (· == p)) x.bad (aj x),born:=now }:Rv).bad.map Pl.c))] (.pv (bl false)) [(1,.var (({ ({ x with bad:=aB (fun p=>!x.has.any (· == p)) x.bad (aj x),born:=now }:Rv) with bad:=[] }:Rv).v (.pv (av x.heard)) (.pv (av x.none)) (.pv (av x.has)) (.aO 2 0) (.pv (av [])) (.pv (.sc (.slice none 0 0))))),(2,.arr 48 0 2 (x.af.map Fr.c)),(3,.d9 0 2 (({ x with bad:=aB (fun p=>!x.has.any (· == p)) x.bad (aj x),born:=now }:Rv).bad.map Pl.c))]∧Y=({ ({ x with bad:=aB (fun p=>!x.has.any (· == p)) x.bad (aj x),born:=now }:Rv) with bad:=[] }:Rv)∧O=[])∨(decide ((({ x with bad:=aB (fun p=>!x.has.any (· == p)) x.bad (aj x),born:=now }:Rv).bad.length:Int)>0)=true∧dY now x.since 3=true∧dX prog 142 [.ptr 1 0,.pv (av known)] [(1,.var (({ x with bad:=aB (fun p=>!x.has.any (· == p)) x.bad (aj x),born:=now }:Rv).v (.pv (av x.heard)) (.pv (av x.none)) (.pv (av x.has)) (.aO 2 0) (.aO 3 0) (.pv (.sc (.slice none 0 0))))),(2,.arr 48 0 2 (x.af.map Fr.c)),(3,.arr 27 0 2 (({ x with bad:=aB (fun p=>!x.has.any (· == p)) x.bad (aj x),born:=now }:Rv).bad.map Pl.c))] (.pv (bl false)) [(1,.var (({ ({ x with bad:=aB (fun p=>!x.has.any (· == p)) x.bad (aj x),born:=now }:Rv) with bad:=[] }:Rv).v (.pv (av x.heard)) (.pv (av x.none)) (.pv (av x.has)) (.aO 2 0) (.pv (av [])) (.pv (.sc (.slice none 0 0))))),(2,.arr 48 0 2 (x.af.map Fr.c)),(3,.d9 0 2 (({ x with bad:=aB (fun p=>!x.has.any (· == p)) x.bad (aj x),born:=now }:Rv).bad.map Pl.c))]∧Y=({ ({ x with bad:=aB (fun p=>!x.has.any (· == p)) x.bad (aj x),born:=now }:Rv) with bad:=[],since:=now }:Rv)∧O=aU ({ ({ x with bad:=aB (fun p=>!x.has.any (· == p)) x.bad (aj x),born:=now }:Rv) with bad:=[] }:Rv) (aj ({ ({ x with bad:=aB (fun p=>!x.has.any (· == p)) x.bad (aj x),born:=now }:Rv) with bad:=[] }:Rv)))∨(decide ((({ x with bad:=aB (fun p=>!x.has.any (· == p)) x.bad (aj x),born:=now }:Rv).bad.length:Int)>0)=true∧∃J,aY J∧dX prog 142 [.ptr 1 0,.pv (av known)] [(1,.var (({ x with bad:=aB (fun p=>!x.has.any (· == p)) x.bad (aj x),born:=now }:Rv).v (.pv (av x.heard)) (.pv (av x.none)) (.pv (av x.has)) (.aO 2 0) (.aO 3 0) (.pv (.sc (.slice none 0 0))))),(2,.arr 48 0 2 (x.af.map Fr.c)),(3,.arr 27 0 2 (({ x with bad:=aB (fun p=>!x.has.any (· == p)) x.bad (aj x),born:=now }:Rv).bad.map Pl.c))] (.pv (bl true)) [(1,.var (({ ({ x with bad:=aB (fun p=>!x.has.any (· == p)) x.bad (aj x),born:=now }:Rv) with bad:=[],af:=J }:Rv).v (.pv (av x.heard)) (.pv (av x.none)) (.pv (av x.has)) (.aO 1001 0) (.pv (av [])) (.pv (.sc (.slice none 0 0))))),(1001,.arr 48 0 2 (J.map Fr.c)),(2,.d9 1 2 []),(3,.d9 0 2 (({ x with bad:=aB (fun p=>!x.has.any (· == p)) x.bad (aj x),born:=now }:Rv).bad.map Pl.c))]∧(setOf J x.l.w x.n).length≤1000∧aY x.l.af∧(∀n,(setOf x.l.af x.l.w n).length≤1000000)∧Y=(aZ ({ ({ x with bad:=aB (fun p=>!x.has.any (· == p)) x.bad (aj x),born:=now }:Rv) with bad:=[],af:=J,phase:=3,born:=now,since:=now }:Rv) now).1∧O=aU ({ ({ x with bad:=aB (fun p=>!x.has.any (· == p)) x.bad (aj x),born:=now }:Rv) with bad:=[],af:=J,phase:=3,born:=now,since:=now }:Rv) (aj ({ ({ x with bad:=aB (fun p=>!x.has.any (· == p)) x.bad (aj x),born:=now }:Rv) with bad:=[],af:=J,phase:=3,born:=now,since:=now }:Rv))++(aZ ({ ({ x with bad:=aB (fun p=>!x.has.any (· == p)) x.bad (aj x),born:=now }:Rv) with bad:=[],af:=J,phase:=3,born:=now,since:=now }:Rv) now).2)) :
  dF prog 92 [.agg x.c,uu now,av known] (.cK [.agg Y.c,kH O]):=by
 refine PC.le ?_;have p4:(x.phase != 4)=true:=by
  have:x.phase=3:=by simpa using p3
  rw[this];rfl
 have ah:=kU now x.born 9 cO uJ;have Q:=kU now x.since 3 cO hsi;rw[g1] at ah;have am:=xk x hsm;have ax:=RB x fq (by have:=hsm.f2.1;omega) (by omega);have a0:=hsm.ba;have G:=hsm.bo;have hB:Hd6 (aY x.af∧(0≤x.n∧x.n≤1000)∧x.body.length≤1000000∧(aj x).length≤1000∧((decide ((({ x with bad:=aB (fun p=>!x.has.any (· == p)) x.bad (aj x),born:=now }:Rv).bad.length:Int)>0)=false∧dY now x.since 3=false∧Y=({ x with bad:=aB (fun p=>!x.has.any (· == p)) x.bad (aj x),born:=now }:Rv)∧O=[])∨(decide ((({ x with bad:=aB (fun p=>!x.has.any (· == p)) x.bad (aj x),born:=now }:Rv).bad.length:Int)>0)=false∧dY now x.since 3=true∧Y=({ ({ x with bad:=aB (fun p=>!x.has.any (· == p)) x.bad (aj x),born:=now }:Rv) with since:=now }:Rv)∧O=aU ({ x with bad:=aB (fun p=>!x.has.any (· == p)) x.bad (aj x),born:=now }:Rv) (aj ({ x with bad:=aB (fun p=>!x.has.any (· == p)) x.bad (aj x),born:=now }:Rv)))∨(decide ((({ x with bad:=aB (fun p=>!x.has.any (· == p)) x.bad (aj x),born:=now }:Rv).bad.length:Int)>0)=true∧dY now x.since 3=false∧dX prog 142 [.ptr 1 0,.pv (av known)] [(1,.var (({ x with bad:=aB (fun p=>!x.has.any (· == p)) x.bad (aj x),born:=now }:Rv).v (.pv (av x.heard)) (.pv (av x.none)) (.pv (av x.has)) (.aO 2 0) (.aO 3 0) (.pv (.sc (.slice none 0 0))))),(2,.arr 48 0 2 (x.af.map Fr.c)),(3,.arr 27 0 2 (({ x with bad:=aB (fun p=>!x.has.any (· == p)) x.bad (aj x),born:=now }:Rv).bad.map Pl.c))] (.pv (bl false)) [(1,.var (({ ({ x with bad:=aB (fun p=>!x.has.any (· == p)) x.bad (aj x),born:=now }:Rv) with bad:=[] }:Rv).v (.pv (av x.heard)) (.pv (av x.none)) (.pv (av x.has)) (.aO 2 0) (.pv (av [])) (.pv (.sc (.slice none 0 0))))),(2,.arr 48 0 2 (x.af.map Fr.c)),(3,.d9 0 2 (({ x with bad:=aB (fun p=>!x.has.any (· == p)) x.bad (aj x),born:=now }:Rv).bad.map Pl.c))]∧Y=({ ({ x with bad:=aB (fun p=>!x.has.any (· == p)) x.bad (aj x),born:=now }:Rv) with bad:=[] }:Rv)∧O=[])∨(decide ((({ x with bad:=aB (fun p=>!x.has.any (· == p)) x.bad (aj x),born:=now }:Rv).bad.length:Int)>0)=true∧dY now x.since 3=true∧dX prog 142 [.ptr 1 0,.pv (av known)] [(1,.var (({ x with bad:=aB (fun p=>!x.has.any (· == p)) x.bad (aj x),born:=now }:Rv).v (.pv (av x.heard)) (.pv (av x.none)) (.pv (av x.has)) (.aO 2 0) (.aO 3 0) (.pv (.sc (.slice none 0 0))))),(2,.arr 48 0 2 (x.af.map Fr.c)),(3,.arr 27 0 2 (({ x with bad:=aB (fun p=>!x.has.any (· == p)) x.bad (aj x),born:=now }:Rv).bad.map Pl.c))] (.pv (bl false)) [(1,.var (({ ({ x with bad:=aB (fun p=>!x.has.any (· == p)) x.bad (aj x),born:=now }:Rv) with bad:=[] }:Rv).v (.pv (av x.heard)) (.pv (av x.none)) (.pv (av x.has)) (.aO 2 0) (.pv (av [])) (.pv (.sc (.slice none 0 0))))),(2,.arr 48 0 2 (x.af.map Fr.c)),(3,.d9 0 2 (({ x with bad:=aB (fun p=>!x.has.any (· == p)) x.bad (aj x),born:=now }:Rv).bad.map Pl.c))]∧Y=({ ({ x with bad:=aB (fun p=>!x.has.any (· == p)) x.bad (aj x),born:=now }:Rv) with bad:=[],since:=now }:Rv)∧O=aU ({ ({ x with bad:=aB (fun p=>!x.has.any (· == p)) x.bad (aj x),born:=now }:Rv) with bad:=[] }:Rv) (aj ({ ({ x with bad:=aB (fun p=>!x.has.any (· == p)) x.bad (aj x),born:=now }:Rv) with bad:=[] }:Rv)))∨(decide ((({ x with bad:=aB (fun p=>!x.has.any (· == p)) x.bad (aj x),born:=now }:Rv).bad.length:Int)>0)=true∧∃J,aY J∧dX prog 142 [.ptr 1 0,.pv (av known)] [(1,.var (({ x with bad:=aB (fun p=>!x.has.any (· == p)) x.bad (aj x),born:=now }:Rv).v (.pv (av x.heard)) (.pv (av x.none)) (.pv (av x.has)) (.aO 2 0) (.aO 3 0) (.pv (.sc (.slice none 0 0))))),(2,.arr 48 0 2 (x.af.map Fr.c)),(3,.arr 27 0 2 (({ x with bad:=aB (fun p=>!x.has.any (· == p)) x.bad (aj x),born:=now }:Rv).bad.map Pl.c))] (.pv (bl true)) [(1,.var (({ ({ x with bad:=aB (fun p=>!x.has.any (· == p)) x.bad (aj x),born:=now }:Rv) with bad:=[],af:=J }:Rv).v (.pv (av x.heard)) (.pv (av x.none)) (.pv (av x.has)) (.aO 1001 0) (.pv (av [])) (.pv (.sc (.slice none 0 0))))),(1001,.arr 48 0 2 (J.map Fr.c)),(2,.d9 1 2 []),(3,.d9 0 2 (({ x with bad:=aB (fun p=>!x.has.any (· == p)) x.bad (aj x),born:=now }:Rv).bad.map Pl.c))]∧(setOf J x.l.w x.n).length≤1000∧aY x.l.af∧(∀n,(setOf x.l.af x.l.w n).length≤1000000)∧Y=(aZ ({ ({ x with bad:=aB (fun p=>!x.has.any (· == p)) x.bad (aj x),born:=now }:Rv) with bad:=[],af:=J,phase:=3,born:=now,since:=now }:Rv) now).1∧O=aU ({ ({ x with bad:=aB (fun p=>!x.has.any (· == p)) x.bad (aj x),born:=now }:Rv) with bad:=[],af:=J,phase:=3,born:=now,since:=now }:Rv) (aj ({ ({ x with bad:=aB (fun p=>!x.has.any (· == p)) x.bad (aj x),born:=now }:Rv) with bad:=[],af:=J,phase:=3,born:=now,since:=now }:Rv))++(aZ ({ ({ x with bad:=aB (fun p=>!x.has.any (· == p)) x.bad (aj x),born:=now }:Rv) with bad:=[],af:=J,phase:=3,born:=now,since:=now }:Rv) now).2))):=⟨fq,hn,G,hw,S⟩
 clear S hsm hk cO hsi uJ fq hn G g1;obtain⟨K,ai⟩:∃K,K=aj x:=⟨_,rfl⟩;rw[←ai] at ax hw;refine dQ jO ?_;repeat' ((conv=>whnf);first|(with_reducible first|apply aM|apply fk<;>intro hc<;>try exact aV)|refine eF am ?_|refine eT ah ?_|refine eF ax ?_|refine aK ?_|fail)
 refine⟨{k:Nat // k≤K.length},fun⟨k,_⟩=>⟨[(1,.pv (uu now)),(2,.pv (av known)),(6,.ptr 1006 0),(8,.ptr 1008 0),(29,.pv (av K)),(30,.pv (ii K.length)),(31,.pv (ii k))],1000000000,[(1006,.var Rv.z),(1008,.var (({ x with bad:=aB (fun p=>!x.has.any (· == p)) x.bad (K.take k) }:Rv).v (.pv (av x.heard)) (.pv (av x.none)) (.pv (av x.has)) (.aO 1002 0) (.aO 1003 0) (.pv (.sc (.slice none 0 0))))),(1002,.arr 48 0 2 (x.af.map Fr.c)),(1003,.arr 27 0 2 ((aB (fun p=>!x.has.any (· == p)) x.bad (K.take k)).map Pl.c))]⟩,fun⟨k,_⟩=>K.length-k,⟨⟨0,Nat.zero_le _⟩,aD ?_⟩,?_⟩
 ·repeat' first|apply And.intro|exact aJ|fail
  all_goals try (conv=>whnf)
  all_goals simp
 rintro⟨k,hk⟩
 by_cases aa:k<K.length
 ·clear hB ai;have d0:decide ((k:Int)<(K.length:Int))=true:=by simp only[iG];omega
  have eW:IntKind.i64.wrap ((k:Int)+1)=((k+1:Nat):Int):=by rw[bF (by omega) (by omega)];omega
  have hq:=qM (fun p=>!x.has.any (· == p)) x.bad K k aa;have ak:=kg (fun p=>!x.has.any (· == p)) (K.take k) x.bad;rw[List.length_take] at ak;dsimp only
  obtain⟨bd,al⟩:∃bd,aB (fun p=>!x.has.any (· == p)) x.bad (K.take k)=bd:=⟨_,rfl⟩;rw[al] at hq ak ⊢;clear al;have ad:=aA x.has K[k].node K[k].aH;have ae:=aA bd K[k].node K[k].aH;rw[show (x.has.any fun y=>y==(⟨K[k].node,K[k].aH⟩:Pl))=x.has.any (· == K[k]) from rfl] at ad;rw[show (bd.any fun y=>y==(⟨K[k].node,K[k].aH⟩:Pl))=bd.any (· == K[k]) from rfl] at ae;obtain⟨q1,ao⟩:∃q,x.has.any (· == K[k])=q:=⟨_,rfl⟩;obtain⟨q2,ap⟩:∃q,bd.any (· == K[k])=q:=⟨_,rfl⟩;rw[ao] at ad hq;rw[ap] at ae hq;clear ao ap ah Q;cases q1<;>cases q2<;>simp only[Bool.not_true,Bool.not_false,Bool.and_self,Bool.and_false,Bool.false_and,Bool.false_eq_true,↓reduceIte] at hq
  all_goals
   repeat' ((conv=>whnf);first|(with_reducible first|apply aM|apply fk<;>intro hc<;>try exact aV)|((refine⟨_,dR _ _ _ aa,?_⟩))|refine eT ad ?_|refine eT ae ?_|(((with_reducible apply And.intro);focus (simp only[fG,jo,jq];omega)))|refine aK ?_|fail)
  all_goals
   refine⟨⟨k+1,aa⟩,dec_lt aa,aD ?_⟩;simp only[hq];repeat' first|apply And.intro|exact aJ|fail
   all_goals try (conv=>whnf)
  all_goals first
   |exact eW
   | (rw[List.map_append]
      refine bW (ay _) ?_
      (repeat' first|apply And.intro|exact aJ|fail);(all_goals try (conv=>whnf)))
 have a1:k=K.length:=by omega
 subst a1;have d0:decide ((K.length:Int)<(K.length:Int))=false:=by simp
 dsimp only
 rw[List.take_length];clear hk aa hw a0;subst ai;obtain⟨⟨fq,hn,G,hw,S⟩⟩:=hB;rcases S with ⟨X,g2,rfl,rfl⟩|⟨X,g2,rfl,rfl⟩|⟨X,g2,iE,rfl,rfl⟩|⟨X,g2,iE,rfl,rfl⟩|⟨X,J,ag,iE,aw,hf,hs,rfl,rfl⟩
 ·rw[g2] at Q;have eb:decide (((List.map Pl.c ({ x with bad:=aB (fun p=>!x.has.any (· == p)) x.bad (aj x),born:=now }:Rv).bad).length:Int)>0)=false:=by rw[List.length_map];exact X
  simp only at eb;clear X;clear fq hn hw G g2;repeat' ((conv=>whnf);first|(with_reducible first|apply aM|apply fk<;>intro hc<;>try exact aV)|refine eT Q ?_|refine aK ?_|fail)
  all_goals
   all_goals exact aJ
 ·rw[g2] at Q;have eb:decide (((List.map Pl.c ({ x with bad:=aB (fun p=>!x.has.any (· == p)) x.bad (aj x),born:=now }:Rv).bad).length:Int)>0)=false:=by rw[List.length_map];exact X
  simp only at eb;clear X;have V:=GI ({ x with bad:=aB (fun p=>!x.has.any (· == p)) x.bad (aj x),born:=now }:Rv) now (by simpa using p3) fq (by show 0≤x.n∧x.n≤18446744073709551615;omega) (by show (aj x).length≤1000000;omega) G;clear fq hn hw G g2;repeat' ((conv=>whnf);first|(with_reducible first|apply aM|apply fk<;>intro hc<;>try exact aV)|refine eT Q ?_|refine eF V ?_|refine aK ?_|fail)
  all_goals
   all_goals exact aJ
 ·rw[g2] at Q;have eb:decide (((List.map Pl.c ({ x with bad:=aB (fun p=>!x.has.any (· == p)) x.bad (aj x),born:=now }:Rv).bad).length:Int)>0)=true:=by rw[List.length_map];exact X
  simp only at eb;clear X;clear fq hn hw G g2;repeat' ((conv=>whnf);first|(with_reducible first|apply aM|apply fk<;>intro hc<;>try exact aV)|refine eT Q ?_|refine eF iE ?_|refine aK ?_|fail)
  all_goals
   all_goals exact aJ
 ·rw[g2] at Q;have eb:decide (((List.map Pl.c ({ x with bad:=aB (fun p=>!x.has.any (· == p)) x.bad (aj x),born:=now }:Rv).bad).length:Int)>0)=true:=by rw[List.length_map];exact X
  simp only at eb;clear X;have V:=xq ({ ({ x with bad:=aB (fun p=>!x.has.any (· == p)) x.bad (aj x),born:=now }:Rv) with bad:=[] }:Rv) now (by simpa using p3) fq (by show 0≤x.n∧x.n≤18446744073709551615;omega) (by show (aj x).length≤1000000;omega) G;clear fq hn hw G g2;repeat' ((conv=>whnf);first|(with_reducible first|apply aM|apply fk<;>intro hc<;>try exact aV)|refine eT Q ?_|refine eF iE ?_|refine eF V ?_|refine aK ?_|fail)
  all_goals
   all_goals exact aJ
 have V:=xq ({ ({ x with bad:=aB (fun p=>!x.has.any (· == p)) x.bad (aj x),born:=now }:Rv) with bad:=[],af:=J,phase:=3,born:=now }:Rv) now rfl ag (by show 0≤x.n∧x.n≤18446744073709551615;omega) (by show (setOf J x.l.w x.n).length≤1000000;omega) G;have aq:(aU ({ ({ x with bad:=aB (fun p=>!x.has.any (· == p)) x.bad (aj x),born:=now }:Rv) with bad:=[],af:=J,phase:=3,born:=now,since:=now }:Rv) (aj ({ ({ x with bad:=aB (fun p=>!x.has.any (· == p)) x.bad (aj x),born:=now }:Rv) with bad:=[],af:=J,phase:=3,born:=now,since:=now }:Rv))).length≤1000:=by
  unfold aU;rw[List.length_map];exact Nat.le_trans (List.length_filter_le _ _) aw
 have Wn:=JQ ({ ({ x with bad:=aB (fun p=>!x.has.any (· == p)) x.bad (aj x),born:=now }:Rv) with bad:=[],af:=J,phase:=3,born:=now,since:=now }:Rv) (aU ({ ({ x with bad:=aB (fun p=>!x.has.any (· == p)) x.bad (aj x),born:=now }:Rv) with bad:=[],af:=J,phase:=3,born:=now,since:=now }:Rv) (aj ({ ({ x with bad:=aB (fun p=>!x.has.any (· == p)) x.bad (aj x),born:=now }:Rv) with bad:=[],af:=J,phase:=3,born:=now,since:=now }:Rv))) now aq ag hn hf hs;obtain⟨u,hu⟩:∃u,aZ ({ ({ x with bad:=aB (fun p=>!x.has.any (· == p)) x.bad (aj x),born:=now }:Rv) with bad:=[],af:=J,phase:=3,born:=now,since:=now }:Rv) now=u:=⟨_,rfl⟩;have az:u.1.af=J:=by rw[←hu];exact xQ _ _
 rw[hu] at Wn ⊢;have V:dX _ _ _ _ _ [(1,.var (({ ({ x with bad:=aB (fun p=>!x.has.any (· == p)) x.bad (aj x),born:=now }:Rv) with bad:=[],af:=J,phase:=3,born:=now,since:=now }:Rv).v (.pv (av x.heard)) (.pv (av x.none)) (.pv (av x.has)) (.aO 2 0) (.pv (av [])) (.aO 1001 0))),(2,.d9 0 2 (J.map Fr.c)),(1001,.arr 93 0 10 ((aU ({ ({ x with bad:=aB (fun p=>!x.has.any (· == p)) x.bad (aj x),born:=now }:Rv) with bad:=[],af:=J,phase:=3,born:=now,since:=now }:Rv) (aj ({ ({ x with bad:=aB (fun p=>!x.has.any (· == p)) x.bad (aj x),born:=now }:Rv) with bad:=[],af:=J,phase:=3,born:=now,since:=now }:Rv))).map Rq.c))]:=V;obtain⟨qq,ar⟩:∃qq,aU ({ ({ x with bad:=aB (fun p=>!x.has.any (· == p)) x.bad (aj x),born:=now }:Rv) with bad:=[],af:=J,phase:=3,born:=now,since:=now }:Rv) (aj ({ ({ x with bad:=aB (fun p=>!x.has.any (· == p)) x.bad (aj x),born:=now }:Rv) with bad:=[],af:=J,phase:=3,born:=now,since:=now }:Rv))=qq:=⟨_,rfl⟩;rw[ar] at V Wn ⊢;have eb:decide (((List.map Pl.c ({ x with bad:=aB (fun p=>!x.has.any (· == p)) x.bad (aj x),born:=now }:Rv).bad).length:Int)>0)=true:=by rw[List.length_map];exact X
 simp only at eb;clear X;clear hu ar aq G aw hf hs ag fq hn hw;repeat' ((conv=>whnf);first|(with_reducible first|apply aM|apply fk<;>intro hc<;>try exact aV)|refine eT Q ?_|refine eF iE ?_|(refine Or.inr ?_;(conv=>whnf);refine⟨_,bY bV (bZ mixed bV) jN rfl ?_,fun _ _ h=>h⟩)|refine eF V ?_|refine eF Wn ?_|refine aK ?_|fail)
 all_goals
  repeat' first|apply And.intro|exact aJ|fail
  all_goals try (conv=>whnf)
 all_goals (rw[az];exact ay _)
theorem aa9 (G:dY now x.born 9=true)(K:decide ((({ x with bad:=aB (fun p=>!x.has.any (· == p)) x.bad (aj x),born:=now }:Rv).bad.length:Int)>0)=false)(J:dY now x.since 3=false):dF prog 92 [.agg x.c,uu now,av known] (.cK [.agg ({ x with bad:=aB (fun p=>!x.has.any (· == p)) x.bad (aj x),born:=now }:Rv).c,kH []]):=Az x now known hsm hk cO hsi uJ fq hn hw p3 G _ _ (.inl ⟨K,J,rfl,rfl⟩)
theorem abb (G:dY now x.born 9=true)(K:decide ((({ x with bad:=aB (fun p=>!x.has.any (· == p)) x.bad (aj x),born:=now }:Rv).bad.length:Int)>0)=false)(J:dY now x.since 3=true):dF prog 92 [.agg x.c,uu now,av known] (.cK [.agg ({ ({ x with bad:=aB (fun p=>!x.has.any (· == p)) x.bad (aj x),born:=now }:Rv) with since:=now }:Rv).c,kH (aU ({ x with bad:=aB (fun p=>!x.has.any (· == p)) x.bad (aj x),born:=now }:Rv) (aj ({ x with bad:=aB (fun p=>!x.has.any (· == p)) x.bad (aj x),born:=now }:Rv)))]):=Az x now known hsm hk cO hsi uJ fq hn hw p3 G _ _ (.inr (.inl ⟨K,J,rfl,rfl⟩))
theorem abd (G:dY now x.born 9=true)(Q:decide ((({ x with bad:=aB (fun p=>!x.has.any (· == p)) x.bad (aj x),born:=now }:Rv).bad.length:Int)>0)=true)(J:dY now x.since 3=false)(K:dX prog 142 [.ptr 1 0,.pv (av known)] [(1,.var (({ x with bad:=aB (fun p=>!x.has.any (· == p)) x.bad (aj x),born:=now }:Rv).v (.pv (av x.heard)) (.pv (av x.none)) (.pv (av x.has)) (.aO 2 0) (.aO 3 0) (.pv (.sc (.slice none 0 0))))),(2,.arr 48 0 2 (x.af.map Fr.c)),(3,.arr 27 0 2 (({ x with bad:=aB (fun p=>!x.has.any (· == p)) x.bad (aj x),born:=now }:Rv).bad.map Pl.c))] (.pv (bl false)) [(1,.var (({ ({ x with bad:=aB (fun p=>!x.has.any (· == p)) x.bad (aj x),born:=now }:Rv) with bad:=[] }:Rv).v (.pv (av x.heard)) (.pv (av x.none)) (.pv (av x.has)) (.aO 2 0) (.pv (av [])) (.pv (.sc (.slice none 0 0))))),(2,.arr 48 0 2 (x.af.map Fr.c)),(3,.d9 0 2 (({ x with bad:=aB (fun p=>!x.has.any (· == p)) x.bad (aj x),born:=now }:Rv).bad.map Pl.c))]):dF prog 92 [.agg x.c,uu now,av known] (.cK [.agg ({ ({ x with bad:=aB (fun p=>!x.has.any (· == p)) x.bad (aj x),born:=now }:Rv) with bad:=[] }:Rv).c,kH []]):=Az x now known hsm hk cO hsi uJ fq hn hw p3 G _ _ (.inr (.inr (.inl ⟨Q,J,K,rfl,rfl⟩)))
theorem abe (G:dY now x.born 9=true)(Q:decide ((({ x with bad:=aB (fun p=>!x.has.any (· == p)) x.bad (aj x),born:=now }:Rv).bad.length:Int)>0)=true)(J:dY now x.since 3=true)(K:dX prog 142 [.ptr 1 0,.pv (av known)] [(1,.var (({ x with bad:=aB (fun p=>!x.has.any (· == p)) x.bad (aj x),born:=now }:Rv).v (.pv (av x.heard)) (.pv (av x.none)) (.pv (av x.has)) (.aO 2 0) (.aO 3 0) (.pv (.sc (.slice none 0 0))))),(2,.arr 48 0 2 (x.af.map Fr.c)),(3,.arr 27 0 2 (({ x with bad:=aB (fun p=>!x.has.any (· == p)) x.bad (aj x),born:=now }:Rv).bad.map Pl.c))] (.pv (bl false)) [(1,.var (({ ({ x with bad:=aB (fun p=>!x.has.any (· == p)) x.bad (aj x),born:=now }:Rv) with bad:=[] }:Rv).v (.pv (av x.heard)) (.pv (av x.none)) (.pv (av x.has)) (.aO 2 0) (.pv (av [])) (.pv (.sc (.slice none 0 0))))),(2,.arr 48 0 2 (x.af.map Fr.c)),(3,.d9 0 2 (({ x with bad:=aB (fun p=>!x.has.any (· == p)) x.bad (aj x),born:=now }:Rv).bad.map Pl.c))]):dF prog 92 [.agg x.c,uu now,av known] (.cK [.agg ({ ({ x with bad:=aB (fun p=>!x.has.any (· == p)) x.bad (aj x),born:=now }:Rv) with bad:=[],since:=now }:Rv).c,kH (aU ({ ({ x with bad:=aB (fun p=>!x.has.any (· == p)) x.bad (aj x),born:=now }:Rv) with bad:=[] }:Rv) (aj ({ ({ x with bad:=aB (fun p=>!x.has.any (· == p)) x.bad (aj x),born:=now }:Rv) with bad:=[] }:Rv)))]):=Az x now known hsm hk cO hsi uJ fq hn hw p3 G _ _ (.inr (.inr (.inr (.inl ⟨Q,J,K,rfl,rfl⟩))))
theorem abf (Q:dY now x.born 9=true)(X:decide ((({ x with bad:=aB (fun p=>!x.has.any (· == p)) x.bad (aj x),born:=now }:Rv).bad.length:Int)>0)=true)(G:List Fr)(J:aY G)(V:dX prog 142 [.ptr 1 0,.pv (av known)] [(1,.var (({ x with bad:=aB (fun p=>!x.has.any (· == p)) x.bad (aj x),born:=now }:Rv).v (.pv (av x.heard)) (.pv (av x.none)) (.pv (av x.has)) (.aO 2 0) (.aO 3 0) (.pv (.sc (.slice none 0 0))))),(2,.arr 48 0 2 (x.af.map Fr.c)),(3,.arr 27 0 2 (({ x with bad:=aB (fun p=>!x.has.any (· == p)) x.bad (aj x),born:=now }:Rv).bad.map Pl.c))] (.pv (bl true)) [(1,.var (({ ({ x with bad:=aB (fun p=>!x.has.any (· == p)) x.bad (aj x),born:=now }:Rv) with bad:=[],af:=G }:Rv).v (.pv (av x.heard)) (.pv (av x.none)) (.pv (av x.has)) (.aO 1001 0) (.pv (av [])) (.pv (.sc (.slice none 0 0))))),(1001,.arr 48 0 2 (G.map Fr.c)),(2,.d9 1 2 []),(3,.d9 0 2 (({ x with bad:=aB (fun p=>!x.has.any (· == p)) x.bad (aj x),born:=now }:Rv).bad.map Pl.c))])(K:(setOf G x.l.w x.n).length≤1000)(S:aY x.l.af)(hs:∀n,(setOf x.l.af x.l.w n).length≤1000000):dF prog 92 [.agg x.c,uu now,av known] (.cK [.agg (aZ ({ ({ x with bad:=aB (fun p=>!x.has.any (· == p)) x.bad (aj x),born:=now }:Rv) with bad:=[],af:=G,phase:=3,born:=now,since:=now }:Rv) now).1.c,kH (aU ({ ({ x with bad:=aB (fun p=>!x.has.any (· == p)) x.bad (aj x),born:=now }:Rv) with bad:=[],af:=G,phase:=3,born:=now,since:=now }:Rv) (aj ({ ({ x with bad:=aB (fun p=>!x.has.any (· == p)) x.bad (aj x),born:=now }:Rv) with bad:=[],af:=G,phase:=3,born:=now,since:=now }:Rv))++(aZ ({ ({ x with bad:=aB (fun p=>!x.has.any (· == p)) x.bad (aj x),born:=now }:Rv) with bad:=[],af:=G,phase:=3,born:=now,since:=now }:Rv) now).2)]):=Az x now known hsm hk cO hsi uJ fq hn hw p3 Q _ _ (.inr (.inr (.inr (.inr ⟨X,G,J,V,K,S,hs,rfl,rfl⟩))))
end
section
variable (x:Rv)(now:Int)(known:List Pl)(h:x.big)(Tw:x.l.w≤5)(hf6:x.af.length≤6)(hf5:∀f∈x.af,f.ah.length≤5)(hn9:0≤x.n∧x.n≤9)(hk:known.length≤1000)(cO:0≤now∧now≤18446744073709551615)(hsi:0≤x.since∧x.since≤18446744073709551615)(uJ:0≤x.born∧x.born≤18446744073709551615)
include h Tw hf6 hf5 hn9 hk cO hsi uJ
theorem Lf (hp:x.phase=1∨x.phase=2∨x.phase=4) :
  dF prog 92 [.agg x.c,uu now,av known] (.cK [.agg (dJ x now known).1.c,kH (dJ x now known).2]):=by
 obtain⟨G,hf,fq,h0,hn,hs,hw,ha,Q,CZ⟩:=h;have J:(x.phase==3)=false:=by rcases hp with e|e|e<;>rw[e]<;>rfl
 have e0:iX x now=x:=by
  unfold iX;rw[if_neg (by rw[J];simp)]
 have e1:dJ x now known=if (x.phase != 4&&dY now x.since 3)=true then qz x now else (x,[]):=by
  unfold dJ;simp only[e0,J,Bool.false_and,Bool.false_eq_true,↓reduceIte]
 rw[e1];have X:(aS x).ah.length≤1000000:=by have:=G.f1.2 _ (rX h0);omega
 cases K:(x.phase != 4) with
 | false=>
   rw[if_neg (by simp)];exact aa0 x now known G hk cO hsi J K
 |true=>
 cases V:dY now x.since 3 with
 | false=>
   rw[if_neg (by simp)];exact aa1 x now known G hk cO hsi J K V
 | true=>
   rw[if_pos (by simp)];rcases hp with e|e|e
   ·have S:qz x now=({ x with since:=now },ic x (aS x).ah):=by
     unfold qz;rw[if_pos (by rw[e];rfl)]
    rw[S];exact aa2 x now known G hk cO hsi J K V e h0 G.f1.1 X
   ·have S:qz x now=({ x with since:=now },gF x (aC x)):=by
     unfold qz;rw[if_neg (by rw[e];decide),if_pos (by rw[e];rfl)]
    rw[S];exact aa3 x now known G hk cO hsi J K V e hf (by omega) (Nat.le_trans (Q x.n) (by decide))
   rw[e] at K;exact absurd K (by decide)
theorem abh (p3:(x.phase==3)=true)(g1:dY now x.born 9=false) :
  dF prog 92 [.agg x.c,uu now,av known] (.cK [.agg (dJ x now known).1.c,kH (dJ x now known).2]):=by
 obtain⟨X,hf,fq,h0,hn,hs,hw,ha,ak,CZ⟩:=h;have aa:(aj x).length≤1000:=CZ x.n;have aw:x.phase=3:=by simpa using p3
 have am:iX x now=x:=by
  unfold iX;rw[p3,g1];rfl
 obtain⟨y,e0⟩:∃y:Rv,iX x now=y:=⟨_,rfl⟩;have hy:y=x:=e0.symm.trans am;have az:y.l=x.l:=by rw[hy]
 have Wo:y.af=x.af:=by rw[hy]
 have al:y.n=x.n:=by rw[hy]
 have hyp:y.phase=3:=by rw[hy];exact aw
 have ad:y.since=x.since:=by rw[hy]
 have q1:(y.phase==1)=false:=by rw[hyp];rfl
 have q2:(y.phase==2)=false:=by rw[hyp];rfl
 have q3:(y.phase==3)=true:=by rw[hyp];rfl
 have q4:(y.phase != 4)=true:=by rw[hyp];rfl
 have aq:∀n,(setOf x.l.af x.l.w n).length≤1000000:=fun n=>Nat.le_trans (ak n) (by decide)
 have er:∀z:Rv,z.phase=3→qz z now=({ z with since:=now },aU z (aj z)):=by
  intro z hz;unfold qz;rw[if_neg (by rw[hz];decide),if_neg (by rw[hz];decide),if_pos (by rw[hz];rfl)]
 cases K:decide ((y.bad.length:Int)>0) with
 | false=>
   cases g2:dY now x.since 3 with
   | false=>
     have e1:dJ x now known=(y,[]):=by
      unfold dJ;simp only[e0,q3,q4,K,ad,g2,Bool.and_false,Bool.false_eq_true,↓reduceIte]
     rw[e1];rw[hy] at K ⊢;exact aa4 x now known X hk cO hsi uJ fq hn aa p3 g1 K g2
   | true=>
     have e1:dJ x now known=({ y with since:=now },aU y (aj y)):=by
      unfold dJ;simp only[e0,q3,q4,K,ad,g2,er y hyp,Bool.and_false,Bool.and_self,Bool.false_eq_true,↓reduceIte]
     rw[e1];rw[hy] at K ⊢;exact aa5 x now known X hk cO hsi uJ fq hn aa p3 g1 K g2
 | true=>
   have Lh:y.af.length≤1000:=by rw[Wo];omega
   have Li:∀f∈y.af,f.ah.length≤1000:=by rw[Wo];intro f hf;have:=hf5 f hf;omega
   have Ci:aY y.af:=by rw[Wo];exact fq
   have ag:dH y known=({ y with bad:=[] },false)→(∀(a:Unit),dX prog 142 [.ptr 1 0,.pv (av known)] [(1,.var (y.v (.pv (av y.heard)) (.pv (av y.none)) (.pv (av y.has)) (.aO 2 0) (.aO 3 0) (.pv (.sc (.slice none 0 0))))),(2,.arr 48 0 2 (y.af.map Fr.c)),(3,.arr 27 0 2 (y.bad.map Pl.c))] (.pv (bl false))
    [(1,.var (({ y with bad:=[] }:Rv).v (.pv (av y.heard)) (.pv (av y.none)) (.pv (av y.has)) (.aO 2 0) (.pv (av [])) (.pv (.sc (.slice none 0 0))))),(2,.arr 48 0 2 (y.af.map Fr.c)),(3,.d9 0 2 (y.bad.map Pl.c))]) →
    dF prog 92 [.agg x.c,uu now,av known] (.cK [.agg (dJ x now known).1.c,kH (dJ x now known).2]):=by
    intro hr Q;cases g2:dY now x.since 3 with
    | false=>
      have e1:dJ x now known=({ y with bad:=[] },[]):=by
       unfold dJ;simp only[e0,q3,K,ad,g2,hr,Bool.and_self,Bool.false_eq_true,↓reduceIte]
      rw[e1];have Q:=Q ();rw[hy] at K Q ⊢;exact aa6 x now known X hk cO hsi uJ fq hn aa p3 g1 K g2 Q
    | true=>
      have e1:dJ x now known=({ y with bad:=[],since:=now },aU { y with bad:=[] } (aj { y with bad:=[] })):=by
       unfold dJ;simp only[e0,q3,K,ad,g2,hr,Bool.and_self,Bool.false_eq_true,↓reduceIte];exact er _ hyp
      rw[e1];have Q:=Q ();rw[hy] at K Q ⊢;exact aa7 x now known X hk cO hsi uJ fq hn aa p3 g1 K g2 Q
   have ai:∀S:List Fr,aY S→dH y known=({ y with bad:=[],af:=S },true)→(∀(a:Unit),dX prog 142 [.ptr 1 0,.pv (av known)] [(1,.var (y.v (.pv (av y.heard)) (.pv (av y.none)) (.pv (av y.has)) (.aO 2 0) (.aO 3 0) (.pv (.sc (.slice none 0 0))))),(2,.arr 48 0 2 (y.af.map Fr.c)),(3,.arr 27 0 2 (y.bad.map Pl.c))] (.pv (bl true))
    [(1,.var (({ y with bad:=[],af:=S }:Rv).v (.pv (av y.heard)) (.pv (av y.none)) (.pv (av y.has)) (.aO 1001 0) (.pv (av [])) (.pv (.sc (.slice none 0 0))))),(1001,.arr 48 0 2 (S.map Fr.c)),(2,.d9 1 2 []),(3,.d9 0 2 (y.bad.map Pl.c))]) →
    dF prog 92 [.agg x.c,uu now,av known] (.cK [.agg (dJ x now known).1.c,kH (dJ x now known).2]):=by
    intro S ap hr Q;have e1:dJ x now known=((aZ { y with bad:=[],af:=S,phase:=3,born:=now,since:=now } now).1,aU { y with bad:=[],af:=S,phase:=3,born:=now,since:=now } (aj { y with bad:=[],af:=S,phase:=3,born:=now,since:=now })++(aZ { y with bad:=[],af:=S,phase:=3,born:=now,since:=now } now).2):=by
     unfold dJ;simp only[e0,q3,K,hr,Bool.and_self,↓reduceIte]
    rw[e1];have ar:(setOf S x.l.w x.n).length≤1000:=Nat.le_trans (AX.jI S Tw x.n) (by decide);have Q:=Q ();rw[hy] at K Q ⊢;exact aa8 x now known X hk cO hsi uJ fq hn aa p3 g1 K S ap Q ar hf aq
   have ax:(dx y known).1.ah.length≤5:=by
    refine qc ?_ _ _ _ _;unfold gM;cases ao:eH y.af y.n with
    |none=>simp[kT]
    |some f=>exact hf5 f (by rw[←Wo];exact (nu _ _ _ ao).1)
   have ae:Fr.ok ⟨y.n,(dx y known).1.ah⟩:=⟨by show 0≤y.n;rw[al];omega,by show y.n≤_;rw[al];omega,by show (dx y known).1.ah.length≤_;omega⟩;cases h1:(dx y known).2 with
   | false=>
     refine ag ?_ fun _=>Oq y known hk Ci Lh Li h1
     unfold dH;rw[h1,Bool.false_and,if_neg (by decide)]
   |true=>
   cases V:((gM y).first==y.n&&decide ((y.af.length:Int)>0)) with
   | true=>
     have J:iM y=y.af.take (y.af.length-1):=by unfold iM;rw[if_pos V]
     refine ai (y.af.take (y.af.length-1)++[(⟨y.n,(dx y known).1.ah⟩:Fr)]) ?_ ?_ fun _=>Ov y known hk Ci Lh Li h1 V (by rw[Wo];exact hf6)
     ·intro f G;rcases List.mem_append.1 G with G|G
      ·exact Ci f (List.mem_of_mem_take G)
      simp only[List.mem_singleton] at G;subst G;exact ae
     unfold dH;rw[if_pos,J];rw[h1,J,Bool.true_and,List.length_take,Wo];simp;omega
   |false=>
   have J:iM y=y.af:=by unfold iM;rw[if_neg (by rw[V];decide)]
   cases h6:((y.af.length:Int)==6) with
   | true=>
     refine ag ?_ fun _=>Ot y known hk Ci Lh Li h1 V h6
     unfold dH;rw[J,h6,if_neg (by simp)]
   | false=>
     refine ai (y.af++[(⟨y.n,(dx y known).1.ah⟩:Fr)]) ?_ ?_ fun _=>Ou y known hk Ci Lh Li h1 V h6
     ·intro f G;rcases List.mem_append.1 G with G|G
      ·exact Ci f G
      simp only[List.mem_singleton] at G;subst G;exact ae
     unfold dH;rw[J,h1,h6,if_pos (by decide)]
theorem abl (p3:(x.phase==3)=true)(g1:dY now x.born 9=true) :
  dF prog 92 [.agg x.c,uu now,av known] (.cK [.agg (dJ x now known).1.c,kH (dJ x now known).2]):=by
 obtain⟨X,hf,fq,h0,hn,hs,hw,ha,ak,CZ⟩:=h;have aa:(aj x).length≤1000:=CZ x.n;have aw:x.phase=3:=by simpa using p3
 have am:iX x now=({ x with bad:=aB (fun p=>!x.has.any (· == p)) x.bad (aj x),born:=now }:Rv):=by
  unfold iX;rw[p3,g1];rfl
 obtain⟨y,e0⟩:∃y:Rv,iX x now=y:=⟨_,rfl⟩;have hy:y=({ x with bad:=aB (fun p=>!x.has.any (· == p)) x.bad (aj x),born:=now }:Rv):=e0.symm.trans am;have az:y.l=x.l:=by rw[hy]
 have Wo:y.af=x.af:=by rw[hy]
 have al:y.n=x.n:=by rw[hy]
 have hyp:y.phase=3:=by rw[hy];exact aw
 have ad:y.since=x.since:=by rw[hy]
 have q1:(y.phase==1)=false:=by rw[hyp];rfl
 have q2:(y.phase==2)=false:=by rw[hyp];rfl
 have q3:(y.phase==3)=true:=by rw[hyp];rfl
 have q4:(y.phase != 4)=true:=by rw[hyp];rfl
 have aq:∀n,(setOf x.l.af x.l.w n).length≤1000000:=fun n=>Nat.le_trans (ak n) (by decide)
 have er:∀z:Rv,z.phase=3→qz z now=({ z with since:=now },aU z (aj z)):=by
  intro z hz;unfold qz;rw[if_neg (by rw[hz];decide),if_neg (by rw[hz];decide),if_pos (by rw[hz];rfl)]
 cases K:decide ((y.bad.length:Int)>0) with
 | false=>
   cases g2:dY now x.since 3 with
   | false=>
     have e1:dJ x now known=(y,[]):=by
      unfold dJ;simp only[e0,q3,q4,K,ad,g2,Bool.and_false,Bool.false_eq_true,↓reduceIte]
     rw[e1];rw[hy] at K ⊢;exact aa9 x now known X hk cO hsi uJ fq hn aa p3 g1 K g2
   | true=>
     have e1:dJ x now known=({ y with since:=now },aU y (aj y)):=by
      unfold dJ;simp only[e0,q3,q4,K,ad,g2,er y hyp,Bool.and_false,Bool.and_self,Bool.false_eq_true,↓reduceIte]
     rw[e1];rw[hy] at K ⊢;exact abb x now known X hk cO hsi uJ fq hn aa p3 g1 K g2
 | true=>
   have Lh:y.af.length≤1000:=by rw[Wo];omega
   have Li:∀f∈y.af,f.ah.length≤1000:=by rw[Wo];intro f hf;have:=hf5 f hf;omega
   have Ci:aY y.af:=by rw[Wo];exact fq
   have ag:dH y known=({ y with bad:=[] },false)→(∀(a:Unit),dX prog 142 [.ptr 1 0,.pv (av known)] [(1,.var (y.v (.pv (av y.heard)) (.pv (av y.none)) (.pv (av y.has)) (.aO 2 0) (.aO 3 0) (.pv (.sc (.slice none 0 0))))),(2,.arr 48 0 2 (y.af.map Fr.c)),(3,.arr 27 0 2 (y.bad.map Pl.c))] (.pv (bl false))
    [(1,.var (({ y with bad:=[] }:Rv).v (.pv (av y.heard)) (.pv (av y.none)) (.pv (av y.has)) (.aO 2 0) (.pv (av [])) (.pv (.sc (.slice none 0 0))))),(2,.arr 48 0 2 (y.af.map Fr.c)),(3,.d9 0 2 (y.bad.map Pl.c))]) →
    dF prog 92 [.agg x.c,uu now,av known] (.cK [.agg (dJ x now known).1.c,kH (dJ x now known).2]):=by
    intro hr Q;cases g2:dY now x.since 3 with
    | false=>
      have e1:dJ x now known=({ y with bad:=[] },[]):=by
       unfold dJ;simp only[e0,q3,K,ad,g2,hr,Bool.and_self,Bool.false_eq_true,↓reduceIte]
      rw[e1];have Q:=Q ();rw[hy] at K Q ⊢;exact abd x now known X hk cO hsi uJ fq hn aa p3 g1 K g2 Q
    | true=>
      have e1:dJ x now known=({ y with bad:=[],since:=now },aU { y with bad:=[] } (aj { y with bad:=[] })):=by
       unfold dJ;simp only[e0,q3,K,ad,g2,hr,Bool.and_self,Bool.false_eq_true,↓reduceIte];exact er _ hyp
      rw[e1];have Q:=Q ();rw[hy] at K Q ⊢;exact abe x now known X hk cO hsi uJ fq hn aa p3 g1 K g2 Q
   have ai:∀S:List Fr,aY S→dH y known=({ y with bad:=[],af:=S },true)→(∀(a:Unit),dX prog 142 [.ptr 1 0,.pv (av known)] [(1,.var (y.v (.pv (av y.heard)) (.pv (av y.none)) (.pv (av y.has)) (.aO 2 0) (.aO 3 0) (.pv (.sc (.slice none 0 0))))),(2,.arr 48 0 2 (y.af.map Fr.c)),(3,.arr 27 0 2 (y.bad.map Pl.c))] (.pv (bl true))
    [(1,.var (({ y with bad:=[],af:=S }:Rv).v (.pv (av y.heard)) (.pv (av y.none)) (.pv (av y.has)) (.aO 1001 0) (.pv (av [])) (.pv (.sc (.slice none 0 0))))),(1001,.arr 48 0 2 (S.map Fr.c)),(2,.d9 1 2 []),(3,.d9 0 2 (y.bad.map Pl.c))]) →
    dF prog 92 [.agg x.c,uu now,av known] (.cK [.agg (dJ x now known).1.c,kH (dJ x now known).2]):=by
    intro S ap hr Q;have e1:dJ x now known=((aZ { y with bad:=[],af:=S,phase:=3,born:=now,since:=now } now).1,aU { y with bad:=[],af:=S,phase:=3,born:=now,since:=now } (aj { y with bad:=[],af:=S,phase:=3,born:=now,since:=now })++(aZ { y with bad:=[],af:=S,phase:=3,born:=now,since:=now } now).2):=by
     unfold dJ;simp only[e0,q3,K,hr,Bool.and_self,↓reduceIte]
    rw[e1];have ar:(setOf S x.l.w x.n).length≤1000:=Nat.le_trans (AX.jI S Tw x.n) (by decide);have Q:=Q ();rw[hy] at K Q ⊢;exact abf x now known X hk cO hsi uJ fq hn aa p3 g1 K S ap Q ar hf aq
   have ax:(dx y known).1.ah.length≤5:=by
    refine qc ?_ _ _ _ _;unfold gM;cases ao:eH y.af y.n with
    |none=>simp[kT]
    |some f=>exact hf5 f (by rw[←Wo];exact (nu _ _ _ ao).1)
   have ae:Fr.ok ⟨y.n,(dx y known).1.ah⟩:=⟨by show 0≤y.n;rw[al];omega,by show y.n≤_;rw[al];omega,by show (dx y known).1.ah.length≤_;omega⟩;cases h1:(dx y known).2 with
   | false=>
     refine ag ?_ fun _=>Oq y known hk Ci Lh Li h1
     unfold dH;rw[h1,Bool.false_and,if_neg (by decide)]
   |true=>
   cases V:((gM y).first==y.n&&decide ((y.af.length:Int)>0)) with
   | true=>
     have J:iM y=y.af.take (y.af.length-1):=by unfold iM;rw[if_pos V]
     refine ai (y.af.take (y.af.length-1)++[(⟨y.n,(dx y known).1.ah⟩:Fr)]) ?_ ?_ fun _=>Ov y known hk Ci Lh Li h1 V (by rw[Wo];exact hf6)
     ·intro f G;rcases List.mem_append.1 G with G|G
      ·exact Ci f (List.mem_of_mem_take G)
      simp only[List.mem_singleton] at G;subst G;exact ae
     unfold dH;rw[if_pos,J];rw[h1,J,Bool.true_and,List.length_take,Wo];simp;omega
   |false=>
   have J:iM y=y.af:=by unfold iM;rw[if_neg (by rw[V];decide)]
   cases h6:((y.af.length:Int)==6) with
   | true=>
     refine ag ?_ fun _=>Ot y known hk Ci Lh Li h1 V h6
     unfold dH;rw[J,h6,if_neg (by simp)]
   | false=>
     refine ai (y.af++[(⟨y.n,(dx y known).1.ah⟩:Fr)]) ?_ ?_ fun _=>Ou y known hk Ci Lh Li h1 V h6
     ·intro f G;rcases List.mem_append.1 G with G|G
      ·exact Ci f G
      simp only[List.mem_singleton] at G;subst G;exact ae
     unfold dH;rw[J,h1,h6,if_pos (by decide)]
end
theorem ahp {l:Lg}{k:Nat}{x:Rv}(J:dN l=true)(h:RInv l k x)(hk:k≤100000){now:Int}(cO:gU now)(known:List Pl)(G:known.length≤1000) :
  dF prog 92 [.agg x.c,uu now,av known] (.cK [.agg (dJ x now known).1.c,kH (dJ x now known).2]):=by
 have K:=h.big J hk;have Tw:x.l.w≤5:=by rw[h.hl];exact (mM J).2.2.2.2.2
 have hf5:∀f∈x.af,f.ah.length≤5:=fun f S=>(h.fr f S).2.2
 rcases h.ph with e|e|e|e
 ·exact Lf x now known K Tw h.fl hf5 h.n0 G cO h.bs.2 h.bs.1 (.inl e)
 ·exact Lf x now known K Tw h.fl hf5 h.n0 G cO h.bs.2 h.bs.1 (.inr (.inl e))
 ·cases Q:dY now x.born 9 with
  |false=>exact abh x now known K Tw h.fl hf5 h.n0 G cO h.bs.2 h.bs.1 (by rw[e];rfl) Q
  |true=>exact abl x now known K Tw h.fl hf5 h.n0 G cO h.bs.2 h.bs.1 (by rw[e];rfl) Q
 exact Lf x now known K Tw h.fl hf5 h.n0 G cO h.bs.2 h.bs.1 (.inr (.inr e))
theorem Ow:bM prog 89 f89:=fO func89
theorem yY (a:Int):dF prog 89 [ii a] (.agg [ii a,uu 1]):=by
 refine PC.le ?_;refine dQ Ow ?_;repeat' ((conv=>whnf);first|(with_reducible first|apply aM|apply fk<;>intro hc<;>try exact aV)|refine aK ?_|fail)
 all_goals exact aJ
theorem Ox:bM prog 86 f86:=fO func86
def xG:Lg:=⟨1,2,2,[⟨1,[⟨7,1⟩,⟨8,1⟩,⟨9,1⟩]⟩],0,0⟩
theorem RF:dF prog 86 [] (.agg xG.c):=by
 refine PC.le ?_;refine dQ Ox ?_;repeat' ((conv=>whnf);first|(with_reducible first|apply aM|apply fk<;>intro hc<;>try exact aV)|(apply bX;refine⟨_,yY _,?_⟩)|refine aK ?_|fail)
 all_goals exact aJ
theorem RG:bM prog 88 f88:=fO func88
theorem Wp (k code node n sure:Int)(s:ByteArray)(h:s.size≤140737488355328):dF prog 88 [ii k,ii code,ii node,uu n,uu sure,.sc (.string s)] (.agg (Rs.c ⟨⟨node,1⟩,k,code,1,n,5,sure,s.data.toList⟩)):=by
 refine PC.le ?_;refine dQ RG ?_;repeat' ((conv=>whnf);first|(with_reducible first|apply aM|apply fk<;>intro hc<;>try exact aV)|(apply bX;refine⟨_,yY _,?_⟩)|(((with_reducible apply And.intro);focus exact h))|refine aK ?_|fail)
 all_goals exact aJ
def wo:List Fr:=[⟨1,[⟨7,1⟩,⟨8,1⟩,⟨9,1⟩]⟩]
def s0:Rv:=⟨xG,5,1,[],0,0,[],[],[],wo,[],3,3⟩
def s1:Rv:=⟨xG,5,1,[⟨7,1⟩],0,0,[],[],[],wo,[],3,3⟩
def s2:Rv:=⟨xG,5,2,[⟨7,1⟩,⟨9,1⟩],1,2,[],[],[],wo,[],4,4⟩
def s3:Rv:=⟨xG,5,3,[⟨7,1⟩,⟨9,1⟩],1,2,[],[⟨9,1⟩],[120],wo,[],5,5⟩
def s4:Rv:=⟨xG,5,2,[⟨7,1⟩,⟨9,1⟩],1,3,[],[],[],wo,[],5,5⟩
def s5:Rv:=⟨xG,5,4,[⟨7,1⟩,⟨9,1⟩],1,3,[⟨7,1⟩],[],[],wo,[],5,5⟩
theorem Oy:dN xG=true:=by decide +kernel
theorem wu (p:Int)(S:List Pl)(su n:Int)(no Q:List Pl)(K:List UInt8)(b s:Int)(h1:S.length≤10)(h2:0≤su)(h3:0≤n∧n≤10)(h4:no.length≤10)(h5:Q.length≤10)(h6:K.length≤10) :
  Rv.big ⟨xG,5,p,S,su,n,no,Q,K,wo,[],b,s⟩:=by
 obtain⟨m1,m2,J,m4,m5,X⟩:=mM Oy;have V:∀f∈wo,1≤f.first∧f.first≤9∧f.ah.length≤5:=J
 refine⟨⟨⟨by show xG.af.length≤1000;omega,fun f G=>by have:=J f G;omega⟩,⟨by show wo.length≤1000;decide,fun f G=>by have:=V f G;omega⟩,by simp only;omega,by simp only;omega,by simp only;omega,by simp,by simp only;omega⟩,
  fun f G=>by have:=J f G;exact⟨by omega,by omega,by omega⟩,fun f G=>by have:=V f G;exact⟨by omega,by omega,by omega⟩,m1,by simp only;omega,h2,by show 0≤xG.w∧xG.w≤9223372036854775807;decide,by show 0≤xG.a;decide,
  fun n=>Nat.le_trans (AX.jI _ X n) (by decide),fun n=>Nat.le_trans (AX.jI _ X n) (by decide)⟩
theorem abm:dF prog 85 [.agg xG.c,uu 5,uu 3] (.cK [.agg s0.c,kH [⟨⟨7,1⟩,2,1,0,5,0,0,[],[]⟩,⟨⟨8,1⟩,2,1,0,5,0,0,[],[]⟩,⟨⟨9,1⟩,2,1,0,5,0,0,[],[]⟩],ii 0]):=by
 obtain⟨K,Q,J,S,V,X⟩:=mM Oy;have h:=afD xG 5 3 (fun f G=>by have:=J f G;omega) (fun _=>⟨K,by omega,fun f G=>by have:=J f G;omega⟩);have e:oq xG 5 3=(s0,[⟨⟨7,1⟩,2,1,0,5,0,0,[],[]⟩,⟨⟨8,1⟩,2,1,0,5,0,0,[],[]⟩,⟨⟨9,1⟩,2,1,0,5,0,0,[],[]⟩],0):=by kernel_rfl
 rw[e] at h;exact h
theorem RH:dF prog 87 [.agg s0.c,uu 4,.agg (⟨⟨7,1⟩,2,0,1,0,5,0,[]⟩:Rs).c] (.cK [.agg s1.c,kH []]):=by
 have h:=Ca s0 4 ⟨⟨7,1⟩,2,0,1,0,5,0,[]⟩ (wu _ _ _ _ _ _ _ _ _ (by decide) (by decide) (by decide) (by decide) (by decide) (by decide)) (by decide);have e:bJ s0 4 ⟨⟨7,1⟩,2,0,1,0,5,0,[]⟩=(s1,[]):=by kernel_rfl
 rw[e] at h;exact h
theorem RI:dF prog 87 [.agg s1.c,uu 4,.agg (⟨⟨9,1⟩,2,0,1,0,5,1,[]⟩:Rs).c] (.cK [.agg s2.c,kH [⟨⟨9,1⟩,3,1,2,5,0,0,[],[]⟩]]):=by
 have h:=Ca s1 4 ⟨⟨9,1⟩,2,0,1,0,5,1,[]⟩ (wu _ _ _ _ _ _ _ _ _ (by decide) (by decide) (by decide) (by decide) (by decide) (by decide)) (by decide);have e:bJ s1 4 ⟨⟨9,1⟩,2,0,1,0,5,1,[]⟩=(s2,[⟨⟨9,1⟩,3,1,2,5,0,0,[],[]⟩]):=by kernel_rfl
 rw[e] at h;exact h
theorem RL:dF prog 87 [.agg s2.c,uu 5,.agg (⟨⟨9,1⟩,3,0,1,2,5,0,[120]⟩:Rs).c] (.cK [.agg s3.c,kH [⟨⟨8,1⟩,1,1,2,5,1,0,[120],[]⟩]]):=by
 have h:=Ca s2 5 ⟨⟨9,1⟩,3,0,1,2,5,0,[120]⟩ (wu _ _ _ _ _ _ _ _ _ (by decide) (by decide) (by decide) (by decide) (by decide) (by decide)) (by decide);have e:bJ s2 5 ⟨⟨9,1⟩,3,0,1,2,5,0,[120]⟩=(s3,[⟨⟨8,1⟩,1,1,2,5,1,0,[120],[]⟩]):=by kernel_rfl
 rw[e] at h;exact h
theorem RN:dF prog 87 [.agg s3.c,uu 5,.agg (⟨⟨8,1⟩,1,0,1,2,5,0,[]⟩:Rs).c] (.cK [.agg s4.c,kH [⟨⟨9,1⟩,3,1,3,5,0,0,[],[]⟩,⟨⟨7,1⟩,3,1,3,5,0,0,[],[]⟩]]):=by
 have h:=Ca s3 5 ⟨⟨8,1⟩,1,0,1,2,5,0,[]⟩ (wu _ _ _ _ _ _ _ _ _ (by decide) (by decide) (by decide) (by decide) (by decide) (by decide)) (by decide);have e:bJ s3 5 ⟨⟨8,1⟩,1,0,1,2,5,0,[]⟩=(s4,[⟨⟨9,1⟩,3,1,3,5,0,0,[],[]⟩,⟨⟨7,1⟩,3,1,3,5,0,0,[],[]⟩]):=by kernel_rfl
 rw[e] at h;exact h
theorem RO:dF prog 87 [.agg s4.c,uu 6,.agg (⟨⟨7,1⟩,3,3,1,3,5,0,[]⟩:Rs).c] (.cK [.agg s5.c,kH []]):=by
 have h:=Ca s4 6 ⟨⟨7,1⟩,3,3,1,3,5,0,[]⟩ (wu _ _ _ _ _ _ _ _ _ (by decide) (by decide) (by decide) (by decide) (by decide) (by decide)) (by decide);have e:bJ s4 6 ⟨⟨7,1⟩,3,3,1,3,5,0,[]⟩=(s5,[]):=by kernel_rfl
 rw[e] at h;exact h
theorem yX:bM prog 37 f37:=fO func37
theorem RP:dF prog 37 [.agg s5.c] (.cK [uu 2,cB wo,bl true]):=by
 refine PC.le ?_;have G:=uw wo (by decide) (by decide);refine dQ yX ?_;repeat' ((conv=>whnf);first|(with_reducible first|apply aM|apply fk<;>intro hc<;>try exact aV)|(apply mq;refine⟨_,_,G,?_⟩)|refine eF G ?_|refine aK ?_|fail)
 all_goals
  all_goals exact aJ
theorem Oz:bM prog 31 f31:=fO func31
theorem lM:dF prog 31 [] (bl true):=by
 refine PC.le ?_;refine dQ Oz ?_;repeat' ((conv=>whnf);first|(with_reducible first|apply aM|apply fk<;>intro hc<;>try exact aV)|(apply bX;refine⟨_,RF,?_⟩)|(apply bX;refine⟨_,yY _,?_⟩)|(apply bX;refine⟨_,Wp _ _ _ _ _ _ (by decide),?_⟩)|(apply bX;refine⟨_,abm,?_⟩)|(apply bX;refine⟨_,RH,?_⟩)|(apply bX;refine⟨_,RI,?_⟩)|(apply bX;refine⟨_,RL,?_⟩)|(apply bX;refine⟨_,RN,?_⟩)|(apply bX;refine⟨_,RO,?_⟩)|(apply bX;refine⟨_,RP,?_⟩)|((refine⟨_,rfl,?_⟩))|refine aK ?_|fail)
 all_goals
  repeat' first|apply And.intro|exact aJ|fail
  all_goals try (conv=>whnf)
 all_goals (exfalso;simp only[ByteArray.toList_mk,BEq.rfl,Bool.not_true,Bool.and_self,Bool.false_eq_true,reduceCtorEq] at *)
end Go.Proofs.YtfoiekbkkbnpkaaGreat.Tb
end
section
open Go Go.Proofs.Tryz Go.AX
namespace Go.Proofs.YtfoiekbkkbnpkaaGreat.Tb
end Go.Proofs.YtfoiekbkkbnpkaaGreat.Tb
end
section
open Go Go.Proofs.Tryz Go.AX
namespace Go.Proofs.YtfoiekbkkbnpkaaGreat.Tb
structure WxS (c:Nat)(x:Wt):Prop where
 n:1≤x.n∧x.n≤8
 body:x.body.length≤3000
 from_:x.from_.length≤c
 born:gU x.born
 since:gU x.since
structure xE (w:Wr)(c d:Nat):Prop where
 Ug:w.l.w≤5
 mf:dh w.l.w w.l.af=true
 wl:(w.waits.length:Int)+1≤w.next
 nx:1≤w.next∧w.next≤9
 wx:∀x∈w.waits,WxS c x
 bl:w.bad.length≤d
 ch:0≤w.change.first∧w.change.first≤9∧w.change.ah.length≤5
 su:0≤w.sure∧w.sure≤8
theorem GV {w:Int}{l:List Fr}(h:dh w l=true):0<l.length∧l.length≤6∧∀f∈l,1≤f.first∧f.first≤9∧f.ah.length≤5:=by
 simp only[dh,Bool.and_eq_true,dA,iG,List.all_eq_true] at h;obtain⟨⟨K,Q⟩,S,G,V⟩:=h;refine⟨by omega,by omega,fun f J=>?_⟩;have:=G f J;simp only[iK,Bool.and_eq_true,dA,iG] at this;omega
theorem Ce {w:Int}{l:List Fr}(h:dh w l=true):aY l:=by
 obtain⟨_,_,G⟩:=GV h;intro f J;have:=G f J;exact⟨by omega,by omega,by omega⟩
theorem Xq {w:Int}{l:List Fr}(h:dh w l=true):(aL l).ah.length≤5:=by
 obtain⟨G,_,J⟩:=GV h;obtain⟨k,K,_,e⟩:=GN l G;rw[e];exact (J _ (List.getElem_mem K)).2.2
theorem WxS.mono {c c':Nat}{x:Wt}(h:WxS c x)(hc:c≤c'):WxS c' x:=⟨h.n,h.body,Nat.le_trans h.from_ hc,h.born,h.since⟩
theorem xE.mono {w:Wr}{c c' d G:Nat}(h:xE w c d)(hc:c≤c')(J:d≤G):xE w c' G:=⟨h.Ug,h.mf,h.wl,h.nx,fun x K=>(h.wx x K).mono hc,Nat.le_trans h.bl J,h.ch,h.su⟩
theorem xE.wl8 {w:Wr}{c d:Nat}(h:xE w c d):w.waits.length≤8:=by have:=h.wl;have:=h.nx;omega
theorem xE.wrB {w:Wr}{c d:Nat}(h:xE w c d)(hc:c≤100000)(V:d≤100000):WrB w:=by
 obtain⟨Q,S,G⟩:=GV h.mf;refine⟨by omega,fun f J=>by have:=G f J;omega,Ce h.mf,by have:=h.wl8;omega,fun x K=>?_,by have:=h.bl;omega,by have:=h.ch;omega⟩;have:=h.wx x K;exact⟨⟨by have:=this.n;omega,by have:=this.n;omega⟩,by have:=this.body;omega,by have:=this.from_;omega,this.born,this.since⟩
theorem xE.lf {w:Wr}{c d:Nat}(h:xE w c d):(aL w.l.af).ah.length≤5:=Xq h.mf
theorem xE.ajZ {w:Wr}{c d:Nat}(h:xE w c d):w.change.ok:=by have:=h.ch;exact⟨by omega,by omega,by omega⟩
theorem ael {l:Lg}{e:Int}{w:Wr}(h:Bz l e=some w):xE w 0 0:=by
 unfold Bz at h;split at h
 ·rename_i G;simp only[Option.some.injEq] at h;subst h;rw[Bool.and_eq_true] at G;obtain⟨G,_⟩:=G;simp only[dN,Bool.and_eq_true,dA,iG] at G;obtain⟨_,_,J,K,_⟩:=G;exact⟨J,K,by simp,by simp,by simp,by simp,by simp[kT],by simp⟩
 cases h
theorem aaE {w:Wr}{c d:Nat}(h:xE w c d){now:Int}{b:List UInt8}(J:gU now)(K:b.length≤3000):xE (iC w now b).1 c d:=by
 unfold iC;split
 ·exact h
 split
 ·exact h
 split
 ·exact h
 rename_i _ _ V;have S:=h.wl;have Q:=h.nx;refine⟨h.Ug,h.mf,?_,?_,?_,h.bl,h.ch,h.su⟩
 ·simp only[rP,List.length_singleton];omega
 ·simp only;omega
 intro x G;simp only[List.mem_append,List.mem_singleton] at G;rcases G with G|rfl
 ·exact h.wx x G
 exact⟨⟨by simp only;omega,by simp only;omega⟩,K,by simp,J,J⟩
theorem O0 {w:Wr}{c d:Nat}(h:xE w c d):xE (kN w) c d:=by
 have G:∀x∈(kN w).waits,x∈w.waits:=fun x J=>(List.dropWhile_sublist _).subset J
 refine⟨h.Ug,h.mf,?_,h.nx,fun x J=>h.wx x (G x J),h.bl,h.ch,?_⟩
 ·have:(kN w).waits.length≤w.waits.length:=(List.dropWhile_sublist _).length_le;have:=h.wl;show ((kN w).waits.length:Int)+1≤w.next
  omega
 unfold kN;simp only;cases K:(w.waits.takeWhile (fT w)).getLast? with
 |none=>exact h.su
 | some x=>
   have J:x∈w.waits:=(List.takeWhile_sublist _).subset (List.mem_of_getLast? K);have:=(h.wx x J).n;simp only[Option.map_some,Option.getD_some];omega
theorem acy (w:Wr)(is:Pl→Bool)(h:(aL w.l.af).ah.length≤5):(vU w is).bad.length≤w.bad.length+5:=by
 rw[AU];have:=kg is (aL w.l.af).ah w.bad;omega
theorem Uw {w:Wr}{c d:Nat}(h:xE w c d)(is:Pl→Bool):xE (vU w is) c (d+5):=by
 have:=acy w is h.lf;have:=h.bl;exact⟨h.Ug,h.mf,h.wl,h.nx,h.wx,by omega,h.ch,h.su⟩
theorem Xr {w:Wr}{c d:Nat}(h:xE w c d)(r:Rs)(S:r.code=0):xE (jf w r) (c+1) d:=by
 have J:=h.mono (Nat.le_succ c) (Nat.le_refl d);unfold jf;split
 ·exact J
 try rw[if_pos S]
 split
 ·exact J
 rename_i k V;split
 ·refine O0 ?_;refine⟨h.Ug,h.mf,?_,h.nx,?_,h.bl,h.ch,h.su⟩
  ·simp only[rq,List.length_modify];exact h.wl
  intro x Q;unfold rq at Q;simp only at Q;obtain⟨i,hi,e⟩:=List.getElem_of_mem Q;rw[List.getElem_modify] at e;have K:i<w.waits.length:=by simpa using hi
  have G:=h.wx _ (List.getElem_mem K);split at e
  ·rw[←e];exact⟨G.n,G.body,by have:=G.from_;simp only[rP,List.length_singleton];omega,G.born,G.since⟩
  rw[←e];exact G.mono (Nat.le_succ c)
 exact J
theorem aaC {w:Wr}{c d:Nat}(h:xE w c d)(r:Rs):xE (jf w r) (c+1) (d+5):=by
 by_cases K:r.code=0
 ·exact (Xr h r K).mono (Nat.le_refl _) (by omega)
 have G:=h.mono (Nat.le_succ c) (show d≤d+5 by omega);have J:=h.mono (Nat.le_succ c) (Nat.le_refl d);unfold jf;split
 ·exact G
 try rw[if_neg K]
 split
 ·split
  ·exact⟨G.Ug,G.mf,G.wl,G.nx,G.wx,G.bl,G.ch,G.su⟩
  exact G
 split
 ·exact Uw J _
 split
 ·exact Uw J _
 exact G
theorem aaG {w:Wr}{c d:Nat}(h:xE w c d){now:Int}(hn:gU now):xE (jJ w now).1 c (d+200):=by
 have K:∀i,(∀x∈(kP w now i).1,WxS c x)∧(kP w now i).1.length=w.waits.length∧(kP w now i).2.1.length≤w.bad.length+25*i:=by
  intro i;induction i with
  |zero=>exact⟨h.wx,rfl,by simp[kP]⟩
  | succ i ih=>
    obtain⟨G,J,S⟩:=ih;rw[uE];obtain⟨D,hD⟩:∃D,kP w now i=D:=⟨_,rfl⟩;rw[hD] at G J S ⊢;have hb:(if qd now (D.1[i]!).born 9 then qV w (D.1[i]!) (fD w (D.1[i]!).n) D.2.1 else D.2.1).length≤w.bad.length+25*(i+1):=by
     have V:=xu w (D.1[i]!) h.lf (fD w (D.1[i]!).n) D.2.1;have X:(fD w (D.1[i]!).n).length≤5:=qm h.Ug;split<;>omega
    unfold GR;simp only;split
    ·refine⟨fun y Q=>?_,by rw[List.length_set];exact J,hb⟩;by_cases hi:i<D.1.length
     ·rcases List.mem_or_eq_of_mem_set Q with Q|rfl
      ·exact G y Q
      have:=G _ (List.getElem_mem hi);rw[getElem!_pos D.1 i hi];exact⟨this.n,this.body,this.from_,this.born,hn⟩
     rw[List.set_eq_of_length_le (by omega)] at Q;exact G y Q
    exact⟨G,J,hb⟩
 unfold jJ;split
 ·exact h.mono (Nat.le_refl c) (by omega)
 rw[Aw];obtain⟨V,X,h3⟩:=K w.waits.length;have:=h.wl8;have:=h.bl;exact⟨h.Ug,h.mf,by simp only[X];exact h.wl,h.nx,V,by simp only;omega,h.ch,h.su⟩
theorem aek {w:Wr}{c d:Nat}(h:xE w c d)(e:Int)(known:List Pl):xE (iy w e known).1 c d:=by
 unfold iy;split
 ·exact h
 split
 ·exact⟨h.Ug,h.mf,h.wl,h.nx,h.wx,by simp,h.ch,h.su⟩
 have G:=qc h.lf w.l.w e w.bad known;have:=h.su;exact⟨h.Ug,h.mf,h.wl,h.nx,h.wx,h.bl,⟨by simp only[Gq];omega,by simp only[Gq];omega,G⟩,h.su⟩
theorem Oi {w:Wr}{c d:Nat}(h:xE w c d){now:Int}(K:gU now)(ok:Bool)(V:ok=true→w.change.first≠0→dh w.l.w (dS w.l.af w.change)=true):xE (dP w now ok).1 c d:=by
 unfold dP;split
 ·exact h
 rename_i J;have S:xE { w with l:={ w.l with af:=if ok then dS w.l.af w.change else w.l.af },change:=kT,bad:=[] } c d:=by
  refine⟨h.Ug,?_,h.wl,h.nx,h.wx,by simp,by simp[kT],h.su⟩;simp only;split
  ·exact V (by assumption) J
  exact h.mf
 have G:xE (jT w ok) c d:=O0 S;refine⟨G.Ug,G.mf,by simp only[fG];exact G.wl,G.nx,?_,G.bl,G.ch,G.su⟩;intro x Q;simp only[List.mem_map] at Q;obtain⟨y,X,rfl⟩:=Q;have:=G.wx y X;exact⟨this.n,this.body,this.from_,K,K⟩
theorem jh:bM prog 33 f33:=fO func33
def eD (n:Int):Int:=(IntKind.i64.wrap (n.tmod 12+12)).tmod 12
theorem K7 (s:Sk)(x:sP)(h:Ls s)(hb:x.body.length≤3000)(G:eD x.what=0∨eD x.what=1) :
  dX prog 33 [.ptr 1 0,.pv (.agg x.c)] (zi s) (.pv (.cK [])) (Lr (vL s x.body)):=by
 refine l7 ?_ rfl;have hq:=Rp (now:=s.now) (b:=x.body) h.ww;have Q:=aeg s.w s.now x.body h.w h.now h.nx (by omega) (Nat.le_trans (qm h.ww) (by omega));have aa:=h.bH;have ad:=h.bS;unfold vL;obtain⟨⟨w',q,er⟩,hy⟩:∃y,iC s.w s.now x.body=y:=⟨_,rfl⟩;rw[hy] at Q hq ⊢;simp only at Q hq ⊢;clear hy h hb;have J:∀m:Int,eD x.what=m→∀i:Int,(eD x.what==i)=(m==i):=fun m e i=>by rw[e]
 unfold eD at G J;cases X:(er==0) with
 | false=>
   rw[if_neg (by simpa using X)];rcases G with G|G
   all_goals
    have S:=J _ G 0;have V:=J _ G 1;simp only[Int.reduceBEq] at S V;clear G J;refine fw jh ?_;repeat' ((conv=>whnf);first|(with_reducible first|apply aM|apply fk<;>intro hc<;>try exact iA)|((refine⟨by decide,?_⟩))|refine eT Q ?_|refine aK ?_|fail)
    refine⟨_,_,⟨rfl,rfl⟩,?_⟩;all_goals exact aJ
 | true=>
   rw[if_pos (by simpa using X)];have K:=pq { s with w:=w',bS:=s.bS++[x.body] } 0 q (by omega) (by simp only;omega);simp only[zi,zma,zmc,zmn,Ap] at K;rcases G with G|G
   all_goals
    have S:=J _ G 0;have V:=J _ G 1;simp only[Int.reduceBEq] at S V;clear G J;refine fw jh ?_;repeat' ((conv=>whnf);first|(with_reducible first|apply aM|apply fk<;>intro hc<;>try exact iA)|((refine⟨by decide,?_⟩))|rewrite[nE]|rewrite[nG]|refine eT Q ?_|refine eF K ?_|((refine⟨_,rfl,?_⟩))|(((with_reducible apply And.intro);focus (simp only[fG,jo,jq];omega)))|refine aK ?_|fail)
    refine⟨_,_,⟨rfl,rfl⟩,?_⟩;all_goals exact aJ
def qo (s:Sk)(b:Int):Int:=IntKind.u64.wrap (s.now+IntKind.u64.wrap (xB b 15))
theorem K8 (s:Sk)(x:sP)(h:Ls s)(S:eD x.what=7) :
  dX prog 33 [.ptr 1 0,.pv (.agg x.c)] (zi s) (.pv (.cK [])) (Lr (FE s (qo s x.GX))):=by
 refine l7 ?_ rfl;have V:=Eu (s.now+IntKind.u64.wrap (xB x.GX 15));have K:=aeh s.w (qo s x.GX) h.w V (fun y _=>qm h.ww) h.lf;have X:(jJ s.w (qo s x.GX)).2.length≤5000:=by
  unfold jJ;split
  ·simp
  have:=(Rt (now:=qo s x.GX) (fun y Q=>⟨h.w.wx y Q,qm h.ww⟩) V h.lf s.w.waits.length (Nat.le_refl _)).q;rw[Aw];have:=h.w.wl;simp only;omega
 have aa:=h.bH;unfold FE;obtain⟨⟨w',q⟩,Q⟩:∃y,jJ s.w (qo s x.GX)=y:=⟨_,rfl⟩;rw[Q] at K X ⊢;simp only at K X ⊢;have J:=pq { s with w:=w',now:=qo s x.GX } 0 q (by omega) (by simp only;omega);clear Q h V;have G:∀i:Int,(eD x.what==i)=(7==i):=fun i=>by rw[S]
 unfold eD at S G;have f0:=G 0;have f1:=G 1;have f7:=G 7;simp only[Int.reduceBEq] at f0 f1 f7;unfold qo xB at K J ⊢;clear S G;refine fw jh ?_;repeat' ((conv=>whnf);first|(with_reducible first|apply aM|apply fk<;>intro hc<;>try exact iA)|((refine⟨by decide,?_⟩))|rewrite[nE]|rewrite[nG]|refine eT K ?_|refine eF J ?_|refine aK ?_|fail)
 refine⟨_,_,⟨rfl,rfl⟩,?_⟩;all_goals exact aJ
theorem Gx (s:Sk)(x:sP)(h:Ls s)(K:x.known.length≤1000)(J:eD x.what=8) :
  dX prog 33 [.ptr 1 0,.pv (.agg x.c)] (zi s) (.pv (.cK [])) (Lr (kF s x.e x.known)):=by
 refine l7 ?_ rfl;have hp:=Rn s x h K;generalize kF s x.e x.known=t at *;clear h K;have G:∀i:Int,(eD x.what==i)=(8==i):=fun i=>by rw[J]
 unfold eD at J G;have Q:=G 0;have S:=G 1;have V:=G 7;have X:=G 8;simp only[Int.reduceBEq] at Q S V X;clear J G;refine fw jh ?_;repeat' ((conv=>whnf);first|(with_reducible first|apply aM|apply fk<;>intro hc<;>try exact iA)|((refine⟨by decide,?_⟩))|rewrite[nE]|rewrite[nG]|refine eF hp ?_|refine aK ?_|fail)
 refine⟨_,_,⟨rfl,rfl⟩,?_⟩;all_goals exact aJ
theorem K9 (s:Sk)(x:sP)(h:Ls s)(K:eD x.what=10) :
  dX prog 33 [.ptr 1 0,.pv (.agg x.c)] (zi s) (.pv (.cK [])) (Lr (jv s)):=by
 refine l7 ?_ rfl;have hp:=Ob s h;generalize jv s=t at *;clear h;have G:∀i:Int,(eD x.what==i)=(10==i):=fun i=>by rw[K]
 unfold eD at K G;have Q:=G 0;have S:=G 1;have V:=G 7;have X:=G 8;have f9:=G 9;have J:=G 10;simp only[Int.reduceBEq] at Q S V X f9 J;clear K G;refine fw jh ?_;repeat' ((conv=>whnf);first|(with_reducible first|apply aM|apply fk<;>intro hc<;>try exact iA)|((refine⟨by decide,?_⟩))|rewrite[nE]|rewrite[nG]|refine eF hp ?_|refine aK ?_|fail)
 refine⟨_,_,⟨rfl,rfl⟩,?_⟩;all_goals exact aJ
theorem La (s:Sk)(x:sP)(h:Ls s)(K:eD x.what=9) :
  dX prog 33 [.ptr 1 0,.pv (.agg x.c)] (zi s) (.pv (.cK [])) (Lr (vM s)):=by
 refine l7 ?_ rfl;have J:=Ru s.w s.now s.taken h.w h.now h.ww h.ch;have Q:(dP s.w s.now s.taken).2.length≤5000:=Lb h.w h.ww _ _;have aa:=h.bH;have G:∀i:Int,(eD x.what==i)=(9==i):=fun i=>by rw[K]
 unfold eD at K G;have f0:=G 0;have f1:=G 1;have f7:=G 7;have f8:=G 8;have f9:=G 9;simp only[Int.reduceBEq] at f0 f1 f7 f8 f9;clear K G h;unfold vM;cases V:decide (s.ask.first>0) with
 | false=>
   rw[if_neg (by simpa using V)];clear J Q;refine fw jh ?_;repeat' ((conv=>whnf);first|(with_reducible first|apply aM|apply fk<;>intro hc<;>try exact iA)|((refine⟨by decide,?_⟩))|refine aK ?_|fail)
   refine⟨_,_,⟨rfl,rfl⟩,?_⟩;all_goals exact aJ
 | true=>
   rw[if_pos (by simpa using V)];obtain⟨⟨w',q⟩,X⟩:∃y,dP s.w s.now s.taken=y:=⟨_,rfl⟩;rw[X] at J Q ⊢;simp only at J Q ⊢;have S:=pq { s with w:=w',ask:=kT } 0 q (by omega) (by simp only;omega);clear X;refine fw jh ?_;repeat' ((conv=>whnf);first|(with_reducible first|apply aM|apply fk<;>intro hc<;>try exact iA)|((refine⟨by decide,?_⟩))|rewrite[nE]|rewrite[nG]|refine eT J ?_|refine eF S ?_|refine aK ?_|fail)
   refine⟨_,_,⟨rfl,rfl⟩,?_⟩;all_goals exact aJ
theorem JJ (s:Sk)(x:sP)(h:Ls s){k:Nat}(G:s.first<s.ak→dN s.x=true∧RInv s.x k s.r)(hk:k≤100000)(ad:x.known.length≤1000)(Q:∀now,(dJ s.r now x.known).2.length≤100∨¬s.first<s.ak)(hm:eD x.what=11) :
  dX prog 33 [.ptr 1 0,.pv (.agg x.c)] (zi s) (.pv (.cK [])) (Lr (bU s (qo s x.GX) x.known)):=by
 refine l7 ?_ rfl;have hn:=Eu (s.now+IntKind.u64.wrap (xB x.GX 15));have ae:=h.bH;have J:∀i:Int,(eD x.what==i)=(11==i):=fun i=>by rw[hm]
 unfold eD at hm J;have f0:=J 0;have f1:=J 1;have f7:=J 7;have f8:=J 8;have f9:=J 9;have X:=J 10;have aa:=J 11;simp only[Int.reduceBEq] at f0 f1 f7 f8 f9 X aa;clear hm J h;unfold bU;cases d1:decide (s.ak>s.first) with
 | false=>
   rw[if_neg (by simpa using d1)];unfold qo xB;clear G Q;refine fw jh ?_;repeat' ((conv=>whnf);first|(with_reducible first|apply aM|apply fk<;>intro hc<;>try exact iA)|((refine⟨by decide,?_⟩))|refine aK ?_|fail)
   refine⟨_,_,⟨rfl,rfl⟩,?_⟩;all_goals exact aJ
 | true=>
   have K:s.first<s.ak:=by simpa using d1
   rw[if_pos K];obtain⟨m1,m2⟩:=G K;have V:=ahp m1 m2 hk (now:=qo s x.GX) hn x.known ad;have hq:(dJ s.r (qo s x.GX) x.known).2.length≤100:=(Q (qo s x.GX)).resolve_right (fun g=>g K);obtain⟨⟨r',q⟩,hy⟩:∃y,dJ s.r (qo s x.GX) x.known=y:=⟨_,rfl⟩;rw[hy] at V hq ⊢;simp only at V hq ⊢;have S:=pq { s with now:=qo s x.GX,r:=r' } s.ak q (by omega) (by simp only;omega);clear hy G Q K m1 m2 hn;unfold qo xB at V S ⊢;refine fw jh ?_;repeat' ((conv=>whnf);first|(with_reducible first|apply aM|apply fk<;>intro hc<;>try exact iA)|((refine⟨by decide,?_⟩))|rewrite[nE]|rewrite[nG]|refine eT V ?_|refine eF S ?_|refine aK ?_|fail)
   refine⟨_,_,⟨rfl,rfl⟩,?_⟩;all_goals exact aJ
def mP (s:Sk)(n:Int):Nat:=(if n.tmod (s.bH.length:Int)<0 then n.tmod (s.bH.length:Int)+s.bH.length else n.tmod (s.bH.length:Int)).toNat
def ji (s:Sk)(x:sP):Sk:=if ((eD x.what==6)||decide (x.xN≤0))=true then ny s (mP s x.which) else s
def yV (s:Sk)(x:sP):Sk:=if s.bH=[] then s else if (eD x.what==6)=true then ji s x else gQ (ji s x) s.bH[mP s x.which]!
theorem Cb (s:Sk)(n:Int)(h:0<s.bH.length):mP s n<s.bH.length∧(if n.tmod (s.bH.length:Int)<0 then n.tmod (s.bH.length:Int)+s.bH.length else n.tmod (s.bH.length:Int))=((mP s n:Nat):Int) ∧ -(s.bH.length:Int)<n.tmod (s.bH.length:Int)∧n.tmod (s.bH.length:Int)<s.bH.length:=by
 have J : -(s.bH.length:Int)<n.tmod (s.bH.length:Int):=by
  rcases Int.lt_or_le n 0 with K|K
  ·have:=Int.tmod_lt_of_pos (-n) (b:=(s.bH.length:Int)) (by omega);rw[Int.neg_tmod] at this;omega
  have:=Int.tmod_nonneg (s.bH.length:Int) K;omega
 have G:n.tmod (s.bH.length:Int)<s.bH.length:=Int.tmod_lt_of_pos _ (by omega);unfold mP;refine⟨?_,?_,J,G⟩;all_goals split<;>omega
theorem Gy (s:Sk)(k:Nat):jc (List.map Lk.c (ny s k).bH) ([]++jQ (List.map Lk.c s.bH) 0 ((k:Nat):Int).toNat++jQ (List.map Lk.c s.bH) (((k+1:Nat):Int)).toNat (List.map Lk.c s.bH).length):=by
 refine gJ ?_;simp only[ny,jQ,zna,List.drop_zero,Nat.sub_zero,Int.toNat_natCast,zma,List.map_take,List.map_drop];rw[List.take_of_length_le (l:=List.drop (k+1) (List.map Lk.c s.bH)) (by rw[List.length_drop];omega)]
theorem Dy (s:Sk)(x:sP)(h:Ls s)(S:∀m∈s.bH,m.r.body.length≤1000000)(hm:(eD x.what==0)=false∧(eD x.what==1)=false∧(eD x.what==7)=false∧(eD x.what==8)=false∧(eD x.what==9)=false∧(eD x.what==10)=false∧(eD x.what==11)=false) :
  dX prog 33 [.ptr 1 0,.pv (.agg x.c)] (zi s) (.pv (.cK [])) (Lr (yV s x)):=by
 refine l7 ?_ rfl;obtain⟨f0,f1,f7,f8,f9,aa,ad⟩:=hm;have ak:=h.bH;cases d0:(((s.bH.map Lk.c).length:Int)==0) with
 | true=>
   have e:yV s x=s:=by
    unfold yV;rw[if_pos (List.eq_nil_of_length_eq_zero (by rw[List.length_map] at d0;simpa using d0))]
   rw[e];unfold eD at f0 f1 f7 f8 f9 aa ad;clear e h ak S;refine fw jh ?_;repeat' ((conv=>whnf);first|(with_reducible first|apply aM|apply fk<;>intro hc<;>try exact iA)|((refine⟨by decide,?_⟩))|refine aK ?_|fail)
   refine⟨_,_,⟨rfl,rfl⟩,?_⟩;all_goals exact aJ
 |false=>
 have V:0<s.bH.length:=by rw[List.length_map,beq_eq_false_iff_ne] at d0;omega
 have e:yV s x=if (eD x.what==6)=true then ji s x else gQ (ji s x) s.bH[mP s x.which]! :=by
  unfold yV;rw[if_neg (by intro e;rw[e] at V;exact absurd V (by decide))]
 rw[e];clear e;obtain⟨hk,zX,ah,af⟩:=Cb s x.which V;unfold ji;obtain⟨k,ag⟩:∃k,mP s x.which=k:=⟨_,rfl⟩;rw[ag] at hk zX ⊢;clear ag;have hr:=dR Lk.c s.bH k hk;have X:=S _ (List.getElem_mem hk);obtain⟨y,hy⟩:∃y,s.bH[k]=y:=⟨_,rfl⟩;rw[getElem!_pos s.bH k hk,hy];rw[hy] at hr X;clear hy;obtain⟨s1,G⟩:∃s1,(if ((eD x.what==6)||decide (x.xN≤0))=true then ny s k else s)=s1:=⟨_,rfl⟩;rw[G];have hB:Ls s1:=by
  rw[←G];split
  ·refine⟨h.w,h.lf,h.ww,h.ch,?_,h.has,h.told,h.Dp,h.bS,h.hb,h.now,h.nx,h.su,h.ep,h.rv,h.pl⟩;simp only[ny,rP,List.length_take,List.length_drop];omega
  exact h
 have ae:=VZ s1 y hB X;clear hB h S X;have J:k<(s.bH.map Lk.c).length:=by rw[List.length_map];exact hk
 have eK:IntKind.i64.wrap (((k:Nat):Int)+1)=((k+1:Nat):Int):=by rw[bF (by omega) (by omega)];omega
 obtain⟨b5,h5⟩:∃b,(eD x.what==6)=b:=⟨_,rfl⟩;obtain⟨tw,al⟩:∃b,decide (x.xN≤0)=b:=⟨_,rfl⟩;rw[h5,al] at G;rw[h5];unfold eD at f0 f1 f7 f8 f9 aa ad h5;have eL:((s.bH.map Lk.c).length:Int)=(s.bH.length:Int):=by rw[List.length_map]
 have K:((s.bH.map Lk.c).length:Int)≠0:=by rw[eL];omega
 rw[←eL] at ah af zX;cases d1:decide (x.which.tmod ((s.bH.map Lk.c).length:Int)<0);case' true=>
  have Q:IntKind.i64.wrap (x.which.tmod ((s.bH.map Lk.c).length:Int)+((s.bH.map Lk.c).length:Int))=((k:Nat):Int):=by
   rw[if_pos (by simpa using d1)] at zX;rw[bF (by omega) (by omega)];exact zX
 case' false=>
  have Q:x.which.tmod ((s.bH.map Lk.c).length:Int)=((k:Nat):Int):=by
   rw[if_neg (by simpa using d1)] at zX;exact zX
  rw[Q] at d1
 all_goals
  clear ah af zX eL;refine zI vY (bZ mixed vY) jh rfl ?_;repeat' ((conv=>whnf);first|fail|((with_reducible apply fk)<;>intro hc<;>try exact oG)|((refine⟨by decide,?_⟩))|((refine⟨K,?_⟩))|rewrite[Q]|(((with_reducible apply And.intro);focus (rw[Int.toNat_natCast];exact J)))|((refine⟨_,hr,?_⟩))|refine aK ?_|fail)
  refine Or.inl ?_;repeat' ((conv=>whnf);first|fail|((with_reducible apply fk)<;>intro hc<;>try exact oG)|((refine⟨by decide,?_⟩))|((refine⟨K,?_⟩))|rewrite[Q]|(((with_reducible apply And.intro);focus (rw[Int.toNat_natCast];exact J)))|((refine⟨_,hr,?_⟩))|refine aK ?_|fail)
  refine Or.inl ?_;repeat' ((conv=>whnf);first|fail|((with_reducible apply fk)<;>intro hc<;>try exact oG)|((refine⟨by decide,?_⟩))|((refine⟨K,?_⟩))|rewrite[Q]|(((with_reducible apply And.intro);focus (rw[Int.toNat_natCast];exact J)))|((refine⟨_,hr,?_⟩))|refine aK ?_|fail)
  refine Or.inl ?_;repeat' ((conv=>whnf);first|fail|((with_reducible apply fk)<;>intro hc<;>try exact oG)|((refine⟨by decide,?_⟩))|((refine⟨K,?_⟩))|rewrite[Q]|(((with_reducible apply And.intro);focus (rw[Int.toNat_natCast];exact J)))|((refine⟨_,hr,?_⟩))|refine aK ?_|fail)
  refine Or.inl ?_;repeat' ((conv=>whnf);first|fail|((with_reducible apply fk)<;>intro hc<;>try exact oG)|((refine⟨by decide,?_⟩))|((refine⟨K,?_⟩))|rewrite[Q]|(((with_reducible apply And.intro);focus (rw[Int.toNat_natCast];exact J)))|((refine⟨_,hr,?_⟩))|refine aK ?_|fail)
  refine Or.inr ⟨Unit,fun _=>⟨[(0,.ptr 1 0),(3,.ptr 1003 0),(4,.pv (ii ((IntKind.i64.wrap (x.what.tmod 12+12)).tmod 12))),(15,.ptr 1015 0)],1000000000,(1003,.var (x.c.map .pv))::(1015,.var (y.c.map .pv))::skM s1⟩,?_,fun _=>?_⟩
  ·clear ae;have e5:b5=true∨(b5=false∧tw=true)→ny s k=s1:=fun h=>by
    rw[←G];rcases h with h|⟨h,h'⟩
    ·rw[h];rfl
    rw[h,h'];rfl
   have e6:b5=false→tw=false→s=s1:=fun h h'=>by rw[←G,h,h'];rfl
   clear G;cases b5
   ·cases tw
    ·have e6:=e6 rfl rfl;subst e6;repeat' ((conv=>whnf);first|(with_reducible first|apply aM|apply fk<;>intro hc<;>try exact oG)|refine aK ?_|fail)
     refine⟨(),aD ?_⟩;all_goals exact aJ
    have e5:=e5 (.inr ⟨rfl,rfl⟩);subst e5;repeat' ((conv=>whnf);first|(with_reducible first|apply aM|apply fk<;>intro hc<;>try exact oG)|rewrite[eK]|(((with_reducible apply And.intro);focus (simp only[jQ,rP,List.length_take,List.length_drop,fG,jo,jq,Int.toNat_natCast];omega)))|refine aK ?_|fail)
    refine⟨(),aD ?_⟩;repeat' first|apply And.intro|exact aJ|fail
    all_goals try (conv=>whnf)
    all_goals exact Gy s k
   have e5:=e5 (.inl rfl);subst e5;repeat' ((conv=>whnf);first|(with_reducible first|apply aM|apply fk<;>intro hc<;>try exact oG)|rewrite[eK]|(((with_reducible apply And.intro);focus (simp only[jQ,rP,List.length_take,List.length_drop,fG,jo,jq,Int.toNat_natCast];omega)))|refine aK ?_|fail)
   refine⟨(),aD ?_⟩;repeat' first|apply And.intro|exact aJ|fail
   all_goals try (conv=>whnf)
   all_goals exact Gy s k
  clear G;have ai:((IntKind.i64.wrap (x.what.tmod 12+12)).tmod 12 != 6) = !b5:=by rw[bne,h5]
  cases b5;all_goals simp only[Bool.not_true,Bool.not_false] at ai
  ·repeat' ((conv=>whnf);first|(with_reducible first|apply aM|apply fk<;>intro hc<;>try exact iA)|rewrite[nE]|rewrite[nG]|refine eF ae ?_|refine aK ?_|fail)
   refine⟨_,_,⟨rfl,rfl⟩,?_⟩;repeat' first|apply And.intro|exact aJ|fail
   all_goals try (conv=>whnf)
  repeat' ((conv=>whnf);first|(with_reducible first|apply aM|apply fk<;>intro hc<;>try exact iA)|refine aK ?_|fail)
  refine⟨_,_,⟨rfl,rfl⟩,?_⟩;all_goals exact aJ
theorem Ue:bM prog 94 f94:=fO func94
theorem aei (s:Sk)(n:Int)(hn:1≤n∧n≤8)(hs:s.bS.length≤8)(hh:s.told.length≤100000)(hall:∀h∈s.told,jw s.bS h.n h.body) :
  dX prog 94 [.ptr 1 0,.aO 4 0,.pv (uu n)] (zi s) (.cK [.aO 1001 0,.pv (bl true)]) (zi s++[(1001,.arr 27 0 2 ((bn s.told n).map Pl.c))]):=by
 refine fw Ue ?_;repeat' ((conv=>whnf);first|(with_reducible first|apply aM|apply fk<;>intro hc<;>try exact aV)|refine aK ?_|fail)
 refine⟨{k:Nat // k≤s.told.length},fun⟨k,_⟩=>⟨[(0,.ptr 1 0),(1,.aO 4 0),(2,.pv (uu n)),(8,.aO 1008 0),(9,.pv (ii k))],1000000000,zi s++[(1008,.arr 27 0 2 ((Uf s.told n k).map Pl.c))]⟩,fun⟨k,_⟩=>s.told.length-k,⟨⟨0,Nat.zero_le _⟩,aD ?_⟩,?_⟩
 ·all_goals exact aJ
 rintro⟨k,hk⟩
 dsimp only
 have aa:(Uf s.told n k).length≤k:=by
  unfold Uf bn;rw[List.length_map];refine Nat.le_trans (List.length_filter_le _ _) ?_;rw[List.length_take];omega
 by_cases G:k<s.told.length
 rotate_left
 ·have ag:k=s.told.length:=by omega
  subst ag;have d0:decide ((s.told.length:Int)<((s.told.map Hp.c).length:Int))=false:=by simp
  have X:Uf s.told n s.told.length=bn s.told n:=by unfold Uf;rw[List.take_length]
  rw[X] at aa ⊢;clear X aa hall;repeat' ((conv=>whnf);first|(with_reducible first|apply aM|apply fk<;>intro hc<;>try exact iA)|refine aK ?_|fail)
  refine⟨_,_,⟨rfl,rfl⟩,?_⟩;all_goals exact aJ
 have d0:decide ((k:Int)<((s.told.map Hp.c).length:Int))=true:=by simp only[fG,iG];omega
 have eW:IntKind.i64.wrap ((k:Int)+1)=((k+1:Nat):Int):=by rw[bF (by omega) (by omega)];omega
 have hr:=dR Hp.c s.told k G;have J:=Od s.told n k G;have hg:=hall _ (List.getElem_mem G);obtain⟨h,S⟩:∃h,s.told[k]=h:=⟨_,rfl⟩;rw[S] at hr J hg;clear S hall;cases e1:(h.n==n) with
 | false=>
   rw[e1] at J;simp only[Bool.false_eq_true,↓reduceIte] at J;replace J:=Hd.mk J;clear hg;repeat' ((conv=>whnf);first|(with_reducible first|apply aM|apply fk<;>intro hc<;>try exact iA)|((refine⟨_,hr,?_⟩))|refine aK ?_|fail)
   refine⟨⟨k+1,G⟩,dec_lt G,aD ?_⟩;dsimp only
   rw[J.out];repeat' first|apply And.intro|exact aJ|fail
   all_goals try (conv=>whnf)
   all_goals exact eW
 | true=>
   rw[e1] at J;simp only[↓reduceIte] at J;have V:h.n=n:=by simpa using e1
   rw[V] at hg;obtain⟨ae,af,Q⟩:=hg;have hi:(n-1).toNat<s.bS.length:=by omega
   have K:h.body=s.bS[(n-1).toNat]:=by rw[Q,getElem!_pos s.bS _ hi]
   have ad:=dR Ap s.bS (n-1).toNat hi;rw[←K] at ad;have eS:IntKind.u64.wrap (n-1)=(((n-1).toNat:Nat):Int):=by rw[gX (by omega) (by omega)];omega
   have d1:decide (n<1)=false:=by simp only[uS];omega
   have eU:IntKind.u64.wrap (((s.bS.map Ap).length:Int))=(s.bS.length:Int):=by rw[List.length_map,gX (by omega) (by omega)]
   have d2:decide (n>(s.bS.length:Int))=false:=by simp only[uS];omega
   have ah:(n-1).toNat<(s.bS.map Ap).length:=by rw[List.length_map];exact hi
   replace J:=Hd.mk J;have d3:((⟨h.body.toArray⟩:ByteArray).toList==(⟨h.body.toArray⟩:ByteArray).toList)=true:=by simp
   clear ae af Q K V;repeat' ((conv=>whnf);first|(with_reducible first|apply aM|apply fk<;>intro hc<;>try exact iA)|rewrite[eS]|rewrite[eU]|((refine⟨_,hr,?_⟩))|((refine⟨_,ad,?_⟩))|(((with_reducible apply And.intro);focus (simp only[fG,jo,jq];omega)))|refine aK ?_|fail)
   refine⟨⟨k+1,G⟩,dec_lt G,aD ?_⟩;dsimp only
   rw[J.out,List.map_append];repeat' first|apply And.intro|exact aJ|fail
   all_goals try (conv=>whnf)
   all_goals first
    |exact eW
    |(refine bW (ay _) ?_;(repeat' first|apply And.intro|exact aJ|fail);(all_goals try (conv=>whnf)))
theorem aej (s:Sk)(n:Int)(hn:1≤n∧n≤8)(hs:s.bS.length≤8)(hh:s.has.length≤100000)(hall:∀h∈s.has,jw s.bS h.n h.body) :
  dX prog 94 [.ptr 1 0,.aO 3 0,.pv (uu n)] (zi s) (.cK [.aO 1001 0,.pv (bl true)]) (zi s++[(1001,.arr 27 0 2 ((bn s.has n).map Pl.c))]):=by
 refine fw Ue ?_;repeat' ((conv=>whnf);first|(with_reducible first|apply aM|apply fk<;>intro hc<;>try exact aV)|refine aK ?_|fail)
 refine⟨{k:Nat // k≤s.has.length},fun⟨k,_⟩=>⟨[(0,.ptr 1 0),(1,.aO 3 0),(2,.pv (uu n)),(8,.aO 1008 0),(9,.pv (ii k))],1000000000,zi s++[(1008,.arr 27 0 2 ((Uf s.has n k).map Pl.c))]⟩,fun⟨k,_⟩=>s.has.length-k,⟨⟨0,Nat.zero_le _⟩,aD ?_⟩,?_⟩
 ·all_goals exact aJ
 rintro⟨k,hk⟩
 dsimp only
 have aa:(Uf s.has n k).length≤k:=by
  unfold Uf bn;rw[List.length_map];refine Nat.le_trans (List.length_filter_le _ _) ?_;rw[List.length_take];omega
 by_cases G:k<s.has.length
 rotate_left
 ·have ag:k=s.has.length:=by omega
  subst ag;have d0:decide ((s.has.length:Int)<((s.has.map Hp.c).length:Int))=false:=by simp
  have X:Uf s.has n s.has.length=bn s.has n:=by unfold Uf;rw[List.take_length]
  rw[X] at aa ⊢;clear X aa hall;repeat' ((conv=>whnf);first|(with_reducible first|apply aM|apply fk<;>intro hc<;>try exact iA)|refine aK ?_|fail)
  refine⟨_,_,⟨rfl,rfl⟩,?_⟩;all_goals exact aJ
 have d0:decide ((k:Int)<((s.has.map Hp.c).length:Int))=true:=by simp only[fG,iG];omega
 have eW:IntKind.i64.wrap ((k:Int)+1)=((k+1:Nat):Int):=by rw[bF (by omega) (by omega)];omega
 have hr:=dR Hp.c s.has k G;have J:=Od s.has n k G;have hg:=hall _ (List.getElem_mem G);obtain⟨h,S⟩:∃h,s.has[k]=h:=⟨_,rfl⟩;rw[S] at hr J hg;clear S hall;cases e1:(h.n==n) with
 | false=>
   rw[e1] at J;simp only[Bool.false_eq_true,↓reduceIte] at J;replace J:=Hd.mk J;clear hg;repeat' ((conv=>whnf);first|(with_reducible first|apply aM|apply fk<;>intro hc<;>try exact iA)|((refine⟨_,hr,?_⟩))|refine aK ?_|fail)
   refine⟨⟨k+1,G⟩,dec_lt G,aD ?_⟩;dsimp only
   rw[J.out];repeat' first|apply And.intro|exact aJ|fail
   all_goals try (conv=>whnf)
   all_goals exact eW
 | true=>
   rw[e1] at J;simp only[↓reduceIte] at J;have V:h.n=n:=by simpa using e1
   rw[V] at hg;obtain⟨ae,af,Q⟩:=hg;have hi:(n-1).toNat<s.bS.length:=by omega
   have K:h.body=s.bS[(n-1).toNat]:=by rw[Q,getElem!_pos s.bS _ hi]
   have ad:=dR Ap s.bS (n-1).toNat hi;rw[←K] at ad;have eS:IntKind.u64.wrap (n-1)=(((n-1).toNat:Nat):Int):=by rw[gX (by omega) (by omega)];omega
   have d1:decide (n<1)=false:=by simp only[uS];omega
   have eU:IntKind.u64.wrap (((s.bS.map Ap).length:Int))=(s.bS.length:Int):=by rw[List.length_map,gX (by omega) (by omega)]
   have d2:decide (n>(s.bS.length:Int))=false:=by simp only[uS];omega
   have ah:(n-1).toNat<(s.bS.map Ap).length:=by rw[List.length_map];exact hi
   replace J:=Hd.mk J;have d3:((⟨h.body.toArray⟩:ByteArray).toList==(⟨h.body.toArray⟩:ByteArray).toList)=true:=by simp
   clear ae af Q K V;repeat' ((conv=>whnf);first|(with_reducible first|apply aM|apply fk<;>intro hc<;>try exact iA)|rewrite[eS]|rewrite[eU]|((refine⟨_,hr,?_⟩))|((refine⟨_,ad,?_⟩))|(((with_reducible apply And.intro);focus (simp only[fG,jo,jq];omega)))|refine aK ?_|fail)
   refine⟨⟨k+1,G⟩,dec_lt G,aD ?_⟩;dsimp only
   rw[J.out,List.map_append];repeat' first|apply And.intro|exact aJ|fail
   all_goals try (conv=>whnf)
   all_goals first
    |exact eW
    |(refine bW (ay _) ?_;(repeat' first|apply And.intro|exact aJ|fail);(all_goals try (conv=>whnf)))
theorem JK (x:Rv)(X:x.af.length≤1000)(S:∀f∈x.af,f.ah.length≤1000)(J:x.phase=4→1≤x.n∧x.n≤1000) :
  dF prog 37 [.agg x.c] (if x.phase=4 then .cK [uu (x.n-1),cB x.af,bl true] else .cK [uu 0,cB [],bl false]):=by
 have K:=uw x.af (by omega) (fun f V=>by have:=S f V;omega);refine PC.le ?_;cases p:(x.phase != 4) with
 | true=>
   rw[if_neg (by simpa using p)];clear K;refine dQ yX ?_;repeat' ((conv=>whnf);first|(with_reducible first|apply aM|apply fk<;>intro hc<;>try exact iA)|refine aK ?_|fail)
   all_goals exact aJ
 | false=>
   have G:x.phase=4:=by simpa using p
   rw[if_pos G];have J:=J G;have Q:IntKind.u64.wrap (x.n-1)=x.n-1:=gX (by omega) (by omega);clear G;refine dQ yX ?_;repeat' ((conv=>whnf);first|(with_reducible first|apply aM|apply fk<;>intro hc<;>try exact iA)|rewrite[Q]|refine eF K ?_|refine aK ?_|fail)
   all_goals
    all_goals exact aJ
theorem Cc:bM prog 34 f34:=fO func34
theorem V3 (s:Sk)(i:Nat):Nf s (i+1)=(Nf s i&&Vt s ((i:Int)+1)):=by
 unfold Nf;rw[List.range_succ,List.all_append];simp
theorem aaA (s:Sk)(h:Ls s)(H:fB s)(X:s.ak=s.first→s.r.phase=0)(ax:s.r.af.length≤1000)(aw:∀f∈s.r.af,f.ah.length≤1000) :
  dX prog 34 [.ptr 1 0] (zi s) (.pv (bl true)) (zi s):=by
 have hR:s.r.phase=4→s.first<s.ak:=fun e=>by
  have:=H.ep;rcases Int.lt_or_eq_of_le this with g|g
  ·exact g
  rw[X g.symm] at e;cases e
 have G:=JK s.r ax aw (fun e=>by have:=(H.rv (hR e)).n1 (by rw[e];decide);omega);cases d0:(s.ak==s.first) with
 | true=>
   have V:¬s.r.phase=4:=fun e=>by have:=hR e;rw[beq_iff_eq] at d0;omega
   rw[if_neg V] at G;clear h H hR X V;refine fw Cc ?_;repeat' ((conv=>whnf);first|(with_reducible first|apply aM|apply fk<;>intro hc<;>try exact iA)|refine eT G ?_|refine aK ?_|fail)
   refine⟨_,_,⟨rfl,rfl⟩,?_⟩;all_goals exact aJ
 |false=>
 by_cases V:s.r.phase=4
 rotate_left
 ·rw[if_neg V] at G;clear h H hR X V;refine fw Cc ?_;repeat' ((conv=>whnf);first|(with_reducible first|apply aM|apply fk<;>intro hc<;>try exact iA)|refine eT G ?_|refine aK ?_|fail)
  refine⟨_,_,⟨rfl,rfl⟩,?_⟩;all_goals exact aJ
 rw[if_pos V] at G;have R:=H.rv (hR V);have hk:=KA H;unfold MO at hk;rw[if_neg (by
  rintro (e|e)
  ·rw[beq_eq_false_iff_ne] at d0;exact d0 e
  exact e V),Bool.and_eq_true,Bool.not_eq_true',Bool.or_eq_false_iff,Bool.or_eq_false_iff] at hk
 obtain⟨⟨k1,k2,k3⟩,k4⟩:=hk;have a1:=R.n1 (by rw[V];decide);rw[List.all_eq_true] at k4;have k5:∀i:Nat,i<8→(decide ((i:Int)+1>s.r.n-1)&&Nf s (i+1))=false∧(decide ((i:Int)+1≤s.r.n-1)=true→bE (setOf s.r.af s.x.w ((i:Int)+1)) s.x.a (bn s.has ((i:Int)+1))=true):=fun i hi=>by
  have:=k4 i (List.mem_range.2 hi);simp only[Bool.and_eq_true,Bool.not_eq_true',Bool.or_eq_true] at this;refine⟨this.2.2.1,fun e=>this.2.2.2.resolve_left (by rw[e];decide)⟩
 have zf:=ql s.x.w s.r.af;have aa:dh s.x.w s.r.af=true:=by simpa using k3
 rw[aa] at zf;have eU:IntKind.u64.wrap (((s.bS.map Ap).length:Int))=(s.bS.length:Int):=by rw[List.length_map];have:=h.bS;rw[gX (by omega) (by omega)]
 have ao:=Ce aa;have am:=Ce h.pl;have Tw:s.x.w≤5:=by rw[←H.wl.1];exact h.ww
 have ad:=fun n hn=>aei s n hn h.bS (by have:=h.told;omega) H.S.hd
 have ae:=fun n hn=>aej s n hn h.bS (by have:=h.has;omega) H.hb
 have al:∀n,(bn s.told n).length≤1000000:=fun n=>by
  unfold bn;rw[List.length_map];have:=List.length_filter_le (fun h:Hp=>h.n==n) s.told;have:=h.told;omega
 have Qq:∀n,(bn s.has n).length≤1000000:=fun n=>by
  unfold bn;rw[List.length_map];have:=List.length_filter_le (fun h:Hp=>h.n==n) s.has;have:=h.has;omega
 clear k3 k4 aa H hR X R h V;refine fw Cc ?_;repeat' ((conv=>whnf);first|(with_reducible first|apply aM|apply fk<;>intro hc<;>try exact oG)|rewrite[eU]|refine eT G ?_|refine eT zf ?_|refine aK ?_|fail)
 clear G zf k1 k2 d0;refine⟨{i:Nat // i≤8},fun⟨i,_⟩=>⟨[(0,.ptr 1 0),(3,.pv (uu (s.r.n-1))),(4,.pv (cB s.r.af)),(6,.pv (bl (Nf s i))),(7,.pv (uu (((i+1:Nat)):Int)))],1000000000,zi s⟩,fun⟨i,_⟩=>8-i,⟨⟨0,Nat.zero_le _⟩,aD ?_⟩,?_⟩
 ·repeat' first|apply And.intro|exact aJ|fail
  all_goals try (conv=>whnf)
  all_goals rfl
 rintro⟨i,hi⟩
 dsimp only
 by_cases ai:i<8
 rotate_left
 ·have ap:i=8:=by omega
  subst ap;have d1:decide ((((8+1:Nat)):Int)≤8)=false:=by decide
  repeat' ((conv=>whnf);first|(with_reducible first|apply aM|apply fk<;>intro hc<;>try exact iA)|refine aK ?_|fail)
  refine⟨_,_,⟨rfl,rfl⟩,?_⟩;all_goals exact aJ
 have d1:decide ((((i+1:Nat)):Int)≤8)=true:=by simp only[iG];omega
 have eW:IntKind.u64.wrap ((((i+1:Nat)):Int)+1)=(((i+1+1:Nat)):Int):=by rw[gX (by omega) (by omega)];omega
 obtain⟨K,Q⟩:=k5 i ai;rw[show ((i:Int)+1)=(((i+1:Nat)):Int) by omega] at K Q;have J:=V3 s i;rw[show ((i:Int)+1)=(((i+1:Nat)):Int) by omega] at J;have aq:=ad (((i+1:Nat)):Int) (by omega);have ar:=ae (((i+1:Nat)):Int) (by omega);have az:=Oe s.x.af s.x.w (((i+1:Nat)):Int) am (by omega);have a0:=Oe s.r.af s.x.w (((i+1:Nat)):Int) ao (by omega);have ag:=Gz (setOf s.x.af s.x.w (((i+1:Nat)):Int)) s.x.a (bn s.told (((i+1:Nat)):Int)) (by have:=qm (l:=s.x.af) (n:=(((i+1:Nat)):Int)) Tw;omega) (al _);have yD:=Gz (setOf s.r.af s.x.w (((i+1:Nat)):Int)) s.x.a (bn s.has (((i+1:Nat)):Int)) (by have:=qm (l:=s.r.af) (n:=(((i+1:Nat)):Int)) Tw;omega) (Qq _);rw[show bE (setOf s.x.af s.x.w (((i+1:Nat)):Int)) s.x.a (bn s.told (((i+1:Nat)):Int))=Vt s (((i+1:Nat)):Int) from rfl] at ag;rw[J] at K;replace J:=Hd.mk J;clear k5 ad ae al Qq;generalize setOf s.x.af s.x.w (((i+1:Nat)):Int)=S1 at *;generalize setOf s.r.af s.x.w (((i+1:Nat)):Int)=S2 at *;generalize Nf s i=A at *;generalize Vt s (((i+1:Nat)):Int)=A2 at *;cases g:decide ((((i+1:Nat)):Int)>s.r.n-1);case' true=>
  have g2:decide ((((i+1:Nat)):Int)≤s.r.n-1)=false:=by simp only[iG,uS] at g ⊢;omega
  rw[g,Bool.true_and] at K;clear Q
 case' false=>
  have g2:decide ((((i+1:Nat)):Int)≤s.r.n-1)=true:=by simp only[iG,uS] at g ⊢;omega
  have Q:=Q g2;rw[Q] at yD;clear K
 all_goals cases A<;>cases A2
 all_goals first
  |exact absurd K (by decide)
  |skip
 all_goals
  repeat' ((conv=>whnf);first|(with_reducible first|apply aM|apply fk<;>intro hc<;>try exact oG)|rewrite[eU]|rewrite[nE]|rewrite[nG]|(apply mq;refine⟨_,_,aq,?_⟩)|(apply mq;refine⟨_,_,ar,?_⟩)|refine eT az ?_|refine eT a0 ?_|refine eT ag ?_|refine eT yD ?_|refine aK ?_|fail)
  refine⟨⟨i+1,ai⟩,by simp only;omega,aD ?_⟩;repeat' first|apply And.intro|exact aJ|fail
  all_goals try (conv=>whnf)
  all_goals first
   |exact eW
   |rfl
   |exact (J.out.trans rfl).symm
   |trace_state
end Go.Proofs.YtfoiekbkkbnpkaaGreat.Tb
end
