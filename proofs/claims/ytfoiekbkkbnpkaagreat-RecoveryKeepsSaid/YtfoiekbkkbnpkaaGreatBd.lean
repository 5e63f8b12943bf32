/-
  Contracts of functions of the program and of the document, each for every input that its premises name.
-/
import Derived.Test.YtfoiekbkkbnpkaaGreatBc
import Derived.Test.YtfoiekbkkbnpkaaGreatAf
set_option linter.unusedSectionVars false
set_option linter.unusedVariables false
set_option linter.unusedSimpArgs false
set_option maxRecDepth 100000
set_option maxHeartbeats 4000000
section
open Go Go.Proofs.Tryz Go.AX
namespace Go.Proofs.YtfoiekbkkbnpkaaGreat.Tb
theorem BL (x:Rv)(now:Int)(hp:x.phase=3)(hf:bg x.af)(hn:0≤x.n∧x.n≤18446744073709551615)(hs:(aj x).length≤1000000)(hb:x.body.length≤1000000) :
  dU prog 144 [.ptr 1 0,.pv (uu now)] [(1,.var (x.v (.pv (ax x.heard)) (.pv (ax x.none)) (.aO 2 0) (.pv (cB x.af)) (.pv (ax x.bad)) (.pv (.sc (.slice none 0 0))))),(2,.arr 27 0 2 (x.has.map Pl.c))] (.pv (.cO []))
   [(1,.var (({ x with since:=now }:Rv).v (.pv (ax x.heard)) (.pv (ax x.none)) (.aO 2 0) (.pv (cB x.af)) (.pv (ax x.bad)) (.aO 1001 0))),(2,.arr 27 0 2 (x.has.map Pl.c)),(1001,.arr 93 0 10 ((bn x (aj x)).map Rq.c))]:=by
 have b1:(x.phase==1)=false:=by simp[hp]
 have b2:(x.phase==2)=false:=by simp[hp]
 have b3:(x.phase==3)=true:=by simp[hp]
 clear hp;refine eO qw ?_;repeat' ((conv=>whnf);first|with_reducible apply aP|((with_reducible apply fk)<;>intro hc<;>try exact aZ)|(refine Or.inr ?_;(conv=>whnf);refine⟨_,bZ bU (cZ mixed bU) j6 rfl ?_,fun _ _ h=>h⟩)|(apply bA;refine⟨_,iU _ _ _ hf hn,?_⟩)|refine aN ?_|fail)
 refine⟨{k:Nat // k≤(aj x).length},fun⟨k,_⟩=>⟨[(0,.ptr 1 0),(94,.pv (ax (aj x))),(95,.pv (ii (aj x).length)),(96,.pv (ii k))],1000000000,[(1,.var (({ x with since:=now }:Rv).v (.pv (ax x.heard)) (.pv (ax x.none)) (.aO 2 0) (.pv (cB x.af)) (.pv (ax x.bad)) (.aO 1001 0))),(2,.arr 27 0 2 (x.has.map Pl.c)),(1001,.arr 93 0 10 ((bn x ((aj x).take k)).map Rq.c))]⟩,fun⟨k,_⟩=>(aj x).length-k,⟨⟨0,Nat.zero_le _⟩,aH ?_⟩,?_⟩
 ·repeat' first|apply And.intro|exact aM|fail
  all_goals try (conv=>whnf)
  rw[List.length_map];rfl
 rintro⟨k,hk⟩
 by_cases hlt:k<(aj x).length
 ·have d0:decide ((k:Int)<((aj x).length:Int))=true:=by simp only[iO];omega
  have eW:IntKind.i64.wrap ((k:Int)+1)=((k+1:Nat):Int):=by rw[bN (by omega) (by omega)];omega
  have hq:=fO (fun p=>!x.has.any (· == p)) (Cv x) (aj x) k hlt;have hl:=gD (fun p=>!x.has.any (· == p)) (Cv x) (aj x) k;repeat' ((conv=>whnf);first|with_reducible apply aP|((with_reducible apply fk)<;>intro hc<;>try exact aZ)|((refine⟨_,dR _ _ _ hlt,?_⟩))|(apply bA;refine⟨_,aA _ _ _,?_⟩)|(apply bA;refine⟨_,fA x.body (by omega),?_⟩)|(((with_reducible apply And.intro);focus (simp only[bn,fE,jQ,jR] at *;omega)))|refine aN ?_|fail)
  all_goals
   refine⟨⟨k+1,hlt⟩,dec_lt hlt,aH ?_⟩;repeat' first|apply And.intro|exact aM|fail
   all_goals try (conv=>whnf)
   all_goals first
    |exact eW
    | (simp only[bn]
       rw[hq,if_pos (by assumption),List.map_append];refine bW (aB _) ?_
       (repeat' first|apply And.intro|exact aM|fail);(all_goals try (conv=>whnf)))
    | (simp only[bn]
       rw[hq,if_neg (by rw[show (!x.has.any fun y=>y==(aj x)[k])=false from by assumption];simp)];exact aB _)
 have hke:k=(aj x).length:=by omega
 subst hke;have d0:decide (((aj x).length:Int)<((aj x).length:Int))=false:=by simp
 repeat' ((conv=>whnf);first|with_reducible apply aP|((with_reducible apply fk)<;>intro hc<;>try exact aZ)|refine aN ?_|fail)
 refine⟨_,_,⟨rfl,rfl⟩,?_⟩;repeat' first|apply And.intro|exact aM|fail
 all_goals try (conv=>whnf)
 rw[List.take_length];exact aB _
theorem wN (x:Rv)(now:Int)(hp:x.phase=3)(hf:bg x.af)(hn:0≤x.n∧x.n≤18446744073709551615)(hs:(aj x).length≤1000000)(hb:x.body.length≤1000000) :
  dU prog 144 [.ptr 1 0,.pv (uu now)] [(1,.var (x.v (.pv (ax x.heard)) (.pv (ax x.none)) (.pv (ax x.has)) (.aO 2 0) (.pv (ax x.bad)) (.pv (.sc (.slice none 0 0))))),(2,.arr 48 0 2 (x.af.map Fr.c))] (.pv (.cO []))
   [(1,.var (({ x with since:=now }:Rv).v (.pv (ax x.heard)) (.pv (ax x.none)) (.pv (ax x.has)) (.aO 2 0) (.pv (ax x.bad)) (.aO 1001 0))),(2,.dS 0 2 (x.af.map Fr.c)),(1001,.arr 93 0 10 ((bn x (aj x)).map Rq.c))]:=by
 have b1:(x.phase==1)=false:=by simp[hp]
 have b2:(x.phase==2)=false:=by simp[hp]
 have b3:(x.phase==3)=true:=by simp[hp]
 clear hp;refine eO qw ?_;repeat' ((conv=>whnf);first|with_reducible apply aP|((with_reducible apply fk)<;>intro hc<;>try exact aZ)|(refine Or.inr ?_;(conv=>whnf);refine⟨_,bZ bU (cZ mixed bU) j6 rfl ?_,fun _ _ h=>h⟩)|(apply bA;refine⟨_,iU _ _ _ hf hn,?_⟩)|refine aN ?_|fail)
 refine⟨{k:Nat // k≤(aj x).length},fun⟨k,_⟩=>⟨[(0,.ptr 1 0),(94,.pv (ax (aj x))),(95,.pv (ii (aj x).length)),(96,.pv (ii k))],1000000000,[(1,.var (({ x with since:=now }:Rv).v (.pv (ax x.heard)) (.pv (ax x.none)) (.pv (ax x.has)) (.aO 2 0) (.pv (ax x.bad)) (.aO 1001 0))),(2,.dS 0 2 (x.af.map Fr.c)),(1001,.arr 93 0 10 ((bn x ((aj x).take k)).map Rq.c))]⟩,fun⟨k,_⟩=>(aj x).length-k,⟨⟨0,Nat.zero_le _⟩,aH ?_⟩,?_⟩
 ·repeat' first|apply And.intro|exact aM|fail
  all_goals try (conv=>whnf)
  rw[List.length_map];rfl
 rintro⟨k,hk⟩
 by_cases hlt:k<(aj x).length
 ·have d0:decide ((k:Int)<((aj x).length:Int))=true:=by simp only[iO];omega
  have eW:IntKind.i64.wrap ((k:Int)+1)=((k+1:Nat):Int):=by rw[bN (by omega) (by omega)];omega
  have hq:=fO (fun p=>!x.has.any (· == p)) (Cv x) (aj x) k hlt;have hl:=gD (fun p=>!x.has.any (· == p)) (Cv x) (aj x) k;repeat' ((conv=>whnf);first|with_reducible apply aP|((with_reducible apply fk)<;>intro hc<;>try exact aZ)|((refine⟨_,dR _ _ _ hlt,?_⟩))|(apply bA;refine⟨_,aA _ _ _,?_⟩)|(apply bA;refine⟨_,fA x.body (by omega),?_⟩)|(((with_reducible apply And.intro);focus (simp only[bn,fE,jQ,jR] at *;omega)))|refine aN ?_|fail)
  all_goals
   refine⟨⟨k+1,hlt⟩,dec_lt hlt,aH ?_⟩;repeat' first|apply And.intro|exact aM|fail
   all_goals try (conv=>whnf)
   all_goals first
    |exact eW
    | (simp only[bn]
       rw[hq,if_pos (by assumption),List.map_append];refine bW (aB _) ?_
       (repeat' first|apply And.intro|exact aM|fail);(all_goals try (conv=>whnf)))
    | (simp only[bn]
       rw[hq,if_neg (by rw[show (!x.has.any fun y=>y==(aj x)[k])=false from by assumption];simp)];exact aB _)
 have hke:k=(aj x).length:=by omega
 subst hke;have d0:decide (((aj x).length:Int)<((aj x).length:Int))=false:=by simp
 repeat' ((conv=>whnf);first|with_reducible apply aP|((with_reducible apply fk)<;>intro hc<;>try exact aZ)|refine aN ?_|fail)
 refine⟨_,_,⟨rfl,rfl⟩,?_⟩;repeat' first|apply And.intro|exact aM|fail
 all_goals try (conv=>whnf)
 rw[List.take_length];exact aB _
theorem I6 (x:Rv)(now:Int)(hp:x.phase=1)(h0:0<x.l.af.length)(hfl:x.l.af.length≤1000)(hl:(aW x).ah.length≤1000000) :
  dU prog 144 [.ptr 1 0,.pv (uu now)] [(1,.var (x.v (.pv (ax x.heard)) (.pv (ax x.none)) (.pv (ax x.has)) (.pv (cB x.af)) (.pv (ax x.bad)) (.pv (.sc (.slice none 0 0)))))] (.pv (.cO []))
   [(1,.var (({ x with since:=now }:Rv).v (.pv (ax x.heard)) (.pv (ax x.none)) (.pv (ax x.has)) (.pv (cB x.af)) (.pv (ax x.bad)) (.aO 1001 0))),(1001,.arr 93 0 10 ((jL x (aW x).ah).map Rq.c))]:=by
 have b1:(x.phase==1)=true:=by simp[hp]
 clear hp;have c1:decide (((List.map Fr.c x.l.af).length:Int)>0)=true:=by rw[List.length_map];simp only[iO];omega
 have eL:IntKind.i64.wrap (((List.map Fr.c x.l.af).length:Int)-1)=((x.l.af.length-1:Nat):Int):=by rw[List.length_map,bN (by omega) (by omega)];omega
 have hlt1:x.l.af.length-1<x.l.af.length:=by omega
 have elf:aW x=x.l.af[x.l.af.length-1]:=getElem!_pos x.l.af _ hlt1;rw[elf] at hl ⊢;clear elf;obtain⟨lf,gT⟩:∃lf,x.l.af[x.l.af.length-1]=lf:=⟨_,rfl⟩;rw[gT] at hl ⊢;have hrow:(List.map Fr.c x.l.af)[(IntKind.i64.wrap (((List.map Fr.c x.l.af).length:Int)-1)).toNat]? = some (Fr.c lf):=(O6 Fr.c _ eL hlt1).trans (by rw[gT]);refine eO qw ?_;repeat' ((conv=>whnf);first|with_reducible apply aP|((with_reducible apply fk)<;>intro hc<;>try exact aZ)|(refine Or.inr ?_;(conv=>whnf);refine⟨_,bZ bU (cZ mixed bU) Nu rfl ?_,fun _ _ h=>h⟩)|((refine⟨_,hrow,?_⟩))|(((with_reducible apply And.intro);focus (rw[eL,List.length_map];omega)))|(((with_reducible apply And.intro);focus (rw[eL];omega)))|refine aN ?_|fail)
 refine⟨{k:Nat // k≤lf.ah.length},fun⟨k,_⟩=>⟨[(0,.ptr 1 0),(24,.pv (ax lf.ah)),(25,.pv (ii lf.ah.length)),(26,.pv (ii k))],1000000000,[(1,.var (({ x with since:=now }:Rv).v (.pv (ax x.heard)) (.pv (ax x.none)) (.pv (ax x.has)) (.pv (cB x.af)) (.pv (ax x.bad)) (.aO 1001 0))),(1001,.arr 93 0 10 ((jL x (lf.ah.take k)).map Rq.c))]⟩,fun⟨k,_⟩=>lf.ah.length-k,⟨⟨0,Nat.zero_le _⟩,aH ?_⟩,?_⟩
 ·repeat' first|apply And.intro|exact aM|fail
  all_goals try (conv=>whnf)
  rw[List.length_map]
 rintro⟨k,hk⟩
 by_cases hlt:k<lf.ah.length
 ·have d0:decide ((k:Int)<(lf.ah.length:Int))=true:=by simp only[iO];omega
  have eW:IntKind.i64.wrap ((k:Int)+1)=((k+1:Nat):Int):=by rw[bN (by omega) (by omega)];omega
  have hq:=fO (fun p=>!x.heard.any (· == p)) (JQ x) lf.ah k hlt;have hl2:=gD (fun p=>!x.heard.any (· == p)) (JQ x) lf.ah k;clear hrow eL c1;repeat' ((conv=>whnf);first|with_reducible apply aP|((with_reducible apply fk)<;>intro hc<;>try exact aZ)|((refine⟨_,dR _ _ _ hlt,?_⟩))|(apply bA;refine⟨_,aA _ _ _,?_⟩)|(((with_reducible apply And.intro);focus (simp only[jL,fE,jQ,jR] at *;omega)))|refine aN ?_|fail)
  all_goals
   refine⟨⟨k+1,hlt⟩,dec_lt hlt,aH ?_⟩;repeat' first|apply And.intro|exact aM|fail
   all_goals try (conv=>whnf)
   all_goals first
    |exact eW
    | (simp only[jL]
       rw[hq,if_pos (by assumption),List.map_append];refine bW (aB _) ?_
       (repeat' first|apply And.intro|exact aM|fail);(all_goals try (conv=>whnf)))
    | (simp only[jL]
       rw[hq,if_neg (by rw[show (!x.heard.any fun y=>y==lf.ah[k])=false from by assumption];simp)];exact aB _)
 have hke:k=lf.ah.length:=by omega
 subst hke;have d0:decide ((lf.ah.length:Int)<(lf.ah.length:Int))=false:=by simp
 repeat' ((conv=>whnf);first|with_reducible apply aP|((with_reducible apply fk)<;>intro hc<;>try exact aZ)|refine aN ?_|fail)
 refine⟨_,_,⟨rfl,rfl⟩,?_⟩;repeat' first|apply And.intro|exact aM|fail
 all_goals try (conv=>whnf)
 rw[List.take_length];exact aB _
theorem Nv:bR prog 95 f95:=fC func95
theorem tQ (l:List Fr)(hl:l.length≤1000000)(hb:∀f∈l,f.ah.length≤1000000):dU prog 95 [.pv (cB l)] [] (.aO 1001 0) [(1001,.arr 48 0 2 (l.map Fr.c))]:=by
 refine eO Nv ?_;repeat' ((conv=>whnf);first|with_reducible apply aP|((with_reducible apply fk)<;>intro hc<;>try exact aZ)|refine aN ?_|fail)
 refine⟨{k:Nat // k≤l.length},fun⟨k,_⟩=>⟨[(3,.aO 1003 0),(6,.pv (cB l)),(7,.pv (ii l.length)),(8,.pv (ii k))],1000000000,[(1003,.arr 48 0 2 ((l.take k).map Fr.c))]⟩,fun⟨k,_⟩=>l.length-k,⟨⟨0,Nat.zero_le _⟩,aH ?_⟩,?_⟩
 ·repeat' first|apply And.intro|exact aM|fail
  all_goals try (conv=>whnf)
  all_goals simp
 rintro⟨k,hk⟩
 by_cases hlt:k<l.length
 ·have d0:decide ((k:Int)<(l.length:Int))=true:=by simp only[iO];omega
  have eW:IntKind.i64.wrap ((k:Int)+1)=((k+1:Nat):Int):=by rw[bN (by omega) (by omega)];omega
  have hbl:=hb _ (List.getElem_mem hlt);repeat' ((conv=>whnf);first|with_reducible apply aP|((with_reducible apply fk)<;>intro hc<;>try exact aZ)|((refine⟨_,dR _ _ _ hlt,?_⟩))|(apply bA;refine⟨_,l8 _ (by omega),?_⟩)|(((with_reducible apply And.intro);focus (simp only[fE,List.length_take,jQ,jR] at *;omega)))|refine aN ?_|fail)
  all_goals
   refine⟨⟨k+1,hlt⟩,dec_lt hlt,aH ?_⟩;repeat' first|apply And.intro|exact aM|fail
   all_goals try (conv=>whnf)
   ·rw[List.take_succ_eq_append_getElem hlt,List.map_append];refine bW (aB _) ?_;all_goals exact aM
   exact eW
 have hke:k=l.length:=by omega
 subst hke;have d0:decide ((l.length:Int)<(l.length:Int))=false:=by simp
 repeat' ((conv=>whnf);first|with_reducible apply aP|((with_reducible apply fk)<;>intro hc<;>try exact aZ)|refine aN ?_|fail)
 refine⟨_,_,⟨rfl,rfl⟩,?_⟩;repeat' first|apply And.intro|exact aM|fail
 all_goals try (conv=>whnf)
 rw[List.take_length];exact aB _
theorem ZO:bR prog 135 f135:=fC func135
theorem BJ (x:Rv)(h:x.sm):dU prog 135 [.pv (.agg x.c)] [] (.ptr 1001 0) [(1001,.var (x.w (.aO 1002 0) (.aO 1003 0) (.aO 1004 0) (.aO 1005 0) (.aO 1006 0) (.aO 1007 0) (.pv (.sc (.slice none 0 0))))),(1002,.arr 48 0 2 (x.l.af.map Fr.c)),(1003,.arr 27 0 2 (x.heard.map Pl.c)),(1004,.arr 27 0 2 (x.none.map Pl.c)),(1005,.arr 27 0 2 (x.has.map Pl.c)),(1006,.arr 48 0 2 (x.af.map Fr.c)),(1007,.arr 27 0 2 (x.bad.map Pl.c))]:=by
 obtain⟨⟨a1,a2⟩,⟨a3,a4⟩,a5,a6,a7,a8,a9⟩:=h;have o1:=tQ x.l.af (by omega) (fun f hf=>by have:=a2 f hf;omega);have o2:=tQ x.af (by omega) (fun f hf=>by have:=a4 f hf;omega);refine eO ZO ?_;repeat' ((conv=>whnf);first|with_reducible apply aP|((with_reducible apply fk)<;>intro hc<;>try exact aZ)|(apply dn;refine⟨_,_,o1,?_⟩)|(apply dn;refine⟨_,_,o2,?_⟩)|(apply dn;refine⟨_,_,fJ x.heard (by omega),?_⟩)|(apply dn;refine⟨_,_,fJ x.none (by omega),?_⟩)|(apply dn;refine⟨_,_,fJ x.has (by omega),?_⟩)|(apply dn;refine⟨_,_,fJ x.bad (by omega),?_⟩)|(apply bA;refine⟨_,fA x.body (by omega),?_⟩)|refine aN ?_|fail)
 refine⟨_,_,⟨rfl,rfl⟩,?_⟩;all_goals exact aM
theorem jK (x:Rv)(h:x.sm):dU prog 135 [.pv (.agg x.c)] [] (.ptr 1001 0) [(1001,.var (x.v (.pv (ax x.heard)) (.pv (ax x.none)) (.pv (ax x.has)) (.pv (cB x.af)) (.pv (ax x.bad)) (.pv (.sc (.slice none 0 0)))))]:=by
 refine gu (BJ x h) [1002,1003,1004,1005,1006,1007] ?_
 (conv=>whnf)
 refine⟨_,_,⟨rfl,rfl⟩,?_⟩;all_goals exact aM
theorem vR (x:Rv)(h:x.sm):dU prog 135 [.pv (.agg x.c)] [] (.ptr 1001 0) [(1001,.var (x.v (.aO 1002 0) (.pv (ax x.none)) (.pv (ax x.has)) (.pv (cB x.af)) (.pv (ax x.bad)) (.pv (.sc (.slice none 0 0))))),(1002,.arr 27 0 2 (x.heard.map Pl.c))]:=by
 refine gu (BJ x h) [1002,1004,1005,1006,1007] ?_
 (conv=>whnf)
 refine⟨_,_,⟨rfl,rfl⟩,?_⟩;all_goals exact aM
theorem ZP (x:Rv)(h:x.sm):dU prog 135 [.pv (.agg x.c)] [] (.ptr 1001 0) [(1001,.var (x.v (.pv (ax x.heard)) (.aO 1002 0) (.pv (ax x.has)) (.pv (cB x.af)) (.pv (ax x.bad)) (.pv (.sc (.slice none 0 0))))),(1002,.arr 27 0 2 (x.none.map Pl.c))]:=by
 refine gu (BJ x h) [1002,1003,1005,1006,1007] ?_
 (conv=>whnf)
 refine⟨_,_,⟨rfl,rfl⟩,?_⟩;all_goals exact aM
theorem vS (x:Rv)(h:x.sm):dU prog 135 [.pv (.agg x.c)] [] (.ptr 1001 0) [(1001,.var (x.v (.pv (ax x.heard)) (.pv (ax x.none)) (.aO 1002 0) (.pv (cB x.af)) (.pv (ax x.bad)) (.pv (.sc (.slice none 0 0))))),(1002,.arr 27 0 2 (x.has.map Pl.c))]:=by
 refine gu (BJ x h) [1002,1003,1004,1006,1007] ?_
 (conv=>whnf)
 refine⟨_,_,⟨rfl,rfl⟩,?_⟩;all_goals exact aM
theorem ZQ (x:Rv)(h:x.sm):dU prog 135 [.pv (.agg x.c)] [] (.ptr 1001 0) [(1001,.var (x.v (.pv (ax x.heard)) (.pv (ax x.none)) (.pv (ax x.has)) (.pv (cB x.af)) (.aO 1002 0) (.pv (.sc (.slice none 0 0))))),(1002,.arr 27 0 2 (x.bad.map Pl.c))]:=by
 refine gu (BJ x h) [1002,1003,1004,1005,1006] ?_
 (conv=>whnf)
 refine⟨_,_,⟨rfl,rfl⟩,?_⟩;all_goals exact aM
theorem jB:bR prog 136 f136:=fC func136
theorem nI:bR prog 166 f166:=fC func166
theorem jh:bR prog 143 f143:=fC func143
theorem DY:bR prog 170 f170:=fC func170
theorem ko:bR prog 137 f137:=fC func137
theorem iF:bR prog 138 f138:=fC func138
theorem mU:bR prog 139 f139:=fC func139
theorem Ad (x:Rv)(out:List Rq)(hf:bg x.l.af)(hn:0≤x.n∧x.n≤18446744073709551615) :
  dU prog 167 [.ptr 1 0] [(1,.var (x.v (.pv (ax x.heard)) (.pv (ax x.none)) (.pv (ax x.has)) (.pv (cB x.af)) (.pv (ax x.bad)) (.pv (.sc (.slice none 0 0)))))] (.pv (ax (aJ x))) [(1,.var (x.v (.pv (ax x.heard)) (.pv (ax x.none)) (.pv (ax x.has)) (.pv (cB x.af)) (.pv (ax x.bad)) (.pv (.sc (.slice none 0 0)))))]:=by
 refine eO lI ?_;repeat' ((conv=>whnf);first|with_reducible apply aP|((with_reducible apply fk)<;>intro hc<;>try exact aZ)|(apply bA;refine⟨_,iU _ _ _ hf hn,?_⟩)|refine aN ?_|fail)
 refine⟨_,_,⟨rfl,rfl⟩,?_⟩;all_goals exact aM
theorem Nw (x:Rv)(out:List Rq)(hf:bg x.l.af)(hn:0≤x.n∧x.n≤18446744073709551615) :
  dU prog 167 [.ptr 1 0] [(1,.var (x.v (.aO 2 0) (.pv (ax x.none)) (.pv (ax x.has)) (.pv (cB x.af)) (.pv (ax x.bad)) (.pv (.sc (.slice none 0 0))))),(2,.arr 27 0 2 (x.heard.map Pl.c))] (.pv (ax (aJ x))) [(1,.var (x.v (.aO 2 0) (.pv (ax x.none)) (.pv (ax x.has)) (.pv (cB x.af)) (.pv (ax x.bad)) (.pv (.sc (.slice none 0 0))))),(2,.arr 27 0 2 (x.heard.map Pl.c))]:=by
 refine eO lI ?_;repeat' ((conv=>whnf);first|with_reducible apply aP|((with_reducible apply fk)<;>intro hc<;>try exact aZ)|(apply bA;refine⟨_,iU _ _ _ hf hn,?_⟩)|refine aN ?_|fail)
 refine⟨_,_,⟨rfl,rfl⟩,?_⟩;all_goals exact aM
theorem Ae (x:Rv)(out:List Rq)(hf:bg x.l.af)(hn:0≤x.n∧x.n≤18446744073709551615) :
  dU prog 167 [.ptr 1 0] [(1,.var (x.v (.pv (ax x.heard)) (.aO 2 0) (.pv (ax x.has)) (.pv (cB x.af)) (.pv (ax x.bad)) (.pv (.sc (.slice none 0 0))))),(2,.arr 27 0 2 (x.none.map Pl.c))] (.pv (ax (aJ x))) [(1,.var (x.v (.pv (ax x.heard)) (.aO 2 0) (.pv (ax x.has)) (.pv (cB x.af)) (.pv (ax x.bad)) (.pv (.sc (.slice none 0 0))))),(2,.arr 27 0 2 (x.none.map Pl.c))]:=by
 refine eO lI ?_;repeat' ((conv=>whnf);first|with_reducible apply aP|((with_reducible apply fk)<;>intro hc<;>try exact aZ)|(apply bA;refine⟨_,iU _ _ _ hf hn,?_⟩)|refine aN ?_|fail)
 refine⟨_,_,⟨rfl,rfl⟩,?_⟩;all_goals exact aM
theorem Af (x:Rv)(out:List Rq)(hf:bg x.l.af)(hn:0≤x.n∧x.n≤18446744073709551615) :
  dU prog 167 [.ptr 1 0] [(1,.var (x.v (.pv (ax x.heard)) (.pv (ax x.none)) (.aO 2 0) (.pv (cB x.af)) (.pv (ax x.bad)) (.pv (.sc (.slice none 0 0))))),(2,.arr 27 0 2 (x.has.map Pl.c))] (.pv (ax (aJ x))) [(1,.var (x.v (.pv (ax x.heard)) (.pv (ax x.none)) (.aO 2 0) (.pv (cB x.af)) (.pv (ax x.bad)) (.pv (.sc (.slice none 0 0))))),(2,.arr 27 0 2 (x.has.map Pl.c))]:=by
 refine eO lI ?_;repeat' ((conv=>whnf);first|with_reducible apply aP|((with_reducible apply fk)<;>intro hc<;>try exact aZ)|(apply bA;refine⟨_,iU _ _ _ hf hn,?_⟩)|refine aN ?_|fail)
 refine⟨_,_,⟨rfl,rfl⟩,?_⟩;all_goals exact aM
theorem BM (x:Rv)(out:List Rq)(hf:bg x.af)(hn:0≤x.n∧x.n≤18446744073709551615) :
  dU prog 141 [.ptr 1 0] [(1,.var (x.v (.pv (ax x.heard)) (.pv (ax x.none)) (.aO 2 0) (.pv (cB x.af)) (.pv (ax x.bad)) (.pv (.sc (.slice none 0 0))))),(2,.arr 27 0 2 (x.has.map Pl.c))] (.pv (ax (aj x))) [(1,.var (x.v (.pv (ax x.heard)) (.pv (ax x.none)) (.aO 2 0) (.pv (cB x.af)) (.pv (ax x.bad)) (.pv (.sc (.slice none 0 0))))),(2,.arr 27 0 2 (x.has.map Pl.c))]:=by
 refine eO j6 ?_;repeat' ((conv=>whnf);first|with_reducible apply aP|((with_reducible apply fk)<;>intro hc<;>try exact aZ)|(apply bA;refine⟨_,iU _ _ _ hf hn,?_⟩)|refine aN ?_|fail)
 refine⟨_,_,⟨rfl,rfl⟩,?_⟩;all_goals exact aM
theorem yM (x:Rv)(out:List Rq)(hf:bg x.af)(hn:0≤x.n∧x.n≤18446744073709551615) :
  dU prog 141 [.ptr 1 0] [(1,.var (x.v (.pv (ax x.heard)) (.pv (ax x.none)) (.aO 2 0) (.pv (cB x.af)) (.pv (ax x.bad)) (.aO 3 0))),(2,.arr 27 0 2 (x.has.map Pl.c)),(3,.arr 93 0 10 (out.map Rq.c))] (.pv (ax (aj x))) [(1,.var (x.v (.pv (ax x.heard)) (.pv (ax x.none)) (.aO 2 0) (.pv (cB x.af)) (.pv (ax x.bad)) (.aO 3 0))),(2,.arr 27 0 2 (x.has.map Pl.c)),(3,.arr 93 0 10 (out.map Rq.c))]:=by
 refine eO j6 ?_;repeat' ((conv=>whnf);first|with_reducible apply aP|((with_reducible apply fk)<;>intro hc<;>try exact aZ)|(apply bA;refine⟨_,iU _ _ _ hf hn,?_⟩)|refine aN ?_|fail)
 refine⟨_,_,⟨rfl,rfl⟩,?_⟩;all_goals exact aM
theorem l9 (x:Rv)(h0:0<x.l.af.length)(hfl:x.l.af.length≤1000) :
  dU prog 164 [.ptr 1 0] [(1,.var (x.v (.aO 2 0) (.pv (ax x.none)) (.pv (ax x.has)) (.pv (cB x.af)) (.pv (ax x.bad)) (.pv (.sc (.slice none 0 0))))),(2,.arr 27 0 2 (x.heard.map Pl.c))] (.pv (.agg (aW x).c)) [(1,.var (x.v (.aO 2 0) (.pv (ax x.none)) (.pv (ax x.has)) (.pv (cB x.af)) (.pv (ax x.bad)) (.pv (.sc (.slice none 0 0))))),(2,.arr 27 0 2 (x.heard.map Pl.c))]:=by
 have c1:decide (((List.map Fr.c x.l.af).length:Int)>0)=true:=by rw[List.length_map];simp only[iO];omega
 have eL:IntKind.i64.wrap (((List.map Fr.c x.l.af).length:Int)-1)=((x.l.af.length-1:Nat):Int):=by rw[List.length_map,bN (by omega) (by omega)];omega
 have hlt1:x.l.af.length-1<x.l.af.length:=by omega
 have elf:aW x=x.l.af[x.l.af.length-1]:=getElem!_pos x.l.af _ hlt1;rw[elf];clear elf;obtain⟨lf,gT⟩:∃lf,x.l.af[x.l.af.length-1]=lf:=⟨_,rfl⟩;rw[gT];have hrow:(List.map Fr.c x.l.af)[(IntKind.i64.wrap (((List.map Fr.c x.l.af).length:Int)-1)).toNat]? = some (Fr.c lf):=(O6 Fr.c _ eL hlt1).trans (by rw[gT]);refine eO Nu ?_;repeat' ((conv=>whnf);first|with_reducible apply aP|((with_reducible apply fk)<;>intro hc<;>try exact aZ)|((refine⟨_,hrow,?_⟩))|(((with_reducible apply And.intro);focus (rw[eL,List.length_map];omega)))|(((with_reducible apply And.intro);focus (rw[eL];omega)))|refine aN ?_|fail)
 refine⟨_,_,⟨rfl,rfl⟩,?_⟩;all_goals exact aM
theorem ZR (x:Rv)(n now:Int)(hn:8<n) :
  dU prog 166 [.ptr 1 0,.pv (uu n),.pv (uu now)] [(1,.var (x.v (.aO 2 0) (.pv (ax x.none)) (.pv (ax x.has)) (.pv (cB x.af)) (.pv (ax x.bad)) (.pv (.sc (.slice none 0 0))))),(2,.arr 27 0 2 (x.heard.map Pl.c))] (.pv (.cO []))
   [(1,.var ((bQ x n now).1.v (.aO 2 0) (.pv (ax [])) (.pv (ax [])) (.pv (cB x.af)) (.pv (ax [])) (.pv (.sc (.slice none 0 0))))),(2,.arr 27 0 2 (x.heard.map Pl.c))]:=by
 have d:decide (n>8)=true:=by simp only[iO];omega
 have e:bQ x n now=({ x with n:=n,none:=[],has:=[],body:=[],bad:=[],phase:=4 },[]):=by unfold bQ;rw[if_pos d]
 rw[e];clear e hn;refine eO nI ?_;repeat' ((conv=>whnf);first|with_reducible apply aP|((with_reducible apply fk)<;>intro hc<;>try exact aZ)|refine aN ?_|fail)
 all_goals
  refine⟨_,_,⟨rfl,rfl⟩,?_⟩;all_goals exact aM
theorem ZT (x:Rv)(n now:Int)(hn:8<n) :
  dU prog 166 [.ptr 1 0,.pv (uu n),.pv (uu now)] [(1,.var (x.v (.pv (ax x.heard)) (.pv (ax x.none)) (.aO 2 0) (.pv (cB x.af)) (.pv (ax x.bad)) (.pv (.sc (.slice none 0 0))))),(2,.arr 27 0 2 (x.has.map Pl.c))] (.pv (.cO []))
   [(1,.var ((bQ x n now).1.v (.pv (ax x.heard)) (.pv (ax [])) (.pv (ax [])) (.pv (cB x.af)) (.pv (ax [])) (.pv (.sc (.slice none 0 0))))),(2,.arr 27 0 2 (x.has.map Pl.c))]:=by
 have d:decide (n>8)=true:=by simp only[iO];omega
 have e:bQ x n now=({ x with n:=n,none:=[],has:=[],body:=[],bad:=[],phase:=4 },[]):=by unfold bQ;rw[if_pos d]
 rw[e];clear e hn;refine eO nI ?_;repeat' ((conv=>whnf);first|with_reducible apply aP|((with_reducible apply fk)<;>intro hc<;>try exact aZ)|refine aN ?_|fail)
 all_goals
  refine⟨_,_,⟨rfl,rfl⟩,?_⟩;all_goals exact aM
theorem ZU (x:Rv)(n now:Int)(hn:0≤n∧n≤8)(hf:bg x.l.af)(hs:∀n,(setOf x.l.af x.l.w n).length≤1000000) :
  dU prog 166 [.ptr 1 0,.pv (uu n),.pv (uu now)] [(1,.var (x.v (.aO 2 0) (.pv (ax x.none)) (.pv (ax x.has)) (.pv (cB x.af)) (.pv (ax x.bad)) (.pv (.sc (.slice none 0 0))))),(2,.arr 27 0 2 (x.heard.map Pl.c))] (.pv (.cO []))
   [(1,.var ((bQ x n now).1.v (.aO 2 0) (.pv (ax [])) (.pv (ax [])) (.pv (cB x.af)) (.pv (ax [])) (.aO 1001 0))),(2,.arr 27 0 2 (x.heard.map Pl.c)),(1001,.arr 93 0 10 ((bQ x n now).2.map Rq.c))]:=by
 have d:decide (n>8)=false:=by simp only[w9];omega
 obtain⟨y,hy⟩:∃y:Rv,y={ x with n:=n,none:=[],has:=[],body:=[],bad:=[],phase:=2,born:=now }:=⟨_,rfl⟩;have e:bQ x n now=({ y with since:=now },gN y (aJ y)):=by unfold bQ;rw[if_neg (by rw[d];simp),hy];rfl
 rw[e];have uG:=acI y now (by rw[hy]) (by rw[hy];exact hf) (by rw[hy];simp only;omega) (by rw[hy];exact hs _);subst hy;clear e hn;refine eO nI ?_;repeat' ((conv=>whnf);first|with_reducible apply aP|((with_reducible apply fk)<;>intro hc<;>try exact aZ)|(refine Or.inr ?_;(conv=>whnf);refine⟨_,bZ bU (cZ mixed bU) jB rfl ?_,fun _ _ h=>h⟩)|(apply dn;refine⟨_,_,av (uG) ?_,?_⟩;exact bD)|refine aN ?_|fail)
 all_goals
  refine⟨_,_,⟨rfl,rfl⟩,?_⟩;all_goals exact aM
theorem ZV (x:Rv)(n now:Int)(hn:0≤n∧n≤8)(hf:bg x.l.af)(hs:∀n,(setOf x.l.af x.l.w n).length≤1000000) :
  dU prog 166 [.ptr 1 0,.pv (uu n),.pv (uu now)] [(1,.var (x.v (.pv (ax x.heard)) (.pv (ax x.none)) (.aO 2 0) (.pv (cB x.af)) (.pv (ax x.bad)) (.pv (.sc (.slice none 0 0))))),(2,.arr 27 0 2 (x.has.map Pl.c))] (.pv (.cO []))
   [(1,.var ((bQ x n now).1.v (.pv (ax x.heard)) (.pv (ax [])) (.pv (ax [])) (.pv (cB x.af)) (.pv (ax [])) (.aO 1001 0))),(2,.arr 27 0 2 (x.has.map Pl.c)),(1001,.arr 93 0 10 ((bQ x n now).2.map Rq.c))]:=by
 have d:decide (n>8)=false:=by simp only[w9];omega
 obtain⟨y,hy⟩:∃y:Rv,y={ x with n:=n,none:=[],has:=[],body:=[],bad:=[],phase:=2,born:=now }:=⟨_,rfl⟩;have e:bQ x n now=({ y with since:=now },gN y (aJ y)):=by unfold bQ;rw[if_neg (by rw[d];simp),hy];rfl
 rw[e];have uG:=Sz y now (by rw[hy]) (by rw[hy];exact hf) (by rw[hy];simp only;omega) (by rw[hy];exact hs _);subst hy;clear e hn;refine eO nI ?_;repeat' ((conv=>whnf);first|with_reducible apply aP|((with_reducible apply fk)<;>intro hc<;>try exact aZ)|(refine Or.inr ?_;(conv=>whnf);refine⟨_,bZ bU (cZ mixed bU) jB rfl ?_,fun _ _ h=>h⟩)|(apply dn;refine⟨_,_,av (uG) ?_,?_⟩;exact bD)|refine aN ?_|fail)
 all_goals
  refine⟨_,_,⟨rfl,rfl⟩,?_⟩;all_goals exact aM
section
variable (x:Rv)(now:Int)(p:Pl)
theorem ZW (h:x.has.any (· == p)=true) :
  dU prog 170 [.ptr 1 0,.pv (uu now),.pv (.agg p.c)] [(1,.var (x.v (.pv (ax x.heard)) (.pv (ax x.none)) (.aO 2 0) (.pv (cB x.af)) (.pv (ax x.bad)) (.pv (.sc (.slice none 0 0))))),(2,.arr 27 0 2 (x.has.map Pl.c))] (.pv (.cO []))
   [(1,.var (x.v (.pv (ax x.heard)) (.pv (ax x.none)) (.aO 2 0) (.pv (cB x.af)) (.pv (ax x.bad)) (.pv (.sc (.slice none 0 0))))),(2,.arr 27 0 2 (x.has.map Pl.c))]:=by
 have hco:=aA x.has p.node p.aI;rw[show (x.has.any fun y=>y==(⟨p.node,p.aI⟩:Pl))=true from h] at hco;clear h;refine eO DY ?_;repeat' ((conv=>whnf);first|with_reducible apply aP|((with_reducible apply fk)<;>intro hc<;>try exact aZ)|(apply bA;refine⟨_,hco,?_⟩)|refine aN ?_|fail)
 refine⟨_,_,⟨rfl,rfl⟩,?_⟩;all_goals exact aM
theorem ZX (h:x.has.any (· == p)=false)(hl:x.has.length≤1000000)(hf:bg x.af)(hn:0≤x.n∧x.n≤1000)(ha:bI (aj x) x.l.a (x.has++[p])=false) :
  dU prog 170 [.ptr 1 0,.pv (uu now),.pv (.agg p.c)] [(1,.var (x.v (.pv (ax x.heard)) (.pv (ax x.none)) (.aO 2 0) (.pv (cB x.af)) (.pv (ax x.bad)) (.pv (.sc (.slice none 0 0))))),(2,.arr 27 0 2 (x.has.map Pl.c))] (.pv (.cO []))
   [(1,.var (({ x with has:=x.has++[p] }:Rv).v (.pv (ax x.heard)) (.pv (ax x.none)) (.aO 2 1) (.pv (cB x.af)) (.pv (ax x.bad)) (.pv (.sc (.slice none 0 0))))),(2,.arr 27 1 2 ((x.has++[p]).map Pl.c))]:=by
 have hco:=aA x.has p.node p.aI;rw[show (x.has.any fun y=>y==(⟨p.node,p.aI⟩:Pl))=false from h] at hco;clear h;have hw:=BM { x with has:=x.has++[p] } [] hf (by simp only;omega);have hac:=nH (aj { x with has:=x.has++[p] }) x.l.a (x.has++[p]);rw[show bI (aj { x with has:=x.has++[p] }) x.l.a (x.has++[p])=false from ha] at hac;clear ha;have hmap:(x.has++[p]).map Pl.c=x.has.map Pl.c++[p.c]:=by rw[List.map_append];rfl
 rw[ax] at hac;simp only[ax,hmap] at hw hac ⊢;refine eO DY ?_;repeat' ((conv=>whnf);first|with_reducible apply aP|((with_reducible apply fk)<;>intro hc<;>try exact aZ)|(apply bA;refine⟨_,hco,?_⟩)|(((with_reducible apply And.intro);focus (simp only[fE,jQ,jR];omega)))|(refine Or.inr ?_;(conv=>whnf);refine⟨_,bZ bU (cZ mixed bU) jh rfl ?_,fun _ _ h=>h⟩)|(refine Or.inr ?_;(conv=>whnf);refine⟨_,_,av (hw) ?_,?_⟩;exact bD)|(apply bA;refine⟨_,aG (hac) ?_,?_⟩;exact bD)|refine aN ?_|fail)
 refine⟨_,_,⟨rfl,rfl⟩,?_⟩;all_goals exact aM
theorem ZY (h:x.has.any (· == p)=false)(hl:x.has.length≤1000000)(hf:bg x.af)(hn:0≤x.n∧x.n≤1000)(ha:bI (aj x) x.l.a (x.has++[p])=true)(h8:8<x.n+1) :
  dU prog 170 [.ptr 1 0,.pv (uu now),.pv (.agg p.c)] [(1,.var (x.v (.pv (ax x.heard)) (.pv (ax x.none)) (.aO 2 0) (.pv (cB x.af)) (.pv (ax x.bad)) (.pv (.sc (.slice none 0 0))))),(2,.arr 27 0 2 (x.has.map Pl.c))] (.pv (.cO []))
   [(1,.var ((bQ { x with has:=x.has++[p] } (x.n+1) now).1.v (.pv (ax x.heard)) (.pv (ax [])) (.pv (ax [])) (.pv (cB x.af)) (.pv (ax [])) (.pv (.sc (.slice none 0 0))))),(2,.arr 27 1 2 ((x.has++[p]).map Pl.c))]:=by
 have hco:=aA x.has p.node p.aI;rw[show (x.has.any fun y=>y==(⟨p.node,p.aI⟩:Pl))=false from h] at hco;clear h;have hw:=BM { x with has:=x.has++[p] } [] hf (by simp only;omega);have hac:=nH (aj { x with has:=x.has++[p] }) x.l.a (x.has++[p]);rw[show bI (aj { x with has:=x.has++[p] }) x.l.a (x.has++[p])=true from ha] at hac;clear ha;have hmap:(x.has++[p]).map Pl.c=x.has.map Pl.c++[p.c]:=by rw[List.map_append];rfl
 rw[ax] at hac;have ew:IntKind.u64.wrap (x.n+1)=x.n+1:=gX (by omega) (by omega);have hg:=ZT { x with has:=x.has++[p] } (x.n+1) now h8;rw[←ew] at hg ⊢;clear ew h8;simp only[ax,hmap] at hw hac hg ⊢;refine eO DY ?_;repeat' ((conv=>whnf);first|with_reducible apply aP|((with_reducible apply fk)<;>intro hc<;>try exact aZ)|(apply bA;refine⟨_,hco,?_⟩)|(((with_reducible apply And.intro);focus (simp only[fE,jQ,jR];omega)))|(refine Or.inr ?_;(conv=>whnf);refine⟨_,bZ bU (cZ mixed bU) jh rfl ?_,fun _ _ h=>h⟩)|(refine Or.inr ?_;(conv=>whnf);refine⟨_,_,av (hw) ?_,?_⟩;exact bD)|(apply bA;refine⟨_,aG (hac) ?_,?_⟩;exact bD)|(apply dn;refine⟨_,_,av (hg) ?_,?_⟩;exact bD)|refine aN ?_|fail)
 refine⟨_,_,⟨rfl,rfl⟩,?_⟩;all_goals exact aM
theorem Z4 (h:x.has.any (· == p)=false)(hl:x.has.length≤1000000)(hf:bg x.af)(hn:0≤x.n∧x.n≤1000)(ha:bI (aj x) x.l.a (x.has++[p])=true)(h8:x.n+1≤8)(hfl:bg x.l.af)(hs:∀n,(setOf x.l.af x.l.w n).length≤1000000) :
  dU prog 170 [.ptr 1 0,.pv (uu now),.pv (.agg p.c)] [(1,.var (x.v (.pv (ax x.heard)) (.pv (ax x.none)) (.aO 2 0) (.pv (cB x.af)) (.pv (ax x.bad)) (.pv (.sc (.slice none 0 0))))),(2,.arr 27 0 2 (x.has.map Pl.c))] (.pv (.cO []))
   [(1,.var ((bQ { x with has:=x.has++[p] } (x.n+1) now).1.v (.pv (ax x.heard)) (.pv (ax [])) (.pv (ax [])) (.pv (cB x.af)) (.pv (ax [])) (.aO 1001 0))),(2,.arr 27 1 2 ((x.has++[p]).map Pl.c)),(1001,.arr 93 0 10 ((bQ { x with has:=x.has++[p] } (x.n+1) now).2.map Rq.c))]:=by
 have hco:=aA x.has p.node p.aI;rw[show (x.has.any fun y=>y==(⟨p.node,p.aI⟩:Pl))=false from h] at hco;clear h;have hw:=BM { x with has:=x.has++[p] } [] hf (by simp only;omega);have hac:=nH (aj { x with has:=x.has++[p] }) x.l.a (x.has++[p]);rw[show bI (aj { x with has:=x.has++[p] }) x.l.a (x.has++[p])=true from ha] at hac;clear ha;have hmap:(x.has++[p]).map Pl.c=x.has.map Pl.c++[p.c]:=by rw[List.map_append];rfl
 rw[ax] at hac;have ew:IntKind.u64.wrap (x.n+1)=x.n+1:=gX (by omega) (by omega);have hg:=ZV { x with has:=x.has++[p] } (x.n+1) now (by omega) hfl hs;rw[←ew] at hg ⊢;clear ew h8 hs;simp only[ax,hmap] at hw hac hg ⊢;refine eO DY ?_;repeat' ((conv=>whnf);first|with_reducible apply aP|((with_reducible apply fk)<;>intro hc<;>try exact aZ)|(apply bA;refine⟨_,hco,?_⟩)|(((with_reducible apply And.intro);focus (simp only[fE,jQ,jR];omega)))|(refine Or.inr ?_;(conv=>whnf);refine⟨_,bZ bU (cZ mixed bU) jh rfl ?_,fun _ _ h=>h⟩)|(refine Or.inr ?_;(conv=>whnf);refine⟨_,_,av (hw) ?_,?_⟩;exact bD)|(apply bA;refine⟨_,aG (hac) ?_,?_⟩;exact bD)|(apply dn;refine⟨_,_,av (hg) ?_,?_⟩;exact bD)|refine aN ?_|fail)
 refine⟨_,_,⟨rfl,rfl⟩,?_⟩;all_goals exact aM
end
theorem QA (x:Rv)(now:Int)(r:Rs)(h0:0<x.l.af.length)(hfl:x.l.af.length≤1000)(h1:(aW x).ah.any (· == r.from_)=false) :
  dU prog 137 [.ptr 1 0,.pv (uu now),.pv (.agg r.c)] [(1,.var (x.v (.aO 2 0) (.pv (ax x.none)) (.pv (ax x.has)) (.pv (cB x.af)) (.pv (ax x.bad)) (.pv (.sc (.slice none 0 0))))),(2,.arr 27 0 2 (x.heard.map Pl.c))] (.pv (.cO []))
   [(1,.var (x.v (.aO 2 0) (.pv (ax x.none)) (.pv (ax x.has)) (.pv (cB x.af)) (.pv (ax x.bad)) (.pv (.sc (.slice none 0 0))))),(2,.arr 27 0 2 (x.heard.map Pl.c))]:=by
 have hla:=l9 x h0 hfl;have hco:=aA (aW x).ah r.from_.node r.from_.aI;have hch:=aA x.heard r.from_.node r.from_.aI;rw[show ((aW x).ah.any fun y=>y==(⟨r.from_.node,r.from_.aI⟩:Pl))=false from h1] at hco;clear h0 hfl;obtain⟨lf,gT⟩:∃lf,aW x=lf:=⟨_,rfl⟩;rw[gT] at hla hco;clear gT;rw[ax] at hch;refine eO ko ?_;repeat' ((conv=>whnf);first|with_reducible apply aP|((with_reducible apply fk)<;>intro hc<;>try exact aZ)|(refine Or.inr ?_;(conv=>whnf);refine⟨_,_,av (hla) ?_,?_⟩;exact bD)|(apply bA;refine⟨_,hco,?_⟩)|(apply bA;refine⟨_,aG (hch) ?_,?_⟩;exact bD)|refine aN ?_|fail)
 refine⟨_,_,⟨rfl,rfl⟩,?_⟩;all_goals exact aM
theorem QB (x:Rv)(now:Int)(r:Rs)(h0:0<x.l.af.length)(hfl:x.l.af.length≤1000)(h1:(aW x).ah.any (· == r.from_)=true)(h2:x.heard.any (· == r.from_)=true) :
  dU prog 137 [.ptr 1 0,.pv (uu now),.pv (.agg r.c)] [(1,.var (x.v (.aO 2 0) (.pv (ax x.none)) (.pv (ax x.has)) (.pv (cB x.af)) (.pv (ax x.bad)) (.pv (.sc (.slice none 0 0))))),(2,.arr 27 0 2 (x.heard.map Pl.c))] (.pv (.cO []))
   [(1,.var (x.v (.aO 2 0) (.pv (ax x.none)) (.pv (ax x.has)) (.pv (cB x.af)) (.pv (ax x.bad)) (.pv (.sc (.slice none 0 0))))),(2,.arr 27 0 2 (x.heard.map Pl.c))]:=by
 have hla:=l9 x h0 hfl;have hco:=aA (aW x).ah r.from_.node r.from_.aI;have hch:=aA x.heard r.from_.node r.from_.aI;rw[show ((aW x).ah.any fun y=>y==(⟨r.from_.node,r.from_.aI⟩:Pl))=true from h1] at hco;rw[show (x.heard.any fun y=>y==(⟨r.from_.node,r.from_.aI⟩:Pl))=true from h2] at hch;clear h0 hfl;obtain⟨lf,gT⟩:∃lf,aW x=lf:=⟨_,rfl⟩;rw[gT] at hla hco;clear gT;rw[ax] at hch;refine eO ko ?_;repeat' ((conv=>whnf);first|with_reducible apply aP|((with_reducible apply fk)<;>intro hc<;>try exact aZ)|(refine Or.inr ?_;(conv=>whnf);refine⟨_,_,av (hla) ?_,?_⟩;exact bD)|(apply bA;refine⟨_,hco,?_⟩)|(apply bA;refine⟨_,aG (hch) ?_,?_⟩;exact bD)|refine aN ?_|fail)
 refine⟨_,_,⟨rfl,rfl⟩,?_⟩;all_goals exact aM
theorem Vj (x:Rv)(now:Int)(r:Rs)(h0:0<x.l.af.length)(hfl:x.l.af.length≤1000)(hl:x.heard.length≤1000000)(h1:(aW x).ah.any (· == r.from_)=true)(h2:x.heard.any (· == r.from_)=false)(p1:(x.phase==1)=false)(p2:(x.phase==2)=false) :
  dU prog 137 [.ptr 1 0,.pv (uu now),.pv (.agg r.c)] [(1,.var (x.v (.aO 2 0) (.pv (ax x.none)) (.pv (ax x.has)) (.pv (cB x.af)) (.pv (ax x.bad)) (.pv (.sc (.slice none 0 0))))),(2,.arr 27 0 2 (x.heard.map Pl.c))] (.pv (.cO []))
   [(1,.var (({ x with heard:=x.heard++[r.from_],sure:=min (max x.sure r.sure) 8 }:Rv).v (.aO 2 1) (.pv (ax x.none)) (.pv (ax x.has)) (.pv (cB x.af)) (.pv (ax x.bad)) (.pv (.sc (.slice none 0 0))))),(2,.arr 27 1 2 ((x.heard++[r.from_]).map Pl.c))]:=by
 have hla:=l9 x h0 hfl;have hco:=aA (aW x).ah r.from_.node r.from_.aI;have hch:=aA x.heard r.from_.node r.from_.aI;rw[show ((aW x).ah.any fun y=>y==(⟨r.from_.node,r.from_.aI⟩:Pl))=true from h1] at hco;rw[show (x.heard.any fun y=>y==(⟨r.from_.node,r.from_.aI⟩:Pl))=false from h2] at hch;have hmap:(x.heard++[r.from_]).map Pl.c=x.heard.map Pl.c++[r.from_.c]:=by rw[List.map_append];rfl
 clear h0 hfl;obtain⟨lf,gT⟩:∃lf,aW x=lf:=⟨_,rfl⟩;rw[gT] at hla hco;clear gT h1 h2;rw[ax] at hch;rw[hmap];refine eO ko ?_;repeat' ((conv=>whnf);first|with_reducible apply aP|((with_reducible apply fk)<;>intro hc<;>try exact aZ)|(refine Or.inr ?_;(conv=>whnf);refine⟨_,_,av (hla) ?_,?_⟩;exact bD)|(apply bA;refine⟨_,hco,?_⟩)|(apply bA;refine⟨_,aG (hch) ?_,?_⟩;exact bD)|(((with_reducible apply And.intro);focus (simp only[fE,jQ,jR];omega)))|refine aN ?_|fail)
 refine⟨_,_,⟨rfl,rfl⟩,?_⟩;repeat' first|apply And.intro|exact aM|fail
 all_goals try (conv=>whnf)
 show _=min (max x.sure r.sure) 8
 clear hla hco hch hmap;repeat' split
 all_goals omega
theorem Vk (x:Rv)(now:Int)(r:Rs)(h0:0<x.l.af.length)(hfl:x.l.af.length≤1000)(hl:x.heard.length≤1000000)(h1:(aW x).ah.any (· == r.from_)=true)(h2:x.heard.any (· == r.from_)=false)(hf:bg x.l.af)(hn:0≤x.n∧x.n≤1000)(p1:(x.phase==1)=false)(p2:(x.phase==2)=true)(h3:(aJ x).any (· == r.from_)=false) :
  dU prog 137 [.ptr 1 0,.pv (uu now),.pv (.agg r.c)] [(1,.var (x.v (.aO 2 0) (.pv (ax x.none)) (.pv (ax x.has)) (.pv (cB x.af)) (.pv (ax x.bad)) (.pv (.sc (.slice none 0 0))))),(2,.arr 27 0 2 (x.heard.map Pl.c))] (.pv (.cO []))
   [(1,.var (({ x with heard:=x.heard++[r.from_],sure:=min (max x.sure r.sure) 8 }:Rv).v (.aO 2 1) (.pv (ax x.none)) (.pv (ax x.has)) (.pv (cB x.af)) (.pv (ax x.bad)) (.pv (.sc (.slice none 0 0))))),(2,.arr 27 1 2 ((x.heard++[r.from_]).map Pl.c))]:=by
 have hla:=l9 x h0 hfl;have hco:=aA (aW x).ah r.from_.node r.from_.aI;have hch:=aA x.heard r.from_.node r.from_.aI;rw[show ((aW x).ah.any fun y=>y==(⟨r.from_.node,r.from_.aI⟩:Pl))=true from h1] at hco;rw[show (x.heard.any fun y=>y==(⟨r.from_.node,r.from_.aI⟩:Pl))=false from h2] at hch;have hmap:(x.heard++[r.from_]).map Pl.c=x.heard.map Pl.c++[r.from_.c]:=by rw[List.map_append];rfl
 have hrd:=Nw ({ x with heard:=x.heard++[r.from_],sure:=min (max x.sure r.sure) 8 }:Rv) [] hf (by simp only;omega);have uo:=aA (aJ x) r.from_.node r.from_.aI;rw[show ((aJ x).any fun y=>y==(⟨r.from_.node,r.from_.aI⟩:Pl))=false from h3] at uo;have es:min (max x.sure r.sure) 8=(if 8<if r.sure>x.sure then r.sure else x.sure then 8 else if r.sure>x.sure then r.sure else x.sure):=by (repeat' split)<;>omega
 rw[es] at hrd ⊢;simp only[ax,hmap] at hrd;clear es hf hn h3;clear h0 hfl;obtain⟨lf,gT⟩:∃lf,aW x=lf:=⟨_,rfl⟩;rw[gT] at hla hco;clear gT h1 h2;rw[ax] at hch;rw[hmap];refine eO ko ?_;repeat' ((conv=>whnf);first|with_reducible apply aP|((with_reducible apply fk)<;>intro hc<;>try exact aZ)|(refine Or.inr ?_;(conv=>whnf);refine⟨_,_,av (hla) ?_,?_⟩;exact bD)|(apply bA;refine⟨_,hco,?_⟩)|(apply bA;refine⟨_,aG (hch) ?_,?_⟩;exact bD)|(((with_reducible apply And.intro);focus (simp only[fE,jQ,jR];omega)))|(refine Or.inr ?_;(conv=>whnf);refine⟨_,_,av (hrd) ?_,?_⟩;exact bD)|(apply bA;refine⟨_,uo,?_⟩)|refine aN ?_|fail)
 refine⟨_,_,⟨rfl,rfl⟩,?_⟩;all_goals exact aM
theorem Vl (x:Rv)(now:Int)(r:Rs)(h0:0<x.l.af.length)(hfl:x.l.af.length≤1000)(hl:x.heard.length≤1000000)(h1:(aW x).ah.any (· == r.from_)=true)(h2:x.heard.any (· == r.from_)=false)(hb:(aW x).ah.length≤1000000)(hw:0≤x.l.w∧x.l.w≤9223372036854775807)(ha:0≤x.l.a)(p1:(x.phase==1)=true)(p2:(x.phase==2)=false)(h3:fH (aW x) x.l.w x.l.a (x.heard++[r.from_])=false) :
  dU prog 137 [.ptr 1 0,.pv (uu now),.pv (.agg r.c)] [(1,.var (x.v (.aO 2 0) (.pv (ax x.none)) (.pv (ax x.has)) (.pv (cB x.af)) (.pv (ax x.bad)) (.pv (.sc (.slice none 0 0))))),(2,.arr 27 0 2 (x.heard.map Pl.c))] (.pv (.cO []))
   [(1,.var (({ x with heard:=x.heard++[r.from_],sure:=min (max x.sure r.sure) 8 }:Rv).v (.aO 2 1) (.pv (ax x.none)) (.pv (ax x.has)) (.pv (cB x.af)) (.pv (ax x.bad)) (.pv (.sc (.slice none 0 0))))),(2,.arr 27 1 2 ((x.heard++[r.from_]).map Pl.c))]:=by
 have hla:=l9 x h0 hfl;have hco:=aA (aW x).ah r.from_.node r.from_.aI;have hch:=aA x.heard r.from_.node r.from_.aI;rw[show ((aW x).ah.any fun y=>y==(⟨r.from_.node,r.from_.aI⟩:Pl))=true from h1] at hco;rw[show (x.heard.any fun y=>y==(⟨r.from_.node,r.from_.aI⟩:Pl))=false from h2] at hch;have hmap:(x.heard++[r.from_]).map Pl.c=x.heard.map Pl.c++[r.from_.c]:=by rw[List.map_append];rfl
 have Ny:=l9 ({ x with heard:=x.heard++[r.from_],sure:=min (max x.sure r.sure) 8 }:Rv) h0 hfl;rw[show aW ({ x with heard:=x.heard++[r.from_],sure:=min (max x.sure r.sure) 8 }:Rv)=aW x from rfl] at Ny;have hcv:=yL (aW x) x.l.w x.l.a (x.heard++[r.from_]) hw ha (by omega);rw[h3] at hcv;have es:min (max x.sure r.sure) 8=(if 8<if r.sure>x.sure then r.sure else x.sure then 8 else if r.sure>x.sure then r.sure else x.sure):=by (repeat' split)<;>omega
 rw[es] at Ny ⊢;simp only[ax,hmap] at Ny hcv;clear es h3 hb hw ha;clear h0 hfl;obtain⟨lf,gT⟩:∃lf,aW x=lf:=⟨_,rfl⟩;rw[gT] at hla hco Ny hcv;clear gT h1 h2;rw[ax] at hch;rw[hmap];refine eO ko ?_;repeat' ((conv=>whnf);first|with_reducible apply aP|((with_reducible apply fk)<;>intro hc<;>try exact aZ)|(refine Or.inr ?_;(conv=>whnf);refine⟨_,_,av (hla) ?_,?_⟩;exact bD)|(apply bA;refine⟨_,hco,?_⟩)|(apply bA;refine⟨_,aG (hch) ?_,?_⟩;exact bD)|(((with_reducible apply And.intro);focus (simp only[fE,jQ,jR];omega)))|(refine Or.inr ?_;(conv=>whnf);refine⟨_,_,av (Ny) ?_,?_⟩;exact bD)|(apply bA;refine⟨_,aG (hcv) ?_,?_⟩;exact bD)|refine aN ?_|fail)
 refine⟨_,_,⟨rfl,rfl⟩,?_⟩;all_goals exact aM
theorem Vm (x:Rv)(now:Int)(r:Rs)(h0:0<x.l.af.length)(hfl:x.l.af.length≤1000)(hl:x.heard.length≤1000000)(h1:(aW x).ah.any (· == r.from_)=true)(h2:x.heard.any (· == r.from_)=false)(hb:(aW x).ah.length≤1000000)(hw:0≤x.l.w∧x.l.w≤9223372036854775807)(ha:0≤x.l.a)(p1:(x.phase==1)=true)(p2:(x.phase==2)=false)(h3:fH (aW x) x.l.w x.l.a (x.heard++[r.from_])=true)(hs:0≤x.sure)(h8:8<max (min (max x.sure r.sure) 8+1) (aW x).first) :
  dU prog 137 [.ptr 1 0,.pv (uu now),.pv (.agg r.c)] [(1,.var (x.v (.aO 2 0) (.pv (ax x.none)) (.pv (ax x.has)) (.pv (cB x.af)) (.pv (ax x.bad)) (.pv (.sc (.slice none 0 0))))),(2,.arr 27 0 2 (x.heard.map Pl.c))] (.pv (.cO []))
   [(1,.var ((bQ { x with heard:=x.heard++[r.from_],sure:=min (max x.sure r.sure) 8 } (max (min (max x.sure r.sure) 8+1) (aW x).first) now).1.v (.aO 2 1) (.pv (ax [])) (.pv (ax [])) (.pv (cB x.af)) (.pv (ax [])) (.pv (.sc (.slice none 0 0))))),(2,.arr 27 1 2 ((x.heard++[r.from_]).map Pl.c))]:=by
 have hla:=l9 x h0 hfl;have hco:=aA (aW x).ah r.from_.node r.from_.aI;have hch:=aA x.heard r.from_.node r.from_.aI;rw[show ((aW x).ah.any fun y=>y==(⟨r.from_.node,r.from_.aI⟩:Pl))=true from h1] at hco;rw[show (x.heard.any fun y=>y==(⟨r.from_.node,r.from_.aI⟩:Pl))=false from h2] at hch;have hmap:(x.heard++[r.from_]).map Pl.c=x.heard.map Pl.c++[r.from_.c]:=by rw[List.map_append];rfl
 have Ny:=l9 ({ x with heard:=x.heard++[r.from_],sure:=min (max x.sure r.sure) 8 }:Rv) h0 hfl;rw[show aW ({ x with heard:=x.heard++[r.from_],sure:=min (max x.sure r.sure) 8 }:Rv)=aW x from rfl] at Ny;have hcv:=yL (aW x) x.l.w x.l.a (x.heard++[r.from_]) hw ha (by omega);rw[h3] at hcv;have hg:=ZR ({ x with heard:=x.heard++[r.from_],sure:=min (max x.sure r.sure) 8 }:Rv) (max (min (max x.sure r.sure) 8+1) (aW x).first) now h8;have es:min (max x.sure r.sure) 8=(if 8<if r.sure>x.sure then r.sure else x.sure then 8 else if r.sure>x.sure then r.sure else x.sure):=by (repeat' split)<;>omega
 have ew:IntKind.u64.wrap (min (max x.sure r.sure) 8+1)=min (max x.sure r.sure) 8+1:=gX (by omega) (by omega);have en:(max (min (max x.sure r.sure) 8+1) (aW x).first)=(if (aW x).first>IntKind.u64.wrap (min (max x.sure r.sure) 8+1) then (aW x).first else IntKind.u64.wrap (min (max x.sure r.sure) 8+1)):=by rw[ew];split<;>omega
 rw[en] at hg ⊢;clear en ew h8 hs;rw[es] at Ny hg ⊢;simp only[ax,hmap] at Ny hcv hg;clear es h3 hb hw ha;clear h0 hfl;obtain⟨lf,gT⟩:∃lf,aW x=lf:=⟨_,rfl⟩;rw[gT] at hla hco Ny hcv hg ⊢;clear gT h1 h2;rw[ax] at hch;rw[hmap];refine eO ko ?_;repeat' ((conv=>whnf);first|with_reducible apply aP|((with_reducible apply fk)<;>intro hc<;>try exact aZ)|(refine Or.inr ?_;(conv=>whnf);refine⟨_,_,av (hla) ?_,?_⟩;exact bD)|(apply bA;refine⟨_,hco,?_⟩)|(apply bA;refine⟨_,aG (hch) ?_,?_⟩;exact bD)|(((with_reducible apply And.intro);focus (simp only[fE,jQ,jR];omega)))|(refine Or.inr ?_;(conv=>whnf);refine⟨_,_,av (Ny) ?_,?_⟩;exact bD)|(apply bA;refine⟨_,aG (hcv) ?_,?_⟩;exact bD)|(apply dn;refine⟨_,_,av (hg) ?_,?_⟩;exact bD)|refine aN ?_|fail)
 refine⟨_,_,⟨rfl,rfl⟩,?_⟩;all_goals exact aM
theorem Vn (x:Rv)(now:Int)(r:Rs)(h0:0<x.l.af.length)(hfl:x.l.af.length≤1000)(hl:x.heard.length≤1000000)(h1:(aW x).ah.any (· == r.from_)=true)(h2:x.heard.any (· == r.from_)=false)(hb:(aW x).ah.length≤1000000)(hw:0≤x.l.w∧x.l.w≤9223372036854775807)(ha:0≤x.l.a)(p1:(x.phase==1)=true)(p2:(x.phase==2)=false)(h3:fH (aW x) x.l.w x.l.a (x.heard++[r.from_])=true)(hs:0≤x.sure)(h8:(max (min (max x.sure r.sure) 8+1) (aW x).first)≤8)(hfs:bg x.l.af)(hss:∀n,(setOf x.l.af x.l.w n).length≤1000000) :
  dU prog 137 [.ptr 1 0,.pv (uu now),.pv (.agg r.c)] [(1,.var (x.v (.aO 2 0) (.pv (ax x.none)) (.pv (ax x.has)) (.pv (cB x.af)) (.pv (ax x.bad)) (.pv (.sc (.slice none 0 0))))),(2,.arr 27 0 2 (x.heard.map Pl.c))] (.pv (.cO []))
   [(1,.var ((bQ { x with heard:=x.heard++[r.from_],sure:=min (max x.sure r.sure) 8 } (max (min (max x.sure r.sure) 8+1) (aW x).first) now).1.v (.aO 2 1) (.pv (ax [])) (.pv (ax [])) (.pv (cB x.af)) (.pv (ax [])) (.aO 1001 0))),(2,.arr 27 1 2 ((x.heard++[r.from_]).map Pl.c)),(1001,.arr 93 0 10 ((bQ { x with heard:=x.heard++[r.from_],sure:=min (max x.sure r.sure) 8 } (max (min (max x.sure r.sure) 8+1) (aW x).first) now).2.map Rq.c))]:=by
 have hla:=l9 x h0 hfl;have hco:=aA (aW x).ah r.from_.node r.from_.aI;have hch:=aA x.heard r.from_.node r.from_.aI;rw[show ((aW x).ah.any fun y=>y==(⟨r.from_.node,r.from_.aI⟩:Pl))=true from h1] at hco;rw[show (x.heard.any fun y=>y==(⟨r.from_.node,r.from_.aI⟩:Pl))=false from h2] at hch;have hmap:(x.heard++[r.from_]).map Pl.c=x.heard.map Pl.c++[r.from_.c]:=by rw[List.map_append];rfl
 have Ny:=l9 ({ x with heard:=x.heard++[r.from_],sure:=min (max x.sure r.sure) 8 }:Rv) h0 hfl;rw[show aW ({ x with heard:=x.heard++[r.from_],sure:=min (max x.sure r.sure) 8 }:Rv)=aW x from rfl] at Ny;have hcv:=yL (aW x) x.l.w x.l.a (x.heard++[r.from_]) hw ha (by omega);rw[h3] at hcv;have hg:=ZU ({ x with heard:=x.heard++[r.from_],sure:=min (max x.sure r.sure) 8 }:Rv) (max (min (max x.sure r.sure) 8+1) (aW x).first) now (by omega) hfs hss;have es:min (max x.sure r.sure) 8=(if 8<if r.sure>x.sure then r.sure else x.sure then 8 else if r.sure>x.sure then r.sure else x.sure):=by (repeat' split)<;>omega
 have ew:IntKind.u64.wrap (min (max x.sure r.sure) 8+1)=min (max x.sure r.sure) 8+1:=gX (by omega) (by omega);have en:(max (min (max x.sure r.sure) 8+1) (aW x).first)=(if (aW x).first>IntKind.u64.wrap (min (max x.sure r.sure) 8+1) then (aW x).first else IntKind.u64.wrap (min (max x.sure r.sure) 8+1)):=by rw[ew];split<;>omega
 rw[en] at hg ⊢;clear en ew h8 hs hss hfs;rw[es] at Ny hg ⊢;simp only[ax,hmap] at Ny hcv hg;clear es h3 hb hw ha;clear h0 hfl;obtain⟨lf,gT⟩:∃lf,aW x=lf:=⟨_,rfl⟩;rw[gT] at hla hco Ny hcv hg ⊢;clear gT h1 h2;rw[ax] at hch;rw[hmap];refine eO ko ?_;repeat' ((conv=>whnf);first|with_reducible apply aP|((with_reducible apply fk)<;>intro hc<;>try exact aZ)|(refine Or.inr ?_;(conv=>whnf);refine⟨_,_,av (hla) ?_,?_⟩;exact bD)|(apply bA;refine⟨_,hco,?_⟩)|(apply bA;refine⟨_,aG (hch) ?_,?_⟩;exact bD)|(((with_reducible apply And.intro);focus (simp only[fE,jQ,jR];omega)))|(refine Or.inr ?_;(conv=>whnf);refine⟨_,_,av (Ny) ?_,?_⟩;exact bD)|(apply bA;refine⟨_,aG (hcv) ?_,?_⟩;exact bD)|(apply dn;refine⟨_,_,av (hg) ?_,?_⟩;exact bD)|refine aN ?_|fail)
 refine⟨_,_,⟨rfl,rfl⟩,?_⟩;all_goals exact aM
theorem Vo (x:Rv)(now:Int)(r:Rs)(h0:0<x.l.af.length)(hfl:x.l.af.length≤1000)(hl:x.heard.length≤1000000)(h1:(aW x).ah.any (· == r.from_)=true)(h2:x.heard.any (· == r.from_)=false)(hf:bg x.l.af)(hn:0≤x.n∧x.n≤1000)(p1:(x.phase==1)=false)(p2:(x.phase==2)=true)(h3:(aJ x).any (· == r.from_)=true) :
  dU prog 137 [.ptr 1 0,.pv (uu now),.pv (.agg r.c)] [(1,.var (x.v (.aO 2 0) (.pv (ax x.none)) (.pv (ax x.has)) (.pv (cB x.af)) (.pv (ax x.bad)) (.pv (.sc (.slice none 0 0))))),(2,.arr 27 0 2 (x.heard.map Pl.c))] (.pv (.cO []))
   [(1,.var (({ x with heard:=x.heard++[r.from_],sure:=min (max x.sure r.sure) 8 }:Rv).v (.aO 2 1) (.pv (ax x.none)) (.pv (ax x.has)) (.pv (cB x.af)) (.pv (ax x.bad)) (.aO 1001 0))),(2,.arr 27 1 2 ((x.heard++[r.from_]).map Pl.c)),(1001,.arr 93 0 10 ([jH x r.from_].map Rq.c))]:=by
 have hla:=l9 x h0 hfl;have hco:=aA (aW x).ah r.from_.node r.from_.aI;have hch:=aA x.heard r.from_.node r.from_.aI;rw[show ((aW x).ah.any fun y=>y==(⟨r.from_.node,r.from_.aI⟩:Pl))=true from h1] at hco;rw[show (x.heard.any fun y=>y==(⟨r.from_.node,r.from_.aI⟩:Pl))=false from h2] at hch;have hmap:(x.heard++[r.from_]).map Pl.c=x.heard.map Pl.c++[r.from_.c]:=by rw[List.map_append];rfl
 have hrd:=Nw ({ x with heard:=x.heard++[r.from_],sure:=min (max x.sure r.sure) 8 }:Rv) [] hf (by simp only;omega);have uo:=aA (aJ x) r.from_.node r.from_.aI;rw[show ((aJ x).any fun y=>y==(⟨r.from_.node,r.from_.aI⟩:Pl))=true from h3] at uo;have es:min (max x.sure r.sure) 8=(if 8<if r.sure>x.sure then r.sure else x.sure then 8 else if r.sure>x.sure then r.sure else x.sure):=by (repeat' split)<;>omega
 rw[es] at hrd ⊢;simp only[ax,hmap] at hrd;clear es hf hn h3;clear h0 hfl;obtain⟨lf,gT⟩:∃lf,aW x=lf:=⟨_,rfl⟩;rw[gT] at hla hco;clear gT h1 h2;rw[ax] at hch;rw[hmap];refine eO ko ?_;repeat' ((conv=>whnf);first|with_reducible apply aP|((with_reducible apply fk)<;>intro hc<;>try exact aZ)|(refine Or.inr ?_;(conv=>whnf);refine⟨_,_,av (hla) ?_,?_⟩;exact bD)|(apply bA;refine⟨_,hco,?_⟩)|(apply bA;refine⟨_,aG (hch) ?_,?_⟩;exact bD)|(((with_reducible apply And.intro);focus (simp only[fE,jQ,jR];omega)))|(refine Or.inr ?_;(conv=>whnf);refine⟨_,_,av (hrd) ?_,?_⟩;exact bD)|(apply bA;refine⟨_,uo,?_⟩)|(refine Or.inr ?_;(conv=>whnf);refine⟨_,bZ bU (cZ mixed bU) Ac rfl ?_,fun _ _ h=>h⟩)|refine aN ?_|fail)
 refine⟨_,_,⟨rfl,rfl⟩,?_⟩;all_goals exact aM
theorem Z5 (x:Rv)(out:List Rq)(n now:Int)(hn:8<n) :
  dU prog 166 [.ptr 1 0,.pv (uu n),.pv (uu now)] [(1,.var (x.v (.pv (ax x.heard)) (.pv (ax x.none)) (.aO 2 0) (.pv (cB x.af)) (.pv (ax x.bad)) (.aO 3 0))),(2,.arr 27 0 2 (x.has.map Pl.c)),(3,.arr 93 0 10 (out.map Rq.c))] (.pv (.cO []))
   [(1,.var ((bQ x n now).1.v (.pv (ax x.heard)) (.pv (ax [])) (.pv (ax [])) (.pv (cB x.af)) (.pv (ax [])) (.aO 3 0))),(2,.arr 27 0 2 (x.has.map Pl.c)),(3,.arr 93 0 10 (out.map Rq.c))]:=by
 have d:decide (n>8)=true:=by simp only[iO];omega
 have e:bQ x n now=({ x with n:=n,none:=[],has:=[],body:=[],bad:=[],phase:=4 },[]):=by unfold bQ;rw[if_pos d]
 rw[e];clear e hn;refine eO nI ?_;repeat' ((conv=>whnf);first|with_reducible apply aP|((with_reducible apply fk)<;>intro hc<;>try exact aZ)|refine aN ?_|fail)
 all_goals
  refine⟨_,_,⟨rfl,rfl⟩,?_⟩;all_goals exact aM
theorem Z6 (x:Rv)(out:List Rq)(OZ:out.length≤1000)(n now:Int)(hn:0≤n∧n≤8)(hf:bg x.l.af)(hs:∀n,(setOf x.l.af x.l.w n).length≤1000000) :
  dU prog 166 [.ptr 1 0,.pv (uu n),.pv (uu now)] [(1,.var (x.v (.pv (ax x.heard)) (.pv (ax x.none)) (.aO 2 0) (.pv (cB x.af)) (.pv (ax x.bad)) (.aO 3 0))),(2,.arr 27 0 2 (x.has.map Pl.c)),(3,.arr 93 0 10 (out.map Rq.c))] (.pv (.cO []))
   [(1,.var ((bQ x n now).1.v (.pv (ax x.heard)) (.pv (ax [])) (.pv (ax [])) (.pv (cB x.af)) (.pv (ax [])) (.aO 1001 0))),(2,.arr 27 0 2 (x.has.map Pl.c)),(3,.dS 1 10 []),(1001,.arr 93 0 10 ((out++(bQ x n now).2).map Rq.c))]:=by
 have d:decide (n>8)=false:=by simp only[w9];omega
 obtain⟨y,hy⟩:∃y:Rv,y={ x with n:=n,none:=[],has:=[],body:=[],bad:=[],phase:=2,born:=now }:=⟨_,rfl⟩;have e:bQ x n now=({ y with since:=now },gN y (aJ y)):=by unfold bQ;rw[if_neg (by rw[d];simp),hy];rfl
 rw[e];have uG:=ZN y now out OZ (by rw[hy]) (by rw[hy];exact hf) (by rw[hy];simp only;omega) (by rw[hy];exact hs _);subst hy;clear e hn;refine eO nI ?_;repeat' ((conv=>whnf);first|with_reducible apply aP|((with_reducible apply fk)<;>intro hc<;>try exact aZ)|(refine Or.inr ?_;(conv=>whnf);refine⟨_,bZ bU (cZ mixed bU) jB rfl ?_,fun _ _ h=>h⟩)|(apply dn;refine⟨_,_,av (uG) ?_,?_⟩;exact bD)|refine aN ?_|fail)
 all_goals
  refine⟨_,_,⟨rfl,rfl⟩,?_⟩;all_goals exact aM
section
variable (x:Rv)(out:List Rq)(now:Int)
theorem QC (hf:bg x.af)(hn:0≤x.n∧x.n≤1000)(ha:bI (aj x) x.l.a x.has=false) :
  dU prog 143 [.ptr 1 0,.pv (uu now)] [(1,.var (x.v (.pv (ax x.heard)) (.pv (ax x.none)) (.aO 2 0) (.pv (cB x.af)) (.pv (ax x.bad)) (.aO 3 0))),(2,.arr 27 0 2 (x.has.map Pl.c)),(3,.arr 93 0 10 (out.map Rq.c))] (.pv (.cO []))
   [(1,.var (x.v (.pv (ax x.heard)) (.pv (ax x.none)) (.aO 2 0) (.pv (cB x.af)) (.pv (ax x.bad)) (.aO 3 0))),(2,.arr 27 0 2 (x.has.map Pl.c)),(3,.arr 93 0 10 (out.map Rq.c))]:=by
 have hw:=yM x out hf (by omega);have hac:=nH (aj x) x.l.a x.has;rw[ha] at hac;clear ha;refine eO jh ?_;repeat' ((conv=>whnf);first|with_reducible apply aP|((with_reducible apply fk)<;>intro hc<;>try exact aZ)|(refine Or.inr ?_;(conv=>whnf);refine⟨_,_,av (hw) ?_,?_⟩;exact bD)|(apply bA;refine⟨_,aG (hac) ?_,?_⟩;exact bD)|refine aN ?_|fail)
 refine⟨_,_,⟨rfl,rfl⟩,?_⟩;all_goals exact aM
theorem QD (hf:bg x.af)(hn:0≤x.n∧x.n≤1000)(ha:bI (aj x) x.l.a x.has=true)(h8:8<x.n+1) :
  dU prog 143 [.ptr 1 0,.pv (uu now)] [(1,.var (x.v (.pv (ax x.heard)) (.pv (ax x.none)) (.aO 2 0) (.pv (cB x.af)) (.pv (ax x.bad)) (.aO 3 0))),(2,.arr 27 0 2 (x.has.map Pl.c)),(3,.arr 93 0 10 (out.map Rq.c))] (.pv (.cO []))
   [(1,.var ((bQ x (x.n+1) now).1.v (.pv (ax x.heard)) (.pv (ax [])) (.pv (ax [])) (.pv (cB x.af)) (.pv (ax [])) (.aO 3 0))),(2,.arr 27 0 2 (x.has.map Pl.c)),(3,.arr 93 0 10 (out.map Rq.c))]:=by
 have hw:=yM x out hf (by omega);have hac:=nH (aj x) x.l.a x.has;rw[ha] at hac;clear ha;have ew:IntKind.u64.wrap (x.n+1)=x.n+1:=gX (by omega) (by omega);have hg:=Z5 x out (x.n+1) now h8;rw[←ew] at hg ⊢;clear ew h8;refine eO jh ?_;repeat' ((conv=>whnf);first|with_reducible apply aP|((with_reducible apply fk)<;>intro hc<;>try exact aZ)|(refine Or.inr ?_;(conv=>whnf);refine⟨_,_,av (hw) ?_,?_⟩;exact bD)|(apply bA;refine⟨_,aG (hac) ?_,?_⟩;exact bD)|(apply dn;refine⟨_,_,av (hg) ?_,?_⟩;exact bD)|refine aN ?_|fail)
 refine⟨_,_,⟨rfl,rfl⟩,?_⟩;all_goals exact aM
theorem QE (OZ:out.length≤1000)(hf:bg x.af)(hn:0≤x.n∧x.n≤1000)(ha:bI (aj x) x.l.a x.has=true)(h8:x.n+1≤8)(hfl:bg x.l.af)(hs:∀n,(setOf x.l.af x.l.w n).length≤1000000) :
  dU prog 143 [.ptr 1 0,.pv (uu now)] [(1,.var (x.v (.pv (ax x.heard)) (.pv (ax x.none)) (.aO 2 0) (.pv (cB x.af)) (.pv (ax x.bad)) (.aO 3 0))),(2,.arr 27 0 2 (x.has.map Pl.c)),(3,.arr 93 0 10 (out.map Rq.c))] (.pv (.cO []))
   [(1,.var ((bQ x (x.n+1) now).1.v (.pv (ax x.heard)) (.pv (ax [])) (.pv (ax [])) (.pv (cB x.af)) (.pv (ax [])) (.aO 1001 0))),(2,.arr 27 0 2 (x.has.map Pl.c)),(3,.dS 1 10 []),(1001,.arr 93 0 10 ((out++(bQ x (x.n+1) now).2).map Rq.c))]:=by
 have hw:=yM x out hf (by omega);have hac:=nH (aj x) x.l.a x.has;rw[ha] at hac;clear ha;have ew:IntKind.u64.wrap (x.n+1)=x.n+1:=gX (by omega) (by omega);have hg:=Z6 x out OZ (x.n+1) now (by omega) hfl hs;rw[←ew] at hg ⊢;clear ew h8 hs;refine eO jh ?_;repeat' ((conv=>whnf);first|with_reducible apply aP|((with_reducible apply fk)<;>intro hc<;>try exact aZ)|(refine Or.inr ?_;(conv=>whnf);refine⟨_,_,av (hw) ?_,?_⟩;exact bD)|(apply bA;refine⟨_,aG (hac) ?_,?_⟩;exact bD)|(apply dn;refine⟨_,_,av (hg) ?_,?_⟩;exact bD)|refine aN ?_|fail)
 refine⟨_,_,⟨rfl,rfl⟩,?_⟩;all_goals exact aM
end
section
variable (x:Rv)(now:Int)(r:Rs)
theorem afj (hf:bg x.l.af)(hn:0≤x.n∧x.n≤1000)
  (c1:(x.phase==2&&(r.code==0&&(aJ x).any (· == r.from_)))=false)
  (c2:(x.phase==2&&(r.code==3&&((aJ x).any (· == r.from_)&&(x.heard.any (· == r.from_) && !x.none.any (· == r.from_)))))=false)
  (c3:(x.phase==3&&(r.code==0&&decide (r.body=x.body)))=false) :
  dU prog 138 [.ptr 1 0,.pv (uu now),.pv (.agg r.c)] [(1,.var (x.v (.pv (ax x.heard)) (.pv (ax x.none)) (.pv (ax x.has)) (.pv (cB x.af)) (.pv (ax x.bad)) (.pv (.sc (.slice none 0 0)))))] (.pv (.cO []))
   [(1,.var (x.v (.pv (ax x.heard)) (.pv (ax x.none)) (.pv (ax x.has)) (.pv (cB x.af)) (.pv (ax x.bad)) (.pv (.sc (.slice none 0 0)))))]:=by
 have hrd:=Ad x [] hf (by omega);have uo:=aA (aJ x) r.from_.node r.from_.aI;have hch:=aA x.heard r.from_.node r.from_.aI;have Nz:=aA x.none r.from_.node r.from_.aI;obtain⟨th,hth⟩:∃th,(aJ x).any (· == r.from_)=th:=⟨_,rfl⟩;obtain⟨he,hhe⟩:∃th,x.heard.any (· == r.from_)=th:=⟨_,rfl⟩;obtain⟨no,hno⟩:∃th,x.none.any (· == r.from_)=th:=⟨_,rfl⟩;rw[show ((aJ x).any fun y=>y==(⟨r.from_.node,r.from_.aI⟩:Pl))=th from hth] at uo;rw[show (x.heard.any fun y=>y==(⟨r.from_.node,r.from_.aI⟩:Pl))=he from hhe] at hch;rw[show (x.none.any fun y=>y==(⟨r.from_.node,r.from_.aI⟩:Pl))=no from hno] at Nz;rw[hth] at c1 c2;rw[hhe,hno] at c2;clear hth hhe hno hf hn;rw[←zF] at c3;cases e1:x.phase==2
 ·cases e3:x.phase==3
  ·refine eO iF ?_;repeat' ((conv=>whnf);first|with_reducible apply aP|((with_reducible apply fk)<;>intro hc<;>try exact aZ)|(refine Or.inr ?_;(conv=>whnf);refine⟨_,_,av (hrd) ?_,?_⟩;exact bD)|(apply bA;refine⟨_,uo,?_⟩)|(apply bA;refine⟨_,hch,?_⟩)|(apply bA;refine⟨_,Nz,?_⟩)|((refine⟨r.body,rfl,?_⟩))|((refine⟨x.body,rfl,?_⟩))|refine aN ?_|fail)
   all_goals
    refine⟨_,_,⟨rfl,rfl⟩,?_⟩;all_goals exact aM
  rw[e3] at c3;simp only[Bool.true_and] at c3;cases e4:r.code==0
  ·refine eO iF ?_;repeat' ((conv=>whnf);first|with_reducible apply aP|((with_reducible apply fk)<;>intro hc<;>try exact aZ)|(refine Or.inr ?_;(conv=>whnf);refine⟨_,_,av (hrd) ?_,?_⟩;exact bD)|(apply bA;refine⟨_,uo,?_⟩)|(apply bA;refine⟨_,hch,?_⟩)|(apply bA;refine⟨_,Nz,?_⟩)|((refine⟨r.body,rfl,?_⟩))|((refine⟨x.body,rfl,?_⟩))|refine aN ?_|fail)
   all_goals
    refine⟨_,_,⟨rfl,rfl⟩,?_⟩;all_goals exact aM
  rw[e4] at c3;simp only[Bool.true_and] at c3;refine eO iF ?_;repeat' ((conv=>whnf);first|with_reducible apply aP|((with_reducible apply fk)<;>intro hc<;>try exact aZ)|(refine Or.inr ?_;(conv=>whnf);refine⟨_,_,av (hrd) ?_,?_⟩;exact bD)|(apply bA;refine⟨_,uo,?_⟩)|(apply bA;refine⟨_,hch,?_⟩)|(apply bA;refine⟨_,Nz,?_⟩)|((refine⟨r.body,rfl,?_⟩))|((refine⟨x.body,rfl,?_⟩))|refine aN ?_|fail)
  all_goals
   refine⟨_,_,⟨rfl,rfl⟩,?_⟩;all_goals exact aM
 rw[e1] at c1 c2;simp only[Bool.true_and] at c1 c2;have e3:(x.phase==3)=false:=by
  have:x.phase=2:=by simpa using e1
  rw[this];rfl
 clear c3;cases e4:r.code==0
 ·cases e5:r.code==3
  ·refine eO iF ?_;repeat' ((conv=>whnf);first|with_reducible apply aP|((with_reducible apply fk)<;>intro hc<;>try exact aZ)|(refine Or.inr ?_;(conv=>whnf);refine⟨_,_,av (hrd) ?_,?_⟩;exact bD)|(apply bA;refine⟨_,uo,?_⟩)|(apply bA;refine⟨_,hch,?_⟩)|(apply bA;refine⟨_,Nz,?_⟩)|((refine⟨r.body,rfl,?_⟩))|((refine⟨x.body,rfl,?_⟩))|refine aN ?_|fail)
   all_goals
    refine⟨_,_,⟨rfl,rfl⟩,?_⟩;all_goals exact aM
  rw[e5] at c2;simp only[Bool.true_and] at c2;cases th
  ·refine eO iF ?_;repeat' ((conv=>whnf);first|with_reducible apply aP|((with_reducible apply fk)<;>intro hc<;>try exact aZ)|(refine Or.inr ?_;(conv=>whnf);refine⟨_,_,av (hrd) ?_,?_⟩;exact bD)|(apply bA;refine⟨_,uo,?_⟩)|(apply bA;refine⟨_,hch,?_⟩)|(apply bA;refine⟨_,Nz,?_⟩)|((refine⟨r.body,rfl,?_⟩))|((refine⟨x.body,rfl,?_⟩))|refine aN ?_|fail)
   all_goals
    refine⟨_,_,⟨rfl,rfl⟩,?_⟩;all_goals exact aM
  simp only[Bool.true_and] at c2;cases he
  ·refine eO iF ?_;repeat' ((conv=>whnf);first|with_reducible apply aP|((with_reducible apply fk)<;>intro hc<;>try exact aZ)|(refine Or.inr ?_;(conv=>whnf);refine⟨_,_,av (hrd) ?_,?_⟩;exact bD)|(apply bA;refine⟨_,uo,?_⟩)|(apply bA;refine⟨_,hch,?_⟩)|(apply bA;refine⟨_,Nz,?_⟩)|((refine⟨r.body,rfl,?_⟩))|((refine⟨x.body,rfl,?_⟩))|refine aN ?_|fail)
   all_goals
    refine⟨_,_,⟨rfl,rfl⟩,?_⟩;all_goals exact aM
  simp only[Bool.true_and] at c2;refine eO iF ?_;repeat' ((conv=>whnf);first|with_reducible apply aP|((with_reducible apply fk)<;>intro hc<;>try exact aZ)|(refine Or.inr ?_;(conv=>whnf);refine⟨_,_,av (hrd) ?_,?_⟩;exact bD)|(apply bA;refine⟨_,uo,?_⟩)|(apply bA;refine⟨_,hch,?_⟩)|(apply bA;refine⟨_,Nz,?_⟩)|((refine⟨r.body,rfl,?_⟩))|((refine⟨x.body,rfl,?_⟩))|refine aN ?_|fail)
  all_goals
   refine⟨_,_,⟨rfl,rfl⟩,?_⟩;all_goals exact aM
 rw[e4] at c1;simp only[Bool.true_and] at c1;subst c1;cases e5:r.code==3
 ·refine eO iF ?_;repeat' ((conv=>whnf);first|with_reducible apply aP|((with_reducible apply fk)<;>intro hc<;>try exact aZ)|(refine Or.inr ?_;(conv=>whnf);refine⟨_,_,av (hrd) ?_,?_⟩;exact bD)|(apply bA;refine⟨_,uo,?_⟩)|(apply bA;refine⟨_,hch,?_⟩)|(apply bA;refine⟨_,Nz,?_⟩)|((refine⟨r.body,rfl,?_⟩))|((refine⟨x.body,rfl,?_⟩))|refine aN ?_|fail)
  all_goals
   refine⟨_,_,⟨rfl,rfl⟩,?_⟩;all_goals exact aM
 simp_all
end
section
variable (x:Rv)(now:Int)(r:Rs)
theorem acJ (hl:x.none.length≤1000000)(hw:0≤x.l.w∧x.l.w≤9223372036854775807)(ha:0≤x.l.a)(hf:bg x.l.af)(hn:0≤x.n∧x.n≤1000)(p2:(x.phase==2)=true)(k0:(r.code==0)=false)(k3:(r.code==3)=true)(h1:(aJ x).any (· == r.from_)=true)(h2:x.heard.any (· == r.from_)=true)(h3:x.none.any (· == r.from_)=false)(h4:fG (aJ x) x.l.w x.l.a (x.none++[r.from_])=false) :
  dU prog 138 [.ptr 1 0,.pv (uu now),.pv (.agg r.c)] [(1,.var (x.v (.pv (ax x.heard)) (.aO 2 0) (.pv (ax x.has)) (.pv (cB x.af)) (.pv (ax x.bad)) (.pv (.sc (.slice none 0 0))))),(2,.arr 27 0 2 (x.none.map Pl.c))] (.pv (.cO []))
   [(1,.var (({ x with none:=x.none++[r.from_],phase:=x.phase }:Rv).v (.pv (ax x.heard)) (.aO 2 1) (.pv (ax x.has)) (.pv (cB x.af)) (.pv (ax x.bad)) (.pv (.sc (.slice none 0 0))))),(2,.arr 27 1 2 ((x.none++[r.from_]).map Pl.c))]:=by
 have hrd:=Ae x [] hf (by omega);have uo:=aA (aJ x) r.from_.node r.from_.aI;have hch:=aA x.heard r.from_.node r.from_.aI;have Nz:=aA x.none r.from_.node r.from_.aI;rw[show ((aJ x).any fun y=>y==(⟨r.from_.node,r.from_.aI⟩:Pl))=true from h1] at uo;rw[show (x.heard.any fun y=>y==(⟨r.from_.node,r.from_.aI⟩:Pl))=true from h2] at hch;rw[show (x.none.any fun y=>y==(⟨r.from_.node,r.from_.aI⟩:Pl))=false from h3] at Nz;have hmap:(x.none++[r.from_]).map Pl.c=x.none.map Pl.c++[r.from_.c]:=by rw[List.map_append];rfl
 have hr2:=Ae ({ x with none:=x.none++[r.from_] }:Rv) [] hf (by simp only;omega);have hmi:=yK (aJ x) x.l.w x.l.a (x.none++[r.from_]) hw ha;rw[h4] at hmi;simp only[ax,hmap] at hr2 hmi;rw[ax] at Nz;rw[show aJ ({ x with none:=x.none++[r.from_] }:Rv)=aJ x from rfl] at hr2;clear h1 h2 h3 h4 hw ha hf hn;rw[hmap];refine eO iF ?_;repeat' ((conv=>whnf);first|with_reducible apply aP|((with_reducible apply fk)<;>intro hc<;>try exact aZ)|(refine Or.inr ?_;(conv=>whnf);refine⟨_,_,av (hrd) ?_,?_⟩;exact bD)|(apply bA;refine⟨_,uo,?_⟩)|(apply bA;refine⟨_,hch,?_⟩)|(apply bA;refine⟨_,aG (Nz) ?_,?_⟩;exact bD)|(((with_reducible apply And.intro);focus (simp only[fE,jQ,jR];omega)))|(refine Or.inr ?_;(conv=>whnf);refine⟨_,_,av (hr2) ?_,?_⟩;exact bD)|(apply bA;refine⟨_,aG (hmi) ?_,?_⟩;exact bD)|refine aN ?_|fail)
 refine⟨_,_,⟨rfl,rfl⟩,?_⟩;all_goals exact aM
theorem acK (hl:x.none.length≤1000000)(hw:0≤x.l.w∧x.l.w≤9223372036854775807)(ha:0≤x.l.a)(hf:bg x.l.af)(hn:0≤x.n∧x.n≤1000)(p2:(x.phase==2)=true)(k0:(r.code==0)=false)(k3:(r.code==3)=true)(h1:(aJ x).any (· == r.from_)=true)(h2:x.heard.any (· == r.from_)=true)(h3:x.none.any (· == r.from_)=false)(h4:fG (aJ x) x.l.w x.l.a (x.none++[r.from_])=true) :
  dU prog 138 [.ptr 1 0,.pv (uu now),.pv (.agg r.c)] [(1,.var (x.v (.pv (ax x.heard)) (.aO 2 0) (.pv (ax x.has)) (.pv (cB x.af)) (.pv (ax x.bad)) (.pv (.sc (.slice none 0 0))))),(2,.arr 27 0 2 (x.none.map Pl.c))] (.pv (.cO []))
   [(1,.var (({ x with none:=x.none++[r.from_],phase:=4 }:Rv).v (.pv (ax x.heard)) (.aO 2 1) (.pv (ax x.has)) (.pv (cB x.af)) (.pv (ax x.bad)) (.pv (.sc (.slice none 0 0))))),(2,.arr 27 1 2 ((x.none++[r.from_]).map Pl.c))]:=by
 have hrd:=Ae x [] hf (by omega);have uo:=aA (aJ x) r.from_.node r.from_.aI;have hch:=aA x.heard r.from_.node r.from_.aI;have Nz:=aA x.none r.from_.node r.from_.aI;rw[show ((aJ x).any fun y=>y==(⟨r.from_.node,r.from_.aI⟩:Pl))=true from h1] at uo;rw[show (x.heard.any fun y=>y==(⟨r.from_.node,r.from_.aI⟩:Pl))=true from h2] at hch;rw[show (x.none.any fun y=>y==(⟨r.from_.node,r.from_.aI⟩:Pl))=false from h3] at Nz;have hmap:(x.none++[r.from_]).map Pl.c=x.none.map Pl.c++[r.from_.c]:=by rw[List.map_append];rfl
 have hr2:=Ae ({ x with none:=x.none++[r.from_] }:Rv) [] hf (by simp only;omega);have hmi:=yK (aJ x) x.l.w x.l.a (x.none++[r.from_]) hw ha;rw[h4] at hmi;simp only[ax,hmap] at hr2 hmi;rw[ax] at Nz;rw[show aJ ({ x with none:=x.none++[r.from_] }:Rv)=aJ x from rfl] at hr2;clear h1 h2 h3 h4 hw ha hf hn;rw[hmap];refine eO iF ?_;repeat' ((conv=>whnf);first|with_reducible apply aP|((with_reducible apply fk)<;>intro hc<;>try exact aZ)|(refine Or.inr ?_;(conv=>whnf);refine⟨_,_,av (hrd) ?_,?_⟩;exact bD)|(apply bA;refine⟨_,uo,?_⟩)|(apply bA;refine⟨_,hch,?_⟩)|(apply bA;refine⟨_,aG (Nz) ?_,?_⟩;exact bD)|(((with_reducible apply And.intro);focus (simp only[fE,jQ,jR];omega)))|(refine Or.inr ?_;(conv=>whnf);refine⟨_,_,av (hr2) ?_,?_⟩;exact bD)|(apply bA;refine⟨_,aG (hmi) ?_,?_⟩;exact bD)|refine aN ?_|fail)
 refine⟨_,_,⟨rfl,rfl⟩,?_⟩;all_goals exact aM
theorem acL (hf:bg x.l.af)(hn:0≤x.n∧x.n≤1000)(p2:(x.phase==2)=false)(p3:(x.phase==3)=true)(k0:(r.code==0)=true)(hb:r.body=x.body)(h:x.has.any (· == r.from_)=true) :
  dU prog 138 [.ptr 1 0,.pv (uu now),.pv (.agg r.c)] [(1,.var (x.v (.pv (ax x.heard)) (.pv (ax x.none)) (.aO 2 0) (.pv (cB x.af)) (.pv (ax x.bad)) (.pv (.sc (.slice none 0 0))))),(2,.arr 27 0 2 (x.has.map Pl.c))] (.pv (.cO []))
   [(1,.var (x.v (.pv (ax x.heard)) (.pv (ax x.none)) (.aO 2 0) (.pv (cB x.af)) (.pv (ax x.bad)) (.pv (.sc (.slice none 0 0))))),(2,.arr 27 0 2 (x.has.map Pl.c))]:=by
 have hrd:=Af x [] hf (by omega);have uo:=aA (aJ x) r.from_.node r.from_.aI;have hB:((⟨r.body.toArray⟩:ByteArray).toList==(⟨x.body.toArray⟩:ByteArray).toList)=true:=by rw[zF];exact decide_eq_true hb
 have hh:=ZW x now r.from_ h;clear h hb hf hn;refine eO iF ?_;repeat' ((conv=>whnf);first|with_reducible apply aP|((with_reducible apply fk)<;>intro hc<;>try exact aZ)|(refine Or.inr ?_;(conv=>whnf);refine⟨_,_,av (hrd) ?_,?_⟩;exact bD)|(apply bA;refine⟨_,uo,?_⟩)|((refine⟨r.body,rfl,?_⟩))|((refine⟨x.body,rfl,?_⟩))|(apply dn;refine⟨_,_,av (hh) ?_,?_⟩;exact bD)|refine aN ?_|fail)
 all_goals
  refine⟨_,_,⟨rfl,rfl⟩,?_⟩;all_goals exact aM
theorem acM (hf:bg x.l.af)(hn:0≤x.n∧x.n≤1000)(p2:(x.phase==2)=false)(p3:(x.phase==3)=true)(k0:(r.code==0)=true)(hb:r.body=x.body)(h:x.has.any (· == r.from_)=false)(hl:x.has.length≤1000000)(eH:bg x.af)(ha:bI (aj x) x.l.a (x.has++[r.from_])=false) :
  dU prog 138 [.ptr 1 0,.pv (uu now),.pv (.agg r.c)] [(1,.var (x.v (.pv (ax x.heard)) (.pv (ax x.none)) (.aO 2 0) (.pv (cB x.af)) (.pv (ax x.bad)) (.pv (.sc (.slice none 0 0))))),(2,.arr 27 0 2 (x.has.map Pl.c))] (.pv (.cO []))
   [(1,.var (({ x with has:=x.has++[r.from_] }:Rv).v (.pv (ax x.heard)) (.pv (ax x.none)) (.aO 2 1) (.pv (cB x.af)) (.pv (ax x.bad)) (.pv (.sc (.slice none 0 0))))),(2,.arr 27 1 2 ((x.has++[r.from_]).map Pl.c))]:=by
 have hrd:=Af x [] hf (by omega);have uo:=aA (aJ x) r.from_.node r.from_.aI;have hB:((⟨r.body.toArray⟩:ByteArray).toList==(⟨x.body.toArray⟩:ByteArray).toList)=true:=by rw[zF];exact decide_eq_true hb
 have hh:=ZX x now r.from_ h hl eH hn ha;clear h hb hf hn ha hl eH;refine eO iF ?_;repeat' ((conv=>whnf);first|with_reducible apply aP|((with_reducible apply fk)<;>intro hc<;>try exact aZ)|(refine Or.inr ?_;(conv=>whnf);refine⟨_,_,av (hrd) ?_,?_⟩;exact bD)|(apply bA;refine⟨_,uo,?_⟩)|((refine⟨r.body,rfl,?_⟩))|((refine⟨x.body,rfl,?_⟩))|(apply dn;refine⟨_,_,av (hh) ?_,?_⟩;exact bD)|refine aN ?_|fail)
 all_goals
  refine⟨_,_,⟨rfl,rfl⟩,?_⟩;all_goals exact aM
theorem acN (hf:bg x.l.af)(hn:0≤x.n∧x.n≤1000)(p2:(x.phase==2)=false)(p3:(x.phase==3)=true)(k0:(r.code==0)=true)(hb:r.body=x.body)(h:x.has.any (· == r.from_)=false)(hl:x.has.length≤1000000)(eH:bg x.af)(ha:bI (aj x) x.l.a (x.has++[r.from_])=true)(h8:8<x.n+1) :
  dU prog 138 [.ptr 1 0,.pv (uu now),.pv (.agg r.c)] [(1,.var (x.v (.pv (ax x.heard)) (.pv (ax x.none)) (.aO 2 0) (.pv (cB x.af)) (.pv (ax x.bad)) (.pv (.sc (.slice none 0 0))))),(2,.arr 27 0 2 (x.has.map Pl.c))] (.pv (.cO []))
   [(1,.var ((bQ { x with has:=x.has++[r.from_] } (x.n+1) now).1.v (.pv (ax x.heard)) (.pv (ax [])) (.pv (ax [])) (.pv (cB x.af)) (.pv (ax [])) (.pv (.sc (.slice none 0 0))))),(2,.arr 27 1 2 ((x.has++[r.from_]).map Pl.c))]:=by
 have hrd:=Af x [] hf (by omega);have uo:=aA (aJ x) r.from_.node r.from_.aI;have hB:((⟨r.body.toArray⟩:ByteArray).toList==(⟨x.body.toArray⟩:ByteArray).toList)=true:=by rw[zF];exact decide_eq_true hb
 have hh:=ZY x now r.from_ h hl eH hn ha h8;clear h hb hf hn ha hl eH h8;refine eO iF ?_;repeat' ((conv=>whnf);first|with_reducible apply aP|((with_reducible apply fk)<;>intro hc<;>try exact aZ)|(refine Or.inr ?_;(conv=>whnf);refine⟨_,_,av (hrd) ?_,?_⟩;exact bD)|(apply bA;refine⟨_,uo,?_⟩)|((refine⟨r.body,rfl,?_⟩))|((refine⟨x.body,rfl,?_⟩))|(apply dn;refine⟨_,_,av (hh) ?_,?_⟩;exact bD)|refine aN ?_|fail)
 all_goals
  refine⟨_,_,⟨rfl,rfl⟩,?_⟩;all_goals exact aM
theorem acO (hf:bg x.l.af)(hn:0≤x.n∧x.n≤1000)(p2:(x.phase==2)=false)(p3:(x.phase==3)=true)(k0:(r.code==0)=true)(hb:r.body=x.body)(h:x.has.any (· == r.from_)=false)(hl:x.has.length≤1000000)(eH:bg x.af)(ha:bI (aj x) x.l.a (x.has++[r.from_])=true)(h8:x.n+1≤8)(hs:∀n,(setOf x.l.af x.l.w n).length≤1000000) :
  dU prog 138 [.ptr 1 0,.pv (uu now),.pv (.agg r.c)] [(1,.var (x.v (.pv (ax x.heard)) (.pv (ax x.none)) (.aO 2 0) (.pv (cB x.af)) (.pv (ax x.bad)) (.pv (.sc (.slice none 0 0))))),(2,.arr 27 0 2 (x.has.map Pl.c))] (.pv (.cO []))
   [(1,.var ((bQ { x with has:=x.has++[r.from_] } (x.n+1) now).1.v (.pv (ax x.heard)) (.pv (ax [])) (.pv (ax [])) (.pv (cB x.af)) (.pv (ax [])) (.aO 1001 0))),(2,.arr 27 1 2 ((x.has++[r.from_]).map Pl.c)),(1001,.arr 93 0 10 ((bQ { x with has:=x.has++[r.from_] } (x.n+1) now).2.map Rq.c))]:=by
 have hrd:=Af x [] hf (by omega);have uo:=aA (aJ x) r.from_.node r.from_.aI;have hB:((⟨r.body.toArray⟩:ByteArray).toList==(⟨x.body.toArray⟩:ByteArray).toList)=true:=by rw[zF];exact decide_eq_true hb
 have hh:=Z4 x now r.from_ h hl eH hn ha h8 hf hs;clear h hb hf hn ha hl eH h8 hs;refine eO iF ?_;repeat' ((conv=>whnf);first|with_reducible apply aP|((with_reducible apply fk)<;>intro hc<;>try exact aZ)|(refine Or.inr ?_;(conv=>whnf);refine⟨_,_,av (hrd) ?_,?_⟩;exact bD)|(apply bA;refine⟨_,uo,?_⟩)|((refine⟨r.body,rfl,?_⟩))|((refine⟨x.body,rfl,?_⟩))|(apply dn;refine⟨_,_,av (hh) ?_,?_⟩;exact bD)|refine aN ?_|fail)
 all_goals
  refine⟨_,_,⟨rfl,rfl⟩,?_⟩;all_goals exact aM
end
section
variable (x:Rv)(now:Int)(r:Rs)
theorem acP (hf:bg x.l.af)(eH:bg x.af)(hn:0≤x.n∧x.n≤1000)(hb:r.body.length≤1000000)(hw:(aj x).length≤1000)(p2:(x.phase==2)=true)(k0:(r.code==0)=true)(h1:(aJ x).any (· == r.from_)=true)(ha:bI (aj (aT x now r)) x.l.a [r.from_]=false) :
  dU prog 138 [.ptr 1 0,.pv (uu now),.pv (.agg r.c)] [(1,.var (x.v (.pv (ax x.heard)) (.pv (ax x.none)) (.pv (ax x.has)) (.pv (cB x.af)) (.pv (ax x.bad)) (.pv (.sc (.slice none 0 0)))))] (.pv (.cO []))
   [(1,.var ((aT x now r).v (.pv (ax x.heard)) (.pv (ax x.none)) (.aO 1001 0) (.pv (cB x.af)) (.pv (ax x.bad)) (.aO 1002 0))),(1001,.arr 27 0 2 ([r.from_].map Pl.c)),(1002,.arr 93 0 10 ((bn (aT x now r) (aj (aT x now r))).map Rq.c))]:=by
 have hrd:=Ad x [] hf (by omega);have uo:=aA (aJ x) r.from_.node r.from_.aI;rw[show ((aJ x).any fun y=>y==(⟨r.from_.node,r.from_.aI⟩:Pl))=true from h1] at uo;have hco:=BL ({ x with has:=[r.from_],body:=r.body,phase:=3,born:=now }:Rv) now rfl eH (by simp only;omega) (by show (aj x).length≤1000000;omega) hb;have hql:(bn (aT x now r) (aj (aT x now r))).length≤1000:=by
  unfold bn;rw[List.length_map];exact Nat.le_trans (List.length_filter_le _ _) hw
 have Ve:=QC (aT x now r) (bn (aT x now r) (aj (aT x now r))) now eH hn ha;clear h1 hw eH hf hn ha;refine eO iF ?_;repeat' ((conv=>whnf);first|with_reducible apply aP|((with_reducible apply fk)<;>intro hc<;>try exact aZ)|(refine Or.inr ?_;(conv=>whnf);refine⟨_,_,av (hrd) ?_,?_⟩;exact bD)|(apply bA;refine⟨_,uo,?_⟩)|(apply bA;refine⟨_,fA r.body (by omega),?_⟩)|(refine Or.inr ?_;(conv=>whnf);refine⟨_,bZ bU (cZ mixed bU) jB rfl ?_,fun _ _ h=>h⟩)|(apply dn;refine⟨_,_,av (hco) ?_,?_⟩;exact bD)|(apply dn;refine⟨_,_,av (Ve) ?_,?_⟩;exact bD)|refine aN ?_|fail)
 all_goals
  refine⟨_,_,⟨rfl,rfl⟩,?_⟩;all_goals exact aM
theorem acQ (hf:bg x.l.af)(eH:bg x.af)(hn:0≤x.n∧x.n≤1000)(hb:r.body.length≤1000000)(hw:(aj x).length≤1000)(p2:(x.phase==2)=true)(k0:(r.code==0)=true)(h1:(aJ x).any (· == r.from_)=true)(ha:bI (aj (aT x now r)) x.l.a [r.from_]=true)(h8:8<x.n+1) :
  dU prog 138 [.ptr 1 0,.pv (uu now),.pv (.agg r.c)] [(1,.var (x.v (.pv (ax x.heard)) (.pv (ax x.none)) (.pv (ax x.has)) (.pv (cB x.af)) (.pv (ax x.bad)) (.pv (.sc (.slice none 0 0)))))] (.pv (.cO []))
   [(1,.var ((bQ (aT x now r) (x.n+1) now).1.v (.pv (ax x.heard)) (.pv (ax [])) (.pv (ax [])) (.pv (cB x.af)) (.pv (ax [])) (.aO 1001 0))),(1001,.arr 93 0 10 ((bn (aT x now r) (aj (aT x now r))).map Rq.c))]:=by
 have hrd:=Ad x [] hf (by omega);have uo:=aA (aJ x) r.from_.node r.from_.aI;rw[show ((aJ x).any fun y=>y==(⟨r.from_.node,r.from_.aI⟩:Pl))=true from h1] at uo;have hco:=BL ({ x with has:=[r.from_],body:=r.body,phase:=3,born:=now }:Rv) now rfl eH (by simp only;omega) (by show (aj x).length≤1000000;omega) hb;have hql:(bn (aT x now r) (aj (aT x now r))).length≤1000:=by
  unfold bn;rw[List.length_map];exact Nat.le_trans (List.length_filter_le _ _) hw
 have Ve:=QD (aT x now r) (bn (aT x now r) (aj (aT x now r))) now eH hn ha h8;clear h1 hw eH hf hn ha h8;refine eO iF ?_;repeat' ((conv=>whnf);first|with_reducible apply aP|((with_reducible apply fk)<;>intro hc<;>try exact aZ)|(refine Or.inr ?_;(conv=>whnf);refine⟨_,_,av (hrd) ?_,?_⟩;exact bD)|(apply bA;refine⟨_,uo,?_⟩)|(apply bA;refine⟨_,fA r.body (by omega),?_⟩)|(refine Or.inr ?_;(conv=>whnf);refine⟨_,bZ bU (cZ mixed bU) jB rfl ?_,fun _ _ h=>h⟩)|(apply dn;refine⟨_,_,av (hco) ?_,?_⟩;exact bD)|(apply dn;refine⟨_,_,av (Ve) ?_,?_⟩;exact bD)|refine aN ?_|fail)
 all_goals
  refine⟨_,_,⟨rfl,rfl⟩,?_⟩;all_goals exact aM
theorem acR (hf:bg x.l.af)(eH:bg x.af)(hn:0≤x.n∧x.n≤1000)(hb:r.body.length≤1000000)(hw:(aj x).length≤1000)(p2:(x.phase==2)=true)(k0:(r.code==0)=true)(h1:(aJ x).any (· == r.from_)=true)(ha:bI (aj (aT x now r)) x.l.a [r.from_]=true)(h8:x.n+1≤8)(hs:∀n,(setOf x.l.af x.l.w n).length≤1000000) :
  dU prog 138 [.ptr 1 0,.pv (uu now),.pv (.agg r.c)] [(1,.var (x.v (.pv (ax x.heard)) (.pv (ax x.none)) (.pv (ax x.has)) (.pv (cB x.af)) (.pv (ax x.bad)) (.pv (.sc (.slice none 0 0)))))] (.pv (.cO []))
   [(1,.var ((bQ (aT x now r) (x.n+1) now).1.v (.pv (ax x.heard)) (.pv (ax [])) (.pv (ax [])) (.pv (cB x.af)) (.pv (ax [])) (.aO 1001 0))),(1001,.arr 93 0 10 ((bn (aT x now r) (aj (aT x now r))++(bQ (aT x now r) (x.n+1) now).2).map Rq.c))]:=by
 have hrd:=Ad x [] hf (by omega);have uo:=aA (aJ x) r.from_.node r.from_.aI;rw[show ((aJ x).any fun y=>y==(⟨r.from_.node,r.from_.aI⟩:Pl))=true from h1] at uo;have hco:=BL ({ x with has:=[r.from_],body:=r.body,phase:=3,born:=now }:Rv) now rfl eH (by simp only;omega) (by show (aj x).length≤1000000;omega) hb;have hql:(bn (aT x now r) (aj (aT x now r))).length≤1000:=by
  unfold bn;rw[List.length_map];exact Nat.le_trans (List.length_filter_le _ _) hw
 have Ve:=QE (aT x now r) (bn (aT x now r) (aj (aT x now r))) now hql eH hn ha h8 hf hs;clear h1 hw eH hf hn ha h8 hs;refine eO iF ?_;repeat' ((conv=>whnf);first|with_reducible apply aP|((with_reducible apply fk)<;>intro hc<;>try exact aZ)|(refine Or.inr ?_;(conv=>whnf);refine⟨_,_,av (hrd) ?_,?_⟩;exact bD)|(apply bA;refine⟨_,uo,?_⟩)|(apply bA;refine⟨_,fA r.body (by omega),?_⟩)|(refine Or.inr ?_;(conv=>whnf);refine⟨_,bZ bU (cZ mixed bU) jB rfl ?_,fun _ _ h=>h⟩)|(apply dn;refine⟨_,_,av (hco) ?_,?_⟩;exact bD)|(apply dn;refine⟨_,_,av (Ve) ?_,?_⟩;exact bD)|refine aN ?_|fail)
 all_goals
  refine⟨_,_,⟨rfl,rfl⟩,?_⟩;all_goals exact aM
end
theorem afn {a b:Bool}(h:a=false∨b=false):¬(a&&b)=true:=by
 rcases h with h|h<;>rw[h]<;>simp
theorem QG:bR prog 171 f171:=fC func171
theorem QH:bR prog 172 f172:=fC func172
theorem QI:bR prog 173 f173:=fC func173
theorem Z7 (y:Pl)(r:Rs):dB prog 172 ([]++([.agg y.c]++[.dL r.c 0])) (bl (y==r.from_)):=by
 refine PC.le ?_;refine dP QH ?_;repeat' ((conv=>whnf);first|with_reducible apply aP|((with_reducible apply fk)<;>intro hc<;>try exact aZ)|refine aN ?_|fail)
 repeat' first|apply And.intro|exact aM|fail
 all_goals try (conv=>whnf)
 rw[Pl.beq]
theorem Z8 (y:Pl)(r:Rs):dB prog 173 ([]++([.agg y.c]++[.dL r.c 0])) (bl (y.node==r.from_.node&&y.aI != r.from_.aI)):=by
 refine PC.le ?_;refine dP QI ?_;repeat' ((conv=>whnf);first|with_reducible apply aP|((with_reducible apply fk)<;>intro hc<;>try exact aZ)|refine aN ?_|fail)
 all_goals
  repeat' first|apply And.intro|exact aM|fail
  all_goals try (conv=>whnf)
  simp only[hc,Bool.true_and,Bool.false_and]
theorem NA (x:Rv)(r:Rs)(f:FuncId)(is:Pl→Bool)(hp:∀y,dB prog f ([]++([.agg (Pl.c y)]++[.dL r.c 0])) (bl (is y)))(eH:bg x.af)(hn:0≤x.n∧x.n≤1000)(hl:x.bad.length≤1000000)(hw:(aj x).length≤1000) :
  dU prog 171 [.pv (.fn (.func f) [] [.dL r.c 0]),.ptr 1 0] [(1,.var [.ptr 2 0]),(2,.var (x.v (.pv (ax x.heard)) (.pv (ax x.none)) (.pv (ax x.has)) (.pv (cB x.af)) (.aO 3 0) (.pv (.sc (.slice none 0 0))))),(3,.arr 27 0 2 (x.bad.map Pl.c))] (.pv (.cO []))
   [(1,.var [.ptr 2 0]),(2,.var (({ x with bad:=aD is x.bad (aj x) }:Rv).v (.pv (ax x.heard)) (.pv (ax x.none)) (.pv (ax x.has)) (.pv (cB x.af)) (.aO 1001 0) (.pv (.sc (.slice none 0 0))))),(3,.dS 1 2 []),(1001,.arr 27 0 2 ((aD is x.bad (aj x)).map Pl.c))]:=by
 refine nD 3 1777 rfl ?_;show GC _ _ [.pv (.fn (.func f) [] [.dL r.c 0]),.ptr 1 0] [(1777,.arr 27 0 2 (x.bad.map Pl.c)),(1,.var [.ptr 2 0]),(2,.var (x.v (.pv (ax x.heard)) (.pv (ax x.none)) (.pv (ax x.has)) (.pv (cB x.af)) (.aO 1777 0) (.pv (.sc (.slice none 0 0))))),(3,.dS 1 2 [])] _
 obtain⟨wr,hwr⟩:∃wr,aj x=wr:=⟨_,rfl⟩;have hse:=iU x.af x.l.w x.n eH (by omega);rw[show setOf x.af x.l.w x.n=wr from hwr] at hse;rw[hwr] at hw ⊢;clear hwr eH hn;refine eO QG ?_;repeat' ((conv=>whnf);first|with_reducible apply aP|((with_reducible apply fk)<;>intro hc<;>try exact aZ)|(refine Or.inr ?_;(conv=>whnf);refine⟨_,bZ bU (cZ mixed bU) j6 rfl ?_,fun _ _ h=>h⟩)|(apply bA;refine⟨_,hse,?_⟩)|refine aN ?_|fail)
 refine⟨{k:Nat // k≤wr.length},fun⟨k,_⟩=>⟨[(0,.pv (.fn (.func f) [] [.dL r.c 0])),(1,.ptr 1 0),(6,.pv (ax wr)),(7,.pv (ii wr.length)),(8,.pv (ii k))],1000000000,[(1,.var [.ptr 2 0]),(2,.var (x.v (.pv (ax x.heard)) (.pv (ax x.none)) (.pv (ax x.has)) (.pv (cB x.af)) (.aO 1001 0) (.pv (.sc (.slice none 0 0))))),(3,.dS 1 2 []),(1001,.arr 27 0 2 ((aD is x.bad (wr.take k)).map Pl.c))]⟩,fun⟨k,_⟩=>wr.length-k,⟨⟨0,Nat.zero_le _⟩,aH ?_⟩,?_⟩
 ·repeat' first|apply And.intro|exact aM|fail
  all_goals try (conv=>whnf)
  all_goals simp
 rintro⟨k,hk⟩
 by_cases hlt:k<wr.length
 ·have d0:decide ((k:Int)<(wr.length:Int))=true:=by simp only[iO];omega
  have eW:IntKind.i64.wrap ((k:Int)+1)=((k+1:Nat):Int):=by rw[bN (by omega) (by omega)];omega
  have hq:=ql is x.bad wr k hlt;have hal:=jZ is (wr.take k) x.bad;have htl:(wr.take k).length≤1000:=by rw[List.length_take];omega
  repeat' ((conv=>whnf);first|with_reducible apply aP|((with_reducible apply fk)<;>intro hc<;>try exact aZ)|((refine⟨_,dR _ _ _ hlt,?_⟩))|(apply bA;refine⟨_,hp _,?_⟩)|(apply bA;refine⟨_,aA _ _ _,?_⟩)|(((with_reducible apply And.intro);focus (simp only[fE,jQ,jR] at *;omega)))|refine aN ?_|fail)
  all_goals
   refine⟨⟨k+1,hlt⟩,dec_lt hlt,aH ?_⟩;repeat' first|apply And.intro|exact aM|fail
   all_goals try (conv=>whnf)
  all_goals
   first
    |exact eW
    | (rw[hq,if_pos (by simp only[Bool.and_eq_true];exact⟨by assumption,by assumption⟩),List.map_append]
       refine bW (aB _) ?_
       (repeat' first|apply And.intro|exact aM|fail);(all_goals try (conv=>whnf)))
    |(rw[hq,if_neg (afn (by first|exact .inl (by assumption)|exact .inr (by assumption)))];exact aB _)
 have hke:k=wr.length:=by omega
 subst hke;have d0:decide ((wr.length:Int)<(wr.length:Int))=false:=by simp
 repeat' ((conv=>whnf);first|with_reducible apply aP|((with_reducible apply fk)<;>intro hc<;>try exact aZ)|refine aN ?_|fail)
 refine⟨_,_,⟨rfl,rfl⟩,?_⟩;repeat' first|apply And.intro|exact aM|fail
 all_goals try (conv=>whnf)
 rw[List.take_length];exact aB _
end Go.Proofs.YtfoiekbkkbnpkaaGreat.Tb
end
