/-
  Contracts of functions of the program and of the document, each for every input that its premises name.
-/
import Derived.Test.YtfoiekbkkbnpkaaGreatBe
import Derived.Test.YtfoiekbkkbnpkaaGreatBd
import Derived.Test.YtfoiekbkkbnpkaaGreatAf
import Derived.Test.YtfoiekbkkbnpkaaGreatAg
import Derived.Test.YtfoiekbkkbnpkaaGreatBb
set_option linter.unusedSectionVars false
set_option linter.unusedVariables false
set_option linter.unusedSimpArgs false
set_option maxRecDepth 100000
set_option maxHeartbeats 4000000
section
open Go Go.Proofs.Tryz Go.AX
namespace Go.Proofs.YtfoiekbkkbnpkaaGreat.Tb
theorem FX (x:Rv)(now:Int)(hp:x.phase=3)(hf:bg x.af)(hn:0≤x.n∧x.n≤18446744073709551615)(hs:(aj x).length≤1000000)(hb:x.body.length≤1000000) :
  dU prog 144 [.ptr 1 0,.pv (uu now)] [(1,.var (x.v (.pv (ax x.heard)) (.pv (ax x.none)) (.pv (ax x.has)) (.aO 2 0) (.aO 3 0) (.pv (.sc (.slice none 0 0))))),(2,.arr 48 0 2 (x.af.map Fr.c)),(3,.arr 27 0 2 (x.bad.map Pl.c))] (.pv (.cO []))
   [(1,.var (({ x with since:=now }:Rv).v (.pv (ax x.heard)) (.pv (ax x.none)) (.pv (ax x.has)) (.aO 2 0) (.aO 3 0) (.aO 1001 0))),(2,.dS 0 2 (x.af.map Fr.c)),(3,.arr 27 0 2 (x.bad.map Pl.c)),(1001,.arr 93 0 10 ((bn x (aj x)).map Rq.c))]:=by
 have b1:(x.phase==1)=false:=by simp[hp]
 have b2:(x.phase==2)=false:=by simp[hp]
 have b3:(x.phase==3)=true:=by simp[hp]
 clear hp;refine eO qw ?_;repeat' ((conv=>whnf);first|with_reducible apply aP|((with_reducible apply fk)<;>intro hc<;>try exact aZ)|(refine Or.inr ?_;(conv=>whnf);refine⟨_,bZ bU (cZ mixed bU) j6 rfl ?_,fun _ _ h=>h⟩)|(apply bA;refine⟨_,iU _ _ _ hf hn,?_⟩)|refine aN ?_|fail)
 refine⟨{k:Nat // k≤(aj x).length},fun⟨k,_⟩=>⟨[(0,.ptr 1 0),(94,.pv (ax (aj x))),(95,.pv (ii (aj x).length)),(96,.pv (ii k))],1000000000,[(1,.var (({ x with since:=now }:Rv).v (.pv (ax x.heard)) (.pv (ax x.none)) (.pv (ax x.has)) (.aO 2 0) (.aO 3 0) (.aO 1001 0))),(2,.dS 0 2 (x.af.map Fr.c)),(3,.arr 27 0 2 (x.bad.map Pl.c)),(1001,.arr 93 0 10 ((bn x ((aj x).take k)).map Rq.c))]⟩,fun⟨k,_⟩=>(aj x).length-k,⟨⟨0,Nat.zero_le _⟩,aH ?_⟩,?_⟩
 ·repeat' first|apply And.intro|exact aM|fail
  all_goals try (conv=>whnf)
  rw[List.length_map];rfl
 rintro⟨k,hk⟩
 by_cases hlt:k<(aj x).length
 ·have d0:decide ((k:Int)<((aj x).length:Int))=true:=by simp only[iO];omega
  have eW:IntKind.i64.wrap ((k:Int)+1)=((k+1:Nat):Int):=by rw[bN (by omega) (by omega)];omega
  have hq:=fO (fun p=>!x.has.any (· == p)) (Cv x) (aj x) k hlt;have hl:=gD (fun p=>!x.has.any (· == p)) (Cv x) (aj x) k;repeat' ((conv=>whnf);first|with_reducible apply aP|((with_reducible apply fk)<;>intro hc<;>try exact aZ)|((refine⟨_,dR _ _ _ hlt,?_⟩))|(apply bA;refine⟨_,aA _ _ _,?_⟩)|(apply bA;refine⟨_,fA x.body (by omega),?_⟩)|(((with_reducible apply And.intro);focus (simp only[bn,fE,jQ,jR] at *;omega)))|refine aN ?_|fail)
  all_goals
   refine⟨⟨k+1,hlt⟩,dec_lt hlt,aH ?_⟩;repeat' first|apply And.intro|exact aM|fail
   all_goals try (conv=>whnf)
   all_goals first
    |exact eW
    | (simp only[bn]
       rw[hq,if_pos (by assumption),List.map_append];refine bW (aB _) ?_
       (repeat' first|apply And.intro|exact aM|fail);(all_goals try (conv=>whnf)))
    | (simp only[bn]
       rw[hq,if_neg (by rw[show (!x.has.any fun y=>y==(aj x)[k])=false from by assumption];simp)];exact aB _)
 have hke:k=(aj x).length:=by omega
 subst hke;have d0:decide (((aj x).length:Int)<((aj x).length:Int))=false:=by simp
 repeat' ((conv=>whnf);first|with_reducible apply aP|((with_reducible apply fk)<;>intro hc<;>try exact aZ)|refine aN ?_|fail)
 refine⟨_,_,⟨rfl,rfl⟩,?_⟩;repeat' first|apply And.intro|exact aM|fail
 all_goals try (conv=>whnf)
 rw[List.take_length];exact aB _
theorem wM (x:Rv)(h:x.sm):dU prog 135 [.pv (.agg x.c)] [] (.ptr 1001 0) [(1001,.var (x.v (.pv (ax x.heard)) (.pv (ax x.none)) (.pv (ax x.has)) (.aO 1002 0) (.aO 1003 0) (.pv (.sc (.slice none 0 0))))),(1002,.arr 48 0 2 (x.af.map Fr.c)),(1003,.arr 27 0 2 (x.bad.map Pl.c))]:=by
 refine gu (BJ x h) [1002,1003,1004,1005] ?_
 (conv=>whnf)
 refine⟨_,_,⟨rfl,rfl⟩,?_⟩;all_goals exact aM
theorem Qr (x:Rv)(out:List Rq)(hf:bg x.af)(hn:0≤x.n∧x.n≤18446744073709551615) :
  dU prog 141 [.ptr 1 0] [(1,.var (x.v (.pv (ax x.heard)) (.pv (ax x.none)) (.pv (ax x.has)) (.aO 2 0) (.pv (ax x.bad)) (.aO 3 0))),(2,.dS 0 2 (x.af.map Fr.c)),(3,.arr 93 0 10 (out.map Rq.c))] (.pv (ax (aj x))) [(1,.var (x.v (.pv (ax x.heard)) (.pv (ax x.none)) (.pv (ax x.has)) (.aO 2 0) (.pv (ax x.bad)) (.aO 3 0))),(2,.dS 0 2 (x.af.map Fr.c)),(3,.arr 93 0 10 (out.map Rq.c))]:=by
 refine eO j6 ?_;repeat' ((conv=>whnf);first|with_reducible apply aP|((with_reducible apply fk)<;>intro hc<;>try exact aZ)|(apply bA;refine⟨_,iU _ _ _ hf hn,?_⟩)|refine aN ?_|fail)
 refine⟨_,_,⟨rfl,rfl⟩,?_⟩;all_goals exact aM
theorem I7 (x:Rv)(out:List Rq)(now:Int)(OZ:out.length≤1000)(eH:bg x.af)(hn:0≤x.n∧x.n≤1000)(hf:bg x.l.af)(hs:∀n,(setOf x.l.af x.l.w n).length≤1000000) :
  dU prog 143 [.ptr 1 0,.pv (uu now)] [(1,.var (x.v (.pv (ax x.heard)) (.pv (ax x.none)) (.pv (ax x.has)) (.aO 2 0) (.pv (ax x.bad)) (.aO 3 0))),(2,.dS 0 2 (x.af.map Fr.c)),(3,.arr 93 0 10 (out.map Rq.c))] (.pv (.cO []))
   [(1,.var ((bO x now).1.v (.pv (ax (bO x now).1.heard)) (.pv (ax (bO x now).1.none)) (.pv (ax (bO x now).1.has)) (.aO 2 0) (.pv (ax (bO x now).1.bad)) (.aO 1001 0))),(2,.dS 0 2 (x.af.map Fr.c)),(3,.dS 1 10 []),(1001,.arr 93 0 10 ((out++(bO x now).2).map Rq.c))]:=by
 have hw:=Qr x out eH (by omega);have hac:=nH (aj x) x.l.a x.has;cases ha:bI (aj x) x.l.a x.has with
 | false=>
   have e:bO x now=(x,[]):=by unfold bO;rw[if_neg (by rw[ha];decide)]
   rw[e,List.append_nil];rw[ha] at hac;clear ha e hf hs hn eH OZ;refine nD 3 1777 rfl ?_;show GC _ _ [.ptr 1 0,.pv (uu now)] [(1777,.arr 93 0 10 (out.map Rq.c)),(1,.var (x.v (.pv (ax x.heard)) (.pv (ax x.none)) (.pv (ax x.has)) (.aO 2 0) (.pv (ax x.bad)) (.aO 1777 0))),(2,.dS 0 2 (x.af.map Fr.c)),(3,.dS 1 10 [])] _
   refine eO jh ?_;repeat' ((conv=>whnf);first|with_reducible apply aP|((with_reducible apply fk)<;>intro hc<;>try exact aZ)|(refine Or.inr ?_;(conv=>whnf);refine⟨_,_,av (hw) ?_,?_⟩;exact bD)|(apply bA;refine⟨_,aG (hac) ?_,?_⟩;exact bD)|refine aN ?_|fail)
   all_goals
    refine⟨_,_,⟨rfl,rfl⟩,?_⟩;all_goals exact aM
 |true=>
 rw[ha] at hac;have e:bO x now=bQ x (x.n+1) now:=by unfold bO;rw[if_pos ha]
 rw[e];have ew:IntKind.u64.wrap (x.n+1)=x.n+1:=gX (by omega) (by omega);by_cases h8:8<x.n+1
 ·have d:decide (x.n+1>8)=true:=by simp only[iO];omega
  have d':decide (IntKind.u64.wrap (x.n+1)>8)=true:=by rw[ew];exact d
  have e2:bQ x (x.n+1) now=({ x with n:=x.n+1,none:=[],has:=[],body:=[],bad:=[],phase:=4 },[]):=by unfold bQ;rw[if_pos d]
  rw[e2,List.append_nil];clear ha e e2 hf hs hn eH OZ h8;refine nD 3 1777 rfl ?_;show GC _ _ [.ptr 1 0,.pv (uu now)] [(1777,.arr 93 0 10 (out.map Rq.c)),(1,.var (x.v (.pv (ax x.heard)) (.pv (ax x.none)) (.pv (ax x.has)) (.aO 2 0) (.pv (ax x.bad)) (.aO 1777 0))),(2,.dS 0 2 (x.af.map Fr.c)),(3,.dS 1 10 [])] _
  refine eO jh ?_;repeat' ((conv=>whnf);first|with_reducible apply aP|((with_reducible apply fk)<;>intro hc<;>try exact aZ)|(refine Or.inr ?_;(conv=>whnf);refine⟨_,_,av (hw) ?_,?_⟩;exact bD)|(apply bA;refine⟨_,aG (hac) ?_,?_⟩;exact bD)|(refine Or.inr ?_;(conv=>whnf);refine⟨_,bZ bU (cZ mixed bU) nI rfl ?_,fun _ _ h=>h⟩)|refine aN ?_|fail)
  all_goals
   refine⟨_,_,⟨rfl,rfl⟩,?_⟩;repeat' first|apply And.intro|exact aM|fail
   all_goals try (conv=>whnf)
  all_goals exact ew
 have d:decide (x.n+1>8)=false:=by simp only[w9];omega
 have d':decide (IntKind.u64.wrap (x.n+1)>8)=false:=by rw[ew];exact d
 obtain⟨y,hy⟩:∃y:Rv,y={ x with n:=x.n+1,none:=[],has:=[],body:=[],bad:=[],phase:=2,born:=now }:=⟨_,rfl⟩;have e2:bQ x (x.n+1) now=({ y with since:=now },gN y (aJ y)):=by unfold bQ;rw[if_neg (by rw[d];simp),hy];rfl
 rw[e2];have uG:=Zo y now out OZ (by rw[hy]) (by rw[hy];exact hf) (by rw[hy];simp only;omega) (by rw[hy];exact hs _);subst hy;clear ha e e2 hf hs hn eH OZ h8;refine nD 3 1777 rfl ?_;show GC _ _ [.ptr 1 0,.pv (uu now)] [(1777,.arr 93 0 10 (out.map Rq.c)),(1,.var (x.v (.pv (ax x.heard)) (.pv (ax x.none)) (.pv (ax x.has)) (.aO 2 0) (.pv (ax x.bad)) (.aO 1777 0))),(2,.dS 0 2 (x.af.map Fr.c)),(3,.dS 1 10 [])] _
 refine eO jh ?_;repeat' ((conv=>whnf);first|with_reducible apply aP|((with_reducible apply fk)<;>intro hc<;>try exact aZ)|(refine Or.inr ?_;(conv=>whnf);refine⟨_,_,av (hw) ?_,?_⟩;exact bD)|(apply bA;refine⟨_,aG (hac) ?_,?_⟩;exact bD)|(refine Or.inr ?_;(conv=>whnf);refine⟨_,bZ bU (cZ mixed bU) nI rfl ?_,fun _ _ h=>h⟩)|(refine Or.inr ?_;(conv=>whnf);refine⟨_,bZ bU (cZ mixed bU) jB rfl ?_,fun _ _ h=>h⟩)|(apply dn;refine⟨_,_,av (uG) ?_,?_⟩;exact bD)|refine aN ?_|fail)
 all_goals
  refine⟨_,_,⟨rfl,rfl⟩,?_⟩;repeat' first|apply And.intro|exact aM|fail
  all_goals try (conv=>whnf)
 all_goals exact ew
theorem jC:bR prog 92 f92:=fC func92
section
variable (x:Rv)(now:Int)(known:List Pl)(hsm:x.sm)(hk:known.length≤1000)(dx:0≤now∧now≤18446744073709551615)(hsi:0≤x.since∧x.since≤18446744073709551615)
include hsm hk dx hsi
theorem Zp (p3:(x.phase==3)=false)(p4:(x.phase != 4)=false) :
  dB prog 92 [.agg x.c,uu now,ax known] (.cO [.agg x.c,kD []]):=by
 refine PC.le ?_;have hg2:=kP now x.since 3 dx hsi;have hown:=jK x hsm;clear hsm hk dx hsi;refine dP jC ?_;repeat' ((conv=>whnf);first|with_reducible apply aP|((with_reducible apply fk)<;>intro hc<;>try exact aZ)|(apply dn;refine⟨_,_,av (hown) ?_,?_⟩;exact bD)|(apply bA;refine⟨_,aG (hg2) ?_,?_⟩;exact bD)|refine aN ?_|fail)
 all_goals
  all_goals exact aM
theorem Zq (p3:(x.phase==3)=false)(p4:(x.phase != 4)=true)(g2:fw now x.since 3=false) :
  dB prog 92 [.agg x.c,uu now,ax known] (.cO [.agg x.c,kD []]):=by
 refine PC.le ?_;have hg2:=kP now x.since 3 dx hsi;rw[g2] at hg2;clear g2;have hown:=jK x hsm;clear hsm hk dx hsi;refine dP jC ?_;repeat' ((conv=>whnf);first|with_reducible apply aP|((with_reducible apply fk)<;>intro hc<;>try exact aZ)|(apply dn;refine⟨_,_,av (hown) ?_,?_⟩;exact bD)|(apply bA;refine⟨_,aG (hg2) ?_,?_⟩;exact bD)|refine aN ?_|fail)
 all_goals
  all_goals exact aM
theorem Zr (p3:(x.phase==3)=false)(p4:(x.phase != 4)=true)(g2:fw now x.since 3=true)(hp:x.phase=1)(h0:0<x.l.af.length)(hfl:x.l.af.length≤1000)(hl:(aW x).ah.length≤1000000) :
  dB prog 92 [.agg x.c,uu now,ax known] (.cO [.agg ({ x with since:=now }:Rv).c,kD (jL x (aW x).ah)]):=by
 refine PC.le ?_;have hg2:=kP now x.since 3 dx hsi;rw[g2] at hg2;have uG:=I6 x now hp h0 hfl hl;clear g2 hp h0 hfl hl;have hown:=jK x hsm;clear hsm hk dx hsi;refine dP jC ?_;repeat' ((conv=>whnf);first|with_reducible apply aP|((with_reducible apply fk)<;>intro hc<;>try exact aZ)|(apply dn;refine⟨_,_,av (hown) ?_,?_⟩;exact bD)|(apply bA;refine⟨_,aG (hg2) ?_,?_⟩;exact bD)|(apply dn;refine⟨_,_,av (uG) ?_,?_⟩;exact bD)|refine aN ?_|fail)
 all_goals
  all_goals exact aM
theorem Zt (p3:(x.phase==3)=false)(p4:(x.phase != 4)=true)(g2:fw now x.since 3=true)(hp:x.phase=2)(hf:bg x.l.af)(hn:0≤x.n∧x.n≤18446744073709551615)(hs:(aJ x).length≤1000000) :
  dB prog 92 [.agg x.c,uu now,ax known] (.cO [.agg ({ x with since:=now }:Rv).c,kD (gN x (aJ x))]):=by
 refine PC.le ?_;have hg2:=kP now x.since 3 dx hsi;rw[g2] at hg2;have uG:=Sz x now hp hf hn hs;clear g2 hp hf hn hs;have hown:=jK x hsm;clear hsm hk dx hsi;refine dP jC ?_;repeat' ((conv=>whnf);first|with_reducible apply aP|((with_reducible apply fk)<;>intro hc<;>try exact aZ)|(apply dn;refine⟨_,_,av (hown) ?_,?_⟩;exact bD)|(apply bA;refine⟨_,aG (hg2) ?_,?_⟩;exact bD)|(apply dn;refine⟨_,_,av (uG) ?_,?_⟩;exact bD)|refine aN ?_|fail)
 all_goals
  all_goals exact aM
end
section
variable (x:Rv)(now:Int)(known:List Pl)(hsm:x.sm)(hk:known.length≤1000)(dx:0≤now∧now≤18446744073709551615)(hsi:0≤x.since∧x.since≤18446744073709551615)(uj:0≤x.born∧x.born≤18446744073709551615)(eH:bg x.af)(hn:0≤x.n∧x.n≤1000)(hw:(aj x).length≤1000)(p3:(x.phase==3)=true)
include hsm hk dx hsi uj eH hn hw p3
theorem Zu (g1:fw now x.born 9=false)(kg:decide ((x.bad.length:Int)>0)=false)(g2:fw now x.since 3=false) :
  dB prog 92 [.agg x.c,uu now,ax known] (.cO [.agg x.c,kD []]):=by
 refine PC.le ?_;have p4 : (x.phase != 4) = true := by have:x.phase=3:=(by simpa using p3);rw[this];rfl
 have hg1:=kP now x.born 9 dx uj;have hg2:=kP now x.since 3 dx hsi;rw[g1] at hg1;rw[g2] at hg2;have eb:decide (((List.map Pl.c x.bad).length:Int)>0)=false:=by rw[List.length_map];exact kg
 try simp only at eb
 have hown:=wM x hsm;clear hsm hk dx hsi uj eH hn hw g1 g2 kg;refine dP jC ?_;repeat' ((conv=>whnf);first|with_reducible apply aP|((with_reducible apply fk)<;>intro hc<;>try exact aZ)|(apply dn;refine⟨_,_,av (hown) ?_,?_⟩;exact bD)|(apply bA;refine⟨_,aG (hg1) ?_,?_⟩;exact bD)|(apply bA;refine⟨_,aG (hg2) ?_,?_⟩;exact bD)|refine aN ?_|fail)
 all_goals
  all_goals exact aM
theorem Zv (g1:fw now x.born 9=false)(kg:decide ((x.bad.length:Int)>0)=false)(g2:fw now x.since 3=true) :
  dB prog 92 [.agg x.c,uu now,ax known] (.cO [.agg ({ x with since:=now }:Rv).c,kD (bn x (aj x))]):=by
 refine PC.le ?_;have p4 : (x.phase != 4) = true := by have:x.phase=3:=(by simpa using p3);rw[this];rfl
 have hg1:=kP now x.born 9 dx uj;have hg2:=kP now x.since 3 dx hsi;rw[g1] at hg1;rw[g2] at hg2;have eb:decide (((List.map Pl.c x.bad).length:Int)>0)=false:=by rw[List.length_map];exact kg
 try simp only at eb
 have hbody:=hsm.bo;have hco:=FX x now (by simpa using p3) eH (by show 0≤x.n∧x.n≤18446744073709551615;omega) (by show (aj x).length≤1000000;omega) hbody;clear hbody;have hown:=wM x hsm;clear hsm hk dx hsi uj eH hn hw g1 g2 kg;refine dP jC ?_;repeat' ((conv=>whnf);first|with_reducible apply aP|((with_reducible apply fk)<;>intro hc<;>try exact aZ)|(apply dn;refine⟨_,_,av (hown) ?_,?_⟩;exact bD)|(apply bA;refine⟨_,aG (hg1) ?_,?_⟩;exact bD)|(apply bA;refine⟨_,aG (hg2) ?_,?_⟩;exact bD)|(apply dn;refine⟨_,_,av (hco) ?_,?_⟩;exact bD)|refine aN ?_|fail)
 all_goals
  all_goals exact aM
theorem Zw (g1:fw now x.born 9=false)(kg:decide ((x.bad.length:Int)>0)=true)(g2:fw now x.since 3=false)(iq:dU prog 142 [.ptr 1 0,.pv (ax known)] [(1,.var (x.v (.pv (ax x.heard)) (.pv (ax x.none)) (.pv (ax x.has)) (.aO 2 0) (.aO 3 0) (.pv (.sc (.slice none 0 0))))),(2,.arr 48 0 2 (x.af.map Fr.c)),(3,.arr 27 0 2 (x.bad.map Pl.c))] (.pv (bl false)) [(1,.var (({ x with bad:=[] }:Rv).v (.pv (ax x.heard)) (.pv (ax x.none)) (.pv (ax x.has)) (.aO 2 0) (.pv (ax [])) (.pv (.sc (.slice none 0 0))))),(2,.arr 48 0 2 (x.af.map Fr.c)),(3,.dS 0 2 (x.bad.map Pl.c))]) :
  dB prog 92 [.agg x.c,uu now,ax known] (.cO [.agg ({ x with bad:=[] }:Rv).c,kD []]):=by
 refine PC.le ?_;have p4 : (x.phase != 4) = true := by have:x.phase=3:=(by simpa using p3);rw[this];rfl
 have hg1:=kP now x.born 9 dx uj;have hg2:=kP now x.since 3 dx hsi;rw[g1] at hg1;rw[g2] at hg2;have eb:decide (((List.map Pl.c x.bad).length:Int)>0)=true:=by rw[List.length_map];exact kg
 try simp only at eb
 have hown:=wM x hsm;clear hsm hk dx hsi uj eH hn hw g1 g2 kg;refine dP jC ?_;repeat' ((conv=>whnf);first|with_reducible apply aP|((with_reducible apply fk)<;>intro hc<;>try exact aZ)|(apply dn;refine⟨_,_,av (hown) ?_,?_⟩;exact bD)|(apply bA;refine⟨_,aG (hg1) ?_,?_⟩;exact bD)|(apply bA;refine⟨_,aG (hg2) ?_,?_⟩;exact bD)|(apply dn;refine⟨_,_,av (iq) ?_,?_⟩;exact bD)|refine aN ?_|fail)
 all_goals
  all_goals exact aM
theorem Zx (g1:fw now x.born 9=false)(kg:decide ((x.bad.length:Int)>0)=true)(g2:fw now x.since 3=true)(iq:dU prog 142 [.ptr 1 0,.pv (ax known)] [(1,.var (x.v (.pv (ax x.heard)) (.pv (ax x.none)) (.pv (ax x.has)) (.aO 2 0) (.aO 3 0) (.pv (.sc (.slice none 0 0))))),(2,.arr 48 0 2 (x.af.map Fr.c)),(3,.arr 27 0 2 (x.bad.map Pl.c))] (.pv (bl false)) [(1,.var (({ x with bad:=[] }:Rv).v (.pv (ax x.heard)) (.pv (ax x.none)) (.pv (ax x.has)) (.aO 2 0) (.pv (ax [])) (.pv (.sc (.slice none 0 0))))),(2,.arr 48 0 2 (x.af.map Fr.c)),(3,.dS 0 2 (x.bad.map Pl.c))]) :
  dB prog 92 [.agg x.c,uu now,ax known] (.cO [.agg ({ x with bad:=[],since:=now }:Rv).c,kD (bn ({ x with bad:=[] }:Rv) (aj ({ x with bad:=[] }:Rv)))]):=by
 refine PC.le ?_;have p4 : (x.phase != 4) = true := by have:x.phase=3:=(by simpa using p3);rw[this];rfl
 have hg1:=kP now x.born 9 dx uj;have hg2:=kP now x.since 3 dx hsi;rw[g1] at hg1;rw[g2] at hg2;have eb:decide (((List.map Pl.c x.bad).length:Int)>0)=true:=by rw[List.length_map];exact kg
 try simp only at eb
 have hbody:=hsm.bo;have hco:=wN ({ x with bad:=[] }:Rv) now (by simpa using p3) eH (by show 0≤x.n∧x.n≤18446744073709551615;omega) (by show (aj x).length≤1000000;omega) hbody;clear hbody;have hown:=wM x hsm;clear hsm hk dx hsi uj eH hn hw g1 g2 kg;refine dP jC ?_;repeat' ((conv=>whnf);first|with_reducible apply aP|((with_reducible apply fk)<;>intro hc<;>try exact aZ)|(apply dn;refine⟨_,_,av (hown) ?_,?_⟩;exact bD)|(apply bA;refine⟨_,aG (hg1) ?_,?_⟩;exact bD)|(apply bA;refine⟨_,aG (hg2) ?_,?_⟩;exact bD)|(apply dn;refine⟨_,_,av (iq) ?_,?_⟩;exact bD)|(apply dn;refine⟨_,_,av (hco) ?_,?_⟩;exact bD)|refine aN ?_|fail)
 all_goals
  all_goals exact aM
theorem Zy (g1:fw now x.born 9=false)(kg:decide ((x.bad.length:Int)>0)=true)(fr:List Fr)(hfr:bg fr)(iq:dU prog 142 [.ptr 1 0,.pv (ax known)] [(1,.var (x.v (.pv (ax x.heard)) (.pv (ax x.none)) (.pv (ax x.has)) (.aO 2 0) (.aO 3 0) (.pv (.sc (.slice none 0 0))))),(2,.arr 48 0 2 (x.af.map Fr.c)),(3,.arr 27 0 2 (x.bad.map Pl.c))] (.pv (bl true)) [(1,.var (({ x with bad:=[],af:=fr }:Rv).v (.pv (ax x.heard)) (.pv (ax x.none)) (.pv (ax x.has)) (.aO 1001 0) (.pv (ax [])) (.pv (.sc (.slice none 0 0))))),(1001,.arr 48 0 2 (fr.map Fr.c)),(2,.dS 1 2 []),(3,.dS 0 2 (x.bad.map Pl.c))])(hwf:(setOf fr x.l.w x.n).length≤1000)(hf:bg x.l.af)(hs:∀n,(setOf x.l.af x.l.w n).length≤1000000) :
  dB prog 92 [.agg x.c,uu now,ax known] (.cO [.agg (bO ({ x with bad:=[],af:=fr,phase:=3,born:=now,since:=now }:Rv) now).1.c,kD (bn ({ x with bad:=[],af:=fr,phase:=3,born:=now,since:=now }:Rv) (aj ({ x with bad:=[],af:=fr,phase:=3,born:=now,since:=now }:Rv))++(bO ({ x with bad:=[],af:=fr,phase:=3,born:=now,since:=now }:Rv) now).2)]):=by
 refine PC.le ?_;have p4 : (x.phase != 4) = true := by have:x.phase=3:=(by simpa using p3);rw[this];rfl
 have hg1:=kP now x.born 9 dx uj;have hg2:=kP now x.since 3 dx hsi;rw[g1] at hg1;have eb:decide (((List.map Pl.c x.bad).length:Int)>0)=true:=by rw[List.length_map];exact kg
 try simp only at eb
 have hbody:=hsm.bo;have hco:=wN ({ x with bad:=[],af:=fr,phase:=3,born:=now }:Rv) now rfl hfr (by show 0≤x.n∧x.n≤18446744073709551615;omega) (by show (setOf fr x.l.w x.n).length≤1000000;omega) hbody;have hql:(bn ({ x with bad:=[],af:=fr,phase:=3,born:=now,since:=now }:Rv) (aj ({ x with bad:=[],af:=fr,phase:=3,born:=now,since:=now }:Rv))).length≤1000:=by
  unfold bn;rw[List.length_map];exact Nat.le_trans (List.length_filter_le _ _) hwf
 have Ve:=I7 ({ x with bad:=[],af:=fr,phase:=3,born:=now,since:=now }:Rv) (bn ({ x with bad:=[],af:=fr,phase:=3,born:=now,since:=now }:Rv) (aj ({ x with bad:=[],af:=fr,phase:=3,born:=now,since:=now }:Rv))) now hql hfr hn hf hs;obtain⟨u,hu⟩:∃u,bO ({ x with bad:=[],af:=fr,phase:=3,born:=now,since:=now }:Rv) now=u:=⟨_,rfl⟩;have afh:u.1.af=fr:=by rw[←hu];exact xk _ _
 rw[hu] at Ve ⊢;have hco:dU _ _ _ _ _ [(1,.var (({ x with bad:=[],af:=fr,phase:=3,born:=now,since:=now }:Rv).v (.pv (ax x.heard)) (.pv (ax x.none)) (.pv (ax x.has)) (.aO 2 0) (.pv (ax [])) (.aO 1001 0))),(2,.dS 0 2 (fr.map Fr.c)),(1001,.arr 93 0 10 ((bn ({ x with bad:=[],af:=fr,phase:=3,born:=now,since:=now }:Rv) (aj ({ x with bad:=[],af:=fr,phase:=3,born:=now,since:=now }:Rv))).map Rq.c))]:=hco;obtain⟨qq,hqq⟩:∃qq,bn ({ x with bad:=[],af:=fr,phase:=3,born:=now,since:=now }:Rv) (aj ({ x with bad:=[],af:=fr,phase:=3,born:=now,since:=now }:Rv))=qq:=⟨_,rfl⟩;rw[hqq] at hco Ve ⊢;clear hu hqq hql hbody hwf hf hs hfr;have hown:=wM x hsm;clear hsm hk dx hsi uj eH hn hw g1 kg;refine dP jC ?_;repeat' ((conv=>whnf);first|with_reducible apply aP|((with_reducible apply fk)<;>intro hc<;>try exact aZ)|(apply dn;refine⟨_,_,av (hown) ?_,?_⟩;exact bD)|(apply bA;refine⟨_,aG (hg1) ?_,?_⟩;exact bD)|(apply bA;refine⟨_,aG (hg2) ?_,?_⟩;exact bD)|(apply dn;refine⟨_,_,av (iq) ?_,?_⟩;exact bD)|(refine Or.inr ?_;(conv=>whnf);refine⟨_,bZ bU (cZ mixed bU) jB rfl ?_,fun _ _ h=>h⟩)|(apply dn;refine⟨_,_,av (hco) ?_,?_⟩;exact bD)|(apply dn;refine⟨_,_,av (Ve) ?_,?_⟩;exact bD)|refine aN ?_|fail)
 all_goals
  repeat' first|apply And.intro|exact aM|fail
  all_goals try (conv=>whnf)
 all_goals (rw[afh];exact aB _)
end
structure Hd6 (p:Prop):Prop where
 h:p
section
variable (x:Rv)(now:Int)(known:List Pl)(hsm:x.sm)(hk:known.length≤1000)(dx:0≤now∧now≤18446744073709551615)(hsi:0≤x.since∧x.since≤18446744073709551615)(uj:0≤x.born∧x.born≤18446744073709551615)(eH:bg x.af)(hn:0≤x.n∧x.n≤1000)(hw:(aj x).length≤1000)(p3:(x.phase==3)=true)
include hsm hk dx hsi uj eH hn hw p3
theorem Ab (g1:fw now x.born 9=true)(Y:Rv)(O:List Rq)(hcase:(decide ((({ x with bad:=aD (fun p=>!x.has.any (· == p)) x.bad (aj x),born:=now }:Rv).bad.length:Int)>0)=false∧fw now x.since 3=false∧Y=({ x with bad:=aD (fun p=>!x.has.any (· == p)) x.bad (aj x),born:=now }:Rv)∧O=[])∨(decide ((({ x with bad:=aD (fun p=>!x.has.any (· == p)) x.bad (aj x),born:=now }:Rv).bad.length:Int)>0)=false∧fw now x.since 3=true∧Y=({ ({ x with bad:=aD (fun p=>!x.has.any (· == p)) x.bad (aj x),born:=now }:Rv) with since:=now }:Rv)∧O=bn ({ x with bad:=aD (fun p=>!x.has.any (· == p)) x.bad (aj x),born:=now }:Rv) (aj ({ x with bad:=aD (fun p=>!x.has.any (· == p)) x.bad (aj x),born:=now }:Rv)))∨(decide ((({ x with bad:=aD (fun p=>!x.has.any (· == p)) x.bad (aj x),born:=now }:Rv).bad.length:Int)>0)=true∧fw now x.since 3=false∧dU prog 142 [.ptr 1 0,.pv (ax known)] [(1,.var (({ x with bad:=aD (fun p=>!x.has.any (· == p)) x.bad (aj x),born:=now }:Rv).v (.pv (ax x.heard)) (.pv (ax x.none)) (.pv (ax x.has)) (.aO 2 0) (.aO 3 0) (.pv (.sc (.slice none 0 0))))),(2,.arr 48 0 2 (x.af.map Fr.c)),(3,.arr 27 0 2 (({ x with bad:=aD (fun p=>!x.has.any (· == p)) x.bad (aj x),born:=now }:Rv).bad.map Pl.c))] (.pv (bl false)) [(1,.var (({ ({ x with bad:=aD (fun p=>!x.has.any (· == p)) x.bad (aj x),born:=now }:Rv) with bad:=[] }:Rv).v (.pv (ax x.heard)) (.pv (ax x.none)) (.pv (ax x.has)) (.aO 2 0) (.pv (ax [])) (.pv (.sc (.slice none 0 0))))),(2,.arr 48 0 2 (x.af.map Fr.c)),(3,.dS 0 2 (({ x with bad:=aD (fun p=>!x.has.any (· == p)) x.bad (aj x),born:=now }:Rv).bad.map Pl.c))]∧Y=({ ({ x with bad:=aD (fun p=>!x.has.any (· == p)) x.bad (aj x),born:=now }:Rv) with bad:=[] }:Rv)∧O=[])∨(decide ((({ x with bad:=aD (fun p=>!x.has.any (· == p)) x.bad (aj x),born:=now }:Rv).bad.length:Int)>0)=true∧fw now x.since 3=true∧dU prog 142 [.ptr 1 0,.pv (ax known)] [(1,.var (({ x with bad:=aD (fun p=>!x.has.any (· == p)) x.bad (aj x),born:=now }:Rv).v (.pv (ax x.heard)) (.pv (ax x.none)) (.pv (ax x.has)) (.aO 2 0) (.aO 3 0) (.pv (.sc (.slice none 0 0))))),(2,.arr 48 0 2 (x.af.map Fr.c)),(3,.arr 27 0 2 (({ x with bad:=aD (fun p=>!x.has.any (· == p)) x.bad (aj x),born:=now }:Rv).bad.map Pl.c))] (.pv (bl false)) [(1,.var (({ ({ x with bad:=aD (fun p=>!x.has.any (· == p)) x.bad (aj x),born:=now }:Rv) with bad:=[] }:Rv).v (.pv (ax x.heard)) (.pv (ax x.none)) (.pv (ax x.has)) (.aO 2 0) (.pv (ax [])) (.pv (.sc (.slice none 0 0))))),(2,.arr 48 0 2 (x.af.map Fr.c)),(3,.dS 0 2 (({ x with bad:=aD (fun p=>!x.has.any (· == p)) x.bad (aj x),born:=now }:Rv).bad.map Pl.c))]∧Y=({ ({ x with bad:=aD (fun p=>!x.has.any (· == p)) x.bad (aj x),born:=now }:Rv) with bad:=[],since:=now }:Rv)∧O=bn ({ ({ x with bad:=aD (fun p=>!x.has.any (· == p)) x.bad (aj x),born:=now }:Rv) with bad:=[] }:Rv) (aj ({ ({ x with bad:=aD (fun p=>!x.has.any (· == p)) x.bad (aj x),born:=now }:Rv) with bad:=[] }:Rv)))∨(decide ((({ x with bad:=aD (fun p=>!x.has.any (· == p)) x.bad (aj x),born:=now }:Rv).bad.length:Int)>0)=true∧∃fr,bg fr∧dU prog 142 [.ptr 1 0,.pv (ax known)] [(1,.var (({ x with bad:=aD (fun p=>!x.has.any (· == p)) x.bad (aj x),born:=now }:Rv).v (.pv (ax x.heard)) (.pv (ax x.none)) (.pv (ax x.has)) (.aO 2 0) (.aO 3 0) (.pv (.sc (.slice none 0 0))))),(2,.arr 48 0 2 (x.af.map Fr.c)),(3,.arr 27 0 2 (({ x with bad:=aD (fun p=>!x.has.any (· == p)) x.bad (aj x),born:=now }:Rv).bad.map Pl.c))] (.pv (bl true)) [(1,.var (({ ({ x with bad:=aD (fun p=>!x.has.any (· == p)) x.bad (aj x),born:=now }:Rv) with bad:=[],af:=fr }:Rv).v (.pv (ax x.heard)) (.pv (ax x.none)) (.pv (ax x.has)) (.aO 1001 0) (.pv (ax [])) (.pv (.sc (.slice none 0 0))))),(1001,.arr 48 0 2 (fr.map Fr.c)),(2,.dS 1 2 []),(3,.dS 0 2 (({ x with bad:=aD (fun p=>!x.has.any (· == p)) x.bad (aj x),born:=now }:Rv).bad.map Pl.c))]∧(setOf fr x.l.w x.n).length≤1000∧bg x.l.af∧(∀n,(setOf x.l.af x.l.w n).length≤1000000)∧Y=(bO ({ ({ x with bad:=aD (fun p=>!x.has.any (· == p)) x.bad (aj x),born:=now }:Rv) with bad:=[],af:=fr,phase:=3,born:=now,since:=now }:Rv) now).1∧O=bn ({ ({ x with bad:=aD (fun p=>!x.has.any (· == p)) x.bad (aj x),born:=now }:Rv) with bad:=[],af:=fr,phase:=3,born:=now,since:=now }:Rv) (aj ({ ({ x with bad:=aD (fun p=>!x.has.any (· == p)) x.bad (aj x),born:=now }:Rv) with bad:=[],af:=fr,phase:=3,born:=now,since:=now }:Rv))++(bO ({ ({ x with bad:=aD (fun p=>!x.has.any (· == p)) x.bad (aj x),born:=now }:Rv) with bad:=[],af:=fr,phase:=3,born:=now,since:=now }:Rv) now).2)) :
  dB prog 92 [.agg x.c,uu now,ax known] (.cO [.agg Y.c,kD O]):=by
 refine PC.le ?_;have p4:(x.phase != 4)=true:=by
  have:x.phase=3:=by simpa using p3
  rw[this];rfl
 have hg1:=kP now x.born 9 dx uj;have hg2:=kP now x.since 3 dx hsi;rw[g1] at hg1;have hown:=wM x hsm;have hwr:=Qq x eH (by have:=hsm.f2.1;omega) (by omega);have hbl:=hsm.ba;have hbody:=hsm.bo;have hB:Hd6 (bg x.af∧(0≤x.n∧x.n≤1000)∧x.body.length≤1000000∧(aj x).length≤1000∧((decide ((({ x with bad:=aD (fun p=>!x.has.any (· == p)) x.bad (aj x),born:=now }:Rv).bad.length:Int)>0)=false∧fw now x.since 3=false∧Y=({ x with bad:=aD (fun p=>!x.has.any (· == p)) x.bad (aj x),born:=now }:Rv)∧O=[])∨(decide ((({ x with bad:=aD (fun p=>!x.has.any (· == p)) x.bad (aj x),born:=now }:Rv).bad.length:Int)>0)=false∧fw now x.since 3=true∧Y=({ ({ x with bad:=aD (fun p=>!x.has.any (· == p)) x.bad (aj x),born:=now }:Rv) with since:=now }:Rv)∧O=bn ({ x with bad:=aD (fun p=>!x.has.any (· == p)) x.bad (aj x),born:=now }:Rv) (aj ({ x with bad:=aD (fun p=>!x.has.any (· == p)) x.bad (aj x),born:=now }:Rv)))∨(decide ((({ x with bad:=aD (fun p=>!x.has.any (· == p)) x.bad (aj x),born:=now }:Rv).bad.length:Int)>0)=true∧fw now x.since 3=false∧dU prog 142 [.ptr 1 0,.pv (ax known)] [(1,.var (({ x with bad:=aD (fun p=>!x.has.any (· == p)) x.bad (aj x),born:=now }:Rv).v (.pv (ax x.heard)) (.pv (ax x.none)) (.pv (ax x.has)) (.aO 2 0) (.aO 3 0) (.pv (.sc (.slice none 0 0))))),(2,.arr 48 0 2 (x.af.map Fr.c)),(3,.arr 27 0 2 (({ x with bad:=aD (fun p=>!x.has.any (· == p)) x.bad (aj x),born:=now }:Rv).bad.map Pl.c))] (.pv (bl false)) [(1,.var (({ ({ x with bad:=aD (fun p=>!x.has.any (· == p)) x.bad (aj x),born:=now }:Rv) with bad:=[] }:Rv).v (.pv (ax x.heard)) (.pv (ax x.none)) (.pv (ax x.has)) (.aO 2 0) (.pv (ax [])) (.pv (.sc (.slice none 0 0))))),(2,.arr 48 0 2 (x.af.map Fr.c)),(3,.dS 0 2 (({ x with bad:=aD (fun p=>!x.has.any (· == p)) x.bad (aj x),born:=now }:Rv).bad.map Pl.c))]∧Y=({ ({ x with bad:=aD (fun p=>!x.has.any (· == p)) x.bad (aj x),born:=now }:Rv) with bad:=[] }:Rv)∧O=[])∨(decide ((({ x with bad:=aD (fun p=>!x.has.any (· == p)) x.bad (aj x),born:=now }:Rv).bad.length:Int)>0)=true∧fw now x.since 3=true∧dU prog 142 [.ptr 1 0,.pv (ax known)] [(1,.var (({ x with bad:=aD (fun p=>!x.has.any (· == p)) x.bad (aj x),born:=now }:Rv).v (.pv (ax x.heard)) (.pv (ax x.none)) (.pv (ax x.has)) (.aO 2 0) (.aO 3 0) (.pv (.sc (.slice none 0 0))))),(2,.arr 48 0 2 (x.af.map Fr.c)),(3,.arr 27 0 2 (({ x with bad:=aD (fun p=>!x.has.any (· == p)) x.bad (aj x),born:=now }:Rv).bad.map Pl.c))] (.pv (bl false)) [(1,.var (({ ({ x with bad:=aD (fun p=>!x.has.any (· == p)) x.bad (aj x),born:=now }:Rv) with bad:=[] }:Rv).v (.pv (ax x.heard)) (.pv (ax x.none)) (.pv (ax x.has)) (.aO 2 0) (.pv (ax [])) (.pv (.sc (.slice none 0 0))))),(2,.arr 48 0 2 (x.af.map Fr.c)),(3,.dS 0 2 (({ x with bad:=aD (fun p=>!x.has.any (· == p)) x.bad (aj x),born:=now }:Rv).bad.map Pl.c))]∧Y=({ ({ x with bad:=aD (fun p=>!x.has.any (· == p)) x.bad (aj x),born:=now }:Rv) with bad:=[],since:=now }:Rv)∧O=bn ({ ({ x with bad:=aD (fun p=>!x.has.any (· == p)) x.bad (aj x),born:=now }:Rv) with bad:=[] }:Rv) (aj ({ ({ x with bad:=aD (fun p=>!x.has.any (· == p)) x.bad (aj x),born:=now }:Rv) with bad:=[] }:Rv)))∨(decide ((({ x with bad:=aD (fun p=>!x.has.any (· == p)) x.bad (aj x),born:=now }:Rv).bad.length:Int)>0)=true∧∃fr,bg fr∧dU prog 142 [.ptr 1 0,.pv (ax known)] [(1,.var (({ x with bad:=aD (fun p=>!x.has.any (· == p)) x.bad (aj x),born:=now }:Rv).v (.pv (ax x.heard)) (.pv (ax x.none)) (.pv (ax x.has)) (.aO 2 0) (.aO 3 0) (.pv (.sc (.slice none 0 0))))),(2,.arr 48 0 2 (x.af.map Fr.c)),(3,.arr 27 0 2 (({ x with bad:=aD (fun p=>!x.has.any (· == p)) x.bad (aj x),born:=now }:Rv).bad.map Pl.c))] (.pv (bl true)) [(1,.var (({ ({ x with bad:=aD (fun p=>!x.has.any (· == p)) x.bad (aj x),born:=now }:Rv) with bad:=[],af:=fr }:Rv).v (.pv (ax x.heard)) (.pv (ax x.none)) (.pv (ax x.has)) (.aO 1001 0) (.pv (ax [])) (.pv (.sc (.slice none 0 0))))),(1001,.arr 48 0 2 (fr.map Fr.c)),(2,.dS 1 2 []),(3,.dS 0 2 (({ x with bad:=aD (fun p=>!x.has.any (· == p)) x.bad (aj x),born:=now }:Rv).bad.map Pl.c))]∧(setOf fr x.l.w x.n).length≤1000∧bg x.l.af∧(∀n,(setOf x.l.af x.l.w n).length≤1000000)∧Y=(bO ({ ({ x with bad:=aD (fun p=>!x.has.any (· == p)) x.bad (aj x),born:=now }:Rv) with bad:=[],af:=fr,phase:=3,born:=now,since:=now }:Rv) now).1∧O=bn ({ ({ x with bad:=aD (fun p=>!x.has.any (· == p)) x.bad (aj x),born:=now }:Rv) with bad:=[],af:=fr,phase:=3,born:=now,since:=now }:Rv) (aj ({ ({ x with bad:=aD (fun p=>!x.has.any (· == p)) x.bad (aj x),born:=now }:Rv) with bad:=[],af:=fr,phase:=3,born:=now,since:=now }:Rv))++(bO ({ ({ x with bad:=aD (fun p=>!x.has.any (· == p)) x.bad (aj x),born:=now }:Rv) with bad:=[],af:=fr,phase:=3,born:=now,since:=now }:Rv) now).2))):=⟨eH,hn,hbody,hw,hcase⟩
 clear hcase hsm hk dx hsi uj eH hn hbody g1;obtain⟨wr,hwe⟩:∃wr,wr=aj x:=⟨_,rfl⟩;rw[←hwe] at hwr hw;refine dP jC ?_;repeat' ((conv=>whnf);first|with_reducible apply aP|((with_reducible apply fk)<;>intro hc<;>try exact aZ)|(apply dn;refine⟨_,_,av (hown) ?_,?_⟩;exact bD)|(apply bA;refine⟨_,aG (hg1) ?_,?_⟩;exact bD)|(apply dn;refine⟨_,_,av (hwr) ?_,?_⟩;exact bD)|refine aN ?_|fail)
 refine⟨{k:Nat // k≤wr.length},fun⟨k,_⟩=>⟨[(1,.pv (uu now)),(2,.pv (ax known)),(6,.ptr 1006 0),(8,.ptr 1008 0),(29,.pv (ax wr)),(30,.pv (ii wr.length)),(31,.pv (ii k))],1000000000,[(1006,.var Rv.z),(1008,.var (({ x with bad:=aD (fun p=>!x.has.any (· == p)) x.bad (wr.take k) }:Rv).v (.pv (ax x.heard)) (.pv (ax x.none)) (.pv (ax x.has)) (.aO 1002 0) (.aO 1003 0) (.pv (.sc (.slice none 0 0))))),(1002,.arr 48 0 2 (x.af.map Fr.c)),(1003,.arr 27 0 2 ((aD (fun p=>!x.has.any (· == p)) x.bad (wr.take k)).map Pl.c))]⟩,fun⟨k,_⟩=>wr.length-k,⟨⟨0,Nat.zero_le _⟩,aH ?_⟩,?_⟩
 ·repeat' first|apply And.intro|exact aM|fail
  all_goals try (conv=>whnf)
  all_goals simp
 rintro⟨k,hk⟩
 by_cases hlt:k<wr.length
 ·clear hB hwe;have d0:decide ((k:Int)<(wr.length:Int))=true:=by simp only[iO];omega
  have eW:IntKind.i64.wrap ((k:Int)+1)=((k+1:Nat):Int):=by rw[bN (by omega) (by omega)];omega
  have hq:=ql (fun p=>!x.has.any (· == p)) x.bad wr k hlt;have hal:=jZ (fun p=>!x.has.any (· == p)) (wr.take k) x.bad;rw[List.length_take] at hal;dsimp only
  obtain⟨bd,hbd⟩:∃bd,aD (fun p=>!x.has.any (· == p)) x.bad (wr.take k)=bd:=⟨_,rfl⟩;rw[hbd] at hq hal ⊢;clear hbd;have hc1:=aA x.has wr[k].node wr[k].aI;have hc2:=aA bd wr[k].node wr[k].aI;rw[show (x.has.any fun y=>y==(⟨wr[k].node,wr[k].aI⟩:Pl))=x.has.any (· == wr[k]) from rfl] at hc1;rw[show (bd.any fun y=>y==(⟨wr[k].node,wr[k].aI⟩:Pl))=bd.any (· == wr[k]) from rfl] at hc2;obtain⟨q1,hq1⟩:∃q,x.has.any (· == wr[k])=q:=⟨_,rfl⟩;obtain⟨q2,hq2⟩:∃q,bd.any (· == wr[k])=q:=⟨_,rfl⟩;rw[hq1] at hc1 hq;rw[hq2] at hc2 hq;clear hq1 hq2 hg1 hg2;cases q1<;>cases q2<;>simp only[Bool.not_true,Bool.not_false,Bool.and_self,Bool.and_false,Bool.false_and,Bool.false_eq_true,↓reduceIte] at hq
  all_goals
   repeat' ((conv=>whnf);first|with_reducible apply aP|((with_reducible apply fk)<;>intro hc<;>try exact aZ)|((refine⟨_,dR _ _ _ hlt,?_⟩))|(apply bA;refine⟨_,aG (hc1) ?_,?_⟩;exact bD)|(apply bA;refine⟨_,aG (hc2) ?_,?_⟩;exact bD)|(((with_reducible apply And.intro);focus (simp only[fE,jQ,jR];omega)))|refine aN ?_|fail)
  all_goals
   refine⟨⟨k+1,hlt⟩,dec_lt hlt,aH ?_⟩;simp only[hq];repeat' first|apply And.intro|exact aM|fail
   all_goals try (conv=>whnf)
  all_goals first
   |exact eW
   | (rw[List.map_append]
      refine bW (aB _) ?_
      (repeat' first|apply And.intro|exact aM|fail);(all_goals try (conv=>whnf)))
 have hke:k=wr.length:=by omega
 subst hke;have d0:decide ((wr.length:Int)<(wr.length:Int))=false:=by simp
 dsimp only
 rw[List.take_length];clear hk hlt hw hbl;subst hwe;obtain⟨⟨eH,hn,hbody,hw,hcase⟩⟩:=hB;rcases hcase with ⟨kg,g2,rfl,rfl⟩|⟨kg,g2,rfl,rfl⟩|⟨kg,g2,iq,rfl,rfl⟩|⟨kg,g2,iq,rfl,rfl⟩|⟨kg,fr,hfr,iq,hwf,hf,hs,rfl,rfl⟩
 ·rw[g2] at hg2;have eb:decide (((List.map Pl.c ({ x with bad:=aD (fun p=>!x.has.any (· == p)) x.bad (aj x),born:=now }:Rv).bad).length:Int)>0)=false:=by rw[List.length_map];exact kg
  simp only at eb;clear kg;clear eH hn hw hbody g2;repeat' ((conv=>whnf);first|with_reducible apply aP|((with_reducible apply fk)<;>intro hc<;>try exact aZ)|(apply bA;refine⟨_,aG (hg2) ?_,?_⟩;exact bD)|refine aN ?_|fail)
  all_goals
   all_goals exact aM
 ·rw[g2] at hg2;have eb:decide (((List.map Pl.c ({ x with bad:=aD (fun p=>!x.has.any (· == p)) x.bad (aj x),born:=now }:Rv).bad).length:Int)>0)=false:=by rw[List.length_map];exact kg
  simp only at eb;clear kg;have hco:=FX ({ x with bad:=aD (fun p=>!x.has.any (· == p)) x.bad (aj x),born:=now }:Rv) now (by simpa using p3) eH (by show 0≤x.n∧x.n≤18446744073709551615;omega) (by show (aj x).length≤1000000;omega) hbody;clear eH hn hw hbody g2;repeat' ((conv=>whnf);first|with_reducible apply aP|((with_reducible apply fk)<;>intro hc<;>try exact aZ)|(apply bA;refine⟨_,aG (hg2) ?_,?_⟩;exact bD)|(apply dn;refine⟨_,_,av (hco) ?_,?_⟩;exact bD)|refine aN ?_|fail)
  all_goals
   all_goals exact aM
 ·rw[g2] at hg2;have eb:decide (((List.map Pl.c ({ x with bad:=aD (fun p=>!x.has.any (· == p)) x.bad (aj x),born:=now }:Rv).bad).length:Int)>0)=true:=by rw[List.length_map];exact kg
  simp only at eb;clear kg;clear eH hn hw hbody g2;repeat' ((conv=>whnf);first|with_reducible apply aP|((with_reducible apply fk)<;>intro hc<;>try exact aZ)|(apply bA;refine⟨_,aG (hg2) ?_,?_⟩;exact bD)|(apply dn;refine⟨_,_,av (iq) ?_,?_⟩;exact bD)|refine aN ?_|fail)
  all_goals
   all_goals exact aM
 ·rw[g2] at hg2;have eb:decide (((List.map Pl.c ({ x with bad:=aD (fun p=>!x.has.any (· == p)) x.bad (aj x),born:=now }:Rv).bad).length:Int)>0)=true:=by rw[List.length_map];exact kg
  simp only at eb;clear kg;have hco:=wN ({ ({ x with bad:=aD (fun p=>!x.has.any (· == p)) x.bad (aj x),born:=now }:Rv) with bad:=[] }:Rv) now (by simpa using p3) eH (by show 0≤x.n∧x.n≤18446744073709551615;omega) (by show (aj x).length≤1000000;omega) hbody;clear eH hn hw hbody g2;repeat' ((conv=>whnf);first|with_reducible apply aP|((with_reducible apply fk)<;>intro hc<;>try exact aZ)|(apply bA;refine⟨_,aG (hg2) ?_,?_⟩;exact bD)|(apply dn;refine⟨_,_,av (iq) ?_,?_⟩;exact bD)|(apply dn;refine⟨_,_,av (hco) ?_,?_⟩;exact bD)|refine aN ?_|fail)
  all_goals
   all_goals exact aM
 have hco:=wN ({ ({ x with bad:=aD (fun p=>!x.has.any (· == p)) x.bad (aj x),born:=now }:Rv) with bad:=[],af:=fr,phase:=3,born:=now }:Rv) now rfl hfr (by show 0≤x.n∧x.n≤18446744073709551615;omega) (by show (setOf fr x.l.w x.n).length≤1000000;omega) hbody;have hql:(bn ({ ({ x with bad:=aD (fun p=>!x.has.any (· == p)) x.bad (aj x),born:=now }:Rv) with bad:=[],af:=fr,phase:=3,born:=now,since:=now }:Rv) (aj ({ ({ x with bad:=aD (fun p=>!x.has.any (· == p)) x.bad (aj x),born:=now }:Rv) with bad:=[],af:=fr,phase:=3,born:=now,since:=now }:Rv))).length≤1000:=by
  unfold bn;rw[List.length_map];exact Nat.le_trans (List.length_filter_le _ _) hwf
 have Ve:=I7 ({ ({ x with bad:=aD (fun p=>!x.has.any (· == p)) x.bad (aj x),born:=now }:Rv) with bad:=[],af:=fr,phase:=3,born:=now,since:=now }:Rv) (bn ({ ({ x with bad:=aD (fun p=>!x.has.any (· == p)) x.bad (aj x),born:=now }:Rv) with bad:=[],af:=fr,phase:=3,born:=now,since:=now }:Rv) (aj ({ ({ x with bad:=aD (fun p=>!x.has.any (· == p)) x.bad (aj x),born:=now }:Rv) with bad:=[],af:=fr,phase:=3,born:=now,since:=now }:Rv))) now hql hfr hn hf hs;obtain⟨u,hu⟩:∃u,bO ({ ({ x with bad:=aD (fun p=>!x.has.any (· == p)) x.bad (aj x),born:=now }:Rv) with bad:=[],af:=fr,phase:=3,born:=now,since:=now }:Rv) now=u:=⟨_,rfl⟩;have afh:u.1.af=fr:=by rw[←hu];exact xk _ _
 rw[hu] at Ve ⊢;have hco:dU _ _ _ _ _ [(1,.var (({ ({ x with bad:=aD (fun p=>!x.has.any (· == p)) x.bad (aj x),born:=now }:Rv) with bad:=[],af:=fr,phase:=3,born:=now,since:=now }:Rv).v (.pv (ax x.heard)) (.pv (ax x.none)) (.pv (ax x.has)) (.aO 2 0) (.pv (ax [])) (.aO 1001 0))),(2,.dS 0 2 (fr.map Fr.c)),(1001,.arr 93 0 10 ((bn ({ ({ x with bad:=aD (fun p=>!x.has.any (· == p)) x.bad (aj x),born:=now }:Rv) with bad:=[],af:=fr,phase:=3,born:=now,since:=now }:Rv) (aj ({ ({ x with bad:=aD (fun p=>!x.has.any (· == p)) x.bad (aj x),born:=now }:Rv) with bad:=[],af:=fr,phase:=3,born:=now,since:=now }:Rv))).map Rq.c))]:=hco;obtain⟨qq,hqq⟩:∃qq,bn ({ ({ x with bad:=aD (fun p=>!x.has.any (· == p)) x.bad (aj x),born:=now }:Rv) with bad:=[],af:=fr,phase:=3,born:=now,since:=now }:Rv) (aj ({ ({ x with bad:=aD (fun p=>!x.has.any (· == p)) x.bad (aj x),born:=now }:Rv) with bad:=[],af:=fr,phase:=3,born:=now,since:=now }:Rv))=qq:=⟨_,rfl⟩;rw[hqq] at hco Ve ⊢;have eb:decide (((List.map Pl.c ({ x with bad:=aD (fun p=>!x.has.any (· == p)) x.bad (aj x),born:=now }:Rv).bad).length:Int)>0)=true:=by rw[List.length_map];exact kg
 simp only at eb;clear kg;clear hu hqq hql hbody hwf hf hs hfr eH hn hw;repeat' ((conv=>whnf);first|with_reducible apply aP|((with_reducible apply fk)<;>intro hc<;>try exact aZ)|(apply bA;refine⟨_,aG (hg2) ?_,?_⟩;exact bD)|(apply dn;refine⟨_,_,av (iq) ?_,?_⟩;exact bD)|(refine Or.inr ?_;(conv=>whnf);refine⟨_,bZ bU (cZ mixed bU) jB rfl ?_,fun _ _ h=>h⟩)|(apply dn;refine⟨_,_,av (hco) ?_,?_⟩;exact bD)|(apply dn;refine⟨_,_,av (Ve) ?_,?_⟩;exact bD)|refine aN ?_|fail)
 all_goals
  repeat' first|apply And.intro|exact aM|fail
  all_goals try (conv=>whnf)
 all_goals (rw[afh];exact aB _)
theorem Zz (g1:fw now x.born 9=true)(kg:decide ((({ x with bad:=aD (fun p=>!x.has.any (· == p)) x.bad (aj x),born:=now }:Rv).bad.length:Int)>0)=false)(g2:fw now x.since 3=false):dB prog 92 [.agg x.c,uu now,ax known] (.cO [.agg ({ x with bad:=aD (fun p=>!x.has.any (· == p)) x.bad (aj x),born:=now }:Rv).c,kD []]):=Ab x now known hsm hk dx hsi uj eH hn hw p3 g1 _ _ (.inl ⟨kg,g2,rfl,rfl⟩)
theorem ZA (g1:fw now x.born 9=true)(kg:decide ((({ x with bad:=aD (fun p=>!x.has.any (· == p)) x.bad (aj x),born:=now }:Rv).bad.length:Int)>0)=false)(g2:fw now x.since 3=true):dB prog 92 [.agg x.c,uu now,ax known] (.cO [.agg ({ ({ x with bad:=aD (fun p=>!x.has.any (· == p)) x.bad (aj x),born:=now }:Rv) with since:=now }:Rv).c,kD (bn ({ x with bad:=aD (fun p=>!x.has.any (· == p)) x.bad (aj x),born:=now }:Rv) (aj ({ x with bad:=aD (fun p=>!x.has.any (· == p)) x.bad (aj x),born:=now }:Rv)))]):=Ab x now known hsm hk dx hsi uj eH hn hw p3 g1 _ _ (.inr (.inl ⟨kg,g2,rfl,rfl⟩))
theorem ZB (g1:fw now x.born 9=true)(kg:decide ((({ x with bad:=aD (fun p=>!x.has.any (· == p)) x.bad (aj x),born:=now }:Rv).bad.length:Int)>0)=true)(g2:fw now x.since 3=false)(iq:dU prog 142 [.ptr 1 0,.pv (ax known)] [(1,.var (({ x with bad:=aD (fun p=>!x.has.any (· == p)) x.bad (aj x),born:=now }:Rv).v (.pv (ax x.heard)) (.pv (ax x.none)) (.pv (ax x.has)) (.aO 2 0) (.aO 3 0) (.pv (.sc (.slice none 0 0))))),(2,.arr 48 0 2 (x.af.map Fr.c)),(3,.arr 27 0 2 (({ x with bad:=aD (fun p=>!x.has.any (· == p)) x.bad (aj x),born:=now }:Rv).bad.map Pl.c))] (.pv (bl false)) [(1,.var (({ ({ x with bad:=aD (fun p=>!x.has.any (· == p)) x.bad (aj x),born:=now }:Rv) with bad:=[] }:Rv).v (.pv (ax x.heard)) (.pv (ax x.none)) (.pv (ax x.has)) (.aO 2 0) (.pv (ax [])) (.pv (.sc (.slice none 0 0))))),(2,.arr 48 0 2 (x.af.map Fr.c)),(3,.dS 0 2 (({ x with bad:=aD (fun p=>!x.has.any (· == p)) x.bad (aj x),born:=now }:Rv).bad.map Pl.c))]):dB prog 92 [.agg x.c,uu now,ax known] (.cO [.agg ({ ({ x with bad:=aD (fun p=>!x.has.any (· == p)) x.bad (aj x),born:=now }:Rv) with bad:=[] }:Rv).c,kD []]):=Ab x now known hsm hk dx hsi uj eH hn hw p3 g1 _ _ (.inr (.inr (.inl ⟨kg,g2,iq,rfl,rfl⟩)))
theorem ZC (g1:fw now x.born 9=true)(kg:decide ((({ x with bad:=aD (fun p=>!x.has.any (· == p)) x.bad (aj x),born:=now }:Rv).bad.length:Int)>0)=true)(g2:fw now x.since 3=true)(iq:dU prog 142 [.ptr 1 0,.pv (ax known)] [(1,.var (({ x with bad:=aD (fun p=>!x.has.any (· == p)) x.bad (aj x),born:=now }:Rv).v (.pv (ax x.heard)) (.pv (ax x.none)) (.pv (ax x.has)) (.aO 2 0) (.aO 3 0) (.pv (.sc (.slice none 0 0))))),(2,.arr 48 0 2 (x.af.map Fr.c)),(3,.arr 27 0 2 (({ x with bad:=aD (fun p=>!x.has.any (· == p)) x.bad (aj x),born:=now }:Rv).bad.map Pl.c))] (.pv (bl false)) [(1,.var (({ ({ x with bad:=aD (fun p=>!x.has.any (· == p)) x.bad (aj x),born:=now }:Rv) with bad:=[] }:Rv).v (.pv (ax x.heard)) (.pv (ax x.none)) (.pv (ax x.has)) (.aO 2 0) (.pv (ax [])) (.pv (.sc (.slice none 0 0))))),(2,.arr 48 0 2 (x.af.map Fr.c)),(3,.dS 0 2 (({ x with bad:=aD (fun p=>!x.has.any (· == p)) x.bad (aj x),born:=now }:Rv).bad.map Pl.c))]):dB prog 92 [.agg x.c,uu now,ax known] (.cO [.agg ({ ({ x with bad:=aD (fun p=>!x.has.any (· == p)) x.bad (aj x),born:=now }:Rv) with bad:=[],since:=now }:Rv).c,kD (bn ({ ({ x with bad:=aD (fun p=>!x.has.any (· == p)) x.bad (aj x),born:=now }:Rv) with bad:=[] }:Rv) (aj ({ ({ x with bad:=aD (fun p=>!x.has.any (· == p)) x.bad (aj x),born:=now }:Rv) with bad:=[] }:Rv)))]):=Ab x now known hsm hk dx hsi uj eH hn hw p3 g1 _ _ (.inr (.inr (.inr (.inl ⟨kg,g2,iq,rfl,rfl⟩))))
theorem ZE (g1:fw now x.born 9=true)(kg:decide ((({ x with bad:=aD (fun p=>!x.has.any (· == p)) x.bad (aj x),born:=now }:Rv).bad.length:Int)>0)=true)(fr:List Fr)(hfr:bg fr)(iq:dU prog 142 [.ptr 1 0,.pv (ax known)] [(1,.var (({ x with bad:=aD (fun p=>!x.has.any (· == p)) x.bad (aj x),born:=now }:Rv).v (.pv (ax x.heard)) (.pv (ax x.none)) (.pv (ax x.has)) (.aO 2 0) (.aO 3 0) (.pv (.sc (.slice none 0 0))))),(2,.arr 48 0 2 (x.af.map Fr.c)),(3,.arr 27 0 2 (({ x with bad:=aD (fun p=>!x.has.any (· == p)) x.bad (aj x),born:=now }:Rv).bad.map Pl.c))] (.pv (bl true)) [(1,.var (({ ({ x with bad:=aD (fun p=>!x.has.any (· == p)) x.bad (aj x),born:=now }:Rv) with bad:=[],af:=fr }:Rv).v (.pv (ax x.heard)) (.pv (ax x.none)) (.pv (ax x.has)) (.aO 1001 0) (.pv (ax [])) (.pv (.sc (.slice none 0 0))))),(1001,.arr 48 0 2 (fr.map Fr.c)),(2,.dS 1 2 []),(3,.dS 0 2 (({ x with bad:=aD (fun p=>!x.has.any (· == p)) x.bad (aj x),born:=now }:Rv).bad.map Pl.c))])(hwf:(setOf fr x.l.w x.n).length≤1000)(hf:bg x.l.af)(hs:∀n,(setOf x.l.af x.l.w n).length≤1000000):dB prog 92 [.agg x.c,uu now,ax known] (.cO [.agg (bO ({ ({ x with bad:=aD (fun p=>!x.has.any (· == p)) x.bad (aj x),born:=now }:Rv) with bad:=[],af:=fr,phase:=3,born:=now,since:=now }:Rv) now).1.c,kD (bn ({ ({ x with bad:=aD (fun p=>!x.has.any (· == p)) x.bad (aj x),born:=now }:Rv) with bad:=[],af:=fr,phase:=3,born:=now,since:=now }:Rv) (aj ({ ({ x with bad:=aD (fun p=>!x.has.any (· == p)) x.bad (aj x),born:=now }:Rv) with bad:=[],af:=fr,phase:=3,born:=now,since:=now }:Rv))++(bO ({ ({ x with bad:=aD (fun p=>!x.has.any (· == p)) x.bad (aj x),born:=now }:Rv) with bad:=[],af:=fr,phase:=3,born:=now,since:=now }:Rv) now).2)]):=Ab x now known hsm hk dx hsi uj eH hn hw p3 g1 _ _ (.inr (.inr (.inr (.inr ⟨kg,fr,hfr,iq,hwf,hf,hs,rfl,rfl⟩))))
end
section
variable (x:Rv)(now:Int)(known:List Pl)(h:x.big)(RD:x.l.w≤5)(hf6:x.af.length≤6)(ZF:∀f∈x.af,f.ah.length≤5)(hn9:0≤x.n∧x.n≤9)(hk:known.length≤1000)(dx:0≤now∧now≤18446744073709551615)(hsi:0≤x.since∧x.since≤18446744073709551615)(uj:0≤x.born∧x.born≤18446744073709551615)
include h RD hf6 ZF hn9 hk dx hsi uj
theorem Kv (hp:x.phase=1∨x.phase=2∨x.phase=4) :
  dB prog 92 [.agg x.c,uu now,ax known] (.cO [.agg (dO x now known).1.c,kD (dO x now known).2]):=by
 obtain⟨hsm,hf,eH,h0,hn,hs,hw,ha,hset,Cx⟩:=h;have p3:(x.phase==3)=false:=by rcases hp with e|e|e<;>rw[e]<;>rfl
 have e0:jM x now=x:=by
  unfold jM;rw[if_neg (by rw[p3];simp)]
 have e1:dO x now known=if (x.phase != 4&&fw now x.since 3)=true then vz x now else (x,[]):=by
  unfold dO;simp only[e0,p3,Bool.false_and,Bool.false_eq_true,↓reduceIte]
 rw[e1];have hlb:(aW x).ah.length≤1000000:=by have:=hsm.f1.2 _ (rD h0);omega
 cases p4:(x.phase != 4) with
 | false=>
   rw[if_neg (by simp)];exact Zp x now known hsm hk dx hsi p3 p4
 |true=>
 cases g2:fw now x.since 3 with
 | false=>
   rw[if_neg (by simp)];exact Zq x now known hsm hk dx hsi p3 p4 g2
 | true=>
   rw[if_pos (by simp)];rcases hp with e|e|e
   ·have ea:vz x now=({ x with since:=now },jL x (aW x).ah):=by
     unfold vz;rw[if_pos (by rw[e];rfl)]
    rw[ea];exact Zr x now known hsm hk dx hsi p3 p4 g2 e h0 hsm.f1.1 hlb
   ·have ea:vz x now=({ x with since:=now },gN x (aJ x)):=by
     unfold vz;rw[if_neg (by rw[e];decide),if_pos (by rw[e];rfl)]
    rw[ea];exact Zt x now known hsm hk dx hsi p3 p4 g2 e hf (by omega) (Nat.le_trans (hset x.n) (by decide))
   rw[e] at p4;exact absurd p4 (by decide)
theorem ZG (p3:(x.phase==3)=true)(g1:fw now x.born 9=false) :
  dB prog 92 [.agg x.c,uu now,ax known] (.cO [.agg (dO x now known).1.c,kD (dO x now known).2]):=by
 obtain⟨hsm,hf,eH,h0,hn,hs,hw,ha,hset,Cx⟩:=h;have hwr:(aj x).length≤1000:=Cx x.n;have hx3:x.phase=3:=by simpa using p3
 have e0':jM x now=x:=by
  unfold jM;rw[p3,g1];rfl
 obtain⟨y,e0⟩:∃y:Rv,jM x now=y:=⟨_,rfl⟩;have hy:y=x:=e0.symm.trans e0';have hyl:y.l=x.l:=by rw[hy]
 have Vf:y.af=x.af:=by rw[hy]
 have hyn:y.n=x.n:=by rw[hy]
 have hyp:y.phase=3:=by rw[hy];exact hx3
 have hys:y.since=x.since:=by rw[hy]
 have q1:(y.phase==1)=false:=by rw[hyp];rfl
 have q2:(y.phase==2)=false:=by rw[hyp];rfl
 have q3:(y.phase==3)=true:=by rw[hyp];rfl
 have q4:(y.phase != 4)=true:=by rw[hyp];rfl
 have hs6:∀n,(setOf x.l.af x.l.w n).length≤1000000:=fun n=>Nat.le_trans (hset n) (by decide)
 have er:∀z:Rv,z.phase=3→vz z now=({ z with since:=now },bn z (aj z)):=by
  intro z hz;unfold vz;rw[if_neg (by rw[hz];decide),if_neg (by rw[hz];decide),if_pos (by rw[hz];rfl)]
 cases kg:decide ((y.bad.length:Int)>0) with
 | false=>
   cases g2:fw now x.since 3 with
   | false=>
     have e1:dO x now known=(y,[]):=by
      unfold dO;simp only[e0,q3,q4,kg,hys,g2,Bool.and_false,Bool.false_eq_true,↓reduceIte]
     rw[e1];rw[hy] at kg ⊢;exact Zu x now known hsm hk dx hsi uj eH hn hwr p3 g1 kg g2
   | true=>
     have e1:dO x now known=({ y with since:=now },bn y (aj y)):=by
      unfold dO;simp only[e0,q3,q4,kg,hys,g2,er y hyp,Bool.and_false,Bool.and_self,Bool.false_eq_true,↓reduceIte]
     rw[e1];rw[hy] at kg ⊢;exact Zv x now known hsm hk dx hsi uj eH hn hwr p3 g1 kg g2
 | true=>
   have Kw:y.af.length≤1000:=by rw[Vf];omega
   have Ky:∀f∈y.af,f.ah.length≤1000:=by rw[Vf];intro f hf;have:=ZF f hf;omega
   have BK:bg y.af:=by rw[Vf];exact eH
   have ZH:dW y known=({ y with bad:=[] },false)→(∀(a:Unit),dU prog 142 [.ptr 1 0,.pv (ax known)] [(1,.var (y.v (.pv (ax y.heard)) (.pv (ax y.none)) (.pv (ax y.has)) (.aO 2 0) (.aO 3 0) (.pv (.sc (.slice none 0 0))))),(2,.arr 48 0 2 (y.af.map Fr.c)),(3,.arr 27 0 2 (y.bad.map Pl.c))] (.pv (bl false))
    [(1,.var (({ y with bad:=[] }:Rv).v (.pv (ax y.heard)) (.pv (ax y.none)) (.pv (ax y.has)) (.aO 2 0) (.pv (ax [])) (.pv (.sc (.slice none 0 0))))),(2,.arr 48 0 2 (y.af.map Fr.c)),(3,.dS 0 2 (y.bad.map Pl.c))]) →
    dB prog 92 [.agg x.c,uu now,ax known] (.cO [.agg (dO x now known).1.c,kD (dO x now known).2]):=by
    intro hr iq;cases g2:fw now x.since 3 with
    | false=>
      have e1:dO x now known=({ y with bad:=[] },[]):=by
       unfold dO;simp only[e0,q3,kg,hys,g2,hr,Bool.and_self,Bool.false_eq_true,↓reduceIte]
      rw[e1];have iq:=iq ();rw[hy] at kg iq ⊢;exact Zw x now known hsm hk dx hsi uj eH hn hwr p3 g1 kg g2 iq
    | true=>
      have e1:dO x now known=({ y with bad:=[],since:=now },bn { y with bad:=[] } (aj { y with bad:=[] })):=by
       unfold dO;simp only[e0,q3,kg,hys,g2,hr,Bool.and_self,Bool.false_eq_true,↓reduceIte];exact er _ hyp
      rw[e1];have iq:=iq ();rw[hy] at kg iq ⊢;exact Zx x now known hsm hk dx hsi uj eH hn hwr p3 g1 kg g2 iq
   have ZI:∀fr:List Fr,bg fr→dW y known=({ y with bad:=[],af:=fr },true)→(∀(a:Unit),dU prog 142 [.ptr 1 0,.pv (ax known)] [(1,.var (y.v (.pv (ax y.heard)) (.pv (ax y.none)) (.pv (ax y.has)) (.aO 2 0) (.aO 3 0) (.pv (.sc (.slice none 0 0))))),(2,.arr 48 0 2 (y.af.map Fr.c)),(3,.arr 27 0 2 (y.bad.map Pl.c))] (.pv (bl true))
    [(1,.var (({ y with bad:=[],af:=fr }:Rv).v (.pv (ax y.heard)) (.pv (ax y.none)) (.pv (ax y.has)) (.aO 1001 0) (.pv (ax [])) (.pv (.sc (.slice none 0 0))))),(1001,.arr 48 0 2 (fr.map Fr.c)),(2,.dS 1 2 []),(3,.dS 0 2 (y.bad.map Pl.c))]) →
    dB prog 92 [.agg x.c,uu now,ax known] (.cO [.agg (dO x now known).1.c,kD (dO x now known).2]):=by
    intro fr hfr hr iq;have e1:dO x now known=((bO { y with bad:=[],af:=fr,phase:=3,born:=now,since:=now } now).1,bn { y with bad:=[],af:=fr,phase:=3,born:=now,since:=now } (aj { y with bad:=[],af:=fr,phase:=3,born:=now,since:=now })++(bO { y with bad:=[],af:=fr,phase:=3,born:=now,since:=now } now).2):=by
     unfold dO;simp only[e0,q3,kg,hr,Bool.and_self,↓reduceIte]
    rw[e1];have hwf:(setOf fr x.l.w x.n).length≤1000:=Nat.le_trans (AX.jr fr RD x.n) (by decide);have iq:=iq ();rw[hy] at kg iq ⊢;exact Zy x now known hsm hk dx hsi uj eH hn hwr p3 g1 kg fr hfr iq hwf hf hs6
   have ajR:(dG y known).1.ah.length≤5:=by
    refine pz ?_ _ _ _ _;unfold gJ;cases hfa:eD y.af y.n with
    |none=>simp[kQ]
    |some f=>exact ZF f (by rw[←Vf];exact (mM _ _ _ hfa).1)
   have hnew:Fr.ok ⟨y.n,(dG y known).1.ah⟩:=⟨by show 0≤y.n;rw[hyn];omega,by show y.n≤_;rw[hyn];omega,by show (dG y known).1.ah.length≤_;omega⟩;cases h1:(dG y known).2 with
   | false=>
     refine ZH ?_ fun _=>Nh y known hk BK Kw Ky h1
     unfold dW;rw[h1,Bool.false_and,if_neg (by decide)]
   |true=>
   cases hc1:((gJ y).first==y.n&&decide ((y.af.length:Int)>0)) with
   | true=>
     have hrest:jq y=y.af.take (y.af.length-1):=by unfold jq;rw[if_pos hc1]
     refine ZI (y.af.take (y.af.length-1)++[(⟨y.n,(dG y known).1.ah⟩:Fr)]) ?_ ?_ fun _=>Nk y known hk BK Kw Ky h1 hc1 (by rw[Vf];exact hf6)
     ·intro f hfm;rcases List.mem_append.1 hfm with hfm|hfm
      ·exact BK f (List.mem_of_mem_take hfm)
      simp only[List.mem_singleton] at hfm;subst hfm;exact hnew
     unfold dW;rw[if_pos,hrest];rw[h1,hrest,Bool.true_and,List.length_take,Vf];simp;omega
   |false=>
   have hrest:jq y=y.af:=by unfold jq;rw[if_neg (by rw[hc1];decide)]
   cases h6:((y.af.length:Int)==6) with
   | true=>
     refine ZH ?_ fun _=>Ni y known hk BK Kw Ky h1 hc1 h6
     unfold dW;rw[hrest,h6,if_neg (by simp)]
   | false=>
     refine ZI (y.af++[(⟨y.n,(dG y known).1.ah⟩:Fr)]) ?_ ?_ fun _=>Nj y known hk BK Kw Ky h1 hc1 h6
     ·intro f hfm;rcases List.mem_append.1 hfm with hfm|hfm
      ·exact BK f hfm
      simp only[List.mem_singleton] at hfm;subst hfm;exact hnew
     unfold dW;rw[hrest,h1,h6,if_pos (by decide)]
theorem ZJ (p3:(x.phase==3)=true)(g1:fw now x.born 9=true) :
  dB prog 92 [.agg x.c,uu now,ax known] (.cO [.agg (dO x now known).1.c,kD (dO x now known).2]):=by
 obtain⟨hsm,hf,eH,h0,hn,hs,hw,ha,hset,Cx⟩:=h;have hwr:(aj x).length≤1000:=Cx x.n;have hx3:x.phase=3:=by simpa using p3
 have e0':jM x now=({ x with bad:=aD (fun p=>!x.has.any (· == p)) x.bad (aj x),born:=now }:Rv):=by
  unfold jM;rw[p3,g1];rfl
 obtain⟨y,e0⟩:∃y:Rv,jM x now=y:=⟨_,rfl⟩;have hy:y=({ x with bad:=aD (fun p=>!x.has.any (· == p)) x.bad (aj x),born:=now }:Rv):=e0.symm.trans e0';have hyl:y.l=x.l:=by rw[hy]
 have Vf:y.af=x.af:=by rw[hy]
 have hyn:y.n=x.n:=by rw[hy]
 have hyp:y.phase=3:=by rw[hy];exact hx3
 have hys:y.since=x.since:=by rw[hy]
 have q1:(y.phase==1)=false:=by rw[hyp];rfl
 have q2:(y.phase==2)=false:=by rw[hyp];rfl
 have q3:(y.phase==3)=true:=by rw[hyp];rfl
 have q4:(y.phase != 4)=true:=by rw[hyp];rfl
 have hs6:∀n,(setOf x.l.af x.l.w n).length≤1000000:=fun n=>Nat.le_trans (hset n) (by decide)
 have er:∀z:Rv,z.phase=3→vz z now=({ z with since:=now },bn z (aj z)):=by
  intro z hz;unfold vz;rw[if_neg (by rw[hz];decide),if_neg (by rw[hz];decide),if_pos (by rw[hz];rfl)]
 cases kg:decide ((y.bad.length:Int)>0) with
 | false=>
   cases g2:fw now x.since 3 with
   | false=>
     have e1:dO x now known=(y,[]):=by
      unfold dO;simp only[e0,q3,q4,kg,hys,g2,Bool.and_false,Bool.false_eq_true,↓reduceIte]
     rw[e1];rw[hy] at kg ⊢;exact Zz x now known hsm hk dx hsi uj eH hn hwr p3 g1 kg g2
   | true=>
     have e1:dO x now known=({ y with since:=now },bn y (aj y)):=by
      unfold dO;simp only[e0,q3,q4,kg,hys,g2,er y hyp,Bool.and_false,Bool.and_self,Bool.false_eq_true,↓reduceIte]
     rw[e1];rw[hy] at kg ⊢;exact ZA x now known hsm hk dx hsi uj eH hn hwr p3 g1 kg g2
 | true=>
   have Kw:y.af.length≤1000:=by rw[Vf];omega
   have Ky:∀f∈y.af,f.ah.length≤1000:=by rw[Vf];intro f hf;have:=ZF f hf;omega
   have BK:bg y.af:=by rw[Vf];exact eH
   have ZH:dW y known=({ y with bad:=[] },false)→(∀(a:Unit),dU prog 142 [.ptr 1 0,.pv (ax known)] [(1,.var (y.v (.pv (ax y.heard)) (.pv (ax y.none)) (.pv (ax y.has)) (.aO 2 0) (.aO 3 0) (.pv (.sc (.slice none 0 0))))),(2,.arr 48 0 2 (y.af.map Fr.c)),(3,.arr 27 0 2 (y.bad.map Pl.c))] (.pv (bl false))
    [(1,.var (({ y with bad:=[] }:Rv).v (.pv (ax y.heard)) (.pv (ax y.none)) (.pv (ax y.has)) (.aO 2 0) (.pv (ax [])) (.pv (.sc (.slice none 0 0))))),(2,.arr 48 0 2 (y.af.map Fr.c)),(3,.dS 0 2 (y.bad.map Pl.c))]) →
    dB prog 92 [.agg x.c,uu now,ax known] (.cO [.agg (dO x now known).1.c,kD (dO x now known).2]):=by
    intro hr iq;cases g2:fw now x.since 3 with
    | false=>
      have e1:dO x now known=({ y with bad:=[] },[]):=by
       unfold dO;simp only[e0,q3,kg,hys,g2,hr,Bool.and_self,Bool.false_eq_true,↓reduceIte]
      rw[e1];have iq:=iq ();rw[hy] at kg iq ⊢;exact ZB x now known hsm hk dx hsi uj eH hn hwr p3 g1 kg g2 iq
    | true=>
      have e1:dO x now known=({ y with bad:=[],since:=now },bn { y with bad:=[] } (aj { y with bad:=[] })):=by
       unfold dO;simp only[e0,q3,kg,hys,g2,hr,Bool.and_self,Bool.false_eq_true,↓reduceIte];exact er _ hyp
      rw[e1];have iq:=iq ();rw[hy] at kg iq ⊢;exact ZC x now known hsm hk dx hsi uj eH hn hwr p3 g1 kg g2 iq
   have ZI:∀fr:List Fr,bg fr→dW y known=({ y with bad:=[],af:=fr },true)→(∀(a:Unit),dU prog 142 [.ptr 1 0,.pv (ax known)] [(1,.var (y.v (.pv (ax y.heard)) (.pv (ax y.none)) (.pv (ax y.has)) (.aO 2 0) (.aO 3 0) (.pv (.sc (.slice none 0 0))))),(2,.arr 48 0 2 (y.af.map Fr.c)),(3,.arr 27 0 2 (y.bad.map Pl.c))] (.pv (bl true))
    [(1,.var (({ y with bad:=[],af:=fr }:Rv).v (.pv (ax y.heard)) (.pv (ax y.none)) (.pv (ax y.has)) (.aO 1001 0) (.pv (ax [])) (.pv (.sc (.slice none 0 0))))),(1001,.arr 48 0 2 (fr.map Fr.c)),(2,.dS 1 2 []),(3,.dS 0 2 (y.bad.map Pl.c))]) →
    dB prog 92 [.agg x.c,uu now,ax known] (.cO [.agg (dO x now known).1.c,kD (dO x now known).2]):=by
    intro fr hfr hr iq;have e1:dO x now known=((bO { y with bad:=[],af:=fr,phase:=3,born:=now,since:=now } now).1,bn { y with bad:=[],af:=fr,phase:=3,born:=now,since:=now } (aj { y with bad:=[],af:=fr,phase:=3,born:=now,since:=now })++(bO { y with bad:=[],af:=fr,phase:=3,born:=now,since:=now } now).2):=by
     unfold dO;simp only[e0,q3,kg,hr,Bool.and_self,↓reduceIte]
    rw[e1];have hwf:(setOf fr x.l.w x.n).length≤1000:=Nat.le_trans (AX.jr fr RD x.n) (by decide);have iq:=iq ();rw[hy] at kg iq ⊢;exact ZE x now known hsm hk dx hsi uj eH hn hwr p3 g1 kg fr hfr iq hwf hf hs6
   have ajR:(dG y known).1.ah.length≤5:=by
    refine pz ?_ _ _ _ _;unfold gJ;cases hfa:eD y.af y.n with
    |none=>simp[kQ]
    |some f=>exact ZF f (by rw[←Vf];exact (mM _ _ _ hfa).1)
   have hnew:Fr.ok ⟨y.n,(dG y known).1.ah⟩:=⟨by show 0≤y.n;rw[hyn];omega,by show y.n≤_;rw[hyn];omega,by show (dG y known).1.ah.length≤_;omega⟩;cases h1:(dG y known).2 with
   | false=>
     refine ZH ?_ fun _=>Nh y known hk BK Kw Ky h1
     unfold dW;rw[h1,Bool.false_and,if_neg (by decide)]
   |true=>
   cases hc1:((gJ y).first==y.n&&decide ((y.af.length:Int)>0)) with
   | true=>
     have hrest:jq y=y.af.take (y.af.length-1):=by unfold jq;rw[if_pos hc1]
     refine ZI (y.af.take (y.af.length-1)++[(⟨y.n,(dG y known).1.ah⟩:Fr)]) ?_ ?_ fun _=>Nk y known hk BK Kw Ky h1 hc1 (by rw[Vf];exact hf6)
     ·intro f hfm;rcases List.mem_append.1 hfm with hfm|hfm
      ·exact BK f (List.mem_of_mem_take hfm)
      simp only[List.mem_singleton] at hfm;subst hfm;exact hnew
     unfold dW;rw[if_pos,hrest];rw[h1,hrest,Bool.true_and,List.length_take,Vf];simp;omega
   |false=>
   have hrest:jq y=y.af:=by unfold jq;rw[if_neg (by rw[hc1];decide)]
   cases h6:((y.af.length:Int)==6) with
   | true=>
     refine ZH ?_ fun _=>Ni y known hk BK Kw Ky h1 hc1 h6
     unfold dW;rw[hrest,h6,if_neg (by simp)]
   | false=>
     refine ZI (y.af++[(⟨y.n,(dG y known).1.ah⟩:Fr)]) ?_ ?_ fun _=>Nj y known hk BK Kw Ky h1 hc1 h6
     ·intro f hfm;rcases List.mem_append.1 hfm with hfm|hfm
      ·exact BK f hfm
      simp only[List.mem_singleton] at hfm;subst hfm;exact hnew
     unfold dW;rw[hrest,h1,h6,if_pos (by decide)]
end
theorem aff {l:Lg}{k:Nat}{x:Rv}(hmay:AX.d9 l=true)(h:RInv l k x)(hk:k≤1000){now:Int}(dx:gF now)(known:List Pl)(hkn:known.length≤1000) :
  dB prog 92 [.agg x.c,uu now,ax known] (.cO [.agg (dO x now known).1.c,kD (dO x now known).2]):=by
 have hb:=h.big hmay hk;have RD:x.l.w≤5:=by rw[h.hl];exact (lZ hmay).2.2.2.2.2
 have ZF:∀f∈x.af,f.ah.length≤5:=fun f hf=>(h.fr f hf).2.2
 rcases h.ph with e|e|e|e
 ·exact Kv x now known hb RD h.fl ZF h.n0 hkn dx h.bs.2 h.bs.1 (.inl e)
 ·exact Kv x now known hb RD h.fl ZF h.n0 hkn dx h.bs.2 h.bs.1 (.inr (.inl e))
 ·cases g1:fw now x.born 9 with
  |false=>exact ZG x now known hb RD h.fl ZF h.n0 hkn dx h.bs.2 h.bs.1 (by rw[e];rfl) g1
  |true=>exact ZJ x now known hb RD h.fl ZF h.n0 hkn dx h.bs.2 h.bs.1 (by rw[e];rfl) g1
 exact Kv x now known hb RD h.fl ZF h.n0 hkn dx h.bs.2 h.bs.1 (.inr (.inr e))
theorem Nl:bR prog 89 f89:=fC func89
theorem yJ (a:Int):dB prog 89 [ii a] (.agg [ii a,uu 1]):=by
 refine PC.le ?_;refine dP Nl ?_;repeat' ((conv=>whnf);first|with_reducible apply aP|((with_reducible apply fk)<;>intro hc<;>try exact aZ)|refine aN ?_|fail)
 all_goals exact aM
theorem Nn:bR prog 86 f86:=fC func86
def wV:Lg:=⟨1,2,2,[⟨1,[⟨7,1⟩,⟨8,1⟩,⟨9,1⟩]⟩],0,0⟩
theorem Qs:dB prog 86 [] (.agg wV.c):=by
 refine PC.le ?_;refine dP Nn ?_;repeat' ((conv=>whnf);first|with_reducible apply aP|((with_reducible apply fk)<;>intro hc<;>try exact aZ)|(apply bA;refine⟨_,yJ _,?_⟩)|refine aN ?_|fail)
 all_goals exact aM
theorem Qt:bR prog 88 f88:=fC func88
theorem Vg (k code node n sure:Int)(s:ByteArray)(h:s.size≤140737488355328):dB prog 88 [ii k,ii code,ii node,uu n,uu sure,.sc (.string s)] (.agg (Rs.c ⟨⟨node,1⟩,k,code,1,n,5,sure,s.data.toList⟩)):=by
 refine PC.le ?_;refine dP Qt ?_;repeat' ((conv=>whnf);first|with_reducible apply aP|((with_reducible apply fk)<;>intro hc<;>try exact aZ)|(apply bA;refine⟨_,yJ _,?_⟩)|(((with_reducible apply And.intro);focus exact h))|refine aN ?_|fail)
 all_goals exact aM
def vP:List Fr:=[⟨1,[⟨7,1⟩,⟨8,1⟩,⟨9,1⟩]⟩]
def s0:Rv:=⟨wV,5,1,[],0,0,[],[],[],vP,[],3,3⟩
def s1:Rv:=⟨wV,5,1,[⟨7,1⟩],0,0,[],[],[],vP,[],3,3⟩
def s2:Rv:=⟨wV,5,2,[⟨7,1⟩,⟨9,1⟩],1,2,[],[],[],vP,[],4,4⟩
def s3:Rv:=⟨wV,5,3,[⟨7,1⟩,⟨9,1⟩],1,2,[],[⟨9,1⟩],[120],vP,[],5,5⟩
def s4:Rv:=⟨wV,5,2,[⟨7,1⟩,⟨9,1⟩],1,3,[],[],[],vP,[],5,5⟩
def s5:Rv:=⟨wV,5,4,[⟨7,1⟩,⟨9,1⟩],1,3,[⟨7,1⟩],[],[],vP,[],5,5⟩
theorem Np:AX.d9 wV=true:=by decide +kernel
theorem vQ (p:Int)(he:List Pl)(su n:Int)(no ha:List Pl)(bo:List UInt8)(b s:Int)(h1:he.length≤10)(h2:0≤su)(h3:0≤n∧n≤10)(h4:no.length≤10)(h5:ha.length≤10)(h6:bo.length≤10) :
  Rv.big ⟨wV,5,p,he,su,n,no,ha,bo,vP,[],b,s⟩:=by
 obtain⟨m1,m2,m3,m4,m5,m6⟩:=lZ Np;have hf:∀f∈vP,1≤f.first∧f.first≤9∧f.ah.length≤5:=m3
 refine⟨⟨⟨by show wV.af.length≤1000;omega,fun f hm=>by have:=m3 f hm;omega⟩,⟨by show vP.length≤1000;decide,fun f hm=>by have:=hf f hm;omega⟩,by simp only;omega,by simp only;omega,by simp only;omega,by simp,by simp only;omega⟩,
  fun f hm=>by have:=m3 f hm;exact⟨by omega,by omega,by omega⟩,fun f hm=>by have:=hf f hm;exact⟨by omega,by omega,by omega⟩,m1,by simp only;omega,h2,by show 0≤wV.w∧wV.w≤9223372036854775807;decide,by show 0≤wV.a;decide,
  fun n=>Nat.le_trans (AX.jr _ m6 n) (by decide),fun n=>Nat.le_trans (AX.jr _ m6 n) (by decide)⟩
theorem ZK:dB prog 85 [.agg wV.c,uu 5,uu 3] (.cO [.agg s0.c,kD [⟨⟨7,1⟩,2,1,0,5,0,0,[],[]⟩,⟨⟨8,1⟩,2,1,0,5,0,0,[],[]⟩,⟨⟨9,1⟩,2,1,0,5,0,0,[],[]⟩],ii 0]):=by
 obtain⟨m1,m2,m3,m4,m5,m6⟩:=lZ Np;have h:=adK wV 5 3 (fun f hm=>by have:=m3 f hm;omega) (fun _=>⟨m1,by omega,fun f hm=>by have:=m3 f hm;omega⟩);have e:pu wV 5 3=(s0,[⟨⟨7,1⟩,2,1,0,5,0,0,[],[]⟩,⟨⟨8,1⟩,2,1,0,5,0,0,[],[]⟩,⟨⟨9,1⟩,2,1,0,5,0,0,[],[]⟩],0):=by kernel_rfl
 rw[e] at h;exact h
theorem Qu:dB prog 87 [.agg s0.c,uu 4,.agg (⟨⟨7,1⟩,2,0,1,0,5,0,[]⟩:Rs).c] (.cO [.agg s1.c,kD []]):=by
 have h:=BG s0 4 ⟨⟨7,1⟩,2,0,1,0,5,0,[]⟩ (vQ _ _ _ _ _ _ _ _ _ (by decide) (by decide) (by decide) (by decide) (by decide) (by decide)) (by decide);have e:bX s0 4 ⟨⟨7,1⟩,2,0,1,0,5,0,[]⟩=(s1,[]):=by kernel_rfl
 rw[e] at h;exact h
theorem Qv:dB prog 87 [.agg s1.c,uu 4,.agg (⟨⟨9,1⟩,2,0,1,0,5,1,[]⟩:Rs).c] (.cO [.agg s2.c,kD [⟨⟨9,1⟩,3,1,2,5,0,0,[],[]⟩]]):=by
 have h:=BG s1 4 ⟨⟨9,1⟩,2,0,1,0,5,1,[]⟩ (vQ _ _ _ _ _ _ _ _ _ (by decide) (by decide) (by decide) (by decide) (by decide) (by decide)) (by decide);have e:bX s1 4 ⟨⟨9,1⟩,2,0,1,0,5,1,[]⟩=(s2,[⟨⟨9,1⟩,3,1,2,5,0,0,[],[]⟩]):=by kernel_rfl
 rw[e] at h;exact h
theorem Qw:dB prog 87 [.agg s2.c,uu 5,.agg (⟨⟨9,1⟩,3,0,1,2,5,0,[120]⟩:Rs).c] (.cO [.agg s3.c,kD [⟨⟨8,1⟩,1,1,2,5,1,0,[120],[]⟩]]):=by
 have h:=BG s2 5 ⟨⟨9,1⟩,3,0,1,2,5,0,[120]⟩ (vQ _ _ _ _ _ _ _ _ _ (by decide) (by decide) (by decide) (by decide) (by decide) (by decide)) (by decide);have e:bX s2 5 ⟨⟨9,1⟩,3,0,1,2,5,0,[120]⟩=(s3,[⟨⟨8,1⟩,1,1,2,5,1,0,[120],[]⟩]):=by kernel_rfl
 rw[e] at h;exact h
theorem Qx:dB prog 87 [.agg s3.c,uu 5,.agg (⟨⟨8,1⟩,1,0,1,2,5,0,[]⟩:Rs).c] (.cO [.agg s4.c,kD [⟨⟨9,1⟩,3,1,3,5,0,0,[],[]⟩,⟨⟨7,1⟩,3,1,3,5,0,0,[],[]⟩]]):=by
 have h:=BG s3 5 ⟨⟨8,1⟩,1,0,1,2,5,0,[]⟩ (vQ _ _ _ _ _ _ _ _ _ (by decide) (by decide) (by decide) (by decide) (by decide) (by decide)) (by decide);have e:bX s3 5 ⟨⟨8,1⟩,1,0,1,2,5,0,[]⟩=(s4,[⟨⟨9,1⟩,3,1,3,5,0,0,[],[]⟩,⟨⟨7,1⟩,3,1,3,5,0,0,[],[]⟩]):=by kernel_rfl
 rw[e] at h;exact h
theorem Qy:dB prog 87 [.agg s4.c,uu 6,.agg (⟨⟨7,1⟩,3,3,1,3,5,0,[]⟩:Rs).c] (.cO [.agg s5.c,kD []]):=by
 have h:=BG s4 6 ⟨⟨7,1⟩,3,3,1,3,5,0,[]⟩ (vQ _ _ _ _ _ _ _ _ _ (by decide) (by decide) (by decide) (by decide) (by decide) (by decide)) (by decide);have e:bX s4 6 ⟨⟨7,1⟩,3,3,1,3,5,0,[]⟩=(s5,[]):=by kernel_rfl
 rw[e] at h;exact h
theorem yF:bR prog 37 f37:=fC func37
theorem Qz:dB prog 37 [.agg s5.c] (.cO [uu 2,cB vP,bl true]):=by
 refine PC.le ?_;have ho:=tQ vP (by decide) (by decide);refine dP yF ?_;repeat' ((conv=>whnf);first|with_reducible apply aP|((with_reducible apply fk)<;>intro hc<;>try exact aZ)|(apply dn;refine⟨_,_,ho,?_⟩)|(apply dn;refine⟨_,_,av (ho) ?_,?_⟩;exact bD)|refine aN ?_|fail)
 all_goals
  all_goals exact aM
theorem Nq:bR prog 31 f31:=fC func31
theorem yI:dB prog 31 [] (bl true):=by
 refine PC.le ?_;refine dP Nq ?_;repeat' ((conv=>whnf);first|with_reducible apply aP|((with_reducible apply fk)<;>intro hc<;>try exact aZ)|(apply bA;refine⟨_,Qs,?_⟩)|(apply bA;refine⟨_,yJ _,?_⟩)|(apply bA;refine⟨_,Vg _ _ _ _ _ _ (by decide),?_⟩)|(apply bA;refine⟨_,ZK,?_⟩)|(apply bA;refine⟨_,Qu,?_⟩)|(apply bA;refine⟨_,Qv,?_⟩)|(apply bA;refine⟨_,Qw,?_⟩)|(apply bA;refine⟨_,Qx,?_⟩)|(apply bA;refine⟨_,Qy,?_⟩)|(apply bA;refine⟨_,Qz,?_⟩)|((refine⟨_,rfl,?_⟩))|refine aN ?_|fail)
 all_goals
  repeat' first|apply And.intro|exact aM|fail
  all_goals try (conv=>whnf)
 all_goals (exfalso;simp only[ByteArray.toList_mk,BEq.rfl,Bool.not_true,Bool.and_self,Bool.false_eq_true,reduceCtorEq] at *)
end Go.Proofs.YtfoiekbkkbnpkaaGreat.Tb
end
section
open Go Go.Proofs.Tryz Go.AX
namespace Go.Proofs.YtfoiekbkkbnpkaaGreat.Tb
end Go.Proofs.YtfoiekbkkbnpkaaGreat.Tb
end
section
open Go Go.Proofs.Tryz Go.AX
namespace Go.Proofs.YtfoiekbkkbnpkaaGreat.Tb
structure WxS (c:Nat)(x:Wt):Prop where
 n:1≤x.n∧x.n≤8
 body:x.body.length≤3000
 from_:x.from_.length≤c
 born:gF x.born
 since:gF x.since
structure yG (w:Wr)(c d:Nat):Prop where
 U4:w.l.w≤5
 mf:dA w.l.w w.l.af=true
 wl:(w.waits.length:Int)+1≤w.next
 nx:1≤w.next∧w.next≤9
 wx:∀x∈w.waits,WxS c x
 bl:w.bad.length≤d
 ch:0≤w.change.first∧w.change.first≤9∧w.change.ah.length≤5
 su:0≤w.sure∧w.sure≤8
theorem F8 {w:Int}{l:List Fr}(h:dA w l=true):0<l.length∧l.length≤6∧∀f∈l,1≤f.first∧f.first≤9∧f.ah.length≤5:=by
 simp only[dA,Bool.and_eq_true,dI,iO,List.all_eq_true] at h;obtain⟨⟨h1,h2⟩,h3,h4,h5⟩:=h;refine⟨by omega,by omega,fun f hf=>?_⟩;have:=h4 f hf;simp only[kW,Bool.and_eq_true,dI,iO] at this;omega
theorem BI {w:Int}{l:List Fr}(h:dA w l=true):bg l:=by
 obtain⟨_,_,h3⟩:=F8 h;intro f hf;have:=h3 f hf;exact⟨by omega,by omega,by omega⟩
theorem V6 {w:Int}{l:List Fr}(h:dA w l=true):(bH l).ah.length≤5:=by
 obtain⟨h1,_,h3⟩:=F8 h;obtain⟨k,hk,_,e⟩:=F4 l h1;rw[e];exact (h3 _ (List.getElem_mem hk)).2.2
theorem WxS.mono {c c':Nat}{x:Wt}(h:WxS c x)(hc:c≤c'):WxS c' x:=⟨h.n,h.body,Nat.le_trans h.from_ hc,h.born,h.since⟩
theorem yG.mono {w:Wr}{c c' d d':Nat}(h:yG w c d)(hc:c≤c')(hd:d≤d'):yG w c' d':=⟨h.U4,h.mf,h.wl,h.nx,fun x hx=>(h.wx x hx).mono hc,Nat.le_trans h.bl hd,h.ch,h.su⟩
theorem yG.wl8 {w:Wr}{c d:Nat}(h:yG w c d):w.waits.length≤8:=by have:=h.wl;have:=h.nx;omega
theorem yG.wrB {w:Wr}{c d:Nat}(h:yG w c d)(hc:c≤100000)(hd:d≤100000):WrB w:=by
 obtain⟨h1,h2,h3⟩:=F8 h.mf;refine⟨by omega,fun f hf=>by have:=h3 f hf;omega,BI h.mf,by have:=h.wl8;omega,fun x hx=>?_,by have:=h.bl;omega,by have:=h.ch;omega⟩;have:=h.wx x hx;exact⟨⟨by have:=this.n;omega,by have:=this.n;omega⟩,by have:=this.body;omega,by have:=this.from_;omega,this.born,this.since⟩
theorem yG.lf {w:Wr}{c d:Nat}(h:yG w c d):(bH w.l.af).ah.length≤5:=V6 h.mf
theorem yG.ajF {w:Wr}{c d:Nat}(h:yG w c d):w.change.ok:=by have:=h.ch;exact⟨by omega,by omega,by omega⟩
theorem acC {l:Lg}{e:Int}{w:Wr}(h:Fp l e=some w):yG w 0 0:=by
 unfold Fp at h;split at h
 ·rename_i hm;simp only[Option.some.injEq] at h;subst h;rw[Bool.and_eq_true] at hm;obtain⟨hm,_⟩:=hm;simp only[AX.d9,Bool.and_eq_true,dI,iO] at hm;obtain⟨_,_,a5,a6,_⟩:=hm;exact⟨a5,a6,by simp,by simp,by simp,by simp,by simp[kQ],by simp⟩
 cases h
theorem Zd {w:Wr}{c d:Nat}(h:yG w c d){now:Int}{b:List UInt8}(hn:gF now)(hb:b.length≤3000):yG (gP w now b).1 c d:=by
 unfold gP;split
 ·exact h
 split
 ·exact h
 split
 ·exact h
 rename_i _ _ h8;have hwl:=h.wl;have hnx:=h.nx;refine⟨h.U4,h.mf,?_,?_,?_,h.bl,h.ch,h.su⟩
 ·simp only[rq,List.length_singleton];omega
 ·simp only;omega
 intro x hx;simp only[List.mem_append,List.mem_singleton] at hx;rcases hx with hx|rfl
 ·exact h.wx x hx
 exact⟨⟨by simp only;omega,by simp only;omega⟩,hb,by simp,hn,hn⟩
theorem NQ {w:Wr}{c d:Nat}(h:yG w c d):yG (kK w) c d:=by
 have hsub:∀x∈(kK w).waits,x∈w.waits:=fun x hx=>(List.dropWhile_sublist _).subset hx
 refine⟨h.U4,h.mf,?_,h.nx,fun x hx=>h.wx x (hsub x hx),h.bl,h.ch,?_⟩
 ·have:(kK w).waits.length≤w.waits.length:=(List.dropWhile_sublist _).length_le;have:=h.wl;show ((kK w).waits.length:Int)+1≤w.next
  omega
 unfold kK;simp only;cases hl:(w.waits.takeWhile (fI w)).getLast? with
 |none=>exact h.su
 | some x=>
   have hx:x∈w.waits:=(List.takeWhile_sublist _).subset (List.mem_of_getLast? hl);have:=(h.wx x hx).n;simp only[Option.map_some,Option.getD_some];omega
theorem aaV (w:Wr)(is:Pl→Bool)(h:(bH w.l.af).ah.length≤5):(vB w is).bad.length≤w.bad.length+5:=by
 rw[Ak];have:=jZ is (bH w.l.af).ah w.bad;omega
theorem SQ {w:Wr}{c d:Nat}(h:yG w c d)(is:Pl→Bool):yG (vB w is) c (d+5):=by
 have:=aaV w is h.lf;have:=h.bl;exact⟨h.U4,h.mf,h.wl,h.nx,h.wx,by omega,h.ch,h.su⟩
theorem V7 {w:Wr}{c d:Nat}(h:yG w c d)(r:Rs)(hr:r.code=0):yG (iT w r) (c+1) d:=by
 have h1:=h.mono (Nat.le_succ c) (Nat.le_refl d);unfold iT;split
 ·exact h1
 try rw[if_pos hr]
 split
 ·exact h1
 rename_i k hk;split
 ·refine NQ ?_;refine⟨h.U4,h.mf,?_,h.nx,?_,h.bl,h.ch,h.su⟩
  ·simp only[qI,List.length_modify];exact h.wl
  intro x hx;unfold qI at hx;simp only at hx;obtain⟨i,hi,e⟩:=List.getElem_of_mem hx;rw[List.getElem_modify] at e;have hi':i<w.waits.length:=by simpa using hi
  have hg:=h.wx _ (List.getElem_mem hi');split at e
  ·rw[←e];exact⟨hg.n,hg.body,by have:=hg.from_;simp only[rq,List.length_singleton];omega,hg.born,hg.since⟩
  rw[←e];exact hg.mono (Nat.le_succ c)
 exact h1
theorem Za {w:Wr}{c d:Nat}(h:yG w c d)(r:Rs):yG (iT w r) (c+1) (d+5):=by
 by_cases hr:r.code=0
 ·exact (V7 h r hr).mono (Nat.le_refl _) (by omega)
 have h1:=h.mono (Nat.le_succ c) (show d≤d+5 by omega);have h2:=h.mono (Nat.le_succ c) (Nat.le_refl d);unfold iT;split
 ·exact h1
 try rw[if_neg hr]
 split
 ·split
  ·exact⟨h1.U4,h1.mf,h1.wl,h1.nx,h1.wx,h1.bl,h1.ch,h1.su⟩
  exact h1
 split
 ·exact SQ h2 _
 split
 ·exact SQ h2 _
 exact h1
theorem Zf {w:Wr}{c d:Nat}(h:yG w c d){now:Int}(hn:gF now):yG (jv w now).1 c (d+200):=by
 have hall:∀i,(∀x∈(kL w now i).1,WxS c x)∧(kL w now i).1.length=w.waits.length∧(kL w now i).2.1.length≤w.bad.length+25*i:=by
  intro i;induction i with
  |zero=>exact⟨h.wx,rfl,by simp[kL]⟩
  | succ i ih=>
    obtain⟨ih1,ih2,ih3⟩:=ih;rw[tX];obtain⟨D,hD⟩:∃D,kL w now i=D:=⟨_,rfl⟩;rw[hD] at ih1 ih2 ih3 ⊢;have hb:(if pF now (D.1[i]!).born 9 then qy w (D.1[i]!) (eT w (D.1[i]!).n) D.2.1 else D.2.1).length≤w.bad.length+25*(i+1):=by
     have h1:=wO w (D.1[i]!) h.lf (eT w (D.1[i]!).n) D.2.1;have h2:(eT w (D.1[i]!).n).length≤5:=pR h.U4;split<;>omega
    unfold F6;simp only;split
    ·refine⟨fun y hy=>?_,by rw[List.length_set];exact ih2,hb⟩;by_cases hi:i<D.1.length
     ·rcases List.mem_or_eq_of_mem_set hy with hy|rfl
      ·exact ih1 y hy
      have:=ih1 _ (List.getElem_mem hi);rw[getElem!_pos D.1 i hi];exact⟨this.n,this.body,this.from_,this.born,hn⟩
     rw[List.set_eq_of_length_le (by omega)] at hy;exact ih1 y hy
    exact⟨ih1,ih2,hb⟩
 unfold jv;split
 ·exact h.mono (Nat.le_refl c) (by omega)
 rw[Aa];obtain⟨h1,h2,h3⟩:=hall w.waits.length;have:=h.wl8;have:=h.bl;exact⟨h.U4,h.mf,by simp only[h2];exact h.wl,h.nx,h1,by simp only;omega,h.ch,h.su⟩
theorem acA {w:Wr}{c d:Nat}(h:yG w c d)(e:Int)(known:List Pl):yG (gL w e known).1 c d:=by
 unfold gL;split
 ·exact h
 split
 ·exact⟨h.U4,h.mf,h.wl,h.nx,h.wx,by simp,h.ch,h.su⟩
 have h5:=pz h.lf w.l.w e w.bad known;have:=h.su;exact⟨h.U4,h.mf,h.wl,h.nx,h.wx,h.bl,⟨by simp only[FI];omega,by simp only[FI];omega,h5⟩,h.su⟩
theorem Ng {w:Wr}{c d:Nat}(h:yG w c d){now:Int}(hn:gF now)(ok:Bool)(hm:ok=true→w.change.first≠0→dA w.l.w (dX w.l.af w.change)=true):yG (dK w now ok).1 c d:=by
 unfold dK;split
 ·exact h
 rename_i hne;have h0:yG { w with l:={ w.l with af:=if ok then dX w.l.af w.change else w.l.af },change:=kQ,bad:=[] } c d:=by
  refine⟨h.U4,?_,h.wl,h.nx,h.wx,by simp,by simp[kQ],h.su⟩;simp only;split
  ·exact hm (by assumption) hne
  exact h.mf
 have h1:yG (jO w ok) c d:=NQ h0;refine⟨h1.U4,h1.mf,by simp only[fE];exact h1.wl,h1.nx,?_,h1.bl,h1.ch,h1.su⟩;intro x hx;simp only[List.mem_map] at hx;obtain⟨y,hy,rfl⟩:=hx;have:=h1.wx y hy;exact⟨this.n,this.body,this.from_,hn,hn⟩
theorem iV:bR prog 33 f33:=fC func33
def fB (n:Int):Int:=(IntKind.i64.wrap (n.tmod 12+12)).tmod 12
theorem Km (s:Sk)(x:wQ)(h:Sv s)(hb:x.body.length≤3000)(hm:fB x.what=0∨fB x.what=1) :
  dU prog 33 [.ptr 1 0,.pv (.agg x.c)] (Ar s) (.pv (.cO [])) (NV (Fb s x.body)):=by
 refine lG ?_ rfl;have hq:=Qk (now:=s.now) (b:=x.body) h.ww;have hp:=acv s.w s.now x.body h.w h.now h.nx (by omega) (Nat.le_trans (pR h.ww) (by omega));have hbl:=h.eG;have hsl:=h.bT;unfold Fb;obtain⟨⟨w',q,er⟩,hy⟩:∃y,gP s.w s.now x.body=y:=⟨_,rfl⟩;rw[hy] at hp hq ⊢;simp only at hp hq ⊢;clear hy h hb;have hf:∀m:Int,fB x.what=m→∀i:Int,(fB x.what==i)=(m==i):=fun m e i=>by rw[e]
 unfold fB at hm hf;cases d1:(er==0) with
 | false=>
   rw[if_neg (by simpa using d1)];rcases hm with hm|hm
   all_goals
    have f0:=hf _ hm 0;have f1:=hf _ hm 1;simp only[Int.reduceBEq] at f0 f1;clear hm hf;refine eO iV ?_;repeat' ((conv=>whnf);first|with_reducible apply aP|((with_reducible apply fk)<;>intro hc<;>try exact gK)|((refine⟨by decide,?_⟩))|(apply bA;refine⟨_,aG (hp) ?_,?_⟩;exact bD)|refine aN ?_|fail)
    refine⟨_,_,⟨rfl,rfl⟩,?_⟩;all_goals exact aM
 | true=>
   rw[if_pos (by simpa using d1)];have hse:=oD { s with w:=w',bT:=s.bT++[x.body] } 0 q (by omega) (by simp only;omega);simp only[Ar,zma,zmc,zmn,zW] at hse;rcases hm with hm|hm
   all_goals
    have f0:=hf _ hm 0;have f1:=hf _ hm 1;simp only[Int.reduceBEq] at f0 f1;clear hm hf;refine eO iV ?_;repeat' ((conv=>whnf);first|with_reducible apply aP|((with_reducible apply fk)<;>intro hc<;>try exact gK)|((refine⟨by decide,?_⟩))|rewrite[pY]|rewrite[p8]|(apply bA;refine⟨_,aG (hp) ?_,?_⟩;exact bD)|(apply dn;refine⟨_,_,av (hse) ?_,?_⟩;exact bD)|((refine⟨_,rfl,?_⟩))|(((with_reducible apply And.intro);focus (simp only[fE,jQ,jR];omega)))|refine aN ?_|fail)
    refine⟨_,_,⟨rfl,rfl⟩,?_⟩;all_goals exact aM
def vK (s:Sk)(b:Int):Int:=IntKind.u64.wrap (s.now+IntKind.u64.wrap (UJ b 15))
theorem Kn (s:Sk)(x:wQ)(h:Sv s)(hm:fB x.what=7) :
  dU prog 33 [.ptr 1 0,.pv (.agg x.c)] (Ar s) (.pv (.cO [])) (NV (Ir s (vK s x.Gw))):=by
 refine lG ?_ rfl;have hn:=DX (s.now+IntKind.u64.wrap (UJ x.Gw 15));have hp:=acw s.w (vK s x.Gw) h.w hn (fun y _=>pR h.ww) h.lf;have hq:(jv s.w (vK s x.Gw)).2.length≤5000:=by
  unfold jv;split
  ·simp
  have:=(Ql (now:=vK s x.Gw) (fun y hy=>⟨h.w.wx y hy,pR h.ww⟩) hn h.lf s.w.waits.length (Nat.le_refl _)).q;rw[Aa];have:=h.w.wl;simp only;omega
 have hbl:=h.eG;unfold Ir;obtain⟨⟨w',q⟩,hy⟩:∃y,jv s.w (vK s x.Gw)=y:=⟨_,rfl⟩;rw[hy] at hp hq ⊢;simp only at hp hq ⊢;have hse:=oD { s with w:=w',now:=vK s x.Gw } 0 q (by omega) (by simp only;omega);clear hy h hn;have hf:∀i:Int,(fB x.what==i)=(7==i):=fun i=>by rw[hm]
 unfold fB at hm hf;have f0:=hf 0;have f1:=hf 1;have f7:=hf 7;simp only[Int.reduceBEq] at f0 f1 f7;unfold vK UJ at hp hse ⊢;clear hm hf;refine eO iV ?_;repeat' ((conv=>whnf);first|with_reducible apply aP|((with_reducible apply fk)<;>intro hc<;>try exact gK)|((refine⟨by decide,?_⟩))|rewrite[pY]|rewrite[p8]|(apply bA;refine⟨_,aG (hp) ?_,?_⟩;exact bD)|(apply dn;refine⟨_,_,av (hse) ?_,?_⟩;exact bD)|refine aN ?_|fail)
 refine⟨_,_,⟨rfl,rfl⟩,?_⟩;all_goals exact aM
theorem FR (s:Sk)(x:wQ)(h:Sv s)(hk:x.known.length≤1000)(hm:fB x.what=8) :
  dU prog 33 [.ptr 1 0,.pv (.agg x.c)] (Ar s) (.pv (.cO [])) (NV (nV s x.e x.known)):=by
 refine lG ?_ rfl;have hp:=Qi s x h hk;generalize nV s x.e x.known=t at *;clear h hk;have hf:∀i:Int,(fB x.what==i)=(8==i):=fun i=>by rw[hm]
 unfold fB at hm hf;have f0:=hf 0;have f1:=hf 1;have f7:=hf 7;have f8:=hf 8;simp only[Int.reduceBEq] at f0 f1 f7 f8;clear hm hf;refine eO iV ?_;repeat' ((conv=>whnf);first|with_reducible apply aP|((with_reducible apply fk)<;>intro hc<;>try exact gK)|((refine⟨by decide,?_⟩))|rewrite[pY]|rewrite[p8]|(apply dn;refine⟨_,_,av (hp) ?_,?_⟩;exact bD)|refine aN ?_|fail)
 refine⟨_,_,⟨rfl,rfl⟩,?_⟩;all_goals exact aM
theorem Ko (s:Sk)(x:wQ)(h:Sv s)(hm:fB x.what=10) :
  dU prog 33 [.ptr 1 0,.pv (.agg x.c)] (Ar s) (.pv (.cO [])) (NV (zM s)):=by
 refine lG ?_ rfl;have hp:=Y7 s h;generalize zM s=t at *;clear h;have hf:∀i:Int,(fB x.what==i)=(10==i):=fun i=>by rw[hm]
 unfold fB at hm hf;have f0:=hf 0;have f1:=hf 1;have f7:=hf 7;have f8:=hf 8;have f9:=hf 9;have f10:=hf 10;simp only[Int.reduceBEq] at f0 f1 f7 f8 f9 f10;clear hm hf;refine eO iV ?_;repeat' ((conv=>whnf);first|with_reducible apply aP|((with_reducible apply fk)<;>intro hc<;>try exact gK)|((refine⟨by decide,?_⟩))|rewrite[pY]|rewrite[p8]|(apply dn;refine⟨_,_,av (hp) ?_,?_⟩;exact bD)|refine aN ?_|fail)
 refine⟨_,_,⟨rfl,rfl⟩,?_⟩;all_goals exact aM
theorem Kq (s:Sk)(x:wQ)(h:Sv s)(hm:fB x.what=9) :
  dU prog 33 [.ptr 1 0,.pv (.agg x.c)] (Ar s) (.pv (.cO [])) (NV (Fe s)):=by
 refine lG ?_ rfl;have hp:=Qm s.w s.now s.taken h.w h.now h.ww h.ch;have hq:(dK s.w s.now s.taken).2.length≤5000:=Kr h.w h.ww _ _;have hbl:=h.eG;have hf:∀i:Int,(fB x.what==i)=(9==i):=fun i=>by rw[hm]
 unfold fB at hm hf;have f0:=hf 0;have f1:=hf 1;have f7:=hf 7;have f8:=hf 8;have f9:=hf 9;simp only[Int.reduceBEq] at f0 f1 f7 f8 f9;clear hm hf h;unfold Fe;cases a1:decide (s.ask.first>0) with
 | false=>
   rw[if_neg (by simpa using a1)];clear hp hq;refine eO iV ?_;repeat' ((conv=>whnf);first|with_reducible apply aP|((with_reducible apply fk)<;>intro hc<;>try exact gK)|((refine⟨by decide,?_⟩))|refine aN ?_|fail)
   refine⟨_,_,⟨rfl,rfl⟩,?_⟩;all_goals exact aM
 | true=>
   rw[if_pos (by simpa using a1)];obtain⟨⟨w',q⟩,hy⟩:∃y,dK s.w s.now s.taken=y:=⟨_,rfl⟩;rw[hy] at hp hq ⊢;simp only at hp hq ⊢;have hse:=oD { s with w:=w',ask:=kQ } 0 q (by omega) (by simp only;omega);clear hy;refine eO iV ?_;repeat' ((conv=>whnf);first|with_reducible apply aP|((with_reducible apply fk)<;>intro hc<;>try exact gK)|((refine⟨by decide,?_⟩))|rewrite[pY]|rewrite[p8]|(apply bA;refine⟨_,aG (hp) ?_,?_⟩;exact bD)|(apply dn;refine⟨_,_,av (hse) ?_,?_⟩;exact bD)|refine aN ?_|fail)
   refine⟨_,_,⟨rfl,rfl⟩,?_⟩;all_goals exact aM
theorem U1 (s:Sk)(x:wQ)(h:Sv s){k:Nat}(hmay:s.first<s.au→AX.d9 s.x=true∧RInv s.x k s.r)(hk:k≤1000)(hkn:x.known.length≤1000)(hqk:∀now,(dO s.r now x.known).2.length≤100∨¬s.first<s.au)(hm:fB x.what=11) :
  dU prog 33 [.ptr 1 0,.pv (.agg x.c)] (Ar s) (.pv (.cO [])) (NV (x9 s (vK s x.Gw) x.known)):=by
 refine lG ?_ rfl;have hn:=DX (s.now+IntKind.u64.wrap (UJ x.Gw 15));have hbl:=h.eG;have hf:∀i:Int,(fB x.what==i)=(11==i):=fun i=>by rw[hm]
 unfold fB at hm hf;have f0:=hf 0;have f1:=hf 1;have f7:=hf 7;have f8:=hf 8;have f9:=hf 9;have f10:=hf 10;have f11:=hf 11;simp only[Int.reduceBEq] at f0 f1 f7 f8 f9 f10 f11;clear hm hf h;unfold x9;cases d1:decide (s.au>s.first) with
 | false=>
   rw[if_neg (by simpa using d1)];unfold vK UJ;clear hmay hqk;refine eO iV ?_;repeat' ((conv=>whnf);first|with_reducible apply aP|((with_reducible apply fk)<;>intro hc<;>try exact gK)|((refine⟨by decide,?_⟩))|refine aN ?_|fail)
   refine⟨_,_,⟨rfl,rfl⟩,?_⟩;all_goals exact aM
 | true=>
   have hgt:s.first<s.au:=by simpa using d1
   rw[if_pos hgt];obtain⟨m1,m2⟩:=hmay hgt;have hp:=aff m1 m2 hk (now:=vK s x.Gw) hn x.known hkn;have hq:(dO s.r (vK s x.Gw) x.known).2.length≤100:=(hqk (vK s x.Gw)).resolve_right (fun g=>g hgt);obtain⟨⟨r',q⟩,hy⟩:∃y,dO s.r (vK s x.Gw) x.known=y:=⟨_,rfl⟩;rw[hy] at hp hq ⊢;simp only at hp hq ⊢;have hse:=oD { s with now:=vK s x.Gw,r:=r' } s.au q (by omega) (by simp only;omega);clear hy hmay hqk hgt m1 m2 hn;unfold vK UJ at hp hse ⊢;refine eO iV ?_;repeat' ((conv=>whnf);first|with_reducible apply aP|((with_reducible apply fk)<;>intro hc<;>try exact gK)|((refine⟨by decide,?_⟩))|rewrite[pY]|rewrite[p8]|(apply bA;refine⟨_,aG (hp) ?_,?_⟩;exact bD)|(apply dn;refine⟨_,_,av (hse) ?_,?_⟩;exact bD)|refine aN ?_|fail)
   refine⟨_,_,⟨rfl,rfl⟩,?_⟩;all_goals exact aM
end Go.Proofs.YtfoiekbkkbnpkaaGreat.Tb
end
