/-
  Contracts of functions of the program and of the document, each for every input that its premises name.
-/
import Derived.Test.YtfoiekbkkbnpkaaGreatBa
import Derived.Test.YtfoiekbkkbnpkaaGreatAf
import Derived.WalkKit
import Derived.Test.YtfoiekbkkbnpkaaGreatProg
set_option linter.unusedSectionVars false
set_option linter.unusedVariables false
set_option linter.unusedSimpArgs false
set_option maxRecDepth 100000
set_option maxHeartbeats 4000000
section
open Go Go.Proofs.Tryz Go.AX
namespace Go.Proofs.YtfoiekbkkbnpkaaGreat.Tb
def yN (w:Wr)(x:Wt)(l:List Pl):List Rq:=(l.filter fun p=>!gY x.from_ p).map fun p=>⟨p,1,w.l.id,x.n,w.au,w.sure,0,x.body,[]⟩
theorem rY (w:Wr)(x:Wt):yN w x (eT w x.n)=kJ w x:=rfl
theorem rZ (w:Wr)(x:Wt)(l:List Pl):(yN w x l).length≤l.length:=by
 unfold yN;rw[List.length_map];exact List.length_filter_le _ _
theorem BO (w:Wr)(x:Wt)(l:List Pl)(k:Nat)(h:k<l.length):yN w x (l.take (k+1))=yN w x (l.take k)++(if gY x.from_ l[k] then [] else [⟨l[k],1,w.l.id,x.n,w.au,w.sure,0,x.body,[]⟩]):=by
 rw[List.take_succ_eq_append_getElem h];unfold yN;rw[List.filter_append,List.map_append];congr 1
 cases hb:gY x.from_ l[k]<;>simp[hb]
theorem F5:bR prog 80 f80:=fC func80
theorem aaL (w:Wr)(x:Wt)(now:Int)(i:Nat)(qL rb:List (List PV))(ro:List Rq)(hx:qL[i]? = some x.c)(hro:ro.length≤1000000)(hf:bg w.l.af)(hb:Sq x)(hs:(eT w x.n).length≤1000) :
  dU prog 80 [.ptr 1 0,.dM 2 0 i 0,.pv (uu now)]
   [(1,.var (pX w (.pv (cB w.l.af)) (.aO 2 0) (.aO 3 0) (.aO 4 0))),(2,.arr 145 0 5 qL),(3,.arr 27 0 2 rb),(4,.arr 93 0 10 (ro.map Rq.c))] (.pv (.cO []))
   [(1,.var (pX w (.pv (cB w.l.af)) (.aO 2 0) (.aO 3 0) (.aO 1001 0))),(2,.arr 145 0 5 (qL.set i ({ x with since:=now }:Wt).c)),(3,.arr 27 0 2 rb),(4,.dS 1 10 []),(1001,.arr 93 0 10 ((ro ++kJ w x).map Rq.c))]:=by
 have hse:=iU w.l.af w.l.w x.n hf hb.n;have uj:=hb.body;rw[←rY];obtain⟨st,hst⟩:∃st,eT w x.n=st:=⟨_,rfl⟩;rw[show setOf w.l.af w.l.w x.n=st from hst] at hse;rw[hst] at hs ⊢;clear hst hf hb;have hil:i<qL.length:=(List.getElem?_eq_some_iff.1 hx).1;have hx2:(qL.set i ({ x with since:=now }:Wt).c)[i]? = some [uu x.n,Cn x.body,ax x.from_,uu x.born,uu now]:=by
  rw[List.getElem?_set_self hil];rfl
 have hcl:=fA x.body (by omega);refine nD 4 1777 rfl ?_;show GC _ _ [.ptr 1 0,.dM 2 0 i 0,.pv (uu now)] [(1777,.arr 93 0 10 (ro.map Rq.c)),(1,.var (pX w (.pv (cB w.l.af)) (.aO 2 0) (.aO 3 0) (.aO 1777 0))),(2,.arr 145 0 5 qL),(3,.arr 27 0 2 rb),(4,.dS 1 10 [])] _
 refine eO F5 ?_;repeat' ((conv=>whnf);first|with_reducible apply aP|((with_reducible apply fk)<;>intro hc<;>try exact aZ)|(refine Or.inr ?_;(conv=>whnf);refine⟨_,bZ bU (cZ mixed bU) Ai rfl ?_,fun _ _ h=>h⟩)|(apply bA;refine⟨_,hse,?_⟩)|((refine⟨_,hx,?_⟩))|((refine⟨_,hx2,?_⟩))|refine aN ?_|fail)
 clear hse;refine⟨{k:Nat // k≤st.length},fun⟨k,_⟩=>⟨[(0,.ptr 1 0),(1,.dM 2 0 i 0),(17,.pv (ax st)),(18,.pv (ii st.length)),(19,.pv (ii k))],1000000000,[(1,.var (pX w (.pv (cB w.l.af)) (.aO 2 0) (.aO 3 0) (.aO 1001 0))),(2,.arr 145 0 5 (qL.set i ({ x with since:=now }:Wt).c)),(3,.arr 27 0 2 rb),(4,.dS 1 10 []),(1001,.arr 93 0 10 ((ro ++yN w x (st.take k)).map Rq.c))]⟩,fun⟨k,_⟩=>st.length-k,⟨⟨0,Nat.zero_le _⟩,aH ?_⟩,?_⟩
 ·repeat' first|apply And.intro|exact aM|fail
  all_goals try (conv=>whnf)
  all_goals first
   |(simp only[List.take_zero,yN,List.filter_nil,zmn,List.append_nil];exact aB _)
   |simp[yN]
   |skip
 rintro⟨k,hk⟩
 by_cases hlt:k<st.length
 ·have d0:decide ((k:Int)<(st.length:Int))=true:=by simp only[iO];omega
  have eW:IntKind.i64.wrap ((k:Int)+1)=((k+1:Nat):Int):=by rw[bN (by omega) (by omega)];omega
  have hq:=BO w x st k hlt;have hal:=rZ w x (st.take k);have htl:(st.take k).length≤1000:=by rw[List.length_take];omega
  have hco:=aA x.from_ st[k].node st[k].aI;rw[show (x.from_.any fun y=>y==(⟨st[k].node,st[k].aI⟩:Pl))=gY x.from_ st[k] from rfl] at hco;generalize gY x.from_ st[k]=bb at hco hq;dsimp only
  cases bb with
  | true=>
    simp only[↓reduceIte,List.append_nil] at hq;repeat' ((conv=>whnf);first|with_reducible apply aP|((with_reducible apply fk)<;>intro hc<;>try exact gK)|((refine⟨_,dR _ _ _ hlt,?_⟩))|((refine⟨_,hx2,?_⟩))|(apply bA;refine⟨_,hco,?_⟩)|refine aN ?_|fail)
    refine⟨⟨k+1,hlt⟩,dec_lt hlt,aH ?_⟩;simp only[hq];repeat' first|apply And.intro|exact aM|fail
    all_goals try (conv=>whnf)
    all_goals exact eW
  | false=>
    simp only[Bool.false_eq_true,↓reduceIte] at hq;repeat' ((conv=>whnf);first|with_reducible apply aP|((with_reducible apply fk)<;>intro hc<;>try exact gK)|((refine⟨_,dR _ _ _ hlt,?_⟩))|((refine⟨_,hx2,?_⟩))|(apply bA;refine⟨_,hco,?_⟩)|(apply bA;refine⟨_,hcl,?_⟩)|(((with_reducible apply And.intro);focus (simp only[fE,jQ,jR,rq] at *;omega)))|refine aN ?_|fail)
    refine⟨⟨k+1,hlt⟩,dec_lt hlt,aH ?_⟩;simp only[hq];repeat' first|apply And.intro|exact aM|fail
    all_goals try (conv=>whnf)
    all_goals first
     |exact eW
     | (rw[←List.append_assoc,List.map_append]
        refine bW (aB _) ?_
        (repeat' first|apply And.intro|exact aM|fail);(all_goals try (conv=>whnf)))
 have hke:k=st.length:=by omega
 subst hke;have d0:decide ((st.length:Int)<(st.length:Int))=false:=by simp
 repeat' ((conv=>whnf);first|with_reducible apply aP|((with_reducible apply fk)<;>intro hc<;>try exact aZ)|refine aN ?_|fail)
 refine⟨_,_,⟨rfl,rfl⟩,?_⟩;repeat' first|apply And.intro|exact aM|fail
 all_goals try (conv=>whnf)
 all_goals (rw[List.take_length];exact aB _)
theorem aaM (w:Wr)(x:Wt)(now:Int)(i lo hi:Nat)(qL:List (List PV))(ro:List Rq)(hx:qL[i]? = some x.c)(hro:ro.length≤1000000)(hf:bg w.l.af)(hb:Sq x)(hs:(eT w x.n).length≤1000) :
  dU prog 80 [.ptr 1 0,.dM 2 0 i 0,.pv (uu now)]
   [(1,.var (pX w (.pv (cB w.l.af)) (.sub 2 0 5 lo hi) (.pv fQ) (.aO 3 0))),(2,.arr 145 0 5 qL),(3,.arr 93 0 10 (ro.map Rq.c))] (.pv (.cO []))
   [(1,.var (pX w (.pv (cB w.l.af)) (.sub 2 0 5 lo hi) (.pv fQ) (.aO 1001 0))),(2,.arr 145 0 5 (qL.set i ({ x with since:=now }:Wt).c)),(3,.dS 1 10 []),(1001,.arr 93 0 10 ((ro ++kJ w x).map Rq.c))]:=by
 have hse:=iU w.l.af w.l.w x.n hf hb.n;have uj:=hb.body;rw[←rY];obtain⟨st,hst⟩:∃st,eT w x.n=st:=⟨_,rfl⟩;rw[show setOf w.l.af w.l.w x.n=st from hst] at hse;rw[hst] at hs ⊢;clear hst hf hb;have hil:i<qL.length:=(List.getElem?_eq_some_iff.1 hx).1;have hx2:(qL.set i ({ x with since:=now }:Wt).c)[i]? = some [uu x.n,Cn x.body,ax x.from_,uu x.born,uu now]:=by
  rw[List.getElem?_set_self hil];rfl
 have hcl:=fA x.body (by omega);refine nD 3 1777 rfl ?_;show GC _ _ [.ptr 1 0,.dM 2 0 i 0,.pv (uu now)] [(1777,.arr 93 0 10 (ro.map Rq.c)),(1,.var (pX w (.pv (cB w.l.af)) (.sub 2 0 5 lo hi) (.pv fQ) (.aO 1777 0))),(2,.arr 145 0 5 qL),(3,.dS 1 10 [])] _
 refine eO F5 ?_;repeat' ((conv=>whnf);first|with_reducible apply aP|((with_reducible apply fk)<;>intro hc<;>try exact aZ)|(refine Or.inr ?_;(conv=>whnf);refine⟨_,bZ bU (cZ mixed bU) Ai rfl ?_,fun _ _ h=>h⟩)|(apply bA;refine⟨_,hse,?_⟩)|((refine⟨_,hx,?_⟩))|((refine⟨_,hx2,?_⟩))|refine aN ?_|fail)
 clear hse;refine⟨{k:Nat // k≤st.length},fun⟨k,_⟩=>⟨[(0,.ptr 1 0),(1,.dM 2 0 i 0),(17,.pv (ax st)),(18,.pv (ii st.length)),(19,.pv (ii k))],1000000000,[(1,.var (pX w (.pv (cB w.l.af)) (.sub 2 0 5 lo hi) (.pv fQ) (.aO 1001 0))),(2,.arr 145 0 5 (qL.set i ({ x with since:=now }:Wt).c)),(3,.dS 1 10 []),(1001,.arr 93 0 10 ((ro ++yN w x (st.take k)).map Rq.c))]⟩,fun⟨k,_⟩=>st.length-k,⟨⟨0,Nat.zero_le _⟩,aH ?_⟩,?_⟩
 ·repeat' first|apply And.intro|exact aM|fail
  all_goals try (conv=>whnf)
  all_goals first
   |(simp only[List.take_zero,yN,List.filter_nil,zmn,List.append_nil];exact aB _)
   |simp[yN]
   |skip
 rintro⟨k,hk⟩
 by_cases hlt:k<st.length
 ·have d0:decide ((k:Int)<(st.length:Int))=true:=by simp only[iO];omega
  have eW:IntKind.i64.wrap ((k:Int)+1)=((k+1:Nat):Int):=by rw[bN (by omega) (by omega)];omega
  have hq:=BO w x st k hlt;have hal:=rZ w x (st.take k);have htl:(st.take k).length≤1000:=by rw[List.length_take];omega
  have hco:=aA x.from_ st[k].node st[k].aI;rw[show (x.from_.any fun y=>y==(⟨st[k].node,st[k].aI⟩:Pl))=gY x.from_ st[k] from rfl] at hco;generalize gY x.from_ st[k]=bb at hco hq;dsimp only
  cases bb with
  | true=>
    simp only[↓reduceIte,List.append_nil] at hq;repeat' ((conv=>whnf);first|with_reducible apply aP|((with_reducible apply fk)<;>intro hc<;>try exact gK)|((refine⟨_,dR _ _ _ hlt,?_⟩))|((refine⟨_,hx2,?_⟩))|(apply bA;refine⟨_,hco,?_⟩)|refine aN ?_|fail)
    refine⟨⟨k+1,hlt⟩,dec_lt hlt,aH ?_⟩;simp only[hq];repeat' first|apply And.intro|exact aM|fail
    all_goals try (conv=>whnf)
    all_goals exact eW
  | false=>
    simp only[Bool.false_eq_true,↓reduceIte] at hq;repeat' ((conv=>whnf);first|with_reducible apply aP|((with_reducible apply fk)<;>intro hc<;>try exact gK)|((refine⟨_,dR _ _ _ hlt,?_⟩))|((refine⟨_,hx2,?_⟩))|(apply bA;refine⟨_,hco,?_⟩)|(apply bA;refine⟨_,hcl,?_⟩)|(((with_reducible apply And.intro);focus (simp only[fE,jQ,jR,rq] at *;omega)))|refine aN ?_|fail)
    refine⟨⟨k+1,hlt⟩,dec_lt hlt,aH ?_⟩;simp only[hq];repeat' first|apply And.intro|exact aM|fail
    all_goals try (conv=>whnf)
    all_goals first
     |exact eW
     | (rw[←List.append_assoc,List.map_append]
        refine bW (aB _) ?_
        (repeat' first|apply And.intro|exact aM|fail);(all_goals try (conv=>whnf)))
 have hke:k=st.length:=by omega
 subst hke;have d0:decide ((st.length:Int)<(st.length:Int))=false:=by simp
 repeat' ((conv=>whnf);first|with_reducible apply aP|((with_reducible apply fk)<;>intro hc<;>try exact aZ)|refine aN ?_|fail)
 refine⟨_,_,⟨rfl,rfl⟩,?_⟩;repeat' first|apply And.intro|exact aM|fail
 all_goals try (conv=>whnf)
 all_goals (rw[List.take_length];exact aB _)
theorem aaN (w:Wr)(x:Wt)(now:Int)(qL rb:List (List PV))(hf:bg w.l.af)(hb:Sq x)(hs:(eT w x.n).length≤1000) :
  dU prog 80 [.ptr 1 0,.ptr 3 0,.pv (uu now)]
   [(1,.var (pX w (.pv (cB w.l.af)) (.aO 2 0) (.pv (.sl false 2 rb)) (.pv fQ))),(2,.arr 145 0 5 qL),(3,.var (wtA x (.pv (ax x.from_))))] (.pv (.cO []))
   [(1,.var (pX w (.pv (cB w.l.af)) (.aO 2 0) (.pv (.sl false 2 rb)) (.aO 1001 0))),(2,.arr 145 0 5 qL),(3,.var (wtA { x with since:=now } (.pv (ax x.from_)))),(1001,.arr 93 0 10 ((kJ w x).map Rq.c))]:=by
 have hse:=iU w.l.af w.l.w x.n hf hb.n;have uj:=hb.body;rw[←rY];obtain⟨st,hst⟩:∃st,eT w x.n=st:=⟨_,rfl⟩;rw[show setOf w.l.af w.l.w x.n=st from hst] at hse;rw[hst] at hs ⊢;clear hst hf hb;have hcl:=fA x.body (by omega);refine eO F5 ?_;repeat' ((conv=>whnf);first|with_reducible apply aP|((with_reducible apply fk)<;>intro hc<;>try exact aZ)|(refine Or.inr ?_;(conv=>whnf);refine⟨_,bZ bU (cZ mixed bU) Ai rfl ?_,fun _ _ h=>h⟩)|(apply bA;refine⟨_,hse,?_⟩)|refine aN ?_|fail)
 clear hse;refine⟨{k:Nat // k≤st.length},fun⟨k,_⟩=>⟨[(0,.ptr 1 0),(1,.ptr 3 0),(17,.pv (ax st)),(18,.pv (ii st.length)),(19,.pv (ii k))],1000000000,[(1,.var (pX w (.pv (cB w.l.af)) (.aO 2 0) (.pv (.sl false 2 rb)) (.aO 1001 0))),(2,.arr 145 0 5 qL),(3,.var (wtA { x with since:=now } (.pv (ax x.from_)))),(1001,.arr 93 0 10 ((yN w x (st.take k)).map Rq.c))]⟩,fun⟨k,_⟩=>st.length-k,⟨⟨0,Nat.zero_le _⟩,aH ?_⟩,?_⟩
 ·repeat' first|apply And.intro|exact aM|fail
  all_goals try (conv=>whnf)
  all_goals first
   |(simp only[List.take_zero,yN,List.filter_nil,zmn,List.append_nil];exact aB _)
   |simp[yN]
   |skip
 rintro⟨k,hk⟩
 by_cases hlt:k<st.length
 ·have d0:decide ((k:Int)<(st.length:Int))=true:=by simp only[iO];omega
  have eW:IntKind.i64.wrap ((k:Int)+1)=((k+1:Nat):Int):=by rw[bN (by omega) (by omega)];omega
  have hq:=BO w x st k hlt;have hal:=rZ w x (st.take k);have htl:(st.take k).length≤1000:=by rw[List.length_take];omega
  have hco:=aA x.from_ st[k].node st[k].aI;rw[show (x.from_.any fun y=>y==(⟨st[k].node,st[k].aI⟩:Pl))=gY x.from_ st[k] from rfl] at hco;generalize gY x.from_ st[k]=bb at hco hq;dsimp only
  cases bb with
  | true=>
    simp only[↓reduceIte,List.append_nil] at hq;repeat' ((conv=>whnf);first|with_reducible apply aP|((with_reducible apply fk)<;>intro hc<;>try exact gK)|((refine⟨_,dR _ _ _ hlt,?_⟩))|(apply bA;refine⟨_,hco,?_⟩)|refine aN ?_|fail)
    refine⟨⟨k+1,hlt⟩,dec_lt hlt,aH ?_⟩;simp only[hq];repeat' first|apply And.intro|exact aM|fail
    all_goals try (conv=>whnf)
    all_goals exact eW
  | false=>
    simp only[Bool.false_eq_true,↓reduceIte] at hq;repeat' ((conv=>whnf);first|with_reducible apply aP|((with_reducible apply fk)<;>intro hc<;>try exact gK)|((refine⟨_,dR _ _ _ hlt,?_⟩))|(apply bA;refine⟨_,hco,?_⟩)|(apply bA;refine⟨_,hcl,?_⟩)|(((with_reducible apply And.intro);focus (simp only[fE,jQ,jR,rq] at *;omega)))|refine aN ?_|fail)
    refine⟨⟨k+1,hlt⟩,dec_lt hlt,aH ?_⟩;simp only[hq];repeat' first|apply And.intro|exact aM|fail
    all_goals try (conv=>whnf)
    all_goals first
     |exact eW
     | (rw[List.map_append]
        refine bW (aB _) ?_
        (repeat' first|apply And.intro|exact aM|fail);(all_goals try (conv=>whnf)))
 have hke:k=st.length:=by omega
 subst hke;have d0:decide ((st.length:Int)<(st.length:Int))=false:=by simp
 repeat' ((conv=>whnf);first|with_reducible apply aP|((with_reducible apply fk)<;>intro hc<;>try exact aZ)|refine aN ?_|fail)
 refine⟨_,_,⟨rfl,rfl⟩,?_⟩;repeat' first|apply And.intro|exact aM|fail
 all_goals try (conv=>whnf)
 all_goals (rw[List.take_length];exact aB _)
theorem aaw:bR prog 160 f160:=fC func160
theorem acS (f:Fr)(old fresh:Pl)(hl:f.ah.length≤1000000):dB prog 160 [.agg f.c,.agg old.c,.agg fresh.c] (.cO [.agg ((mo f old fresh).getD kQ).c,bl (mo f old fresh).isSome]):=by
 refine PC.le ?_;have hix:=tL f.ah old.node old.aI;obtain⟨K,hK⟩:∃K,uE (· == old) f.ah=K:=⟨_,rfl⟩;rw[show uE (fun y=>y==(⟨old.node,old.aI⟩:Pl)) f.ah=K from hK] at hix;obtain⟨X,hX⟩:∃X,X=mo f old fresh:=⟨_,rfl⟩;rw[←hX];have hsp:=nk (· == old) f.ah;rw[hK] at hsp;refine dP aaw ?_;repeat' ((conv=>whnf);first|with_reducible apply aP|((with_reducible apply fk)<;>intro hc<;>try exact aZ)|(apply bA;refine⟨_,hix,?_⟩)|refine aN ?_|fail)
 refine⟨{k:Nat // k≤f.ah.length∧pq K fresh.node f.ah k=false},fun⟨k,_⟩=>⟨[(3,.ptr 1003 0),(5,.ptr 1005 0),(6,.ptr 1006 0),(8,.pv (ii K)),(16,.pv (ax f.ah)),(17,.pv (ii f.ah.length)),(18,.pv (ii k))],1000000000,[(1003,.var [.pv (uu f.first),.pv (ax f.ah)]),(1005,.var [.pv (ii fresh.node),.pv (uu fresh.aI)]),(1006,.var [.pv (uu 0),.pv fQ])]⟩,fun⟨k,_⟩=>f.ah.length-k,⟨⟨0,Nat.zero_le _,rfl⟩,aH ?_⟩,?_⟩
 ·repeat' first|apply And.intro|exact aM|fail
  all_goals try (conv=>whnf)
  all_goals simp
 rintro⟨k,hk,hcl⟩
 by_cases hlt:k<f.ah.length
 ·have d0:decide ((k:Int)<(f.ah.length:Int))=true:=by simp only[iO];omega
  have eW:IntKind.i64.wrap ((k:Int)+1)=((k+1:Nat):Int):=by rw[bN (by omega) (by omega)];omega
  have hcs:=Cy K fresh.node f.ah k hlt;rw[hcl,Bool.false_or] at hcs;clear hsp;cases e1:((k:Int) != K)
  ·rw[e1,Bool.false_and] at hcs;repeat' ((conv=>whnf);first|with_reducible apply aP|((with_reducible apply fk)<;>intro hc<;>try exact aZ)|((refine⟨_,dR _ _ _ hlt,?_⟩))|refine aN ?_|fail)
   refine⟨⟨k+1,hlt,hcs⟩,dec_lt hlt,aH ?_⟩;repeat' first|apply And.intro|exact aM|fail
   all_goals try (conv=>whnf)
   exact eW
  cases e2:(f.ah[k].node==fresh.node)
  ·rw[e2,Bool.and_false] at hcs;repeat' ((conv=>whnf);first|with_reducible apply aP|((with_reducible apply fk)<;>intro hc<;>try exact aZ)|((refine⟨_,dR _ _ _ hlt,?_⟩))|refine aN ?_|fail)
   refine⟨⟨k+1,hlt,hcs⟩,dec_lt hlt,aH ?_⟩;repeat' first|apply And.intro|exact aM|fail
   all_goals try (conv=>whnf)
   exact eW
  have hn:X=none:=by
   rw[hX];unfold mo;rw[hK,if_pos (L9 _ _ _ hlt (by rw[hcs,e1,e2];rfl))]
  clear hX hcs;subst hn;repeat' ((conv=>whnf);first|with_reducible apply aP|((with_reducible apply fk)<;>intro hc<;>try exact aZ)|((refine⟨_,dR _ _ _ hlt,?_⟩))|refine aN ?_|fail)
  all_goals exact aM
 have hke:k=f.ah.length:=by omega
 subst hke;have d0:decide ((f.ah.length:Int)<(f.ah.length:Int))=false:=by simp
 rcases hsp with ⟨hsp,_⟩|⟨n,hn,hsp,_⟩
 ·have hn:X=none:=by
   rw[hX];unfold mo;rw[hK,if_neg (by rw[hcl];decide),if_pos (by omega)]
  clear hX hK;subst hn;subst hsp;repeat' ((conv=>whnf);first|with_reducible apply aP|((with_reducible apply fk)<;>intro hc<;>try exact aZ)|refine aN ?_|fail)
  all_goals exact aM
 have hn2:X=some ⟨f.first,f.ah.set n fresh⟩:=by
  rw[hX];unfold mo;rw[hK,if_neg (by rw[hcl];decide),if_neg (by omega),hsp];rfl
 clear hX hK;subst hn2;subst hsp;have d1:decide ((n:Int)<0)=false:=by simp
 repeat' ((conv=>whnf);first|with_reducible apply aP|((with_reducible apply fk)<;>intro hc<;>try exact aZ)|(apply dn;refine⟨_,_,fJ f.ah (by omega),?_⟩)|((refine⟨_,dR _ _ _ hn,?_⟩))|refine aN ?_|fail)
 repeat' first|apply And.intro|exact aM|fail
 all_goals try (conv=>whnf)
 refine fZ ?_;show (List.map Pl.c f.ah).set n (Pl.c fresh)=List.map Pl.c (f.ah.set n fresh)
 rw[List.map_set]
theorem Ag:bR prog 129 f129:=fC func129
theorem NC (f:Fr)(old:Pl)(known:List Pl)(hl:f.ah.length≤1000000):dB prog 129 [.agg f.c,.agg old.c,ax known] (.cO [.agg (jc f old known).1.c,bl (jc f old known).2]):=by
 refine PC.le (qg Ag fun hb=>?_);have hb:known.length≤9223372036854775807:=by simp[JF,DL,ax] at hb;omega
 obtain⟨X,hX⟩:∃X,X=jc f old known:=⟨_,rfl⟩;rw[←hX];refine dP Ag ?_;repeat' ((conv=>whnf);first|with_reducible apply aP|((with_reducible apply fk)<;>intro hc<;>try exact aZ)|refine aN ?_|fail)
 refine⟨{k:Nat // k≤known.length∧X=jc f old (known.drop k)},fun⟨k,_⟩=>⟨[(3,.ptr 1003 0),(4,.ptr 1004 0),(6,.ptr 1006 0),(12,.pv (ax known)),(13,.pv (ii known.length)),(14,.pv (ii k))],1000000000,[(1003,.var [.pv (uu f.first),.pv (ax f.ah)]),(1004,.var [.pv (ii old.node),.pv (uu old.aI)]),(1006,.var [.pv (uu 0),.pv fQ])]⟩,fun⟨k,_⟩=>known.length-k,⟨⟨0,Nat.zero_le _,hX⟩,aH ?_⟩,?_⟩
 ·repeat' first|apply And.intro|exact aM|fail
  all_goals try (conv=>whnf)
  all_goals simp
 rintro⟨k,hk,hcl⟩
 clear hX;by_cases hlt:k<known.length
 ·have d0:decide ((k:Int)<(known.length:Int))=true:=by simp only[iO];omega
  have eW:IntKind.i64.wrap ((k:Int)+1)=((k+1:Nat):Int):=by rw[bN (by omega) (by omega)];omega
  rw[Ps f old known k hlt] at hcl;have hsw:=acS f old known[k] hl;cases hs:mo f old known[k] with
  | none=>
    rw[hs] at hcl hsw;simp only[Option.getD_none,Option.isSome_none] at hsw;repeat' ((conv=>whnf);first|with_reducible apply aP|((with_reducible apply fk)<;>intro hc<;>try exact aZ)|((refine⟨_,dR _ _ _ hlt,?_⟩))|(apply bA;refine⟨_,aG (hsw) ?_,?_⟩;exact bD)|refine aN ?_|fail)
    refine⟨⟨k+1,hlt,hcl⟩,dec_lt hlt,aH ?_⟩;repeat' first|apply And.intro|exact aM|fail
    all_goals try (conv=>whnf)
    exact eW
  | some g=>
    rw[hs] at hcl hsw;simp only[Option.getD_some,Option.isSome_some] at hsw;subst hcl;repeat' ((conv=>whnf);first|with_reducible apply aP|((with_reducible apply fk)<;>intro hc<;>try exact aZ)|((refine⟨_,dR _ _ _ hlt,?_⟩))|(apply bA;refine⟨_,aG (hsw) ?_,?_⟩;exact bD)|refine aN ?_|fail)
    all_goals exact aM
 have hke:k=known.length:=by omega
 subst hke;have d0:decide ((known.length:Int)<(known.length:Int))=false:=by simp
 rw[List.drop_length] at hcl;subst hcl;repeat' ((conv=>whnf);first|with_reducible apply aP|((with_reducible apply fk)<;>intro hc<;>try exact aZ)|refine aN ?_|fail)
 all_goals exact aM
theorem QL:bR prog 128 f128:=fC func128
theorem I9 (bad:List Pl)(y:Pl):dB prog 128 ([]++([.agg y.c]++[.dL [ax bad] 0])) (bl (bad.any (· == y))):=by
 refine PC.le ?_;refine dP QL ?_;repeat' ((conv=>whnf);first|with_reducible apply aP|((with_reducible apply fk)<;>intro hc<;>try exact aZ)|(apply bA;refine⟨_,aA _ _ _,?_⟩)|refine aN ?_|fail)
 all_goals exact aM
theorem QM:bR prog 131 f131:=fC func131
theorem VJ (x y:Pl):dB prog 131 ([]++([.agg y.c]++[.dL x.c 0])) (bl (y.node==x.node)):=by
 refine PC.le ?_;refine dP QM ?_;repeat' ((conv=>whnf);first|with_reducible apply aP|((with_reducible apply fk)<;>intro hc<;>try exact aZ)|refine aN ?_|fail)
 all_goals exact aM
def kept (p:Pl→Bool)(l:List Pl)(j:Nat):List Pl:=(l.take j).filter fun x=>!p x
def QR (p:Pl→Bool)(l:List Pl)(jm:Nat×List Pl):Prop:=jm.1≤l.length∧jm.2.length=l.length∧jm.2.take (kept p l jm.1).length=kept p l jm.1∧jm.2.drop jm.1=l.drop jm.1
theorem SA (p:Pl→Bool)(l:List Pl)(j:Nat)(h:j≤l.length):(kept p l j).length≤j:=by
 refine Nat.le_trans (List.length_filter_le _ _) ?_;simp;omega
theorem rX (p:Pl→Bool)(l:List Pl)(j:Nat)(h:j<l.length):kept p l (j+1)=if p l[j] then kept p l j else kept p l j++[l[j]]:=by
 unfold kept;rw[List.take_succ_eq_append_getElem h,List.filter_append];cases hp:p l[j]<;>simp[hp]
theorem aay {p:Pl→Bool}{l:List Pl}{j:Nat}{m:List Pl}(h:QR p l (j,m))(hj:j<l.length):∃hm:j<m.length,m[j]=l[j]:=by
 obtain⟨_,h2,_,h4⟩:=h;simp only at h2 h4;have hm:j<m.length:=by omega
 refine⟨hm,?_⟩;have:=congrArg (fun x=>x[0]?) h4;simpa[hm,hj] using this
theorem VN {p:Pl→Bool}{l:List Pl}{j:Nat}{m:List Pl}(h:QR p l (j,m))(hj:j<l.length)(hp:p l[j]=true):QR p l (j+1,m):=by
 obtain⟨h1,h2,h3,h4⟩:=h;refine⟨hj,h2,?_,?_⟩
 ·simp only[rX p l j hj,hp,if_true];exact h3
 simp only at h4 ⊢;have:=congrArg (fun x=>x.drop 1) h4;simpa using this
theorem VO {p:Pl→Bool}{l:List Pl}{j:Nat}{m:List Pl}(h:QR p l (j,m))(hj:j<l.length)(hp:p l[j]=false):QR p l (j+1,m.set (kept p l j).length l[j]):=by
 have hk:=SA p l j (Nat.le_of_lt hj);obtain⟨h1,h2,h3,h4⟩:=h;simp only at h2 h3 h4;refine⟨hj,by simpa using h2,?_,?_⟩
 ·simp only[rX p l j hj,hp,Bool.false_eq_true,if_false,rq,List.length_singleton];rw[List.take_succ_eq_append_getElem (by simp;omega),List.take_set_of_le (Nat.le_refl _),h3];simp
 simp only;have:=congrArg (fun x=>x.drop 1) h4;rw[List.drop_set_of_lt (by omega)];simpa using this
theorem QS {p:Pl→Bool}{l:List Pl}(k:Nat)(hk:k<l.length)(h:∀j (hj:j<l.length),j<k→p l[j]=false)(hp:p l[k]=true):QR p l (k+1,l)∧(kept p l (k+1)).length=k:=by
 have h1:kept p l k=l.take k:=by
  unfold kept;rw[List.filter_eq_self];intro x hx;obtain⟨j,hj,rfl⟩:=List.getElem_of_mem hx;rw[List.length_take] at hj;rw[List.getElem_take,h j (by omega) (by omega)];rfl
 have h2:kept p l (k+1)=l.take k:=by rw[rX p l k hk,hp,if_pos rfl,h1]
 have h3:(l.take k).length=k:=by simp;omega
 exact⟨⟨hk,rfl,by simp only[h2,h3],rfl⟩,by rw[h2,h3]⟩
theorem FZ:bR prog 109 f109:=fC func109
theorem acT (row:List PV)(l:List Pl)(f:FuncId)(p:Pl→Bool)(hp:∀x∈l,dB prog f ([]++([.agg x.c]++[.dL row 0])) (bl (p x)))(h0:∀x∈l,p x=false)(hl:l.length≤8796093022208) :
  dU prog 109 [.aO 1 0,.pv (.fn (.func f) [] [.dL row 0])] [(1,.arr 27 0 2 (l.map Pl.c))] (.aO 1 0) [(1,.arr 27 0 2 (l.map Pl.c))]:=by
 have hx:uE p l = -1:=o7 p h0;refine eO FZ ?_;repeat' ((conv=>whnf);first|with_reducible apply aP|((with_reducible apply fk)<;>intro hc<;>try exact aZ)|(apply bA;refine⟨_,mR _ _ _ _ p hp,?_⟩)|refine aN ?_|fail)
 ·refine⟨_,_,⟨rfl,rfl⟩,?_⟩;all_goals exact aM
 rw[hx] at hc;simp at hc
theorem aaz (row:List PV)(l:List Pl)(f:FuncId)(p:Pl→Bool)(hp:∀x∈l,dB prog f ([]++([.agg x.c]++[.dL row 0])) (bl (p x)))(h0:¬∀x∈l,p x=false)(hl:l.length≤8796093022208) :
  dU prog 109 [.aO 1 0,.pv (.fn (.func f) [] [.dL row 0])] [(1,.arr 27 0 2 (l.map Pl.c))] (.sub 1 0 2 0 (l.filter fun x=>!p x).length) [(1,.arr 27 0 2 ((l.filter fun x=>!p x).map Pl.c++List.replicate (l.length-(l.filter fun x=>!p x).length) [ii 0,uu 0]))]:=by
 obtain⟨ix,hix,hxe,hxp,hxf⟩:∃k,∃hk:k<l.length,uE p l=(k:Nat)∧p l[k]=true∧∀j (hj:j<l.length),j<k→p l[j]=false:=by
  rcases nk p l with ⟨_,h⟩|⟨k,hk,h1,h2,h3⟩
  ·exact absurd h h0
  exact⟨k,hk,h1,h2,h3⟩
 obtain⟨hS,hK⟩:=QS ix hix hxf hxp;refine eO FZ ?_;repeat' ((conv=>whnf);first|with_reducible apply aP|((with_reducible apply fk)<;>intro hc<;>try exact aZ)|(apply bA;refine⟨_,mR _ _ _ _ p hp,?_⟩)|refine aN ?_|fail)
 ·rw[hxe] at hc;simp at hc
 refine⟨{jm:Nat×List Pl // QR p l jm},fun⟨(j,m),_⟩=>⟨[(0,.aO 1 0),(1,.pv (.fn (.func f) [] [.dL row 0])),(5,.pv (ii (kept p l j).length)),(6,.pv (ii j))],1000000000,[(1,.arr 27 0 2 (m.map Pl.c))]⟩,fun⟨(j,_),_⟩=>l.length-j,⟨⟨(ix+1,l),hS⟩,aH ?_⟩,?_⟩
 ·repeat' first|apply And.intro|exact aM|fail
  all_goals try (conv=>whnf)
  ·rw[hxe,hK]
  ·rw[hxe];exact bN (by omega) (by omega)
 rintro⟨⟨j,m⟩,hj⟩
 obtain⟨hj1,hj2,hj3,hj4⟩:=id hj;simp only at hj1 hj2 hj3 hj4;have hkl:=SA p l j hj1;repeat' ((conv=>whnf);first|with_reducible apply aP|((with_reducible apply fk)<;>intro hc<;>try exact aZ)|refine aN ?_|fail)
 ·have hlt:j<m.length:=by simpa using hc
  have hlt2:j<l.length:=by omega
  obtain⟨_,he⟩:=aay hj hlt2;have hpj:dB prog f ([]++([.agg (m[j]).c]++[.dL row 0])) (bl (p m[j])):=hp _ (by rw[he];exact List.getElem_mem hlt2);have hi:(kept p l j).length<m.length:=by omega
  repeat' ((conv=>whnf);first|with_reducible apply aP|((with_reducible apply fk)<;>intro hc<;>try exact aZ)|(refine zxb ?_)|((refine⟨_,dR _ _ _ hlt,?_⟩))|((refine⟨_,dR _ _ _ hi,?_⟩))|(apply bA;refine⟨_,hpj,?_⟩)|refine aN ?_|fail)
  ·have hpf:p l[j]=false:=by rw[←he];simpa using hc
   refine⟨⟨(j+1,m.set (kept p l j).length l[j]),VO hj hlt2 hpf⟩,dec_lt hlt2,aH ?_⟩;have hks:(kept p l (j+1)).length=(kept p l j).length+1:=by rw[rX p l j hlt2,hpf];simp
   repeat' first|apply And.intro|exact aM|fail
   all_goals try (conv=>whnf)
   ·refine fZ ?_;rw[←he,List.map_set];rfl
   ·rw[bN (by omega) (by omega),hks];omega
   exact bN (by omega) (by omega)
  have hpt:p l[j]=true:=by rw[←he];simpa using hc
  refine⟨⟨(j+1,m),VN hj hlt2 hpt⟩,dec_lt hlt2,aH ?_⟩;have hks:(kept p l (j+1)).length=(kept p l j).length:=by rw[rX p l j hlt2,hpt];simp
  repeat' first|apply And.intro|exact aM|fail
  all_goals try (conv=>whnf)
  ·rw[hks]
  exact bN (by omega) (by omega)
 have hjl:j=l.length:=by simp at hc;omega
 subst hjl;have hkf:kept p l l.length=l.filter fun x=>!p x:=by unfold kept;rw[List.take_length]
 repeat' ((conv=>whnf);first|with_reducible apply aP|((with_reducible apply fk)<;>intro hc<;>try exact aZ)|(((with_reducible apply And.intro);focus (simp only[fE,rq,List.length_take,List.length_drop,List.length_replicate];omega)))|refine aN ?_|fail)
 refine⟨_,_,⟨rfl,rfl⟩,?_⟩;repeat' first|apply And.intro|exact aM|fail
 all_goals try (conv=>whnf)
 ·refine fZ ?_;rw[←hkf,Int.toNat_natCast,List.length_map,←List.map_take,hj3,List.drop_eq_nil_of_le (by simp),List.append_nil,hj2]
 rw[hkf];rfl
theorem acU (row:List PV)(l:List Pl)(f:FuncId)(p:Pl→Bool)(hp:∀x∈l,dB prog f ([]++([.agg x.c]++[.dL row 0])) (bl (p x)))(h0:¬∀x∈l,p x=false)(hl:l.length≤8796093022208) :
  dU prog 109 [.aO 1 0,.pv (.fn (.func f) [] [.dL row 0])] [(1,.arr 27 0 2 (l.map Pl.c))] (.aO 1 1) [(1,.arr 27 1 2 ((l.filter fun x=>!p x).map Pl.c))]:=by
 have h:=Sn (aaz row l f p hp h0 hl) (by simp);rw[List.take_append_of_le_length (by simp),List.take_of_length_le (by simp)] at h;exact h
def dbl (T:Tab):Tab:=
 match T with
 |x::r=>x::x::r
 |[]=>[]
def ajW:Tab:=dbl tab
theorem afl (T:Tab)(t:Nat):lk (dbl T) t=lk T t:=by
 cases T with
 |nil=>rfl
 | cons x r=>
   obtain⟨k,v⟩:=x;simp only[dbl,aC];split<;>rfl
theorem vL:bY prog ajW:=fun t i h=>bU t i (by rw[←afl tab t];exact h)
theorem QN:bR prog 130 f130:=fC func130
theorem QO (l:List Pl)(i:Nat)(hi:i<l.length)(hl:l.length≤1000000)(a b:Int)(ha:a=(i:Int))(hb:b=(i:Int)+1) :
  dU prog 130 [.aO 1 0,.pv (ii a),.pv (ii b)] [(1,.arr 27 0 2 (l.map Pl.c))] (.sub 1 0 2 0 (l.length-1)) [(1,.arr 27 0 2 ((l.eraseIdx i).map Pl.c++[[ii 0,uu 0]]))]:=by
 have d1:(a==b)=false:=by rw[ha,hb];simp;omega
 have xS:a≤(i:Int)∧(i:Int)≤a:=by omega
 have hb2:b≤(i:Int)+1∧(i:Int)+1≤b:=by omega
 have hta:a.toNat=i:=by omega
 have htb:b.toNat=i+1:=by omega
 clear ha hb;refine y9 vL (cZ mixed vL) QN rfl ?_;repeat' ((conv=>whnf);first|with_reducible apply aP|((with_reducible apply fk)<;>intro hc<;>try exact aZ)|(((with_reducible apply And.intro);focus (simp only[jF,fE,rq,List.length_take,List.length_drop,List.length_replicate];omega)))|refine aN ?_|fail)
 refine⟨_,_,⟨rfl,rfl⟩,?_⟩;repeat' first|apply And.intro|exact aM|fail
 all_goals try (conv=>whnf)
 ·refine fZ ?_;rw[hta,htb];obtain⟨L,hL⟩:∃L,l.map Pl.c=L:=⟨_,rfl⟩;have hn:L.length=l.length:=by rw[←hL,List.length_map]
  have e0:List.map Pl.c (l.eraseIdx i)=L.take i++L.drop (i+1):=by rw[←hL,List.eraseIdx_eq_take_drop_succ,List.map_append,List.map_take,List.map_drop]
  rw[e0,hL];have hiL:i<L.length:=by omega
  have e1:jF L (i+1) L.length=L.drop (i+1):=by unfold jF;exact List.take_of_length_le (by simp)
  have e2:i+(L.drop (i+1)).length=L.length-1:=by rw[List.length_drop];omega
  have hM:(L.take i++L.drop (i+1)).length=L.length-1:=by rw[List.length_append,List.length_take,List.length_drop];omega
  have e3:(jF (L.take i++(L.drop (i+1)++L.drop (L.length-1))) 0 (L.length-1)).length=L.length-1:=by
   simp only[jF,List.length_take,List.length_drop,rq];omega
  have e5:List.drop L.length (L.take i++L.drop (i+1)++L.drop (L.length-1))=[]:=List.drop_eq_nil_of_le (by rw[List.length_append,hM,List.length_drop];omega);simp only[e1,e2,e3,Int.toNat_natCast];rw[←List.append_assoc (L.take i),List.take_append_of_le_length (by omega),List.take_of_length_le (by omega),e5,show L.length-(L.length-1)=1 by omega];rfl
 rw[hta,htb,List.length_map];have:(jF (List.map Pl.c l) (i+1) l.length).length=l.length-(i+1):=by simp only[jF,List.length_take,List.length_drop,fE];omega
 rw[this,show i+(l.length-(i+1))=l.length-1 by omega]
theorem VK (l:List Pl)(i:Nat)(hi:i<l.length)(hl:l.length≤1000000)(a b:Int)(ha:a=(i:Int))(hb:b=(i:Int)+1) :
  dU prog 130 [.aO 1 0,.pv (ii a),.pv (ii b)] [(1,.arr 27 0 2 (l.map Pl.c))] (.aO 1 1) [(1,.arr 27 1 2 ((l.eraseIdx i).map Pl.c))]:=by
 have hel:(l.eraseIdx i).length=l.length-1:=by rw[List.length_eraseIdx,if_pos hi]
 have h:=Sn (QO l i hi hl a b ha hb) (by simp only[rq,fE,List.length_singleton];omega);rw[List.take_append_of_le_length (by rw[List.length_map];omega),List.take_of_length_le (by rw[List.length_map];omega)] at h;exact h
theorem aax (bad known:List Pl)(hk:known.length≤1000):dU prog 109 [.aO 1 0,.pv (.fn (.func 128) [] [.dL [ax bad] 0])] [(1,.arr 27 0 2 (known.map Pl.c))] (.aO 1 1) [(1,.arr 27 1 2 ((fit bad known).map Pl.c))]:=by
 by_cases h0:∀x∈known,bad.any (· == x)=false
 ·have h:=YG (acT [ax bad] known 128 (fun x=>bad.any (· == x)) (fun x _=>I9 bad x) h0 (by omega));have hf:fit bad known=known:=List.filter_eq_self.2 (fun x hx=>by rw[h0 x hx];rfl);rw[hf];exact h
 exact acU [ax bad] known 128 (fun x=>bad.any (· == x)) (fun x _=>I9 bad x) h0 (by omega)
theorem VL:bR prog 81 f81:=fC func81
theorem vO (f:Fr)(w e:Int)(bad known:List Pl)(hf:f.ah.length≤1000)(hk:known.length≤1000) :
  dB prog 81 [.agg f.c,ii w,ii e,ax bad,ax known] (.cO [.agg (jI f w e bad known).1.c,bl (jI f w e bad known).2]):=by
 refine PC.le ?_;have hdel:=aax bad known hk;have hcl:=fJ known (by omega);obtain⟨X,hX⟩:∃X,X=jI f w e bad known:=⟨_,rfl⟩;rw[←hX];unfold jI at hX;have hfl:(fit bad known).length≤1000:=Nat.le_trans (List.length_filter_le _ _) hk;obtain⟨kn,hkn⟩:∃kn,fit bad known=kn:=⟨_,rfl⟩;rw[hkn] at hX hdel hfl;clear hkn hk;refine dP VL ?_;repeat' ((conv=>whnf);first|with_reducible apply aP|((with_reducible apply fk)<;>intro hc<;>try exact aZ)|(apply dn;refine⟨_,_,hcl,?_⟩)|(apply dn;refine⟨_,_,av (hdel) ?_,?_⟩;exact bD)|refine aN ?_|fail)
 clear hdel hcl;refine⟨{k:Nat // k≤f.ah.length},fun⟨k,_⟩=>⟨[(1,.pv (ii w)),(2,.pv (ii e)),(4,.aO 1004 0),(8,.ptr 1008 0),(10,.ptr 1010 0),(12,.pv (bl ((f.ah.take k).foldl (JR bad kn) (f,[],false)).2.2)),(13,.aO 1013 0),(14,.ptr 1014 0),(29,.pv (ax f.ah)),(30,.pv (ii f.ah.length)),(31,.pv (ii k))],1000000000,[(1004,.dS 0 2 (kn.map Pl.c)),(1008,.nR [ax bad]),(1010,.var [.pv (uu 0),.pv fQ]),(1013,.arr 27 0 2 (((f.ah.take k).foldl (JR bad kn) (f,[],false)).2.1.map Pl.c)),(1014,.var [.pv (uu ((f.ah.take k).foldl (JR bad kn) (f,[],false)).1.first),.pv (ax ((f.ah.take k).foldl (JR bad kn) (f,[],false)).1.ah)])]⟩,fun⟨k,_⟩=>f.ah.length-k,⟨⟨0,Nat.zero_le _⟩,abL [1001003001] ?_⟩,?_⟩
 ·repeat' first|apply And.intro|exact aM|fail
  all_goals try (conv=>whnf)
  all_goals simp
 rintro⟨k,hk⟩
 by_cases hlt:k<f.ah.length
 ·have d0:decide ((k:Int)<(f.ah.length:Int))=true:=by simp only[iO];omega
  have eW:IntKind.i64.wrap ((k:Int)+1)=((k+1:Nat):Int):=by rw[bN (by omega) (by omega)];omega
  have hst:=nM (JR bad kn) (f,[],false) f.ah k hlt;obtain⟨g1,g2,g3⟩:=zH bad kn (f.ah.take k) (f,[],false);simp only[List.length_take,jR] at g1 g3;obtain⟨S,hS⟩:∃S,(f.ah.take k).foldl (JR bad kn) (f,[],false)=S:=⟨_,rfl⟩;rw[hS] at hst g1 g3;clear g2 hX;have hco:=aA bad f.ah[k].node f.ah[k].aI;have hre:=NC S.1 f.ah[k] kn (by omega);have hr1:JR bad kn S f.ah[k]=if bad.any (· == f.ah[k]) then (if (jc S.1 f.ah[k] kn).2 then ((jc S.1 f.ah[k] kn).1,S.2.1,true) else ((jc S.1 f.ah[k] kn).1,S.2.1++[f.ah[k]],S.2.2)) else S:=rfl
  rw[hr1] at hst;clear hr1;rw[show (bad.any fun y=>y==(⟨f.ah[k].node,f.ah[k].aI⟩:Pl))=bad.any (· == f.ah[k]) from rfl] at hco;obtain⟨bb,uM⟩:∃bb,bad.any (· == f.ah[k])=bb:=⟨_,rfl⟩;rw[uM] at hco hst;clear uM;dsimp only
  rw[hS];cases bb with
  | false=>
    simp only[Bool.false_eq_true,↓reduceIte] at hst;repeat' ((conv=>whnf);first|with_reducible apply aP|((with_reducible apply fk)<;>intro hc<;>try exact aZ)|((refine⟨_,dR _ _ _ hlt,?_⟩))|(apply bA;refine⟨_,hco,?_⟩)|refine aN ?_|fail)
    all_goals
     refine⟨⟨k+1,hlt⟩,dec_lt hlt,aH ?_⟩;simp only[hst];repeat' first|apply And.intro|exact aM|fail
     all_goals try (conv=>whnf)
    all_goals exact eW
  | true=>
    simp only[↓reduceIte] at hst;obtain⟨rp,Ry⟩:∃rp,jc S.1 f.ah[k] kn=rp:=⟨_,rfl⟩;rw[Ry] at hst hre;clear Ry;obtain⟨rp1,rp2⟩:=rp;cases rp2 with
    | true=>
      simp only[↓reduceIte] at hst;simp only at hre;repeat' ((conv=>whnf);first|with_reducible apply aP|((with_reducible apply fk)<;>intro hc<;>try exact aZ)|((refine⟨_,dR _ _ _ hlt,?_⟩))|(apply bA;refine⟨_,hco,?_⟩)|(apply bA;refine⟨_,aG (hre) ?_,?_⟩;exact bD)|refine aN ?_|fail)
      all_goals
       refine⟨⟨k+1,hlt⟩,dec_lt hlt,aH ?_⟩;simp only[hst];repeat' first|apply And.intro|exact aM|fail
       all_goals try (conv=>whnf)
      all_goals first
       |exact eW
       |(show _=true;simp_all;done)
    | false=>
      simp only[Bool.false_eq_true,↓reduceIte] at hst;simp only at hre;repeat' ((conv=>whnf);first|with_reducible apply aP|((with_reducible apply fk)<;>intro hc<;>try exact aZ)|((refine⟨_,dR _ _ _ hlt,?_⟩))|(apply bA;refine⟨_,hco,?_⟩)|(apply bA;refine⟨_,aG (hre) ?_,?_⟩;exact bD)|(((with_reducible apply And.intro);focus (simp only[fE,jQ,jR];omega)))|refine aN ?_|fail)
      all_goals
       refine⟨⟨k+1,hlt⟩,dec_lt hlt,aH ?_⟩;simp only[hst];repeat' first|apply And.intro|exact aM|fail
       all_goals try (conv=>whnf)
      all_goals first
       |exact eW
       | (rw[List.map_append]
          refine bW (aB _) ?_
          (repeat' first|apply And.intro|exact aM|fail);(all_goals try (conv=>whnf)))
       |(symm;assumption)
 have hke:k=f.ah.length:=by omega
 subst hke;have d0:decide ((f.ah.length:Int)<(f.ah.length:Int))=false:=by simp
 obtain⟨g1,g2,g3⟩:=zH bad kn f.ah (f,[],false);simp only[jR] at g1 g3;dsimp only
 rw[List.take_length];unfold nO at hX;obtain⟨⟨S,left,s1⟩,hS⟩:∃S,f.ah.foldl (JR bad kn) (f,[],false)=S:=⟨_,rfl⟩;rw[hS] at hX g1 g3 ⊢;simp only at g1 g3;unfold Cz at hX;simp only at hX;clear g2 hS;have hcl:=fJ S.ah (by omega);repeat' ((conv=>whnf);first|with_reducible apply aP|((with_reducible apply fk)<;>intro hc<;>try exact aZ)|(apply dn;refine⟨_,_,hcl,?_⟩)|refine aN ?_|fail)
 clear hcl;refine⟨{k:Nat // k≤left.length},fun⟨k,_⟩=>⟨[(1,.pv (ii w)),(2,.pv (ii e)),(4,.aO 1004 0),(10,.ptr 1010 0),(12,.pv (bl ((left.take k).foldl (NU w) (S.ah,s1)).2)),(14,.ptr 1014 0),(61,.aO 1061 0),(62,.pv (ii left.length)),(63,.pv (ii k))],1000000000,[(1004,.dS 0 2 (kn.map Pl.c)),(1010,.var [.pv (uu 0),.pv fQ]),(1061,.arr 27 0 2 (left.map Pl.c)),(1014,.var [.pv (uu S.first),.aO 1015 0]),(1015,.arr 27 0 2 (((left.take k).foldl (NU w) (S.ah,s1)).1.map Pl.c))]⟩,fun⟨k,_⟩=>left.length-k,⟨⟨0,Nat.zero_le _⟩,aH ?_⟩,?_⟩
 ·repeat' first|apply And.intro|exact aM|fail
  all_goals try (conv=>whnf)
  all_goals simp
 rintro⟨k,hk2⟩
 by_cases hlt2:k<left.length
 ·have d1:decide ((k:Int)<(left.length:Int))=true:=by simp only[iO];omega
  have eW:IntKind.i64.wrap ((k:Int)+1)=((k+1:Nat):Int):=by rw[bN (by omega) (by omega)];omega
  have hst:=nM (NU w) (S.ah,s1) left k hlt2;have g4:=DR w (left.take k) (S.ah,s1);simp only at g4;clear hX;obtain⟨⟨b,s2⟩,hS2⟩:∃S2,(left.take k).foldl (NU w) (S.ah,s1)=S2:=⟨_,rfl⟩;dsimp only
  rw[hS2] at hst g4 ⊢;simp only at g4;have hix:=tL b left[k].node left[k].aI;rw[show uE (fun y=>y==(⟨left[k].node,left[k].aI⟩:Pl)) b=uE (· == left[k]) b from rfl] at hix;have hr2:NU w (b,s2) left[k]=if decide ((b.length:Int)>w)&&decide (uE (· == left[k]) b≥0) then (b.eraseIdx (uE (· == left[k]) b).toNat,true) else (b,s2):=rfl
  rw[hr2] at hst;have hsp:=nk (· == left[k]) b;obtain⟨K,hK⟩:∃K,uE (· == left[k]) b=K:=⟨_,rfl⟩;rw[hK] at hix hst hsp;clear hr2 hK hS2;cases e1:decide ((b.length:Int)>w) with
  | false=>
    have e1':decide (((List.map Pl.c b).length:Int)>w)=false:=by rw[List.length_map];exact e1
    rw[e1] at hst;simp only[Bool.false_and,Bool.false_eq_true,↓reduceIte] at hst;clear hsp;repeat' ((conv=>whnf);first|with_reducible apply aP|((with_reducible apply fk)<;>intro hc<;>try exact aZ)|((refine⟨_,dR _ _ _ hlt2,?_⟩))|(apply bA;refine⟨_,aG (hix) ?_,?_⟩;exact bD)|refine aN ?_|fail)
    all_goals
     refine⟨⟨k+1,hlt2⟩,dec_lt hlt2,aH ?_⟩;simp only[hst];repeat' first|apply And.intro|exact aM|fail
     all_goals try (conv=>whnf)
    all_goals exact eW
  | true=>
    have e1':decide (((List.map Pl.c b).length:Int)>w)=true:=by rw[List.length_map];exact e1
    rw[e1] at hst;rcases hsp with ⟨hsp,_⟩|⟨n,hn,hsp,_⟩
    ·have e2:decide (K≥0)=false:=by simp only[w9];omega
     rw[e2] at hst;simp only[Bool.and_false,Bool.false_eq_true,↓reduceIte] at hst;clear hsp;repeat' ((conv=>whnf);first|with_reducible apply aP|((with_reducible apply fk)<;>intro hc<;>try exact aZ)|((refine⟨_,dR _ _ _ hlt2,?_⟩))|(apply bA;refine⟨_,aG (hix) ?_,?_⟩;exact bD)|refine aN ?_|fail)
     all_goals
      refine⟨⟨k+1,hlt2⟩,dec_lt hlt2,aH ?_⟩;simp only[hst];repeat' first|apply And.intro|exact aM|fail
      all_goals try (conv=>whnf)
     all_goals exact eW
    have e2:decide (K≥0)=true:=by simp only[iO];omega
    rw[e2] at hst;simp only[Bool.and_self,↓reduceIte] at hst;have hde:=VK b n hn (by omega) K (IntKind.i64.wrap (K+1)) hsp (by rw[bN (by omega) (by omega)];omega);rw[show K.toNat=n by omega] at hst;clear hsp;repeat' ((conv=>whnf);first|with_reducible apply aP|((with_reducible apply fk)<;>intro hc<;>try exact aZ)|((refine⟨_,dR _ _ _ hlt2,?_⟩))|(apply bA;refine⟨_,aG (hix) ?_,?_⟩;exact bD)|(apply dn;refine⟨_,_,av (hde) ?_,?_⟩;exact bD)|refine aN ?_|fail)
    all_goals
     refine⟨⟨k+1,hlt2⟩,dec_lt hlt2,aH ?_⟩;simp only[hst];repeat' first|apply And.intro|exact aM|fail
     all_goals try (conv=>whnf)
    all_goals exact eW
 have hke2:k=left.length:=by omega
 subst hke2;have d1:decide ((left.length:Int)<(left.length:Int))=false:=by simp
 have g4:=DR w left (S.ah,s1);simp only at g4;dsimp only
 rw[List.take_length];obtain⟨⟨b,s2⟩,hS2⟩:∃S2,left.foldl (NU w) (S.ah,s1)=S2:=⟨_,rfl⟩;rw[hS2] at hX g4 ⊢;simp only at hX g4;clear hS2;cases s2 with
 | false=>
   simp only[Bool.false_eq_true,↓reduceIte] at hX;subst hX;dsimp only
   repeat' ((conv=>whnf);first|with_reducible apply aP|((with_reducible apply fk)<;>intro hc<;>try exact aZ)|refine aN ?_|fail)
   all_goals exact aM
 |true=>
 simp only[↓reduceIte] at hX;dsimp only
 repeat' ((conv=>whnf);first|with_reducible apply aP|((with_reducible apply fk)<;>intro hc<;>try exact aZ)|refine aN ?_|fail)
 refine⟨{k:Nat // k≤kn.length},fun⟨k,_⟩=>⟨[(2,.pv (ii e)),(10,.ptr 1010 0),(14,.ptr 1014 0),(91,.aO 1004 0),(92,.pv (ii kn.length)),(93,.pv (ii k))],1000000000,[(1004,.dS 0 2 (kn.map Pl.c)),(1010,.var [.pv (uu 0),.pv fQ]),(1014,.var [.pv (uu S.first),.aO 1015 0]),(1015,.arr 27 0 2 (((kn.take k).foldl (Ma e) b).map Pl.c))]⟩,fun⟨k,_⟩=>kn.length-k,⟨⟨0,Nat.zero_le _⟩,aH ?_⟩,?_⟩
 ·repeat' first|apply And.intro|exact aM|fail
  all_goals try (conv=>whnf)
  all_goals simp
 rintro⟨k,hk3⟩
 by_cases GD:k<kn.length
 ·have d2:decide ((k:Int)<(kn.length:Int))=true:=by simp only[iO];omega
  have eW:IntKind.i64.wrap ((k:Int)+1)=((k+1:Nat):Int):=by rw[bN (by omega) (by omega)];omega
  have hst:=nM (Ma e) b kn k GD;have g5:=RG e (kn.take k) b;simp only[List.length_take] at g5;clear hX;obtain⟨m,hm⟩:∃m,(kn.take k).foldl (Ma e) b=m:=⟨_,rfl⟩;dsimp only
  rw[hm] at hst g5 ⊢;clear hm;have hcf:=nQ m 131 [] [.dL (kn[k]).c 0] (fun y=>y.node==kn[k].node) (fun y _=>VJ kn[k] y);have hr3:Ma e m kn[k]=if decide ((m.length:Int)<(if 5<e then 5 else e)) && !(m.any fun y=>y.node==kn[k].node) then m++[kn[k]] else m:=rfl
  rw[hr3] at hst;clear hr3;obtain⟨ct,hct⟩:∃ct,(m.any fun y=>y.node==kn[k].node)=ct:=⟨_,rfl⟩;rw[hct] at hst hcf;clear hct;cases e1:decide ((m.length:Int)<(if 5<e then 5 else e)) with
  | false=>
    have e1':decide (((List.map Pl.c m).length:Int)<(if 5<e then 5 else e))=false:=by rw[List.length_map];exact e1
    rw[e1] at hst;simp only[Bool.false_and,Bool.false_eq_true,↓reduceIte] at hst;repeat' ((conv=>whnf);first|with_reducible apply aP|((with_reducible apply fk)<;>intro hc<;>try exact aZ)|((refine⟨_,dR _ _ _ GD,?_⟩))|(apply bA;refine⟨_,aG (hcf) ?_,?_⟩;exact bD)|refine aN ?_|fail)
    all_goals
     refine⟨⟨k+1,GD⟩,dec_lt GD,aH ?_⟩;simp only[hst];repeat' first|apply And.intro|exact aM|fail
     all_goals try (conv=>whnf)
    all_goals exact eW
  | true=>
    have e1':decide (((List.map Pl.c m).length:Int)<(if 5<e then 5 else e))=true:=by rw[List.length_map];exact e1
    rw[e1] at hst;cases ct with
    | true=>
      simp only[Bool.not_true,Bool.and_false,Bool.false_eq_true,↓reduceIte] at hst;repeat' ((conv=>whnf);first|with_reducible apply aP|((with_reducible apply fk)<;>intro hc<;>try exact aZ)|((refine⟨_,dR _ _ _ GD,?_⟩))|(apply bA;refine⟨_,aG (hcf) ?_,?_⟩;exact bD)|refine aN ?_|fail)
      all_goals
       refine⟨⟨k+1,GD⟩,dec_lt GD,aH ?_⟩;simp only[hst];repeat' first|apply And.intro|exact aM|fail
       all_goals try (conv=>whnf)
      all_goals exact eW
    | false=>
      simp only[Bool.not_false,Bool.and_self,↓reduceIte] at hst;repeat' ((conv=>whnf);first|with_reducible apply aP|((with_reducible apply fk)<;>intro hc<;>try exact aZ)|((refine⟨_,dR _ _ _ GD,?_⟩))|(apply bA;refine⟨_,aG (hcf) ?_,?_⟩;exact bD)|(((with_reducible apply And.intro);focus (simp only[fE,jQ,jR];omega)))|refine aN ?_|fail)
      all_goals
       refine⟨⟨k+1,GD⟩,dec_lt GD,aH ?_⟩;simp only[hst];repeat' first|apply And.intro|exact aM|fail
       all_goals try (conv=>whnf)
      all_goals first
       |exact eW
       | (rw[List.map_append]
          refine bW (aB _) ?_
          (repeat' first|apply And.intro|exact aM|fail);(all_goals try (conv=>whnf)))
 have ajY:k=kn.length:=by omega
 subst ajY;have d2:decide ((kn.length:Int)<(kn.length:Int))=false:=by simp
 dsimp only
 rw[List.take_length];subst hX;repeat' ((conv=>whnf);first|with_reducible apply aP|((with_reducible apply fk)<;>intro hc<;>try exact aZ)|refine aN ?_|fail)
 all_goals exact aM
theorem aaO {α:Type}(p:α→Bool):∀(l:List α) (n:Nat) (hn:n<l.length),p l[n]=false→(∀j (hj:j<l.length),j<n→p l[j]=true)→(l.takeWhile p).length=n
 |[],n,hn,_,_=>absurd hn (by simp)
 | x::r,0,_,h,_=>by
   have h:p x=false:=h;rw[List.takeWhile_cons,h];rfl
 | x::r,n+1,hn,h,h2=>by
   have h0:p x=true:=h2 0 (by simp) (by omega);rw[List.takeWhile_cons,h0];simp only[↓reduceIte,jQ];rw[aaO p r n (by simpa using hn) h (fun j hj hlt=>h2 (j+1) (by simpa using hj) (by omega))]
theorem aaP {α:Type}(p:α→Bool):∀(l:List α),(∀x∈l,p x=true)→(l.takeWhile p).length=l.length
 |[],_=>rfl
 | x::r,h=>by
   rw[List.takeWhile_cons,h x (by simp)];simp only[↓reduceIte,jQ];rw[aaP p r (fun y hy=>h y (by simp[hy]))]
theorem Jc {α:Type}(p:α→Bool)(l:List α):∃j,(l.takeWhile p).length=j∧((j=l.length∧uE (fun x=>!p x) l = -1)∨(j<l.length∧uE (fun x=>!p x) l=(j:Nat))):=by
 refine⟨_,rfl,?_⟩;rcases nk (fun x=>!p x) l with ⟨h1,h2⟩|⟨n,hn,h1,h2,h3⟩
 ·exact .inl ⟨aaP p l fun x hx=>by simpa using h2 x hx,h1⟩
 rw[aaO p l n hn (by simpa using h2) (fun j hj hlt=>by simpa using h3 j hj hlt)];exact .inr ⟨hn,h1⟩
def qx (w:Wr)(k:Nat):Int:=((w.waits.take k).getLast?.map (·.n)).getD w.sure
theorem SI:bR prog 132 f132:=fC func132
theorem NJ:bR prog 84 f84:=fC func84
theorem SK (w:Wr)(j:Nat)(hj:(w.waits.takeWhile (fI w)).length=j):kK w={ w with sure:=qx w j,waits:=w.waits.drop j }:=by
 have e1:=drop_take (fI w) w.waits;have e2:=getLast_take (fI w) w.waits;rw[hj] at e1 e2;unfold kK qx;rw[e1,e2]
theorem sub_eq {b v v' st lo lo' hi hi':Nat}(h1:v=v')(h2:lo=lo')(h3:hi=hi'):AV.sub b v st lo hi=AV.sub b v' st lo' hi':=by rw[h1,h2,h3]
theorem aaQ (w:Wr)(rb:List (List PV))(hf:bg w.l.af)(hw:∀x∈w.waits,gF x.n)(hl:w.waits.length≤1000)(j:Nat)(hj:(w.waits.takeWhile (fI w)).length=j) :
  dU prog 84 [.ptr 1 0] [(1,.var (pX w (.pv (cB w.l.af)) (.aO 2 0) (.pv (.sl false 2 rb)) (.pv fQ))),(2,.arr 145 0 5 (w.waits.map Wt.c))] (.pv (.cO []))
   [(1,.var (pX { w with sure:=qx w j } (.pv (cB w.l.af)) (.sub 2 0 5 j w.waits.length) (.pv (.sl false 2 rb)) (.pv fQ))),(2,.arr 145 0 5 (w.waits.map Wt.c))]:=by
 obtain⟨j0,h0,hix⟩:=Jc (fI w) w.waits;obtain rfl:j0=j:=h0.symm.trans hj;have hi:=Aj w.waits 162 [] [.dL [.fn (.func 133) [] [.dL [.dL (wkP w (rJ w.waits) (.sl false 2 rb) fQ) 0] 0]] 0] (fun x=>!(fI w x)) (fun x hx=>SF w _ _ _ x hf (hw x hx));have hjl:j0≤w.waits.length:=by rcases hix with ⟨e,_⟩|⟨e,_⟩<;>omega
 clear hj h0 hf;have dj:decide ((j0:Int)<0)=false:=by simp
 rcases hix with ⟨e1,e2⟩|⟨e1,e2⟩
 all_goals
  rw[e2] at hi;replace e1:=Hd.mk e1;clear e2;refine eO NJ ?_;repeat' ((conv=>whnf);first|with_reducible apply aP|((with_reducible apply fk)<;>intro hc<;>try exact aZ)|((refine Or.inr ?_;(conv=>whnf);refine⟨_,bZ vL (cZ mixed vL) SI rfl ?_,fun _ _ h=>h⟩))|(apply bA;refine⟨_,hi,?_⟩)|(((with_reducible apply And.intro);focus (simp only[fE,Int.toNat_natCast];omega)))|refine aN ?_|fail)
  clear hi;refine⟨{k:Nat // k≤j0},fun⟨k,_⟩=>⟨[(1,.ptr 1001 0),(3,.sub 2 0 5 j0 w.waits.length),(16,.sub 2 0 5 0 j0),(17,.pv (ii j0)),(18,.pv (ii k))],1000000000,[(1,.var (pX { w with sure:=qx w k } (.pv (cB w.l.af)) (.aO 2 0) (.pv (.sl false 2 rb)) (.pv fQ))),(2,.arr 145 0 5 (w.waits.map Wt.c)),(1001,.var [.ptr 1 0])]⟩,fun⟨k,_⟩=>j0-k,⟨⟨0,Nat.zero_le _⟩,aH ?_⟩,?_⟩
  ·repeat' first|apply And.intro|exact aM|fail
   all_goals try (conv=>whnf)
   all_goals
    have e1:=e1.out;first
     |exact sub_eq rfl (by simp only[fE,Int.toNat_natCast]<;>omega) (by simp only[fE,Int.toNat_natCast]<;>omega)
     |exact sub_eq rfl rfl (by simp only[fE,Int.toNat_natCast]<;>omega)
     |(simp only[jF,fE,Int.toNat_natCast,List.drop_zero,List.length_take];omega)
     |skip
  rintro⟨k,hk⟩
  by_cases hlt:k<j0
  ·have d0:decide ((k:Int)<(j0:Int))=true:=by simp only[iO];omega
   have eW:IntKind.i64.wrap ((k:Int)+1)=((k+1:Nat):Int):=by rw[bN (by omega) (by omega)];omega
   have hr:=dR Wt.c w.waits k (by omega);have hsk:qx w (k+1)=(w.waits[k]'(by omega)).n:=by
    unfold qx;rw[List.take_succ_eq_append_getElem (by omega),List.getLast?_append];rfl
   have hr:(w.waits.map Wt.c)[0+(k:Int).toNat]? = some (w.waits[k]'(by omega)).c:=by rw[Nat.zero_add];exact hr
   replace hsk:=Hd.mk hsk;repeat' ((conv=>whnf);first|with_reducible apply aP|((with_reducible apply fk)<;>intro hc<;>try exact aZ)|((refine⟨_,hr,?_⟩))|(((with_reducible apply And.intro);focus (simp only[Int.toNat_natCast];omega)))|refine aN ?_|fail)
   refine⟨⟨k+1,hlt⟩,dec_lt hlt,aH ?_⟩;repeat' first|apply And.intro|exact aM|fail
   all_goals try (conv=>whnf)
   all_goals first
    |exact eW
    |exact hsk.out.symm
    |exact hsk.out
    |skip
  have hke:k=j0:=by omega
  subst hke;have d0:decide ((k:Int)<(k:Int))=false:=by simp
  repeat' ((conv=>whnf);first|with_reducible apply aP|((with_reducible apply fk)<;>intro hc<;>try exact aZ)|refine aN ?_|fail)
  refine⟨_,_,⟨rfl,rfl⟩,?_⟩;all_goals exact aM
theorem aaR (w:Wr)  (hf:bg w.l.af)(hw:∀x∈w.waits,gF x.n)(hl:w.waits.length≤1000)(j:Nat)(hj:(w.waits.takeWhile (fI w)).length=j) :
  dU prog 84 [.ptr 1 0] [(1,.var (pX w (.pv (cB w.l.af)) (.aO 2 0) (.pv (fQ)) (.pv fQ))),(2,.arr 145 0 5 (w.waits.map Wt.c))] (.pv (.cO []))
   [(1,.var (pX { w with sure:=qx w j } (.pv (cB w.l.af)) (.sub 2 0 5 j w.waits.length) (.pv (fQ)) (.pv fQ))),(2,.arr 145 0 5 (w.waits.map Wt.c))]:=by
 obtain⟨j0,h0,hix⟩:=Jc (fI w) w.waits;obtain rfl:j0=j:=h0.symm.trans hj;have hi:=Aj w.waits 162 [] [.dL [.fn (.func 133) [] [.dL [.dL (wkP w (rJ w.waits) (fQ) fQ) 0] 0]] 0] (fun x=>!(fI w x)) (fun x hx=>SF w _ _ _ x hf (hw x hx));have hjl:j0≤w.waits.length:=by rcases hix with ⟨e,_⟩|⟨e,_⟩<;>omega
 clear hj h0 hf;have dj:decide ((j0:Int)<0)=false:=by simp
 rcases hix with ⟨e1,e2⟩|⟨e1,e2⟩
 all_goals
  rw[e2] at hi;replace e1:=Hd.mk e1;clear e2;refine eO NJ ?_;repeat' ((conv=>whnf);first|with_reducible apply aP|((with_reducible apply fk)<;>intro hc<;>try exact aZ)|((refine Or.inr ?_;(conv=>whnf);refine⟨_,bZ vL (cZ mixed vL) SI rfl ?_,fun _ _ h=>h⟩))|(apply bA;refine⟨_,hi,?_⟩)|(((with_reducible apply And.intro);focus (simp only[fE,Int.toNat_natCast];omega)))|refine aN ?_|fail)
  clear hi;refine⟨{k:Nat // k≤j0},fun⟨k,_⟩=>⟨[(1,.ptr 1001 0),(3,.sub 2 0 5 j0 w.waits.length),(16,.sub 2 0 5 0 j0),(17,.pv (ii j0)),(18,.pv (ii k))],1000000000,[(1,.var (pX { w with sure:=qx w k } (.pv (cB w.l.af)) (.aO 2 0) (.pv (fQ)) (.pv fQ))),(2,.arr 145 0 5 (w.waits.map Wt.c)),(1001,.var [.ptr 1 0])]⟩,fun⟨k,_⟩=>j0-k,⟨⟨0,Nat.zero_le _⟩,aH ?_⟩,?_⟩
  ·repeat' first|apply And.intro|exact aM|fail
   all_goals try (conv=>whnf)
   all_goals
    have e1:=e1.out;first
     |exact sub_eq rfl (by simp only[fE,Int.toNat_natCast]<;>omega) (by simp only[fE,Int.toNat_natCast]<;>omega)
     |exact sub_eq rfl rfl (by simp only[fE,Int.toNat_natCast]<;>omega)
     |(simp only[jF,fE,Int.toNat_natCast,List.drop_zero,List.length_take];omega)
     |skip
  rintro⟨k,hk⟩
  by_cases hlt:k<j0
  ·have d0:decide ((k:Int)<(j0:Int))=true:=by simp only[iO];omega
   have eW:IntKind.i64.wrap ((k:Int)+1)=((k+1:Nat):Int):=by rw[bN (by omega) (by omega)];omega
   have hr:=dR Wt.c w.waits k (by omega);have hsk:qx w (k+1)=(w.waits[k]'(by omega)).n:=by
    unfold qx;rw[List.take_succ_eq_append_getElem (by omega),List.getLast?_append];rfl
   have hr:(w.waits.map Wt.c)[0+(k:Int).toNat]? = some (w.waits[k]'(by omega)).c:=by rw[Nat.zero_add];exact hr
   replace hsk:=Hd.mk hsk;repeat' ((conv=>whnf);first|with_reducible apply aP|((with_reducible apply fk)<;>intro hc<;>try exact aZ)|((refine⟨_,hr,?_⟩))|(((with_reducible apply And.intro);focus (simp only[Int.toNat_natCast];omega)))|refine aN ?_|fail)
   refine⟨⟨k+1,hlt⟩,dec_lt hlt,aH ?_⟩;repeat' first|apply And.intro|exact aM|fail
   all_goals try (conv=>whnf)
   all_goals first
    |exact eW
    |exact hsk.out.symm
    |exact hsk.out
    |skip
  have hke:k=j0:=by omega
  subst hke;have d0:decide ((k:Int)<(k:Int))=false:=by simp
  repeat' ((conv=>whnf);first|with_reducible apply aP|((with_reducible apply fk)<;>intro hc<;>try exact aZ)|refine aN ?_|fail)
  refine⟨_,_,⟨rfl,rfl⟩,?_⟩;all_goals exact aM
end Go.Proofs.YtfoiekbkkbnpkaaGreat.Tb
end
section
namespace Go.Proofs
open Go.Shelf
def Tryz.sortPl_ren:Go.Shelf.Ren:=⟨fun|6=>179|15=>188|14=>187|28=>200|29=>201|20=>192|21=>193|22=>194|23=>195|24=>196|25=>197|26=>198|27=>199|46=>202|47=>203|48=>204|49=>205|50=>206|57=>207|n=>n,fun|22=>28|24=>27|25=>226|3=>3|39=>234|0=>0|53=>245|55=>22|4=>4|46=>238|45=>237|50=>242|5=>5|9=>9|66=>247|70=>251|76=>253|77=>254|n=>n,fun|n=>n⟩
theorem Tryz.sortPl:Go.Proofs.SlLaysF0.n6 Tryz.prog Tryz.sortPl_ren:={
 mixed:=by kernel_rfl
 f6:=⟨Tryz.f179.name,by decide,Tryz.func179.trans (congrArg some (by kernel_rfl))⟩
 f14:=⟨Tryz.f187.name,by decide,Tryz.func187.trans (congrArg some (by kernel_rfl))⟩
 f15:=Tryz.func188.trans (congrArg some (by kernel_rfl))
 f20:=⟨Tryz.f192.name,by decide,Tryz.func192.trans (congrArg some (by kernel_rfl))⟩
 f21:=⟨Tryz.f193.name,by decide,Tryz.func193.trans (congrArg some (by kernel_rfl))⟩
 f22:=⟨Tryz.f194.name,by decide,Tryz.func194.trans (congrArg some (by kernel_rfl))⟩
 f23:=⟨Tryz.f195.name,by decide,Tryz.func195.trans (congrArg some (by kernel_rfl))⟩
 f24:=⟨Tryz.f196.name,by decide,Tryz.func196.trans (congrArg some (by kernel_rfl))⟩
 f25:=⟨Tryz.f197.name,by decide,Tryz.func197.trans (congrArg some (by kernel_rfl))⟩
 f26:=⟨Tryz.f198.name,by decide,Tryz.func198.trans (congrArg some (by kernel_rfl))⟩
 f27:=⟨Tryz.f199.name,by decide,Tryz.func199.trans (congrArg some (by kernel_rfl))⟩
 f28:=Tryz.func200.trans (congrArg some (by kernel_rfl))
 f29:=Tryz.func201.trans (congrArg some (by kernel_rfl))
 f46:=⟨Tryz.f202.name,by decide,Tryz.func202.trans (congrArg some (by kernel_rfl))⟩
 f47:=Tryz.func203.trans (congrArg some (by kernel_rfl))
 f48:=Tryz.func204.trans (congrArg some (by kernel_rfl))
 f49:=⟨Tryz.f205.name,by decide,Tryz.func205.trans (congrArg some (by kernel_rfl))⟩
 f50:=⟨Tryz.f206.name,by decide,Tryz.func206.trans (congrArg some (by kernel_rfl))⟩
 f57:=⟨Tryz.f207.name,by decide,Tryz.func207.trans (congrArg some (by kernel_rfl))⟩
 t0:=Tryz.underlying0
 a0:=Tryz.isAgg0
 z0:=Tryz.sizeOf0
 v0:=Tryz.zeroValue0
 t3:=Tryz.underlying3
 a3:=Tryz.isAgg3
 z3:=Tryz.sizeOf3
 v3:=Tryz.zeroValue3
 t4:=Tryz.underlying4
 a4:=Tryz.isAgg4
 z4:=Tryz.sizeOf4
 v4:=Tryz.zeroValue4
 t5:=Tryz.underlying5
 a5:=Tryz.isAgg5
 z5:=Tryz.sizeOf5
 v5:=Tryz.zeroValue5
 t9:=Tryz.underlying9
 a9:=Tryz.isAgg9
 z9:=Tryz.sizeOf9
 v9:=Tryz.zeroValue9
 t22:=Tryz.underlying28
 a22:=Tryz.isAgg28
 z22:=Tryz.sizeOf28
 v22:=Tryz.zeroValue28
 t25:=Tryz.underlying226
 a25:=Tryz.isAgg226
 z25:=Tryz.sizeOf226
 v25:=Tryz.zeroValue226
 t39:=Tryz.underlying234
 a39:=Tryz.isAgg234
 z39:=Tryz.sizeOf234
 v39:=Tryz.zeroValue234
 t45:=Tryz.underlying237
 a45:=Tryz.isAgg237
 z45:=Tryz.sizeOf237
 v45:=Tryz.zeroValue237
 t46:=Tryz.underlying238
 a46:=Tryz.isAgg238
 z46:=Tryz.sizeOf238
 v46:=Tryz.zeroValue238
 t50:=Tryz.underlying242
 a50:=Tryz.isAgg242
 z50:=Tryz.sizeOf242
 v50:=Tryz.zeroValue242
 t53:=Tryz.underlying245
 a53:=Tryz.isAgg245
 z53:=Tryz.sizeOf245
 v53:=Tryz.zeroValue245
 t55:=Tryz.underlying22
 a55:=Tryz.isAgg22
 z55:=Tryz.sizeOf22
 v55:=Tryz.zeroValue22
 t66:=Tryz.underlying247
 a66:=Tryz.isAgg247
 z66:=Tryz.sizeOf247
 v66:=Tryz.zeroValue247
 t70:=Tryz.underlying251
 a70:=Tryz.isAgg251
 z70:=Tryz.sizeOf251
 v70:=Tryz.zeroValue251
 t76:=Tryz.underlying253
 a76:=Tryz.isAgg253
 z76:=Tryz.sizeOf253
 v76:=Tryz.zeroValue253
 t77:=Tryz.underlying254
 a77:=Tryz.isAgg254
 z77:=Tryz.sizeOf254
 v77:=Tryz.zeroValue254 }
end Go.Proofs
end
section
open Go Go.Proofs.Tryz Go.AX Go.Sort Go.Shelf Go.RowKit Go.Lib
namespace Go.Proofs.YtfoiekbkkbnpkaaGreat.Tb
def UU (x:Pl):List Value:=[.int .i64 x.node,.int .u64 x.aI]
theorem afc (a b c d:Int)(W:World):Calls prog 180 #[.agg #[.int .i64 a,.int .u64 b],.agg #[.int .i64 c,.int .u64 d]] W fun e w'=>e=.returned (.int .i64 (Lib.compareInt a c))∧∃q os',w'=grow (W.drewN q) os':=by
 go_enter func180,Tryz.ntmps180
 go_wp2
 all_goals
  go_ret
  refine⟨?_,0,_,by rw[alloc_eq_grow,alloc_eq_grow,grow_grow];rfl⟩;simp_all [Lib.compareInt];try omega
theorem ahp (x y:Pl)(W:World):Calls prog 180 #[.agg (UU x).toArray,.agg (UU y).toArray] W fun e w'=>e=.returned (.int .i64 (Co x y))∧∃q os',w'=grow (W.drewN q) os':=
 afc x.node x.aI y.node y.aI W
theorem UW:dB prog 188 [.sc (.int .u64 0)] (.sc (.int .i64 0)):=by
 refine⟨⟨_,func188,rfl,by decide⟩,fun F w dz _ ha=>?_⟩;obtain⟨v,r,e,hv,hr⟩:=ha;simp only[bJ] at hv;subst hv;simp only[eY] at hr;subst hr;have:dz = #[.int .u64 0]:=by rw[←Array.toList_inj,e]
 subst this;have h:=Any.bits_Len (SlLaysF0.n15.bits (P:=prog) (ρ:=Tryz.sortPl_ren) { Tryz.sortPl with }) 0 w (by omega) (by omega);refine h.mono fun e w' ⟨he,hw⟩=>⟨_,_,he,rfl,by simp only[bJ];rfl,by subst hw;exact mr.refl _ _⟩
theorem Qd:bR prog 192 f192:=fC func192
theorem Kl (f:Fn):dB prog 192 [.sc (.slice none 0 0),ii 0,ii 0,.fn f [] []] unit:=by
 refine PC.le ?_;refine dP Qd ?_;repeat' ((conv=>whnf);first|with_reducible apply aP|((with_reducible apply fk)<;>intro hc<;>try exact aZ)|refine aN ?_|fail)
 refine⟨Unit,fun _=>⟨[(0,.pv (.sc (.slice none 0 0))),(1,.pv (ii 0)),(2,.pv (ii 0)),(3,.pv (.fn f [] [])),(8,.pv (ii 1))],1000000000,[]⟩,fun _=>0,⟨(),aH ?_⟩,?_⟩
 ·all_goals exact aM
 rintro⟨⟩
 repeat' ((conv=>whnf);first|with_reducible apply aP|((with_reducible apply fk)<;>intro hc<;>try exact aZ)|refine aN ?_|fail)
 all_goals exact aM
theorem Qe:bR prog 187 f187:=fC func187
theorem Y4 (f:Fn):dB prog 187 [.sc (.slice none 0 0),ii 0,ii 0,ii 0,.fn f [] []] unit:=by
 refine PC.le ?_;refine dP Qe ?_;repeat' ((conv=>whnf);first|with_reducible apply aP|((with_reducible apply fk)<;>intro hc<;>try exact aZ)|refine aN ?_|fail)
 refine⟨Unit,fun _=>⟨[(0,.pv (.sc (.slice none 0 0))),(1,.pv (ii 0)),(2,.pv (ii 0)),(3,.pv (ii 0)),(4,.pv (.fn f [] [])),(10,.pv (bl true)),(11,.pv (bl true))],1000000000,[]⟩,fun _=>0,⟨(),aH ?_⟩,?_⟩
 ·all_goals exact aM
 rintro⟨⟩
 repeat' ((conv=>whnf);first|with_reducible apply aP|((with_reducible apply fk)<;>intro hc<;>try exact aZ)|(apply bA;refine⟨_,Kl f,?_⟩)|refine aN ?_|fail)
 all_goals exact aM
theorem Y5:bR prog 179 f179:=fC func179
theorem UX (f:Fn):dB prog 179 [.sc (.slice none 0 0),.fn f [] []] unit:=by
 refine PC.le ?_;refine dP Y5 ?_;repeat' ((conv=>whnf);first|with_reducible apply aP|((with_reducible apply fk)<;>intro hc<;>try exact aZ)|(apply bA;refine⟨_,UW,?_⟩)|(apply bA;refine⟨_,Y4 f,?_⟩)|refine aN ?_|fail)
 all_goals exact aM
theorem MZ (l:List Pl)(h:l.length≤8796093022208):dU prog 179 [.aO 1 0,.pv (.fn (.func 180) [] [])] [(1,.arr 27 0 2 (l.map Pl.c))] (.pv unit)
  [(1,.arr 27 0 2 ((sortPl l).map Pl.c))]:=by
 have eg:∀args w,(callFunc 180 args).run prog w=.ok (.enter 180 args) w:=enters_of func180 (by kernel_rfl) rfl;exact abA (enc:=UU) (st:=2) zB (by decide) (fun _=>rfl) (fun x v hv=>by simp[UU] at hv;rcases hv with rfl|rfl<;>rfl) ET
  (fun blk cap d w hH hblk hsz=>AnyQ.slices_SortFunc_eq Tryz.sortPl 2 Tryz.isAgg27 Tryz.sizeOf27 UU (fun _=>rfl) (fun x v hv=>by simp[UU] at hv;rcases hv with rfl|rfl<;>rfl) Co adx 180 #[] blk 0 cap d w eg
   (fun _ _ _ _ x y=>ahp x y _) hH hblk hsz) (UX _) l (by omega)
end Go.Proofs.YtfoiekbkkbnpkaaGreat.Tb
end
section
open Go Go.Proofs.Tryz Go.AX
namespace Go.Proofs.YtfoiekbkkbnpkaaGreat.Tb
theorem YZ:bR prog 120 f120:=fC func120
theorem Kb (n l m:Int):dB prog 120 [uu n,uu l,uu m] (bl (dI n l m)):=by
 refine PC.le ?_;refine dP YZ ?_;repeat' ((conv=>whnf);first|with_reducible apply aP|((with_reducible apply fk)<;>intro hc<;>try exact aZ)|refine aN ?_|fail)
 all_goals
  repeat' first|apply And.intro|exact aM|fail
  all_goals try (conv=>whnf)
  simp_all [dI]
 omega
theorem Y0:bR prog 121 f121:=fC func121
theorem zX (n l m:Int):dB prog 121 [ii n,ii l,ii m] (bl (dI n l m)):=by
 refine PC.le ?_;refine dP Y0 ?_;repeat' ((conv=>whnf);first|with_reducible apply aP|((with_reducible apply fk)<;>intro hc<;>try exact aZ)|refine aN ?_|fail)
 all_goals
  repeat' first|apply And.intro|exact aM|fail
  all_goals try (conv=>whnf)
  simp_all [dI]
 omega
theorem Y1:bR prog 183 f183:=fC func183
theorem acn (a b:Int):dB prog 183 [.agg [ii a,uu b]] (bl (vg ⟨a,b⟩)):=by
 refine PC.le ?_;refine dP Y1 ?_;repeat' ((conv=>whnf);first|with_reducible apply aP|((with_reducible apply fk)<;>intro hc<;>try exact aZ)|(apply bA;refine⟨_,zX _ _ _,?_⟩)|(apply bA;refine⟨_,Kb _ _ _,?_⟩)|refine aN ?_|fail)
 all_goals
  repeat' first|apply And.intro|exact aM|fail
  all_goals try (conv=>whnf)
  simp_all [vg]
theorem Kc:bR prog 190 f190:=fC func190
theorem MS (x:Pl)(f:FuncId)(first bF:List PV)(p:Pl→Bool)(hp:dB prog f (first++([.agg x.c]++bF)) (bl (p x))) :
  dB prog 190 ([]++([.agg x.c]++[.dL [.fn (.func f) first bF] 0])) (bl (!p x)):=by
 refine PC.le ?_;refine dP Kc ?_;repeat' ((conv=>whnf);first|with_reducible apply aP|((with_reducible apply fk)<;>intro hc<;>try exact aZ)|(apply bA;refine⟨_,hp,?_⟩)|refine aN ?_|fail)
 all_goals exact aM
theorem MU:bR prog 182 f182:=fC func182
theorem P7 (l:List Pl)(f:FuncId)(first bF:List PV)(p:Pl→Bool)(hp:∀x∈l,dB prog f (first++([.agg x.c]++bF)) (bl (p x))) :
  dB prog 182 [ax l,.fn (.func f) first bF] (bl (l.all p)):=by
 refine PC.le ?_;refine dP MU ?_;repeat' ((conv=>whnf);first|with_reducible apply aP|((with_reducible apply fk)<;>intro hc<;>try exact aZ)|(apply bA;refine⟨_,nQ _ _ _ _ _ fun x hx=>MS x _ _ _ p (hp x hx),?_⟩)|refine aN ?_|fail)
 repeat' first|apply And.intro|exact aM|fail
 all_goals try (conv=>whnf)
 rw[List.not_any_eq_all_not];simp
theorem MV:bR prog 178 f178:=fC func178
theorem P8 (x:Fr)(f:FuncId)(first bF:List PV)(p:Fr→Bool)(hp:dB prog f (first++([.agg x.c]++bF)) (bl (p x))) :
  dB prog 178 ([]++([.agg x.c]++[.dL [.fn (.func f) first bF] 0])) (bl (!p x)):=by
 refine PC.le ?_;refine dP MV ?_;repeat' ((conv=>whnf);first|with_reducible apply aP|((with_reducible apply fk)<;>intro hc<;>try exact aZ)|(apply bA;refine⟨_,hp,?_⟩)|refine aN ?_|fail)
 all_goals exact aM
theorem P9:bR prog 155 f155:=fC func155
theorem UO (l:List Fr)(f:FuncId)(first bF:List PV)(p:Fr→Bool)(hp:∀x∈l,dB prog f (first++([.agg x.c]++bF)) (bl (p x))) :
  dB prog 155 [cB l,.fn (.func f) first bF] (bl (l.all p)):=by
 refine PC.le ?_;refine dP P9 ?_;repeat' ((conv=>whnf);first|with_reducible apply aP|((with_reducible apply fk)<;>intro hc<;>try exact aZ)|(apply bA;refine⟨_,pO _ _ _ _ _ fun x hx=>P8 x _ _ _ p (hp x hx),?_⟩)|refine aN ?_|fail)
 repeat' first|apply And.intro|exact aM|fail
 all_goals try (conv=>whnf)
 rw[List.not_any_eq_all_not];simp
theorem zY:bR prog 184 f184:=fC func184
theorem MW (l:List Pl)(f:FuncId)(first bF:List PV)(key:Pl→Int)(hp:∀x∈l,dB prog f (first++([.agg x.c]++bF)) (ii (key x))) :
  dB prog 184 [ax l,.fn (.func f) first bF] (bl (decide (l.Pairwise fun a b=>key a<key b))):=by
 refine PC.le (qg zY fun hb=>?_);have hb:l.length≤9223372036854775807:=by simpa[JF,DL,ax] using hb
 refine dP zY ?_;repeat' ((conv=>whnf);first|with_reducible apply aP|((with_reducible apply fk)<;>intro hc<;>try exact aZ)|refine aN ?_|fail)
 refine⟨{k:Nat // (k+1≤l.length∨k=0)∧∀j (hj:j+1<l.length),j<k→key (l[j]'(by omega))<key l[j+1]},fun⟨k,_⟩=>⟨[(0,.pv (ax l)),(1,.pv (.fn (.func f) first bF)),(5,.pv (ii ((k+1:Nat):Int)))],1000000000,[]⟩,fun⟨k,_⟩=>l.length-k,⟨⟨0,by simp⟩,aH ?_⟩,?_⟩
 ·all_goals exact aM
 rintro⟨k,hk,hn⟩
 repeat' ((conv=>whnf);first|with_reducible apply aP|((with_reducible apply fk)<;>intro hc<;>try exact aZ)|refine aN ?_|fail)
 ·have hlt:k+1<l.length:=by simp at hc;omega
  have e1:IntKind.i64.wrap (((k+1:Nat):Int)-1)=((k:Nat):Int):=by rw[bN (by omega) (by omega)];omega
  repeat' ((conv=>whnf);first|with_reducible apply aP|((with_reducible apply fk)<;>intro hc<;>try exact aZ)|((refine⟨by rw[e1];omega,_,O6 _ _ e1 (by omega),?_⟩))|refine aN ?_|fail)
  repeat' ((conv=>whnf);first|with_reducible apply aP|((with_reducible apply fk)<;>intro hc<;>try exact aZ)|(apply bA;refine⟨_,hp _ (List.getElem_mem _),?_⟩)|refine aN ?_|fail)
  refine⟨_,dR _ _ _ hlt,?_⟩;repeat' ((conv=>whnf);first|with_reducible apply aP|((with_reducible apply fk)<;>intro hc<;>try exact aZ)|(apply bA;refine⟨_,hp _ (List.getElem_mem _),?_⟩)|refine aN ?_|fail)
  ·repeat' first|apply And.intro|exact aM|fail
   all_goals try (conv=>whnf)
   simp at hc;simp;intro hp;have:=List.pairwise_iff_getElem.1 hp k (k+1) (by omega) hlt (by omega);omega
  repeat' ((conv=>whnf);first|with_reducible apply aP|((with_reducible apply fk)<;>intro hc<;>try exact aZ)|refine aN ?_|fail)
  refine⟨⟨k+1,.inl hlt,?_⟩,dec_lt (by omega),aH ?_⟩
  ·intro j hj hjk;rcases Nat.lt_succ_iff_lt_or_eq.1 hjk with hj'|rfl
   ·exact hn j hj hj'
   simp at hc;exact hc
  repeat' first|apply And.intro|exact aM|fail
  all_goals try (conv=>whnf)
  rw[bN (by omega) (by omega)];omega
 repeat' first|apply And.intro|exact aM|fail
 all_goals try (conv=>whnf)
 simp at hc;simp;exact sZ fun j hj=>hn j hj (by omega)
theorem C9:bR prog 158 f158:=fC func158
theorem Qa (l:List Fr)(f:FuncId)(first bF:List PV)(key:Fr→Int)(hp:∀x∈l,dB prog f (first++([.agg x.c]++bF)) (uu (key x))) :
  dB prog 158 [cB l,.fn (.func f) first bF] (bl (decide (l.Pairwise fun a b=>key a<key b))):=by
 refine PC.le (qg C9 fun hb=>?_);have hb:l.length≤9223372036854775807:=by simpa[JF,DL,cB] using hb
 refine dP C9 ?_;repeat' ((conv=>whnf);first|with_reducible apply aP|((with_reducible apply fk)<;>intro hc<;>try exact aZ)|refine aN ?_|fail)
 refine⟨{k:Nat // (k+1≤l.length∨k=0)∧∀j (hj:j+1<l.length),j<k→key (l[j]'(by omega))<key l[j+1]},fun⟨k,_⟩=>⟨[(0,.pv (cB l)),(1,.pv (.fn (.func f) first bF)),(5,.pv (ii ((k+1:Nat):Int)))],1000000000,[]⟩,fun⟨k,_⟩=>l.length-k,⟨⟨0,by simp⟩,aH ?_⟩,?_⟩
 ·all_goals exact aM
 rintro⟨k,hk,hn⟩
 repeat' ((conv=>whnf);first|with_reducible apply aP|((with_reducible apply fk)<;>intro hc<;>try exact aZ)|refine aN ?_|fail)
 ·have hlt:k+1<l.length:=by simp at hc;omega
  have e1:IntKind.i64.wrap (((k+1:Nat):Int)-1)=((k:Nat):Int):=by rw[bN (by omega) (by omega)];omega
  repeat' ((conv=>whnf);first|with_reducible apply aP|((with_reducible apply fk)<;>intro hc<;>try exact aZ)|((refine⟨by rw[e1];omega,_,O6 _ _ e1 (by omega),?_⟩))|refine aN ?_|fail)
  repeat' ((conv=>whnf);first|with_reducible apply aP|((with_reducible apply fk)<;>intro hc<;>try exact aZ)|(apply bA;refine⟨_,hp _ (List.getElem_mem _),?_⟩)|refine aN ?_|fail)
  refine⟨_,dR _ _ _ hlt,?_⟩;repeat' ((conv=>whnf);first|with_reducible apply aP|((with_reducible apply fk)<;>intro hc<;>try exact aZ)|(apply bA;refine⟨_,hp _ (List.getElem_mem _),?_⟩)|refine aN ?_|fail)
  ·repeat' first|apply And.intro|exact aM|fail
   all_goals try (conv=>whnf)
   simp at hc;simp;intro hp;have:=List.pairwise_iff_getElem.1 hp k (k+1) (by omega) hlt (by omega);omega
  repeat' ((conv=>whnf);first|with_reducible apply aP|((with_reducible apply fk)<;>intro hc<;>try exact aZ)|refine aN ?_|fail)
  refine⟨⟨k+1,.inl hlt,?_⟩,dec_lt (by omega),aH ?_⟩
  ·intro j hj hjk;rcases Nat.lt_succ_iff_lt_or_eq.1 hjk with hj'|rfl
   ·exact hn j hj hj'
   simp at hc;exact hc
  repeat' first|apply And.intro|exact aM|fail
  all_goals try (conv=>whnf)
  rw[bN (by omega) (by omega)];omega
 repeat' first|apply And.intro|exact aM|fail
 all_goals try (conv=>whnf)
 simp at hc;simp;exact sZ fun j hj=>hn j hj (by omega)
theorem Y2:bR prog 185 f185:=fC func185
theorem aco (a b:Int):dB prog 185 ([]++([.agg [ii a,uu b]]++[])) (ii a):=by
 refine PC.le ?_;refine dP Y2 ?_;repeat' ((conv=>whnf);first|with_reducible apply aP|((with_reducible apply fk)<;>intro hc<;>try exact aZ)|refine aN ?_|fail)
 all_goals exact aM
theorem Ke:bR prog 159 f159:=fC func159
theorem MX (x:Fr):dB prog 159 ([]++([.agg x.c]++[])) (uu x.first):=by
 refine PC.le ?_;refine dP Ke ?_;repeat' ((conv=>whnf);first|with_reducible apply aP|((with_reducible apply fk)<;>intro hc<;>try exact aZ)|refine aN ?_|fail)
 all_goals exact aM
theorem acp:bR prog 157 f157:=fC func157
theorem afa (w n:Int)(l:List Pl)(h:l.length≤8796093022208):dB prog 157 [ii w,.agg [uu n,ax l]] (bl (kW w ⟨n,l⟩)):=by
 refine PC.le ?_;refine dP acp ?_;repeat' ((conv=>whnf);first|with_reducible apply aP|((with_reducible apply fk)<;>intro hc<;>try exact aZ)|(apply dn;refine⟨_,_,fJ _ (by omega),?_⟩)|(apply dn;refine⟨_,_,MZ _ (by omega),?_⟩)|(apply bA;refine⟨_,Kb _ _ _,?_⟩)|(apply bA;refine⟨_,zX _ _ _,?_⟩)|(apply bA;refine⟨_,P7 _ _ _ _ vg fun x _=>acn x.node x.aI,?_⟩)|(apply bA;refine⟨_,MW _ _ _ _ (·.node) fun x _=>aco _ _,?_⟩)|refine aN ?_|fail)
 all_goals
  repeat' first|apply And.intro|exact aM|fail
  all_goals try (conv=>whnf)
  simp_all only[kW,←LQ,Bool.and_true,Bool.and_false,Bool.true_and,Bool.false_and,List.length_map]
theorem Kg:bR prog 156 f156:=fC func156
theorem M0 (w:Int)(x:Fr)(h:x.ah.length≤8796093022208):dB prog 156 ([]++([.agg x.c]++[.dL [ii w] 0])) (bl (kW w x)):=by
 refine PC.le ?_;refine dP Kg ?_;repeat' ((conv=>whnf);first|with_reducible apply aP|((with_reducible apply fk)<;>intro hc<;>try exact aZ)|(apply bA;refine⟨_,afa _ _ _ h,?_⟩)|refine aN ?_|fail)
 all_goals exact aM
theorem M4:bR prog 122 f122:=fC func122
theorem Qb (w:Int)(l:List Fr)(h:∀x∈l,x.ah.length≤8796093022208):dB prog 122 [ii w,cB l] (bl (dA w l)):=by
 refine PC.le ?_;refine dP M4 ?_;cases l with
 | nil=>
   repeat' ((conv=>whnf);first|with_reducible apply aP|((with_reducible apply fk)<;>intro hc<;>try exact aZ)|(apply bA;refine⟨_,zX _ _ _,?_⟩)|refine aN ?_|fail)
   all_goals
    repeat' first|apply And.intro|exact aM|fail
    all_goals try (conv=>whnf)
    all_goals simp[dA,dI]
 | cons x r=>
   repeat' ((conv=>whnf);first|with_reducible apply aP|((with_reducible apply fk)<;>intro hc<;>try exact aZ)|(apply bA;refine⟨_,zX _ _ _,?_⟩)|(apply bA;refine⟨_,UO _ _ _ _ _ fun x hx=>M0 w x (h x hx),?_⟩)|(apply bA;refine⟨_,Qa _ _ _ _ (·.first) fun x _=>MX x,?_⟩)|((refine⟨_,rfl,?_⟩))|refine aN ?_|fail)
   all_goals
    repeat' first|apply And.intro|exact aM|fail
    all_goals try (conv=>whnf)
    simp_all only[dA,qE,List.length_map,Bool.true_and,Bool.false_and,Bool.and_true]
theorem Kh:bR prog 68 f68:=fC func68
theorem Da (l:Lg)(h:l.ok):dB prog 68 [.agg l.c] (bl (AX.d9 l)):=by
 refine PC.le ?_;refine dP Kh ?_;repeat' ((conv=>whnf);first|with_reducible apply aP|((with_reducible apply fk)<;>intro hc<;>try exact aZ)|(apply bA;refine⟨_,zX _ _ _,?_⟩)|(apply bA;refine⟨_,Kb _ _ _,?_⟩)|(apply bA;refine⟨_,Qb _ _ h,?_⟩)|refine aN ?_|fail)
 all_goals
  repeat' first|apply And.intro|exact aM|fail
  all_goals try (conv=>whnf)
  try (simp only[AX.d9, *,Bool.true_and,Bool.false_and];done)
 have hq:0≤l.closed∧l.closed≤1:=by simpa[dI] using hc
 simp only[AX.d9, *,Bool.true_and];rw[gX hq.1 (by omega),gX (by omega) (by omega)]
def wr0:Wr:=⟨⟨0,0,0,[],0,0⟩,0,0,0,[],[],kQ,0⟩
theorem Al:bR prog 20 f20:=fC func20
theorem ac7 (l:Lg)(au:Int):Fp l au=if (!AX.d9 l||((l.closed != 0)||(decide (au<1)||decide (au>4611686018427387903))))=true then none else some ⟨l,au,1,0,[],[],kQ,0⟩:=by
 have h:(AX.d9 l&&((l.closed==0)&&dI au 1 4611686018427387903)) = !(!AX.d9 l||((l.closed != 0)||(decide (au<1)||decide (au>4611686018427387903)))):=by
  rw[Bool.eq_iff_iff];unfold dI;cases AX.d9 l<;>simp
 unfold Fp;rw[h];cases (!AX.d9 l||((l.closed != 0)||(decide (au<1)||decide (au>4611686018427387903))))<;>rfl
theorem Zl (l:Lg)(au:Int)(hok:l.ok)(hfr:AX.d9 l=true→l.af.length≤1000∧(∀f∈l.af,f.ah.length≤1000)∧bg l.af) :
  dB prog 20 [.agg l.c,uu au] (.cO [.agg ((Fp l au).getD wr0).c,ii (if (Fp l au).isSome then 0 else 1)]):=by
 refine PC.le ?_;have Aq:=Da l hok;rw[ac7];cases e1:AX.d9 l with
 | false=>
   rw[e1] at Aq;clear hfr hok e1;refine dP Al ?_;repeat' ((conv=>whnf);first|with_reducible apply aP|((with_reducible apply fk)<;>intro hc<;>try exact gK)|(apply bA;refine⟨_,Aq,?_⟩)|refine aN ?_|fail)
   all_goals exact aM
 |true=>
 obtain⟨h1,h2,h3⟩:=hfr e1;rw[e1] at Aq;clear hfr hok e1;cases e2:(l.closed != 0) with
 | true=>
   refine dP Al ?_;repeat' ((conv=>whnf);first|with_reducible apply aP|((with_reducible apply fk)<;>intro hc<;>try exact gK)|(apply bA;refine⟨_,Aq,?_⟩)|refine aN ?_|fail)
   all_goals exact aM
 |false=>
 cases e3:decide (au<1) with
 | true=>
   refine dP Al ?_;repeat' ((conv=>whnf);first|with_reducible apply aP|((with_reducible apply fk)<;>intro hc<;>try exact gK)|(apply bA;refine⟨_,Aq,?_⟩)|refine aN ?_|fail)
   all_goals exact aM
 |false=>
 cases e4:decide (au>4611686018427387903) with
 | true=>
   refine dP Al ?_;repeat' ((conv=>whnf);first|with_reducible apply aP|((with_reducible apply fk)<;>intro hc<;>try exact gK)|(apply bA;refine⟨_,Aq,?_⟩)|refine aN ?_|fail)
   all_goals exact aM
 |false=>
 have how:=tV ⟨l,au,1,0,[],[],kQ,0⟩ ⟨h1,h2,h3,by simp,by simp,by simp,by simp[kQ]⟩;clear h1 h2 h3;refine dP Al ?_;repeat' ((conv=>whnf);first|with_reducible apply aP|((with_reducible apply fk)<;>intro hc<;>try exact gK)|(apply bA;refine⟨_,Aq,?_⟩)|(apply dn;refine⟨_,_,av (how) ?_,?_⟩;exact bD)|refine aN ?_|fail)
 all_goals exact aM
theorem Am:bR prog 64 f64:=fC func64
theorem acv (w:Wr)(now:Int)(b:List UInt8)(h:WrB w)(dx:gF now)(hnx:gF w.next)(hb:b.length≤100000)(hs:(eT w w.next).length≤1000) :
  dB prog 64 [.agg w.c,uu now,Cn b] (.cO [.agg (gP w now b).1.c,kD (gP w now b).2.1,ii (gP w now b).2.2]):=by
 refine PC.le ?_;have hN:=tV w h;have hfu:=ac4 w;have eL:((List.map kX b).length:Int)=(b.length:Int):=by rw[List.length_map]
 cases e1:(w.fenced==1) with
 | true=>
   have e:gP w now b=(w,[],5):=by unfold gP;rw[if_pos (by simpa using e1)]
   rw[e];refine dP Am ?_;repeat' ((conv=>whnf);first|with_reducible apply aP|((with_reducible apply fk)<;>intro hc<;>try exact aZ)|(apply dn;refine⟨_,_,av (hN) ?_,?_⟩;exact bD)|refine aN ?_|fail)
   all_goals exact aM
 |false=>
 cases e2:decide (((List.map kX b).length:Int)>2048) with
 | true=>
   have e:gP w now b=(w,[],7):=by unfold gP;rw[if_neg (by simpa using e1),if_pos (by rw[eL] at e2;simpa using e2)]
   rw[e];clear eL;refine dP Am ?_;repeat' ((conv=>whnf);first|with_reducible apply aP|((with_reducible apply fk)<;>intro hc<;>try exact aZ)|(apply dn;refine⟨_,_,av (hN) ?_,?_⟩;exact bD)|refine aN ?_|fail)
   all_goals exact aM
 |false=>
 cases e3:decide (w.next>8) with
 | true=>
   have e:gP w now b=(w,[],3):=by unfold gP;rw[if_neg (by simpa using e1),if_neg (by rw[eL] at e2;simpa using e2),if_pos (by simpa using e3)]
   rw[e];rw[e3] at hfu;clear eL;refine dP Am ?_;repeat' ((conv=>whnf);first|with_reducible apply aP|((with_reducible apply fk)<;>intro hc<;>try exact aZ)|(apply dn;refine⟨_,_,av (hN) ?_,?_⟩;exact bD)|(apply bA;refine⟨_,hfu,?_⟩)|refine aN ?_|fail)
   all_goals exact aM
 | false=>
   have e:gP w now b=({ w with waits:=w.waits++[⟨w.next,b,[],now,now⟩],next:=w.next+1 },kJ w ⟨w.next,b,[],now,0⟩,0):=by unfold gP;rw[if_neg (by simpa using e1),if_neg (by rw[eL] at e2;simpa using e2),if_neg (by simpa using e3)];rfl
   rw[e];rw[e3] at hfu;have hle:w.next≤8:=by simpa using e3
   obtain⟨hn0,_⟩:=hnx;have eX:IntKind.u64.wrap (w.next+1)=w.next+1:=gX (by omega) (by omega);have hS:=acY w h;have hcl:=fA b (by omega);have hse:=aaN w ⟨w.next,b,[],now,0⟩ now (w.waits.map Wt.c) (w.bad.map Pl.c) h.fr ⟨⟨hn0,by simp only;omega⟩,by simpa using hb,by simp,dx,by simp[gF]⟩ hs;have hwl:=h.wl;clear hN h dx hs eL hn0;obtain⟨q,hq⟩:∃q,kJ w ⟨w.next,b,[],now,0⟩=q:=⟨_,rfl⟩;rw[hq] at hse ⊢;clear hq;refine dP Am ?_;repeat' ((conv=>whnf);first|with_reducible apply aP|((with_reducible apply fk)<;>intro hc<;>try exact aZ)|rewrite[pY]|rewrite[p8]|(apply dn;refine⟨_,_,av (hS) ?_,?_⟩;exact bD)|(apply bA;refine⟨_,hfu,?_⟩)|(apply bA;refine⟨_,hcl,?_⟩)|(apply dn;refine⟨_,_,av (hse) ?_,?_⟩;exact bD)|(((with_reducible apply And.intro);focus (simp only[fE,jQ,jR];omega)))|refine aN ?_|fail)
   repeat' first|apply And.intro|exact aM|fail
   all_goals try (conv=>whnf)
   all_goals first
    |exact eX
    |(rw[List.map_append];refine bW (aB _) ?_;(repeat' first|apply And.intro|exact aM|fail);(all_goals try (conv=>whnf)))
    |skip
theorem kr:bR prog 66 f66:=fC func66
theorem NK {α:Type}(p:α→Bool)(l:List α):(uE p l = -1∧l.findIdx? p=none)∨∃k,k<l.length∧uE p l=(k:Nat)∧l.findIdx? p=some k:=by
 rcases nk p l with ⟨h1,h2⟩|⟨n,hn,h1,h2,h3⟩
 ·exact .inl ⟨h1,List.findIdx?_eq_none_iff.2 h2⟩
 refine .inr ⟨n,hn,h1,?_⟩;rw[List.findIdx?_eq_some_iff_getElem];exact⟨hn,h2,fun j hj=>by rw[h3 j (by omega) hj];simp⟩
theorem acs (w:Wr)(now:Int)(r:Rs)(h:WrB w)(gT:(bH w.l.af).ah.length≤1000) :
  dB prog 66 [.agg w.c,uu now,.agg r.c] (.agg (iT w r).c):=by
 refine PC.le ?_;have hN:=tV w h;cases k1:(r.kind != 1) with
 | true=>
   have e:iT w r=w:=by unfold iT;rw[if_pos (by simp only[bne_iff_ne,ne_eq] at k1;simp[k1])]
   rw[e];clear e;refine dP kr ?_;repeat' ((conv=>whnf);first|with_reducible apply aP|((with_reducible apply fk)<;>intro hc<;>try exact aZ)|(apply dn;refine⟨_,_,av (hN) ?_,?_⟩;exact bD)|refine aN ?_|fail)
   all_goals exact aM
 |false=>
 cases k2:(r.bP != w.l.id) with
 | true=>
   have e:iT w r=w:=by unfold iT;rw[if_pos (by simp only[bne_iff_ne,ne_eq] at k2;simp[k2])]
   rw[e];clear e;refine dP kr ?_;repeat' ((conv=>whnf);first|with_reducible apply aP|((with_reducible apply fk)<;>intro hc<;>try exact aZ)|(apply dn;refine⟨_,_,av (hN) ?_,?_⟩;exact bD)|refine aN ?_|fail)
   all_goals exact aM
 |false=>
 cases k3:(r.au != w.au) with
 | true=>
   have e:iT w r=w:=by unfold iT;rw[if_pos (by simp only[bne_iff_ne,ne_eq] at k3;simp[k3])]
   rw[e];clear e;refine dP kr ?_;repeat' ((conv=>whnf);first|with_reducible apply aP|((with_reducible apply fk)<;>intro hc<;>try exact aZ)|(apply dn;refine⟨_,_,av (hN) ?_,?_⟩;exact bD)|refine aN ?_|fail)
   all_goals exact aM
 |false=>
 have e0:iT w r=if r.code=0 then (match w.waits.findIdx? fun x=>x.n==r.n with
  |none=>w
  |some k=>if yB w r.from_ && !gY (w.waits[k]!).from_ r.from_ then kK (qI w r k) else w)
 else if r.code=1 then (if yB w r.from_ then { w with fenced:=1 } else w)
 else if r.code=2 then vB w fun x=>x==r.from_
 else if r.code=4 then vB w fun x=>(x.node==r.from_.node) && !(x.aI==r.from_.aI)
 else w:=by
  unfold iT;rw[if_neg (by simp only[bne_eq_false_iff_eq] at k1 k2 k3;simp[k1,k2,k3])];rfl
 rw[e0];clear e0;cases c0:(r.code==0) with
 | true=>
   rw[if_pos (by simpa using c0)];have hix:=KA w.waits 116 [] [.dL r.c 0] (fun x=>x.n==r.n) (fun x _=>aaE r x);rcases NK (fun x=>x.n==r.n) w.waits with ⟨i1,i2⟩|⟨k,hk,i1,i2⟩
   ·rw[i2];rw[i1] at hix;have dm:decide ((-1:Int)≥0)=false:=by decide
    clear i1 i2 h gT;refine dP kr ?_;repeat' ((conv=>whnf);first|with_reducible apply aP|((with_reducible apply fk)<;>intro hc<;>try exact gK)|(apply dn;refine⟨_,_,av (hN) ?_,?_⟩;exact bD)|(apply bA;refine⟨_,aG (hix) ?_,?_⟩;exact bD)|refine aN ?_|fail)
    all_goals exact aM
   rw[i2];rw[i1] at hix;have dm:decide (((k:Nat):Int)≥0)=true:=by simp
   have ham:=BN w (rJ w.waits) (ax w.bad) fQ r.from_;have hr:=dR Wt.c w.waits k hk;obtain⟨x,hx⟩:∃x,w.waits[k]=x:=⟨_,rfl⟩;have hx':w.waits[k]! = x:=by rw[getElem!_pos w.waits k hk];exact hx
   simp only[hx'];rw[hx] at hr;have hco:=aA x.from_ r.from_.node r.from_.aI;rw[show (x.from_.any fun y=>y==(⟨r.from_.node,r.from_.aI⟩:Pl))=gY x.from_ r.from_ from rfl] at hco;cases ea:yB w r.from_ with
   | false=>
     rw[ea] at ham;clear ea i1 i2 hx hx' h;refine dP kr ?_;repeat' ((conv=>whnf);first|with_reducible apply aP|((with_reducible apply fk)<;>intro hc<;>try exact gK)|(apply dn;refine⟨_,_,av (hN) ?_,?_⟩;exact bD)|(apply bA;refine⟨_,aG (hix) ?_,?_⟩;exact bD)|(apply bA;refine⟨_,aG (ham) ?_,?_⟩;exact bD)|refine aN ?_|fail)
     all_goals exact aM
   |true=>
   rw[ea] at ham;cases eb:gY x.from_ r.from_ with
   | true=>
     rw[eb] at hco;clear ea eb i1 i2 hx hx' h;refine dP kr ?_;repeat' ((conv=>whnf);first|with_reducible apply aP|((with_reducible apply fk)<;>intro hc<;>try exact gK)|(apply dn;refine⟨_,_,av (hN) ?_,?_⟩;exact bD)|(apply bA;refine⟨_,aG (hix) ?_,?_⟩;exact bD)|(apply bA;refine⟨_,aG (ham) ?_,?_⟩;exact bD)|((refine⟨_,hr,?_⟩))|(apply bA;refine⟨_,hco,?_⟩)|refine aN ?_|fail)
     all_goals exact aM
   |false=>
   rw[eb] at hco;clear hN eb i1 i2 hr ham;have hkl:k=(w.waits.take k).length:=by rw[List.length_take];omega
   have hW:w.waits=w.waits.take k++x::w.waits.drop (k+1):=by
    rw[←hx,List.getElem_cons_drop,List.take_append_drop]
   have eh:qI w r k={ w with waits:=w.waits.take k++({ x with from_:=x.from_++[r.from_] }:Wt)::w.waits.drop (k+1) }:=by
    unfold qI;congr 1
    rw[List.modify_eq_take_cons_drop hk,hx]
   rw[show (true && !false)=true from rfl,if_pos rfl,eh];have hwx:=h.wx;have hwl:=h.wl;have hfr:=h.fr;have hxB:Sq x:=hwx x (by rw[←hx];exact List.getElem_mem hk);have hO:=ac3 w h (w.waits.take k) x (w.waits.drop (k+1)) hW;clear h hx hx' eh;rw[hW] at hix;obtain⟨A,hA⟩:∃A,w.waits.take k=A:=⟨_,rfl⟩;obtain⟨B,hB⟩:∃B,w.waits.drop (k+1)=B:=⟨_,rfl⟩;rw[hA] at hkl hO hix hW ⊢;rw[hB] at hO hix hW ⊢;subst hkl;have aaS:=BN w (.sl false 5 (A.map Wt.c++x.c::B.map Wt.c)) (ax w.bad) fQ r.from_;rw[ea] at aaS;simp only[rJ,zma,zmc] at hix;clear ea hA hB;have hfl:=hxB.from_;obtain⟨w1,hw1⟩:∃w1,w1={ w with waits:=A++({ x with from_:=x.from_++[r.from_] }:Wt)::B }:=⟨_,rfl⟩;rw[←hw1];obtain⟨j,hj⟩:∃j,(w1.waits.takeWhile (fI w1)).length=j:=⟨_,rfl⟩;have hm:=aaQ w1 (w.bad.map Pl.c) (by rw[hw1];exact hfr) (by
    rw[hw1];intro y hy;simp only[List.mem_append,List.mem_cons] at hy;have ah5:∀z,z∈A∨z=x∨z∈B→gF z.n:=fun z hz=>(hwx z (by rw[hW];simpa using hz)).n
    rcases hy with hy|rfl|hy
    ·exact ah5 y (.inl hy)
    ·exact hxB.n
    exact ah5 y (.inr (.inr hy))) (by rw[hw1];rw[hW] at hwl;simpa using hwl) j hj
   rw[SK w1 j hj];refine dP kr ?_;repeat' ((conv=>whnf);first|fail|((with_reducible apply fk)<;>intro hc<;>try exact gK)|(apply dn;refine⟨_,_,av (hO) ?_,?_⟩;exact bD)|(apply bA;refine⟨_,aG (hix) ?_,?_⟩;exact bD)|(apply bA;refine⟨_,aG (aaS) ?_,?_⟩;exact bD)|((with_reducible apply zoc))|((with_reducible refine (Or.inl ?_:VC _ _ (Code.block _ _) _ _∨_)))|((with_reducible apply zos))|(apply bA;refine⟨_,hco,?_⟩)|(refine zxb ?_)|refine aN ?_|fail)
   refine Or.inl ?_;repeat' ((conv=>whnf);first|fail|((with_reducible apply fk)<;>intro hc<;>try exact gK)|(apply dn;refine⟨_,_,av (hO) ?_,?_⟩;exact bD)|(apply bA;refine⟨_,aG (hix) ?_,?_⟩;exact bD)|(apply bA;refine⟨_,aG (aaS) ?_,?_⟩;exact bD)|((with_reducible apply zoc))|((with_reducible refine (Or.inl ?_:VC _ _ (Code.block _ _) _ _∨_)))|((with_reducible apply zos))|(apply bA;refine⟨_,hco,?_⟩)|(refine zxb ?_)|refine aN ?_|fail)
   refine Or.inl ?_;repeat' ((conv=>whnf);first|fail|((with_reducible apply fk)<;>intro hc<;>try exact gK)|(apply dn;refine⟨_,_,av (hO) ?_,?_⟩;exact bD)|(apply bA;refine⟨_,aG (hix) ?_,?_⟩;exact bD)|(apply bA;refine⟨_,aG (aaS) ?_,?_⟩;exact bD)|((with_reducible apply zoc))|((with_reducible refine (Or.inl ?_:VC _ _ (Code.block _ _) _ _∨_)))|((with_reducible apply zos))|(apply bA;refine⟨_,hco,?_⟩)|(refine zxb ?_)|refine aN ?_|fail)
   refine Or.inr ⟨Unit,fun _=>⟨[(6,.ptr 1006 0),(7,.ptr 1007 0)],1000000000,[(1006,.var (wr0.c.map .pv)),(1007,.var (pX w1 (.pv (cB w1.l.af)) (.aO 1008 0) (.pv (.sl false 2 (w.bad.map Pl.c))) (.pv fQ))),(1008,.arr 145 0 5 (w1.waits.map Wt.c))]⟩,?_,fun _=>?_⟩
   ·repeat' ((conv=>whnf);first|with_reducible apply aP|((with_reducible apply fk)<;>intro hc<;>try exact gK)|(((with_reducible apply And.intro);focus (simp only[fE,jQ,jR];omega)))|refine aN ?_|fail)
    refine⟨(),UB 1003003001 rfl rfl rfl rfl (aH ?_)⟩;repeat' first|apply And.intro|exact aM|fail
    all_goals try (conv=>whnf)
    all_goals first
     |(rw[hw1];done)
     |(rw[hw1];exact aB _)
     |(rw[hw1];simp only[zma,zmc,zmn,Wt.c,ax,Pl.c];exact aB _)
     |(rw[hw1];exact aB _)
     |skip
   clear hO hix aaS hco;repeat' ((conv=>whnf);first|with_reducible apply aP|((with_reducible apply fk)<;>intro hc<;>try exact gK)|rewrite[pY]|rewrite[p8]|(apply dn;refine⟨_,_,av (hm) ?_,?_⟩;exact bD)|refine aN ?_|fail)
   repeat' first|apply And.intro|exact aM|fail
   all_goals try (conv=>whnf)
   all_goals first
    |(rw[jF,List.map_drop,List.take_of_length_le (by simp only[List.length_drop,fE];omega)];exact aB _)
    |(rw[hw1];exact aB _)
    |skip
 |false=>
 have c0':¬r.code=0:=by simpa using c0
 rw[if_neg c0'];clear c0';cases c1:(r.code==1) with
 | true=>
   rw[if_pos (by simpa using c1)];have ham:=BN w (rJ w.waits) (ax w.bad) fQ r.from_;generalize yB w r.from_=aa at ham ⊢;cases aa;all_goals
    refine dP kr ?_;repeat' ((conv=>whnf);first|with_reducible apply aP|((with_reducible apply fk)<;>intro hc<;>try exact gK)|(apply dn;refine⟨_,_,av (hN) ?_,?_⟩;exact bD)|(apply bA;refine⟨_,aG (ham) ?_,?_⟩;exact bD)|refine aN ?_|fail)
    all_goals exact aM
 |false=>
 have c1':¬r.code=1:=by simpa using c1
 rw[if_neg c1'];clear c1' hN;have hB:=acZ w h;have hbl:=h.bl;have hfl:=h.fl;cases c2:(r.code==2) with
 | true=>
   rw[if_pos (by simpa using c2)];have hba:=SH w (w.waits.map Wt.c) 118 r.c (fun x=>x==r.from_) (fun y=>aaF r y) (by omega) (by omega) gT;obtain⟨w',hw'⟩:∃w',vB w (fun x=>x==r.from_)=w':=⟨_,rfl⟩;have hc':w'={ w with bad:=w'.bad }:=by rw[←hw'];rfl
   rw[hw'] at hba ⊢;clear hw';refine dP kr ?_;repeat' ((conv=>whnf);first|with_reducible apply aP|((with_reducible apply fk)<;>intro hc<;>try exact gK)|rewrite[pY]|rewrite[p8]|(apply dn;refine⟨_,_,av (hB) ?_,?_⟩;exact bD)|(apply dn;refine⟨_,_,av (hba) ?_,?_⟩;exact bD)|refine aN ?_|fail)
   rw[hc'];all_goals exact aM
 |false=>
 have c2':¬r.code=2:=by simpa using c2
 rw[if_neg c2'];clear c2';cases c4:(r.code==4) with
 | true=>
   rw[if_pos (by simpa using c4)];have hba:=SH w (w.waits.map Wt.c) 119 r.c (fun x=>(x.node==r.from_.node) && !(x.aI==r.from_.aI)) (fun y=>aaG r y) (by omega) (by omega) gT;obtain⟨w',hw'⟩:∃w',vB w (fun x=>(x.node==r.from_.node) && !(x.aI==r.from_.aI))=w':=⟨_,rfl⟩;have hc':w'={ w with bad:=w'.bad }:=by rw[←hw'];rfl
   rw[hw'] at hba ⊢;clear hw';refine dP kr ?_;repeat' ((conv=>whnf);first|with_reducible apply aP|((with_reducible apply fk)<;>intro hc<;>try exact gK)|rewrite[pY]|rewrite[p8]|(apply dn;refine⟨_,_,av (hB) ?_,?_⟩;exact bD)|(apply dn;refine⟨_,_,av (hba) ?_,?_⟩;exact bD)|refine aN ?_|fail)
   rw[hc'];all_goals exact aM
 | false=>
   rw[if_neg (by simpa using c4)];have hN:=tV w h;refine dP kr ?_;repeat' ((conv=>whnf);first|with_reducible apply aP|((with_reducible apply fk)<;>intro hc<;>try exact gK)|(apply dn;refine⟨_,_,av (hN) ?_,?_⟩;exact bD)|refine aN ?_|fail)
   all_goals exact aM
end Go.Proofs.YtfoiekbkkbnpkaaGreat.Tb
end
