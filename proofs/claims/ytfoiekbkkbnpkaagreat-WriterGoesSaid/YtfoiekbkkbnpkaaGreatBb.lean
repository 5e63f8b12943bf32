/-
  Contracts of functions of the program and of the document, each for every input that its premises name.
-/
import Derived.Test.YtfoiekbkkbnpkaaGreatBa
import Derived.Test.YtfoiekbkkbnpkaaGreatAf
import Derived.WalkKit
import Derived.Test.YtfoiekbkkbnpkaaGreatProg
set_option linter.unusedSectionVars false
set_option linter.unusedVariables false
set_option linter.unusedSimpArgs false
set_option maxRecDepth 100000
set_option maxHeartbeats 4000000
section
open Go Go.Proofs.Tryz Go.AX
namespace Go.Proofs.YtfoiekbkkbnpkaaGreat.Tb
def vJ (w:Wr)(x:Wt)(l:List Pl):List Rq:=(l.filter fun p=>!bI x.from_ p).map fun p=>⟨p,1,w.l.id,x.n,w.aX,w.sure,0,x.body,[]⟩
theorem pQ (w:Wr)(x:Wt):vJ w x (bJ w x.n)=gM w x:=rfl
theorem pR (w:Wr)(x:Wt)(l:List Pl):(vJ w x l).length≤l.length:=by
 unfold vJ;rw[List.length_map];exact List.length_filter_le _ _
theorem yU (w:Wr)(x:Wt)(l:List Pl)(k:Nat)(h:k<l.length):vJ w x (l.take (k+1))=vJ w x (l.take k)++(if bI x.from_ l[k] then [] else [⟨l[k],1,w.l.id,x.n,w.aX,w.sure,0,x.body,[]⟩]):=by
 rw[List.take_succ_eq_append_getElem h];unfold vJ;rw[List.filter_append,List.map_append];congr 1
 cases hb:bI x.from_ l[k]<;>simp[hb]
theorem CW:bG prog 80 f80:=fF func80
theorem UC (w:Wr)(x:Wt)(now:Int)(i:Nat)(oC rb:List (List PV))(ro:List Rq)(hx:oC[i]? = some x.c)(hro:ro.length≤1000000)(hf:iN w.l.aj)(hb:NC x)(hs:(bJ w x.n).length≤1000) :
  lg prog 80 [.ptr 1 0,.bU 2 0 i 0,.pv (uu now)]
   [(1,.var (nC w (.pv (eT w.l.aj)) (.aZ 2 0) (.aZ 3 0) (.aZ 4 0))),(2,.arr 145 0 5 oC),(3,.arr 27 0 2 rb),(4,.arr 93 0 10 (ro.map Rq.c))] (.pv (.fM []))
   [(1,.var (nC w (.pv (eT w.l.aj)) (.aZ 2 0) (.aZ 3 0) (.aZ 1001 0))),(2,.arr 145 0 5 (oC.set i ({ x with since:=now }:Wt).c)),(3,.arr 27 0 2 rb),(4,.gD 1 10 []),(1001,.arr 93 0 10 ((ro ++gM w x).map Rq.c))]:=by
 have hse:=CJ w.l.aj w.l.w x.n hf hb.n;have hbo:=hb.body;rw[←pQ];obtain⟨st,hst⟩:∃st,bJ w x.n=st:=⟨_,rfl⟩;rw[show setOf w.l.aj w.l.w x.n=st from hst] at hse;rw[hst] at hs ⊢;clear hst hf hb;have hil:i<oC.length:=(List.getElem?_eq_some_iff.1 hx).1;have hx2:(oC.set i ({ x with since:=now }:Wt).c)[i]? = some [uu x.n,Db x.body,dO x.from_,uu x.born,uu now]:=by
  rw[List.getElem?_set_self hil];rfl
 have hcl:=jK x.body (by omega);refine Ce 4 1777 rfl ?_;show GC _ _ [.ptr 1 0,.bU 2 0 i 0,.pv (uu now)] [(1777,.arr 93 0 10 (ro.map Rq.c)),(1,.var (nC w (.pv (eT w.l.aj)) (.aZ 2 0) (.aZ 3 0) (.aZ 1777 0))),(2,.arr 145 0 5 oC),(3,.arr 27 0 2 rb),(4,.gD 1 10 [])] _
 refine nD CW ?_;repeat' ((conv=>whnf);first|with_reducible apply aQ|((with_reducible apply fk)<;>intro hc<;>try exact bF)|(refine Or.inr ?_;(conv=>whnf);refine⟨_,o7 nR (jU mixed nR) xJ rfl ?_,fun _ _ h=>h⟩)|(apply bC;refine⟨_,hse,?_⟩)|((refine⟨_,hx,?_⟩))|((refine⟨_,hx2,?_⟩))|refine aM ?_|fail)
 clear hse;refine⟨{k:Nat // k≤st.length},fun⟨k,_⟩=>⟨[(0,.ptr 1 0),(1,.bU 2 0 i 0),(17,.pv (dO st)),(18,.pv (ii st.length)),(19,.pv (ii k))],1000000000,[(1,.var (nC w (.pv (eT w.l.aj)) (.aZ 2 0) (.aZ 3 0) (.aZ 1001 0))),(2,.arr 145 0 5 (oC.set i ({ x with since:=now }:Wt).c)),(3,.arr 27 0 2 rb),(4,.gD 1 10 []),(1001,.arr 93 0 10 ((ro ++vJ w x (st.take k)).map Rq.c))]⟩,fun⟨k,_⟩=>st.length-k,⟨⟨0,Nat.zero_le _⟩,ay ?_⟩,?_⟩
 ·repeat' first|apply And.intro|exact aK|fail
  all_goals try (conv=>whnf)
  all_goals first
   |(simp only[List.take_zero,vJ,List.filter_nil,Yk,List.append_nil];exact aC _)
   |simp[vJ]
   |skip
 rintro⟨k,hk⟩
 by_cases hlt:k<st.length
 ·have d0:decide ((k:Int)<(st.length:Int))=true:=by simp only[kU];omega
  have eW:IntKind.i64.wrap ((k:Int)+1)=((k+1:Nat):Int):=by rw[bE (by omega) (by omega)];omega
  have hq:=yU w x st k hlt;have hal:=pR w x (st.take k);have htl:(st.take k).length≤1000:=by rw[List.length_take];omega
  have hco:=bS x.from_ st[k].node st[k].bf;rw[show (x.from_.any fun y=>y==(⟨st[k].node,st[k].bf⟩:Pl))=bI x.from_ st[k] from rfl] at hco;generalize bI x.from_ st[k]=bb at hco hq;dsimp only
  cases bb with
  | true=>
    simp only[↓reduceIte,List.append_nil] at hq;repeat' ((conv=>whnf);first|with_reducible apply aQ|((with_reducible apply fk)<;>intro hc<;>try exact dK)|((refine⟨_,dJ _ _ _ hlt,?_⟩))|((refine⟨_,hx2,?_⟩))|(apply bC;refine⟨_,hco,?_⟩)|refine aM ?_|fail)
    refine⟨⟨k+1,hlt⟩,dec_lt hlt,ay ?_⟩;simp only[hq];repeat' first|apply And.intro|exact aK|fail
    all_goals try (conv=>whnf)
    all_goals exact eW
  | false=>
    simp only[Bool.false_eq_true,↓reduceIte] at hq;repeat' ((conv=>whnf);first|with_reducible apply aQ|((with_reducible apply fk)<;>intro hc<;>try exact dK)|((refine⟨_,dJ _ _ _ hlt,?_⟩))|((refine⟨_,hx2,?_⟩))|(apply bC;refine⟨_,hco,?_⟩)|(apply bC;refine⟨_,hcl,?_⟩)|(((with_reducible apply And.intro);focus (simp only[fe,mH,mI,mZ] at *;omega)))|refine aM ?_|fail)
    refine⟨⟨k+1,hlt⟩,dec_lt hlt,ay ?_⟩;simp only[hq];repeat' first|apply And.intro|exact aK|fail
    all_goals try (conv=>whnf)
    all_goals first
     |exact eW
     | (rw[←List.append_assoc,List.map_append]
        refine dH (aC _) ?_
        (repeat' first|apply And.intro|exact aK|fail);(all_goals try (conv=>whnf)))
 have hke:k=st.length:=by omega
 subst hke;have d0:decide ((st.length:Int)<(st.length:Int))=false:=by simp
 repeat' ((conv=>whnf);first|with_reducible apply aQ|((with_reducible apply fk)<;>intro hc<;>try exact bF)|refine aM ?_|fail)
 refine⟨_,_,⟨rfl,rfl⟩,?_⟩;repeat' first|apply And.intro|exact aK|fail
 all_goals try (conv=>whnf)
 all_goals (rw[List.take_length];exact aC _)
theorem UD (w:Wr)(x:Wt)(now:Int)(i lo hi:Nat)(oC:List (List PV))(ro:List Rq)(hx:oC[i]? = some x.c)(hro:ro.length≤1000000)(hf:iN w.l.aj)(hb:NC x)(hs:(bJ w x.n).length≤1000) :
  lg prog 80 [.ptr 1 0,.bU 2 0 i 0,.pv (uu now)]
   [(1,.var (nC w (.pv (eT w.l.aj)) (.sub 2 0 5 lo hi) (.pv dV) (.aZ 3 0))),(2,.arr 145 0 5 oC),(3,.arr 93 0 10 (ro.map Rq.c))] (.pv (.fM []))
   [(1,.var (nC w (.pv (eT w.l.aj)) (.sub 2 0 5 lo hi) (.pv dV) (.aZ 1001 0))),(2,.arr 145 0 5 (oC.set i ({ x with since:=now }:Wt).c)),(3,.gD 1 10 []),(1001,.arr 93 0 10 ((ro ++gM w x).map Rq.c))]:=by
 have hse:=CJ w.l.aj w.l.w x.n hf hb.n;have hbo:=hb.body;rw[←pQ];obtain⟨st,hst⟩:∃st,bJ w x.n=st:=⟨_,rfl⟩;rw[show setOf w.l.aj w.l.w x.n=st from hst] at hse;rw[hst] at hs ⊢;clear hst hf hb;have hil:i<oC.length:=(List.getElem?_eq_some_iff.1 hx).1;have hx2:(oC.set i ({ x with since:=now }:Wt).c)[i]? = some [uu x.n,Db x.body,dO x.from_,uu x.born,uu now]:=by
  rw[List.getElem?_set_self hil];rfl
 have hcl:=jK x.body (by omega);refine Ce 3 1777 rfl ?_;show GC _ _ [.ptr 1 0,.bU 2 0 i 0,.pv (uu now)] [(1777,.arr 93 0 10 (ro.map Rq.c)),(1,.var (nC w (.pv (eT w.l.aj)) (.sub 2 0 5 lo hi) (.pv dV) (.aZ 1777 0))),(2,.arr 145 0 5 oC),(3,.gD 1 10 [])] _
 refine nD CW ?_;repeat' ((conv=>whnf);first|with_reducible apply aQ|((with_reducible apply fk)<;>intro hc<;>try exact bF)|(refine Or.inr ?_;(conv=>whnf);refine⟨_,o7 nR (jU mixed nR) xJ rfl ?_,fun _ _ h=>h⟩)|(apply bC;refine⟨_,hse,?_⟩)|((refine⟨_,hx,?_⟩))|((refine⟨_,hx2,?_⟩))|refine aM ?_|fail)
 clear hse;refine⟨{k:Nat // k≤st.length},fun⟨k,_⟩=>⟨[(0,.ptr 1 0),(1,.bU 2 0 i 0),(17,.pv (dO st)),(18,.pv (ii st.length)),(19,.pv (ii k))],1000000000,[(1,.var (nC w (.pv (eT w.l.aj)) (.sub 2 0 5 lo hi) (.pv dV) (.aZ 1001 0))),(2,.arr 145 0 5 (oC.set i ({ x with since:=now }:Wt).c)),(3,.gD 1 10 []),(1001,.arr 93 0 10 ((ro ++vJ w x (st.take k)).map Rq.c))]⟩,fun⟨k,_⟩=>st.length-k,⟨⟨0,Nat.zero_le _⟩,ay ?_⟩,?_⟩
 ·repeat' first|apply And.intro|exact aK|fail
  all_goals try (conv=>whnf)
  all_goals first
   |(simp only[List.take_zero,vJ,List.filter_nil,Yk,List.append_nil];exact aC _)
   |simp[vJ]
   |skip
 rintro⟨k,hk⟩
 by_cases hlt:k<st.length
 ·have d0:decide ((k:Int)<(st.length:Int))=true:=by simp only[kU];omega
  have eW:IntKind.i64.wrap ((k:Int)+1)=((k+1:Nat):Int):=by rw[bE (by omega) (by omega)];omega
  have hq:=yU w x st k hlt;have hal:=pR w x (st.take k);have htl:(st.take k).length≤1000:=by rw[List.length_take];omega
  have hco:=bS x.from_ st[k].node st[k].bf;rw[show (x.from_.any fun y=>y==(⟨st[k].node,st[k].bf⟩:Pl))=bI x.from_ st[k] from rfl] at hco;generalize bI x.from_ st[k]=bb at hco hq;dsimp only
  cases bb with
  | true=>
    simp only[↓reduceIte,List.append_nil] at hq;repeat' ((conv=>whnf);first|with_reducible apply aQ|((with_reducible apply fk)<;>intro hc<;>try exact dK)|((refine⟨_,dJ _ _ _ hlt,?_⟩))|((refine⟨_,hx2,?_⟩))|(apply bC;refine⟨_,hco,?_⟩)|refine aM ?_|fail)
    refine⟨⟨k+1,hlt⟩,dec_lt hlt,ay ?_⟩;simp only[hq];repeat' first|apply And.intro|exact aK|fail
    all_goals try (conv=>whnf)
    all_goals exact eW
  | false=>
    simp only[Bool.false_eq_true,↓reduceIte] at hq;repeat' ((conv=>whnf);first|with_reducible apply aQ|((with_reducible apply fk)<;>intro hc<;>try exact dK)|((refine⟨_,dJ _ _ _ hlt,?_⟩))|((refine⟨_,hx2,?_⟩))|(apply bC;refine⟨_,hco,?_⟩)|(apply bC;refine⟨_,hcl,?_⟩)|(((with_reducible apply And.intro);focus (simp only[fe,mH,mI,mZ] at *;omega)))|refine aM ?_|fail)
    refine⟨⟨k+1,hlt⟩,dec_lt hlt,ay ?_⟩;simp only[hq];repeat' first|apply And.intro|exact aK|fail
    all_goals try (conv=>whnf)
    all_goals first
     |exact eW
     | (rw[←List.append_assoc,List.map_append]
        refine dH (aC _) ?_
        (repeat' first|apply And.intro|exact aK|fail);(all_goals try (conv=>whnf)))
 have hke:k=st.length:=by omega
 subst hke;have d0:decide ((st.length:Int)<(st.length:Int))=false:=by simp
 repeat' ((conv=>whnf);first|with_reducible apply aQ|((with_reducible apply fk)<;>intro hc<;>try exact bF)|refine aM ?_|fail)
 refine⟨_,_,⟨rfl,rfl⟩,?_⟩;repeat' first|apply And.intro|exact aK|fail
 all_goals try (conv=>whnf)
 all_goals (rw[List.take_length];exact aC _)
theorem UE (w:Wr)(x:Wt)(now:Int)(oC rb:List (List PV))(hf:iN w.l.aj)(hb:NC x)(hs:(bJ w x.n).length≤1000) :
  lg prog 80 [.ptr 1 0,.ptr 3 0,.pv (uu now)]
   [(1,.var (nC w (.pv (eT w.l.aj)) (.aZ 2 0) (.pv (.sl false 2 rb)) (.pv dV))),(2,.arr 145 0 5 oC),(3,.var (XE x (.pv (dO x.from_))))] (.pv (.fM []))
   [(1,.var (nC w (.pv (eT w.l.aj)) (.aZ 2 0) (.pv (.sl false 2 rb)) (.aZ 1001 0))),(2,.arr 145 0 5 oC),(3,.var (XE { x with since:=now } (.pv (dO x.from_)))),(1001,.arr 93 0 10 ((gM w x).map Rq.c))]:=by
 have hse:=CJ w.l.aj w.l.w x.n hf hb.n;have hbo:=hb.body;rw[←pQ];obtain⟨st,hst⟩:∃st,bJ w x.n=st:=⟨_,rfl⟩;rw[show setOf w.l.aj w.l.w x.n=st from hst] at hse;rw[hst] at hs ⊢;clear hst hf hb;have hcl:=jK x.body (by omega);refine nD CW ?_;repeat' ((conv=>whnf);first|with_reducible apply aQ|((with_reducible apply fk)<;>intro hc<;>try exact bF)|(refine Or.inr ?_;(conv=>whnf);refine⟨_,o7 nR (jU mixed nR) xJ rfl ?_,fun _ _ h=>h⟩)|(apply bC;refine⟨_,hse,?_⟩)|refine aM ?_|fail)
 clear hse;refine⟨{k:Nat // k≤st.length},fun⟨k,_⟩=>⟨[(0,.ptr 1 0),(1,.ptr 3 0),(17,.pv (dO st)),(18,.pv (ii st.length)),(19,.pv (ii k))],1000000000,[(1,.var (nC w (.pv (eT w.l.aj)) (.aZ 2 0) (.pv (.sl false 2 rb)) (.aZ 1001 0))),(2,.arr 145 0 5 oC),(3,.var (XE { x with since:=now } (.pv (dO x.from_)))),(1001,.arr 93 0 10 ((vJ w x (st.take k)).map Rq.c))]⟩,fun⟨k,_⟩=>st.length-k,⟨⟨0,Nat.zero_le _⟩,ay ?_⟩,?_⟩
 ·repeat' first|apply And.intro|exact aK|fail
  all_goals try (conv=>whnf)
  all_goals first
   |(simp only[List.take_zero,vJ,List.filter_nil,Yk,List.append_nil];exact aC _)
   |simp[vJ]
   |skip
 rintro⟨k,hk⟩
 by_cases hlt:k<st.length
 ·have d0:decide ((k:Int)<(st.length:Int))=true:=by simp only[kU];omega
  have eW:IntKind.i64.wrap ((k:Int)+1)=((k+1:Nat):Int):=by rw[bE (by omega) (by omega)];omega
  have hq:=yU w x st k hlt;have hal:=pR w x (st.take k);have htl:(st.take k).length≤1000:=by rw[List.length_take];omega
  have hco:=bS x.from_ st[k].node st[k].bf;rw[show (x.from_.any fun y=>y==(⟨st[k].node,st[k].bf⟩:Pl))=bI x.from_ st[k] from rfl] at hco;generalize bI x.from_ st[k]=bb at hco hq;dsimp only
  cases bb with
  | true=>
    simp only[↓reduceIte,List.append_nil] at hq;repeat' ((conv=>whnf);first|with_reducible apply aQ|((with_reducible apply fk)<;>intro hc<;>try exact dK)|((refine⟨_,dJ _ _ _ hlt,?_⟩))|(apply bC;refine⟨_,hco,?_⟩)|refine aM ?_|fail)
    refine⟨⟨k+1,hlt⟩,dec_lt hlt,ay ?_⟩;simp only[hq];repeat' first|apply And.intro|exact aK|fail
    all_goals try (conv=>whnf)
    all_goals exact eW
  | false=>
    simp only[Bool.false_eq_true,↓reduceIte] at hq;repeat' ((conv=>whnf);first|with_reducible apply aQ|((with_reducible apply fk)<;>intro hc<;>try exact dK)|((refine⟨_,dJ _ _ _ hlt,?_⟩))|(apply bC;refine⟨_,hco,?_⟩)|(apply bC;refine⟨_,hcl,?_⟩)|(((with_reducible apply And.intro);focus (simp only[fe,mH,mI,mZ] at *;omega)))|refine aM ?_|fail)
    refine⟨⟨k+1,hlt⟩,dec_lt hlt,ay ?_⟩;simp only[hq];repeat' first|apply And.intro|exact aK|fail
    all_goals try (conv=>whnf)
    all_goals first
     |exact eW
     | (rw[List.map_append]
        refine dH (aC _) ?_
        (repeat' first|apply And.intro|exact aK|fail);(all_goals try (conv=>whnf)))
 have hke:k=st.length:=by omega
 subst hke;have d0:decide ((st.length:Int)<(st.length:Int))=false:=by simp
 repeat' ((conv=>whnf);first|with_reducible apply aQ|((with_reducible apply fk)<;>intro hc<;>try exact bF)|refine aM ?_|fail)
 refine⟨_,_,⟨rfl,rfl⟩,?_⟩;repeat' first|apply And.intro|exact aK|fail
 all_goals try (conv=>whnf)
 all_goals (rw[List.take_length];exact aC _)
theorem Ud:bG prog 160 f160:=fF func160
theorem Ww (f:Fr)(old fresh:Pl)(hl:f.ah.length≤1000000):dP prog 160 [.agg f.c,.agg old.c,.agg fresh.c] (.fM [.agg ((jJ f old fresh).getD jI).c,bl (jJ f old fresh).isSome]):=by
 refine PC.le ?_;have hix:=qC f.ah old.node old.bf;obtain⟨K,hK⟩:∃K,qZ (· == old) f.ah=K:=⟨_,rfl⟩;rw[show qZ (fun y=>y==(⟨old.node,old.bf⟩:Pl)) f.ah=K from hK] at hix;obtain⟨X,hX⟩:∃X,X=jJ f old fresh:=⟨_,rfl⟩;rw[←hX];have hsp:=jo (· == old) f.ah;rw[hK] at hsp;refine dW Ud ?_;repeat' ((conv=>whnf);first|with_reducible apply aQ|((with_reducible apply fk)<;>intro hc<;>try exact bF)|(apply bC;refine⟨_,hix,?_⟩)|refine aM ?_|fail)
 refine⟨{k:Nat // k≤f.ah.length∧mO K fresh.node f.ah k=false},fun⟨k,_⟩=>⟨[(3,.ptr 1003 0),(5,.ptr 1005 0),(6,.ptr 1006 0),(8,.pv (ii K)),(16,.pv (dO f.ah)),(17,.pv (ii f.ah.length)),(18,.pv (ii k))],1000000000,[(1003,.var [.pv (uu f.first),.pv (dO f.ah)]),(1005,.var [.pv (ii fresh.node),.pv (uu fresh.bf)]),(1006,.var [.pv (uu 0),.pv dV])]⟩,fun⟨k,_⟩=>f.ah.length-k,⟨⟨0,Nat.zero_le _,rfl⟩,ay ?_⟩,?_⟩
 ·repeat' first|apply And.intro|exact aK|fail
  all_goals try (conv=>whnf)
  all_goals simp
 rintro⟨k,hk,hcl⟩
 by_cases hlt:k<f.ah.length
 ·have d0:decide ((k:Int)<(f.ah.length:Int))=true:=by simp only[kU];omega
  have eW:IntKind.i64.wrap ((k:Int)+1)=((k+1:Nat):Int):=by rw[bE (by omega) (by omega)];omega
  have hcs:=zF K fresh.node f.ah k hlt;rw[hcl,Bool.false_or] at hcs;clear hsp;cases e1:((k:Int) != K)
  ·rw[e1,Bool.false_and] at hcs;repeat' ((conv=>whnf);first|with_reducible apply aQ|((with_reducible apply fk)<;>intro hc<;>try exact bF)|((refine⟨_,dJ _ _ _ hlt,?_⟩))|refine aM ?_|fail)
   refine⟨⟨k+1,hlt,hcs⟩,dec_lt hlt,ay ?_⟩;repeat' first|apply And.intro|exact aK|fail
   all_goals try (conv=>whnf)
   exact eW
  cases e2:(f.ah[k].node==fresh.node)
  ·rw[e2,Bool.and_false] at hcs;repeat' ((conv=>whnf);first|with_reducible apply aQ|((with_reducible apply fk)<;>intro hc<;>try exact bF)|((refine⟨_,dJ _ _ _ hlt,?_⟩))|refine aM ?_|fail)
   refine⟨⟨k+1,hlt,hcs⟩,dec_lt hlt,ay ?_⟩;repeat' first|apply And.intro|exact aK|fail
   all_goals try (conv=>whnf)
   exact eW
  have hn:X=none:=by
   rw[hX];unfold jJ;rw[hK,if_pos (I7 _ _ _ hlt (by rw[hcs,e1,e2];rfl))]
  clear hX hcs;subst hn;repeat' ((conv=>whnf);first|with_reducible apply aQ|((with_reducible apply fk)<;>intro hc<;>try exact bF)|((refine⟨_,dJ _ _ _ hlt,?_⟩))|refine aM ?_|fail)
  all_goals exact aK
 have hke:k=f.ah.length:=by omega
 subst hke;have d0:decide ((f.ah.length:Int)<(f.ah.length:Int))=false:=by simp
 rcases hsp with ⟨hsp,_⟩|⟨n,hn,hsp,_⟩
 ·have hn:X=none:=by
   rw[hX];unfold jJ;rw[hK,if_neg (by rw[hcl];decide),if_pos (by omega)]
  clear hX hK;subst hn;subst hsp;repeat' ((conv=>whnf);first|with_reducible apply aQ|((with_reducible apply fk)<;>intro hc<;>try exact bF)|refine aM ?_|fail)
  all_goals exact aK
 have hn2:X=some ⟨f.first,f.ah.set n fresh⟩:=by
  rw[hX];unfold jJ;rw[hK,if_neg (by rw[hcl];decide),if_neg (by omega),hsp];rfl
 clear hX hK;subst hn2;subst hsp;have d1:decide ((n:Int)<0)=false:=by simp
 repeat' ((conv=>whnf);first|with_reducible apply aQ|((with_reducible apply fk)<;>intro hc<;>try exact bF)|(apply iC;refine⟨_,_,gW f.ah (by omega),?_⟩)|((refine⟨_,dJ _ _ _ hn,?_⟩))|refine aM ?_|fail)
 repeat' first|apply And.intro|exact aK|fail
 all_goals try (conv=>whnf)
 refine gN ?_;show (List.map Pl.c f.ah).set n (Pl.c fresh)=List.map Pl.c (f.ah.set n fresh)
 rw[List.map_set]
theorem xG:bG prog 129 f129:=fF func129
theorem JI (f:Fr)(old:Pl)(known:List Pl)(hl:f.ah.length≤1000000):dP prog 129 [.agg f.c,.agg old.c,dO known] (.fM [.agg (iq f old known).1.c,bl (iq f old known).2]):=by
 refine PC.le (nL xG fun hb=>?_);have hb:known.length≤9223372036854775807:=by simp[F6,Ar,dO] at hb;omega
 obtain⟨X,hX⟩:∃X,X=iq f old known:=⟨_,rfl⟩;rw[←hX];refine dW xG ?_;repeat' ((conv=>whnf);first|with_reducible apply aQ|((with_reducible apply fk)<;>intro hc<;>try exact bF)|refine aM ?_|fail)
 refine⟨{k:Nat // k≤known.length∧X=iq f old (known.drop k)},fun⟨k,_⟩=>⟨[(3,.ptr 1003 0),(4,.ptr 1004 0),(6,.ptr 1006 0),(12,.pv (dO known)),(13,.pv (ii known.length)),(14,.pv (ii k))],1000000000,[(1003,.var [.pv (uu f.first),.pv (dO f.ah)]),(1004,.var [.pv (ii old.node),.pv (uu old.bf)]),(1006,.var [.pv (uu 0),.pv dV])]⟩,fun⟨k,_⟩=>known.length-k,⟨⟨0,Nat.zero_le _,hX⟩,ay ?_⟩,?_⟩
 ·repeat' first|apply And.intro|exact aK|fail
  all_goals try (conv=>whnf)
  all_goals simp
 rintro⟨k,hk,hcl⟩
 clear hX;by_cases hlt:k<known.length
 ·have d0:decide ((k:Int)<(known.length:Int))=true:=by simp only[kU];omega
  have eW:IntKind.i64.wrap ((k:Int)+1)=((k+1:Nat):Int):=by rw[bE (by omega) (by omega)];omega
  rw[Lh f old known k hlt] at hcl;have hsw:=Ww f old known[k] hl;cases hs:jJ f old known[k] with
  | none=>
    rw[hs] at hcl hsw;simp only[Option.getD_none,Option.isSome_none] at hsw;repeat' ((conv=>whnf);first|with_reducible apply aQ|((with_reducible apply fk)<;>intro hc<;>try exact bF)|((refine⟨_,dJ _ _ _ hlt,?_⟩))|(apply bC;refine⟨_,aL (hsw) ?_,?_⟩;exact dx)|refine aM ?_|fail)
    refine⟨⟨k+1,hlt,hcl⟩,dec_lt hlt,ay ?_⟩;repeat' first|apply And.intro|exact aK|fail
    all_goals try (conv=>whnf)
    exact eW
  | some g=>
    rw[hs] at hcl hsw;simp only[Option.getD_some,Option.isSome_some] at hsw;subst hcl;repeat' ((conv=>whnf);first|with_reducible apply aQ|((with_reducible apply fk)<;>intro hc<;>try exact bF)|((refine⟨_,dJ _ _ _ hlt,?_⟩))|(apply bC;refine⟨_,aL (hsw) ?_,?_⟩;exact dx)|refine aM ?_|fail)
    all_goals exact aK
 have hke:k=known.length:=by omega
 subst hke;have d0:decide ((known.length:Int)<(known.length:Int))=false:=by simp
 rw[List.drop_length] at hcl;subst hcl;repeat' ((conv=>whnf);first|with_reducible apply aQ|((with_reducible apply fk)<;>intro hc<;>try exact bF)|refine aM ?_|fail)
 all_goals exact aK
theorem LY:bG prog 128 f128:=fF func128
theorem Fh (bad:List Pl)(y:Pl):dP prog 128 ([]++([.agg y.c]++[.dh [dO bad] 0])) (bl (bad.any (· == y))):=by
 refine PC.le ?_;refine dW LY ?_;repeat' ((conv=>whnf);first|with_reducible apply aQ|((with_reducible apply fk)<;>intro hc<;>try exact bF)|(apply bC;refine⟨_,bS _ _ _,?_⟩)|refine aM ?_|fail)
 all_goals exact aK
theorem LZ:bG prog 131 f131:=fF func131
theorem PX (x y:Pl):dP prog 131 ([]++([.agg y.c]++[.dh x.c 0])) (bl (y.node==x.node)):=by
 refine PC.le ?_;refine dW LZ ?_;repeat' ((conv=>whnf);first|with_reducible apply aQ|((with_reducible apply fk)<;>intro hc<;>try exact bF)|refine aM ?_|fail)
 all_goals exact aK
def kept (p:Pl→Bool)(l:List Pl)(j:Nat):List Pl:=(l.take j).filter fun x=>!p x
def L9 (p:Pl→Bool)(l:List Pl)(jm:Nat×List Pl):Prop:=jm.1≤l.length∧jm.2.length=l.length∧jm.2.take (kept p l jm.1).length=kept p l jm.1∧jm.2.drop jm.1=l.drop jm.1
theorem NF (p:Pl→Bool)(l:List Pl)(j:Nat)(h:j≤l.length):(kept p l j).length≤j:=by
 refine Nat.le_trans (List.length_filter_le _ _) ?_;simp;omega
theorem pM (p:Pl→Bool)(l:List Pl)(j:Nat)(h:j<l.length):kept p l (j+1)=if p l[j] then kept p l j else kept p l j++[l[j]]:=by
 unfold kept;rw[List.take_succ_eq_append_getElem h,List.filter_append];cases hp:p l[j]<;>simp[hp]
theorem Ug {p:Pl→Bool}{l:List Pl}{j:Nat}{m:List Pl}(h:L9 p l (j,m))(hj:j<l.length):∃hm:j<m.length,m[j]=l[j]:=by
 obtain⟨_,h2,_,h4⟩:=h;simp only at h2 h4;have hm:j<m.length:=by omega
 refine⟨hm,?_⟩;have:=congrArg (fun x=>x[0]?) h4;simpa[hm,hj] using this
theorem P5 {p:Pl→Bool}{l:List Pl}{j:Nat}{m:List Pl}(h:L9 p l (j,m))(hj:j<l.length)(hp:p l[j]=true):L9 p l (j+1,m):=by
 obtain⟨h1,h2,h3,h4⟩:=h;refine⟨hj,h2,?_,?_⟩
 ·simp only[pM p l j hj,hp,if_true];exact h3
 simp only at h4 ⊢;have:=congrArg (fun x=>x.drop 1) h4;simpa using this
theorem P6 {p:Pl→Bool}{l:List Pl}{j:Nat}{m:List Pl}(h:L9 p l (j,m))(hj:j<l.length)(hp:p l[j]=false):L9 p l (j+1,m.set (kept p l j).length l[j]):=by
 have hk:=NF p l j (Nat.le_of_lt hj);obtain⟨h1,h2,h3,h4⟩:=h;simp only at h2 h3 h4;refine⟨hj,by simpa using h2,?_,?_⟩
 ·simp only[pM p l j hj,hp,Bool.false_eq_true,if_false,mZ,List.length_singleton];rw[List.take_succ_eq_append_getElem (by simp;omega),List.take_set_of_le (Nat.le_refl _),h3];simp
 simp only;have:=congrArg (fun x=>x.drop 1) h4;rw[List.drop_set_of_lt (by omega)];simpa using this
theorem Ma {p:Pl→Bool}{l:List Pl}(k:Nat)(hk:k<l.length)(h:∀j (hj:j<l.length),j<k→p l[j]=false)(hp:p l[k]=true):L9 p l (k+1,l)∧(kept p l (k+1)).length=k:=by
 have h1:kept p l k=l.take k:=by
  unfold kept;rw[List.filter_eq_self];intro x hx;obtain⟨j,hj,rfl⟩:=List.getElem_of_mem hx;rw[List.length_take] at hj;rw[List.getElem_take,h j (by omega) (by omega)];rfl
 have h2:kept p l (k+1)=l.take k:=by rw[pM p l k hk,hp,if_pos rfl,h1]
 have h3:(l.take k).length=k:=by simp;omega
 exact⟨⟨hk,rfl,by simp only[h2,h3],rfl⟩,by rw[h2,h3]⟩
theorem CO:bG prog 109 f109:=fF func109
theorem Wx (row:List PV)(l:List Pl)(f:FuncId)(p:Pl→Bool)(hp:∀x∈l,dP prog f ([]++([.agg x.c]++[.dh row 0])) (bl (p x)))(h0:∀x∈l,p x=false)(hl:l.length≤8796093022208) :
  lg prog 109 [.aZ 1 0,.pv (.fn (.func f) [] [.dh row 0])] [(1,.arr 27 0 2 (l.map Pl.c))] (.aZ 1 0) [(1,.arr 27 0 2 (l.map Pl.c))]:=by
 have hx:qZ p l = -1:=mM p h0;refine nD CO ?_;repeat' ((conv=>whnf);first|with_reducible apply aQ|((with_reducible apply fk)<;>intro hc<;>try exact bF)|(apply bC;refine⟨_,kJ _ _ _ _ p hp,?_⟩)|refine aM ?_|fail)
 ·refine⟨_,_,⟨rfl,rfl⟩,?_⟩;all_goals exact aK
 rw[hx] at hc;simp at hc
theorem Uh (row:List PV)(l:List Pl)(f:FuncId)(p:Pl→Bool)(hp:∀x∈l,dP prog f ([]++([.agg x.c]++[.dh row 0])) (bl (p x)))(h0:¬∀x∈l,p x=false)(hl:l.length≤8796093022208) :
  lg prog 109 [.aZ 1 0,.pv (.fn (.func f) [] [.dh row 0])] [(1,.arr 27 0 2 (l.map Pl.c))] (.sub 1 0 2 0 (l.filter fun x=>!p x).length) [(1,.arr 27 0 2 ((l.filter fun x=>!p x).map Pl.c++List.replicate (l.length-(l.filter fun x=>!p x).length) [ii 0,uu 0]))]:=by
 obtain⟨ix,hix,hxe,hxp,hxf⟩:∃k,∃hk:k<l.length,qZ p l=(k:Nat)∧p l[k]=true∧∀j (hj:j<l.length),j<k→p l[j]=false:=by
  rcases jo p l with ⟨_,h⟩|⟨k,hk,h1,h2,h3⟩
  ·exact absurd h h0
  exact⟨k,hk,h1,h2,h3⟩
 obtain⟨hS,hK⟩:=Ma ix hix hxf hxp;refine nD CO ?_;repeat' ((conv=>whnf);first|with_reducible apply aQ|((with_reducible apply fk)<;>intro hc<;>try exact bF)|(apply bC;refine⟨_,kJ _ _ _ _ p hp,?_⟩)|refine aM ?_|fail)
 ·rw[hxe] at hc;simp at hc
 refine⟨{jm:Nat×List Pl // L9 p l jm},fun⟨(j,m),_⟩=>⟨[(0,.aZ 1 0),(1,.pv (.fn (.func f) [] [.dh row 0])),(5,.pv (ii (kept p l j).length)),(6,.pv (ii j))],1000000000,[(1,.arr 27 0 2 (m.map Pl.c))]⟩,fun⟨(j,_),_⟩=>l.length-j,⟨⟨(ix+1,l),hS⟩,ay ?_⟩,?_⟩
 ·repeat' first|apply And.intro|exact aK|fail
  all_goals try (conv=>whnf)
  ·rw[hxe,hK]
  ·rw[hxe];exact bE (by omega) (by omega)
 rintro⟨⟨j,m⟩,hj⟩
 obtain⟨hj1,hj2,hj3,hj4⟩:=id hj;simp only at hj1 hj2 hj3 hj4;have hkl:=NF p l j hj1;repeat' ((conv=>whnf);first|with_reducible apply aQ|((with_reducible apply fk)<;>intro hc<;>try exact bF)|refine aM ?_|fail)
 ·have hlt:j<m.length:=by simpa using hc
  have hlt2:j<l.length:=by omega
  obtain⟨_,he⟩:=Ug hj hlt2;have hpj:dP prog f ([]++([.agg (m[j]).c]++[.dh row 0])) (bl (p m[j])):=hp _ (by rw[he];exact List.getElem_mem hlt2);have hi:(kept p l j).length<m.length:=by omega
  repeat' ((conv=>whnf);first|with_reducible apply aQ|((with_reducible apply fk)<;>intro hc<;>try exact bF)|(refine VB ?_)|((refine⟨_,dJ _ _ _ hlt,?_⟩))|((refine⟨_,dJ _ _ _ hi,?_⟩))|(apply bC;refine⟨_,hpj,?_⟩)|refine aM ?_|fail)
  ·have Xl:p l[j]=false:=by rw[←he];simpa using hc
   refine⟨⟨(j+1,m.set (kept p l j).length l[j]),P6 hj hlt2 Xl⟩,dec_lt hlt2,ay ?_⟩;have hks:(kept p l (j+1)).length=(kept p l j).length+1:=by rw[pM p l j hlt2,Xl];simp
   repeat' first|apply And.intro|exact aK|fail
   all_goals try (conv=>whnf)
   ·refine gN ?_;rw[←he,List.map_set];rfl
   ·rw[bE (by omega) (by omega),hks];omega
   exact bE (by omega) (by omega)
  have hpt:p l[j]=true:=by rw[←he];simpa using hc
  refine⟨⟨(j+1,m),P5 hj hlt2 hpt⟩,dec_lt hlt2,ay ?_⟩;have hks:(kept p l (j+1)).length=(kept p l j).length:=by rw[pM p l j hlt2,hpt];simp
  repeat' first|apply And.intro|exact aK|fail
  all_goals try (conv=>whnf)
  ·rw[hks]
  exact bE (by omega) (by omega)
 have hjl:j=l.length:=by simp at hc;omega
 subst hjl;have hkf:kept p l l.length=l.filter fun x=>!p x:=by unfold kept;rw[List.take_length]
 repeat' ((conv=>whnf);first|with_reducible apply aQ|((with_reducible apply fk)<;>intro hc<;>try exact bF)|(((with_reducible apply And.intro);focus (simp only[fe,mZ,List.length_take,List.length_drop,List.length_replicate];omega)))|refine aM ?_|fail)
 refine⟨_,_,⟨rfl,rfl⟩,?_⟩;repeat' first|apply And.intro|exact aK|fail
 all_goals try (conv=>whnf)
 ·refine gN ?_;rw[←hkf,Int.toNat_natCast,List.length_map,←List.map_take,hj3,List.drop_eq_nil_of_le (by simp),List.append_nil,hj2]
 rw[hkf];rfl
theorem Wy (row:List PV)(l:List Pl)(f:FuncId)(p:Pl→Bool)(hp:∀x∈l,dP prog f ([]++([.agg x.c]++[.dh row 0])) (bl (p x)))(h0:¬∀x∈l,p x=false)(hl:l.length≤8796093022208) :
  lg prog 109 [.aZ 1 0,.pv (.fn (.func f) [] [.dh row 0])] [(1,.arr 27 0 2 (l.map Pl.c))] (.aZ 1 1) [(1,.arr 27 1 2 ((l.filter fun x=>!p x).map Pl.c))]:=by
 have h:=Nl (Uh row l f p hp h0 hl) (by simp);rw[List.take_append_of_le_length (by simp),List.take_of_length_le (by simp)] at h;exact h
def dbl (T:Tab):Tab:=
 match T with
 |x::r=>x::x::r
 |[]=>[]
def aeg:Tab:=dbl tab
theorem Y9 (T:Tab)(t:Nat):lk (dbl T) t=lk T t:=by
 cases T with
 |nil=>rfl
 | cons x r=>
   obtain⟨k,v⟩:=x;simp only[dbl,ak];split<;>rfl
theorem sU:bA prog aeg:=fun t i h=>nR t i (by rw[←Y9 tab t];exact h)
theorem L6:bG prog 130 f130:=fF func130
theorem L8 (l:List Pl)(i:Nat)(hi:i<l.length)(hl:l.length≤1000000)(a b:Int)(ha:a=(i:Int))(hb:b=(i:Int)+1) :
  lg prog 130 [.aZ 1 0,.pv (ii a),.pv (ii b)] [(1,.arr 27 0 2 (l.map Pl.c))] (.sub 1 0 2 0 (l.length-1)) [(1,.arr 27 0 2 ((l.eraseIdx i).map Pl.c++[[ii 0,uu 0]]))]:=by
 have d1:(a==b)=false:=by rw[ha,hb];simp;omega
 have ha2:a≤(i:Int)∧(i:Int)≤a:=by omega
 have hb2:b≤(i:Int)+1∧(i:Int)+1≤b:=by omega
 have hta:a.toNat=i:=by omega
 have htb:b.toNat=i+1:=by omega
 clear ha hb;refine wm sU (jU mixed sU) L6 rfl ?_;repeat' ((conv=>whnf);first|with_reducible apply aQ|((with_reducible apply fk)<;>intro hc<;>try exact bF)|(((with_reducible apply And.intro);focus (simp only[jM,fe,mZ,List.length_take,List.length_drop,List.length_replicate];omega)))|refine aM ?_|fail)
 refine⟨_,_,⟨rfl,rfl⟩,?_⟩;repeat' first|apply And.intro|exact aK|fail
 all_goals try (conv=>whnf)
 ·refine gN ?_;rw[hta,htb];obtain⟨L,hL⟩:∃L,l.map Pl.c=L:=⟨_,rfl⟩;have hn:L.length=l.length:=by rw[←hL,List.length_map]
  have e0:List.map Pl.c (l.eraseIdx i)=L.take i++L.drop (i+1):=by rw[←hL,List.eraseIdx_eq_take_drop_succ,List.map_append,List.map_take,List.map_drop]
  rw[e0,hL];have hiL:i<L.length:=by omega
  have e1:jM L (i+1) L.length=L.drop (i+1):=by unfold jM;exact List.take_of_length_le (by simp)
  have e2:i+(L.drop (i+1)).length=L.length-1:=by rw[List.length_drop];omega
  have hM:(L.take i++L.drop (i+1)).length=L.length-1:=by rw[List.length_append,List.length_take,List.length_drop];omega
  have e3:(jM (L.take i++(L.drop (i+1)++L.drop (L.length-1))) 0 (L.length-1)).length=L.length-1:=by
   simp only[jM,List.length_take,List.length_drop,mZ];omega
  have e5:List.drop L.length (L.take i++L.drop (i+1)++L.drop (L.length-1))=[]:=List.drop_eq_nil_of_le (by rw[List.length_append,hM,List.length_drop];omega);simp only[e1,e2,e3,Int.toNat_natCast];rw[←List.append_assoc (L.take i),List.take_append_of_le_length (by omega),List.take_of_length_le (by omega),e5,show L.length-(L.length-1)=1 by omega];rfl
 rw[hta,htb,List.length_map];have:(jM (List.map Pl.c l) (i+1) l.length).length=l.length-(i+1):=by simp only[jM,List.length_take,List.length_drop,fe];omega
 rw[this,show i+(l.length-(i+1))=l.length-1 by omega]
theorem PY (l:List Pl)(i:Nat)(hi:i<l.length)(hl:l.length≤1000000)(a b:Int)(ha:a=(i:Int))(hb:b=(i:Int)+1) :
  lg prog 130 [.aZ 1 0,.pv (ii a),.pv (ii b)] [(1,.arr 27 0 2 (l.map Pl.c))] (.aZ 1 1) [(1,.arr 27 1 2 ((l.eraseIdx i).map Pl.c))]:=by
 have hel:(l.eraseIdx i).length=l.length-1:=by rw[List.length_eraseIdx,if_pos hi]
 have h:=Nl (L8 l i hi hl a b ha hb) (by simp only[mZ,fe,List.length_singleton];omega);rw[List.take_append_of_le_length (by rw[List.length_map];omega),List.take_of_length_le (by rw[List.length_map];omega)] at h;exact h
theorem Ue (bad known:List Pl)(hk:known.length≤1000):lg prog 109 [.aZ 1 0,.pv (.fn (.func 128) [] [.dh [dO bad] 0])] [(1,.arr 27 0 2 (known.map Pl.c))] (.aZ 1 1) [(1,.arr 27 1 2 ((fit bad known).map Pl.c))]:=by
 by_cases h0:∀x∈known,bad.any (· == x)=false
 ·have h:=SN (Wx [dO bad] known 128 (fun x=>bad.any (· == x)) (fun x _=>Fh bad x) h0 (by omega));have hf:fit bad known=known:=List.filter_eq_self.2 (fun x hx=>by rw[h0 x hx];rfl);rw[hf];exact h
 exact Wy [dO bad] known 128 (fun x=>bad.any (· == x)) (fun x _=>Fh bad x) h0 (by omega)
theorem PZ:bG prog 81 f81:=fF func81
theorem Uf (f:Fr)(w e:Int)(bad known:List Pl)(hf:f.ah.length≤1000)(hk:known.length≤1000) :
  dP prog 81 [.agg f.c,ii w,ii e,dO bad,dO known] (.fM [.agg (gU f w e bad known).1.c,bl (gU f w e bad known).2]):=by
 refine PC.le ?_;have hdel:=Ue bad known hk;have hcl:=gW known (by omega);obtain⟨X,hX⟩:∃X,X=gU f w e bad known:=⟨_,rfl⟩;rw[←hX];unfold gU at hX;have hfl:(fit bad known).length≤1000:=Nat.le_trans (List.length_filter_le _ _) hk;obtain⟨kn,hkn⟩:∃kn,fit bad known=kn:=⟨_,rfl⟩;rw[hkn] at hX hdel hfl;clear hkn hk;refine dW PZ ?_;repeat' ((conv=>whnf);first|with_reducible apply aQ|((with_reducible apply fk)<;>intro hc<;>try exact bF)|(apply iC;refine⟨_,_,hcl,?_⟩)|(apply iC;refine⟨_,_,aN (hdel) ?_,?_⟩;exact dx)|refine aM ?_|fail)
 clear hdel hcl;refine⟨{k:Nat // k≤f.ah.length},fun⟨k,_⟩=>⟨[(1,.pv (ii w)),(2,.pv (ii e)),(4,.aZ 1004 0),(8,.ptr 1008 0),(10,.ptr 1010 0),(12,.pv (bl ((f.ah.take k).foldl (yK bad kn) (f,[],false)).2.2)),(13,.aZ 1013 0),(14,.ptr 1014 0),(29,.pv (dO f.ah)),(30,.pv (ii f.ah.length)),(31,.pv (ii k))],1000000000,[(1004,.gD 0 2 (kn.map Pl.c)),(1008,.lM [dO bad]),(1010,.var [.pv (uu 0),.pv dV]),(1013,.arr 27 0 2 (((f.ah.take k).foldl (yK bad kn) (f,[],false)).2.1.map Pl.c)),(1014,.var [.pv (uu ((f.ah.take k).foldl (yK bad kn) (f,[],false)).1.first),.pv (dO ((f.ah.take k).foldl (yK bad kn) (f,[],false)).1.ah)])]⟩,fun⟨k,_⟩=>f.ah.length-k,⟨⟨0,Nat.zero_le _⟩,VQ [1001003001] ?_⟩,?_⟩
 ·repeat' first|apply And.intro|exact aK|fail
  all_goals try (conv=>whnf)
  all_goals simp
 rintro⟨k,hk⟩
 by_cases hlt:k<f.ah.length
 ·have d0:decide ((k:Int)<(f.ah.length:Int))=true:=by simp only[kU];omega
  have eW:IntKind.i64.wrap ((k:Int)+1)=((k+1:Nat):Int):=by rw[bE (by omega) (by omega)];omega
  have hst:=lD (yK bad kn) (f,[],false) f.ah k hlt;obtain⟨g1,g2,g3⟩:=Aw bad kn (f.ah.take k) (f,[],false);simp only[List.length_take,mI] at g1 g3;obtain⟨S,hS⟩:∃S,(f.ah.take k).foldl (yK bad kn) (f,[],false)=S:=⟨_,rfl⟩;rw[hS] at hst g1 g3;clear g2 hX;have hco:=bS bad f.ah[k].node f.ah[k].bf;have hre:=JI S.1 f.ah[k] kn (by omega);have hr1:yK bad kn S f.ah[k]=if bad.any (· == f.ah[k]) then (if (iq S.1 f.ah[k] kn).2 then ((iq S.1 f.ah[k] kn).1,S.2.1,true) else ((iq S.1 f.ah[k] kn).1,S.2.1++[f.ah[k]],S.2.2)) else S:=rfl
  rw[hr1] at hst;clear hr1;rw[show (bad.any fun y=>y==(⟨f.ah[k].node,f.ah[k].bf⟩:Pl))=bad.any (· == f.ah[k]) from rfl] at hco;obtain⟨bb,vM⟩:∃bb,bad.any (· == f.ah[k])=bb:=⟨_,rfl⟩;rw[vM] at hco hst;clear vM;dsimp only
  rw[hS];cases bb with
  | false=>
    simp only[Bool.false_eq_true,↓reduceIte] at hst;repeat' ((conv=>whnf);first|with_reducible apply aQ|((with_reducible apply fk)<;>intro hc<;>try exact bF)|((refine⟨_,dJ _ _ _ hlt,?_⟩))|(apply bC;refine⟨_,hco,?_⟩)|refine aM ?_|fail)
    all_goals
     refine⟨⟨k+1,hlt⟩,dec_lt hlt,ay ?_⟩;simp only[hst];repeat' first|apply And.intro|exact aK|fail
     all_goals try (conv=>whnf)
    all_goals exact eW
  | true=>
    simp only[↓reduceIte] at hst;obtain⟨rp,Qy⟩:∃rp,iq S.1 f.ah[k] kn=rp:=⟨_,rfl⟩;rw[Qy] at hst hre;clear Qy;obtain⟨rp1,rp2⟩:=rp;cases rp2 with
    | true=>
      simp only[↓reduceIte] at hst;simp only at hre;repeat' ((conv=>whnf);first|with_reducible apply aQ|((with_reducible apply fk)<;>intro hc<;>try exact bF)|((refine⟨_,dJ _ _ _ hlt,?_⟩))|(apply bC;refine⟨_,hco,?_⟩)|(apply bC;refine⟨_,aL (hre) ?_,?_⟩;exact dx)|refine aM ?_|fail)
      all_goals
       refine⟨⟨k+1,hlt⟩,dec_lt hlt,ay ?_⟩;simp only[hst];repeat' first|apply And.intro|exact aK|fail
       all_goals try (conv=>whnf)
      all_goals first
       |exact eW
       |(show _=true;simp_all;done)
    | false=>
      simp only[Bool.false_eq_true,↓reduceIte] at hst;simp only at hre;repeat' ((conv=>whnf);first|with_reducible apply aQ|((with_reducible apply fk)<;>intro hc<;>try exact bF)|((refine⟨_,dJ _ _ _ hlt,?_⟩))|(apply bC;refine⟨_,hco,?_⟩)|(apply bC;refine⟨_,aL (hre) ?_,?_⟩;exact dx)|(((with_reducible apply And.intro);focus (simp only[fe,mH,mI];omega)))|refine aM ?_|fail)
      all_goals
       refine⟨⟨k+1,hlt⟩,dec_lt hlt,ay ?_⟩;simp only[hst];repeat' first|apply And.intro|exact aK|fail
       all_goals try (conv=>whnf)
      all_goals first
       |exact eW
       | (rw[List.map_append]
          refine dH (aC _) ?_
          (repeat' first|apply And.intro|exact aK|fail);(all_goals try (conv=>whnf)))
       |(symm;assumption)
 have hke:k=f.ah.length:=by omega
 subst hke;have d0:decide ((f.ah.length:Int)<(f.ah.length:Int))=false:=by simp
 obtain⟨g1,g2,g3⟩:=Aw bad kn f.ah (f,[],false);simp only[mI] at g1 g3;dsimp only
 rw[List.take_length];unfold j3 at hX;obtain⟨⟨S,left,s1⟩,hS⟩:∃S,f.ah.foldl (yK bad kn) (f,[],false)=S:=⟨_,rfl⟩;rw[hS] at hX g1 g3 ⊢;simp only at g1 g3;unfold sD at hX;simp only at hX;clear g2 hS;have hcl:=gW S.ah (by omega);repeat' ((conv=>whnf);first|with_reducible apply aQ|((with_reducible apply fk)<;>intro hc<;>try exact bF)|(apply iC;refine⟨_,_,hcl,?_⟩)|refine aM ?_|fail)
 clear hcl;refine⟨{k:Nat // k≤left.length},fun⟨k,_⟩=>⟨[(1,.pv (ii w)),(2,.pv (ii e)),(4,.aZ 1004 0),(10,.ptr 1010 0),(12,.pv (bl ((left.take k).foldl (Li w) (S.ah,s1)).2)),(14,.ptr 1014 0),(61,.aZ 1061 0),(62,.pv (ii left.length)),(63,.pv (ii k))],1000000000,[(1004,.gD 0 2 (kn.map Pl.c)),(1010,.var [.pv (uu 0),.pv dV]),(1061,.arr 27 0 2 (left.map Pl.c)),(1014,.var [.pv (uu S.first),.aZ 1015 0]),(1015,.arr 27 0 2 (((left.take k).foldl (Li w) (S.ah,s1)).1.map Pl.c))]⟩,fun⟨k,_⟩=>left.length-k,⟨⟨0,Nat.zero_le _⟩,ay ?_⟩,?_⟩
 ·repeat' first|apply And.intro|exact aK|fail
  all_goals try (conv=>whnf)
  all_goals simp
 rintro⟨k,hk2⟩
 by_cases hlt2:k<left.length
 ·have d1:decide ((k:Int)<(left.length:Int))=true:=by simp only[kU];omega
  have eW:IntKind.i64.wrap ((k:Int)+1)=((k+1:Nat):Int):=by rw[bE (by omega) (by omega)];omega
  have hst:=lD (Li w) (S.ah,s1) left k hlt2;have g4:=Ay w (left.take k) (S.ah,s1);simp only at g4;clear hX;obtain⟨⟨b,s2⟩,hS2⟩:∃S2,(left.take k).foldl (Li w) (S.ah,s1)=S2:=⟨_,rfl⟩;dsimp only
  rw[hS2] at hst g4 ⊢;simp only at g4;have hix:=qC b left[k].node left[k].bf;rw[show qZ (fun y=>y==(⟨left[k].node,left[k].bf⟩:Pl)) b=qZ (· == left[k]) b from rfl] at hix;have hr2:Li w (b,s2) left[k]=if decide ((b.length:Int)>w)&&decide (qZ (· == left[k]) b≥0) then (b.eraseIdx (qZ (· == left[k]) b).toNat,true) else (b,s2):=rfl
  rw[hr2] at hst;have hsp:=jo (· == left[k]) b;obtain⟨K,hK⟩:∃K,qZ (· == left[k]) b=K:=⟨_,rfl⟩;rw[hK] at hix hst hsp;clear hr2 hK hS2;cases e1:decide ((b.length:Int)>w) with
  | false=>
    have e1':decide (((List.map Pl.c b).length:Int)>w)=false:=by rw[List.length_map];exact e1
    rw[e1] at hst;simp only[Bool.false_and,Bool.false_eq_true,↓reduceIte] at hst;clear hsp;repeat' ((conv=>whnf);first|with_reducible apply aQ|((with_reducible apply fk)<;>intro hc<;>try exact bF)|((refine⟨_,dJ _ _ _ hlt2,?_⟩))|(apply bC;refine⟨_,aL (hix) ?_,?_⟩;exact dx)|refine aM ?_|fail)
    all_goals
     refine⟨⟨k+1,hlt2⟩,dec_lt hlt2,ay ?_⟩;simp only[hst];repeat' first|apply And.intro|exact aK|fail
     all_goals try (conv=>whnf)
    all_goals exact eW
  | true=>
    have e1':decide (((List.map Pl.c b).length:Int)>w)=true:=by rw[List.length_map];exact e1
    rw[e1] at hst;rcases hsp with ⟨hsp,_⟩|⟨n,hn,hsp,_⟩
    ·have e2:decide (K≥0)=false:=by simp only[Au];omega
     rw[e2] at hst;simp only[Bool.and_false,Bool.false_eq_true,↓reduceIte] at hst;clear hsp;repeat' ((conv=>whnf);first|with_reducible apply aQ|((with_reducible apply fk)<;>intro hc<;>try exact bF)|((refine⟨_,dJ _ _ _ hlt2,?_⟩))|(apply bC;refine⟨_,aL (hix) ?_,?_⟩;exact dx)|refine aM ?_|fail)
     all_goals
      refine⟨⟨k+1,hlt2⟩,dec_lt hlt2,ay ?_⟩;simp only[hst];repeat' first|apply And.intro|exact aK|fail
      all_goals try (conv=>whnf)
     all_goals exact eW
    have e2:decide (K≥0)=true:=by simp only[kU];omega
    rw[e2] at hst;simp only[Bool.and_self,↓reduceIte] at hst;have hde:=PY b n hn (by omega) K (IntKind.i64.wrap (K+1)) hsp (by rw[bE (by omega) (by omega)];omega);rw[show K.toNat=n by omega] at hst;clear hsp;repeat' ((conv=>whnf);first|with_reducible apply aQ|((with_reducible apply fk)<;>intro hc<;>try exact bF)|((refine⟨_,dJ _ _ _ hlt2,?_⟩))|(apply bC;refine⟨_,aL (hix) ?_,?_⟩;exact dx)|(apply iC;refine⟨_,_,aN (hde) ?_,?_⟩;exact dx)|refine aM ?_|fail)
    all_goals
     refine⟨⟨k+1,hlt2⟩,dec_lt hlt2,ay ?_⟩;simp only[hst];repeat' first|apply And.intro|exact aK|fail
     all_goals try (conv=>whnf)
    all_goals exact eW
 have hke2:k=left.length:=by omega
 subst hke2;have d1:decide ((left.length:Int)<(left.length:Int))=false:=by simp
 have g4:=Ay w left (S.ah,s1);simp only at g4;dsimp only
 rw[List.take_length];obtain⟨⟨b,s2⟩,hS2⟩:∃S2,left.foldl (Li w) (S.ah,s1)=S2:=⟨_,rfl⟩;rw[hS2] at hX g4 ⊢;simp only at hX g4;clear hS2;cases s2 with
 | false=>
   simp only[Bool.false_eq_true,↓reduceIte] at hX;subst hX;dsimp only
   repeat' ((conv=>whnf);first|with_reducible apply aQ|((with_reducible apply fk)<;>intro hc<;>try exact bF)|refine aM ?_|fail)
   all_goals exact aK
 |true=>
 simp only[↓reduceIte] at hX;dsimp only
 repeat' ((conv=>whnf);first|with_reducible apply aQ|((with_reducible apply fk)<;>intro hc<;>try exact bF)|refine aM ?_|fail)
 refine⟨{k:Nat // k≤kn.length},fun⟨k,_⟩=>⟨[(2,.pv (ii e)),(10,.ptr 1010 0),(14,.ptr 1014 0),(91,.aZ 1004 0),(92,.pv (ii kn.length)),(93,.pv (ii k))],1000000000,[(1004,.gD 0 2 (kn.map Pl.c)),(1010,.var [.pv (uu 0),.pv dV]),(1014,.var [.pv (uu S.first),.aZ 1015 0]),(1015,.arr 27 0 2 (((kn.take k).foldl (O9 e) b).map Pl.c))]⟩,fun⟨k,_⟩=>kn.length-k,⟨⟨0,Nat.zero_le _⟩,ay ?_⟩,?_⟩
 ·repeat' first|apply And.intro|exact aK|fail
  all_goals try (conv=>whnf)
  all_goals simp
 rintro⟨k,hk3⟩
 by_cases DR:k<kn.length
 ·have d2:decide ((k:Int)<(kn.length:Int))=true:=by simp only[kU];omega
  have eW:IntKind.i64.wrap ((k:Int)+1)=((k+1:Nat):Int):=by rw[bE (by omega) (by omega)];omega
  have hst:=lD (O9 e) b kn k DR;have g5:=Ng e (kn.take k) b;simp only[List.length_take] at g5;clear hX;obtain⟨m,hm⟩:∃m,(kn.take k).foldl (O9 e) b=m:=⟨_,rfl⟩;dsimp only
  rw[hm] at hst g5 ⊢;clear hm;have ZK:=lF m 131 [] [.dh (kn[k]).c 0] (fun y=>y.node==kn[k].node) (fun y _=>PX kn[k] y);have hr3:O9 e m kn[k]=if decide ((m.length:Int)<(if 5<e then 5 else e)) && !(m.any fun y=>y.node==kn[k].node) then m++[kn[k]] else m:=rfl
  rw[hr3] at hst;clear hr3;obtain⟨ct,hct⟩:∃ct,(m.any fun y=>y.node==kn[k].node)=ct:=⟨_,rfl⟩;rw[hct] at hst ZK;clear hct;cases e1:decide ((m.length:Int)<(if 5<e then 5 else e)) with
  | false=>
    have e1':decide (((List.map Pl.c m).length:Int)<(if 5<e then 5 else e))=false:=by rw[List.length_map];exact e1
    rw[e1] at hst;simp only[Bool.false_and,Bool.false_eq_true,↓reduceIte] at hst;repeat' ((conv=>whnf);first|with_reducible apply aQ|((with_reducible apply fk)<;>intro hc<;>try exact bF)|((refine⟨_,dJ _ _ _ DR,?_⟩))|(apply bC;refine⟨_,aL (ZK) ?_,?_⟩;exact dx)|refine aM ?_|fail)
    all_goals
     refine⟨⟨k+1,DR⟩,dec_lt DR,ay ?_⟩;simp only[hst];repeat' first|apply And.intro|exact aK|fail
     all_goals try (conv=>whnf)
    all_goals exact eW
  | true=>
    have e1':decide (((List.map Pl.c m).length:Int)<(if 5<e then 5 else e))=true:=by rw[List.length_map];exact e1
    rw[e1] at hst;cases ct with
    | true=>
      simp only[Bool.not_true,Bool.and_false,Bool.false_eq_true,↓reduceIte] at hst;repeat' ((conv=>whnf);first|with_reducible apply aQ|((with_reducible apply fk)<;>intro hc<;>try exact bF)|((refine⟨_,dJ _ _ _ DR,?_⟩))|(apply bC;refine⟨_,aL (ZK) ?_,?_⟩;exact dx)|refine aM ?_|fail)
      all_goals
       refine⟨⟨k+1,DR⟩,dec_lt DR,ay ?_⟩;simp only[hst];repeat' first|apply And.intro|exact aK|fail
       all_goals try (conv=>whnf)
      all_goals exact eW
    | false=>
      simp only[Bool.not_false,Bool.and_self,↓reduceIte] at hst;repeat' ((conv=>whnf);first|with_reducible apply aQ|((with_reducible apply fk)<;>intro hc<;>try exact bF)|((refine⟨_,dJ _ _ _ DR,?_⟩))|(apply bC;refine⟨_,aL (ZK) ?_,?_⟩;exact dx)|(((with_reducible apply And.intro);focus (simp only[fe,mH,mI];omega)))|refine aM ?_|fail)
      all_goals
       refine⟨⟨k+1,DR⟩,dec_lt DR,ay ?_⟩;simp only[hst];repeat' first|apply And.intro|exact aK|fail
       all_goals try (conv=>whnf)
      all_goals first
       |exact eW
       | (rw[List.map_append]
          refine dH (aC _) ?_
          (repeat' first|apply And.intro|exact aK|fail);(all_goals try (conv=>whnf)))
 have aei:k=kn.length:=by omega
 subst aei;have d2:decide ((kn.length:Int)<(kn.length:Int))=false:=by simp
 dsimp only
 rw[List.take_length];subst hX;repeat' ((conv=>whnf);first|with_reducible apply aQ|((with_reducible apply fk)<;>intro hc<;>try exact bF)|refine aM ?_|fail)
 all_goals exact aK
theorem UF {α:Type}(p:α→Bool):∀(l:List α) (n:Nat) (hn:n<l.length),p l[n]=false→(∀j (hj:j<l.length),j<n→p l[j]=true)→(l.takeWhile p).length=n
 |[],n,hn,_,_=>absurd hn (by simp)
 | x::r,0,_,h,_=>by
   have h:p x=false:=h;rw[List.takeWhile_cons,h];rfl
 | x::r,n+1,hn,h,h2=>by
   have h0:p x=true:=h2 0 (by simp) (by omega);rw[List.takeWhile_cons,h0];simp only[↓reduceIte,mH];rw[UF p r n (by simpa using hn) h (fun j hj hlt=>h2 (j+1) (by simpa using hj) (by omega))]
theorem UG {α:Type}(p:α→Bool):∀(l:List α),(∀x∈l,p x=true)→(l.takeWhile p).length=l.length
 |[],_=>rfl
 | x::r,h=>by
   rw[List.takeWhile_cons,h x (by simp)];simp only[↓reduceIte,mH];rw[UG p r (fun y hy=>h y (by simp[hy]))]
theorem Fq {α:Type}(p:α→Bool)(l:List α):∃j,(l.takeWhile p).length=j∧((j=l.length∧qZ (fun x=>!p x) l = -1)∨(j<l.length∧qZ (fun x=>!p x) l=(j:Nat))):=by
 refine⟨_,rfl,?_⟩;rcases jo (fun x=>!p x) l with ⟨h1,h2⟩|⟨n,hn,h1,h2,h3⟩
 ·exact .inl ⟨UG p l fun x hx=>by simpa using h2 x hx,h1⟩
 rw[UF p l n hn (by simpa using h2) (fun j hj hlt=>by simpa using h3 j hj hlt)];exact .inr ⟨hn,h1⟩
def nT (w:Wr)(k:Nat):Int:=((w.waits.take k).getLast?.map (·.n)).getD w.sure
theorem NR:bG prog 132 f132:=fF func132
theorem JP:bG prog 84 f84:=fF func84
theorem NS (w:Wr)(j:Nat)(hj:(w.waits.takeWhile (bX w)).length=j):dR w={ w with sure:=nT w j,waits:=w.waits.drop j }:=by
 have e1:=drop_take (bX w) w.waits;have e2:=getLast_take (bX w) w.waits;rw[hj] at e1 e2;unfold dR nT;rw[e1,e2]
theorem sub_eq {b v v' st lo YZ hi hi':Nat}(h1:v=v')(h2:lo=YZ)(h3:hi=hi'):AV.sub b v st lo hi=AV.sub b v' st YZ hi':=by rw[h1,h2,h3]
theorem UH (w:Wr)(rb:List (List PV))(hf:iN w.l.aj)(hw:∀x∈w.waits,eD x.n)(hl:w.waits.length≤1000)(j:Nat)(hj:(w.waits.takeWhile (bX w)).length=j) :
  lg prog 84 [.ptr 1 0] [(1,.var (nC w (.pv (eT w.l.aj)) (.aZ 2 0) (.pv (.sl false 2 rb)) (.pv dV))),(2,.arr 145 0 5 (w.waits.map Wt.c))] (.pv (.fM []))
   [(1,.var (nC { w with sure:=nT w j } (.pv (eT w.l.aj)) (.sub 2 0 5 j w.waits.length) (.pv (.sl false 2 rb)) (.pv dV))),(2,.arr 145 0 5 (w.waits.map Wt.c))]:=by
 obtain⟨j0,h0,hix⟩:=Fq (bX w) w.waits;obtain rfl:j0=j:=h0.symm.trans hj;have hi:=xK w.waits 162 [] [.dh [.fn (.func 133) [] [.dh [.dh (ZN w (nA w.waits) (.sl false 2 rb) dV) 0] 0]] 0] (fun x=>!(bX w x)) (fun x hx=>NM w _ _ _ x hf (hw x hx));have hjl:j0≤w.waits.length:=by rcases hix with ⟨e,_⟩|⟨e,_⟩<;>omega
 clear hj h0 hf;have dj:decide ((j0:Int)<0)=false:=by simp
 rcases hix with ⟨e1,e2⟩|⟨e1,e2⟩
 all_goals
  rw[e2] at hi;replace e1:=Hd.mk e1;clear e2;refine nD JP ?_;repeat' ((conv=>whnf);first|with_reducible apply aQ|((with_reducible apply fk)<;>intro hc<;>try exact bF)|((refine Or.inr ?_;(conv=>whnf);refine⟨_,o7 sU (jU mixed sU) NR rfl ?_,fun _ _ h=>h⟩))|(apply bC;refine⟨_,hi,?_⟩)|(((with_reducible apply And.intro);focus (simp only[fe,Int.toNat_natCast];omega)))|refine aM ?_|fail)
  clear hi;refine⟨{k:Nat // k≤j0},fun⟨k,_⟩=>⟨[(1,.ptr 1001 0),(3,.sub 2 0 5 j0 w.waits.length),(16,.sub 2 0 5 0 j0),(17,.pv (ii j0)),(18,.pv (ii k))],1000000000,[(1,.var (nC { w with sure:=nT w k } (.pv (eT w.l.aj)) (.aZ 2 0) (.pv (.sl false 2 rb)) (.pv dV))),(2,.arr 145 0 5 (w.waits.map Wt.c)),(1001,.var [.ptr 1 0])]⟩,fun⟨k,_⟩=>j0-k,⟨⟨0,Nat.zero_le _⟩,ay ?_⟩,?_⟩
  ·repeat' first|apply And.intro|exact aK|fail
   all_goals try (conv=>whnf)
   all_goals
    have e1:=e1.out;first
     |exact sub_eq rfl (by simp only[fe,Int.toNat_natCast]<;>omega) (by simp only[fe,Int.toNat_natCast]<;>omega)
     |exact sub_eq rfl rfl (by simp only[fe,Int.toNat_natCast]<;>omega)
     |(simp only[jM,fe,Int.toNat_natCast,List.drop_zero,List.length_take];omega)
     |skip
  rintro⟨k,hk⟩
  by_cases hlt:k<j0
  ·have d0:decide ((k:Int)<(j0:Int))=true:=by simp only[kU];omega
   have eW:IntKind.i64.wrap ((k:Int)+1)=((k+1:Nat):Int):=by rw[bE (by omega) (by omega)];omega
   have hr:=dJ Wt.c w.waits k (by omega);have hsk:nT w (k+1)=(w.waits[k]'(by omega)).n:=by
    unfold nT;rw[List.take_succ_eq_append_getElem (by omega),List.getLast?_append];rfl
   have hr:(w.waits.map Wt.c)[0+(k:Int).toNat]? = some (w.waits[k]'(by omega)).c:=by rw[Nat.zero_add];exact hr
   replace hsk:=Hd.mk hsk;repeat' ((conv=>whnf);first|with_reducible apply aQ|((with_reducible apply fk)<;>intro hc<;>try exact bF)|((refine⟨_,hr,?_⟩))|(((with_reducible apply And.intro);focus (simp only[Int.toNat_natCast];omega)))|refine aM ?_|fail)
   refine⟨⟨k+1,hlt⟩,dec_lt hlt,ay ?_⟩;repeat' first|apply And.intro|exact aK|fail
   all_goals try (conv=>whnf)
   all_goals first
    |exact eW
    |exact hsk.out.symm
    |exact hsk.out
    |skip
  have hke:k=j0:=by omega
  subst hke;have d0:decide ((k:Int)<(k:Int))=false:=by simp
  repeat' ((conv=>whnf);first|with_reducible apply aQ|((with_reducible apply fk)<;>intro hc<;>try exact bF)|refine aM ?_|fail)
  refine⟨_,_,⟨rfl,rfl⟩,?_⟩;all_goals exact aK
theorem UI (w:Wr)  (hf:iN w.l.aj)(hw:∀x∈w.waits,eD x.n)(hl:w.waits.length≤1000)(j:Nat)(hj:(w.waits.takeWhile (bX w)).length=j) :
  lg prog 84 [.ptr 1 0] [(1,.var (nC w (.pv (eT w.l.aj)) (.aZ 2 0) (.pv (dV)) (.pv dV))),(2,.arr 145 0 5 (w.waits.map Wt.c))] (.pv (.fM []))
   [(1,.var (nC { w with sure:=nT w j } (.pv (eT w.l.aj)) (.sub 2 0 5 j w.waits.length) (.pv (dV)) (.pv dV))),(2,.arr 145 0 5 (w.waits.map Wt.c))]:=by
 obtain⟨j0,h0,hix⟩:=Fq (bX w) w.waits;obtain rfl:j0=j:=h0.symm.trans hj;have hi:=xK w.waits 162 [] [.dh [.fn (.func 133) [] [.dh [.dh (ZN w (nA w.waits) (dV) dV) 0] 0]] 0] (fun x=>!(bX w x)) (fun x hx=>NM w _ _ _ x hf (hw x hx));have hjl:j0≤w.waits.length:=by rcases hix with ⟨e,_⟩|⟨e,_⟩<;>omega
 clear hj h0 hf;have dj:decide ((j0:Int)<0)=false:=by simp
 rcases hix with ⟨e1,e2⟩|⟨e1,e2⟩
 all_goals
  rw[e2] at hi;replace e1:=Hd.mk e1;clear e2;refine nD JP ?_;repeat' ((conv=>whnf);first|with_reducible apply aQ|((with_reducible apply fk)<;>intro hc<;>try exact bF)|((refine Or.inr ?_;(conv=>whnf);refine⟨_,o7 sU (jU mixed sU) NR rfl ?_,fun _ _ h=>h⟩))|(apply bC;refine⟨_,hi,?_⟩)|(((with_reducible apply And.intro);focus (simp only[fe,Int.toNat_natCast];omega)))|refine aM ?_|fail)
  clear hi;refine⟨{k:Nat // k≤j0},fun⟨k,_⟩=>⟨[(1,.ptr 1001 0),(3,.sub 2 0 5 j0 w.waits.length),(16,.sub 2 0 5 0 j0),(17,.pv (ii j0)),(18,.pv (ii k))],1000000000,[(1,.var (nC { w with sure:=nT w k } (.pv (eT w.l.aj)) (.aZ 2 0) (.pv (dV)) (.pv dV))),(2,.arr 145 0 5 (w.waits.map Wt.c)),(1001,.var [.ptr 1 0])]⟩,fun⟨k,_⟩=>j0-k,⟨⟨0,Nat.zero_le _⟩,ay ?_⟩,?_⟩
  ·repeat' first|apply And.intro|exact aK|fail
   all_goals try (conv=>whnf)
   all_goals
    have e1:=e1.out;first
     |exact sub_eq rfl (by simp only[fe,Int.toNat_natCast]<;>omega) (by simp only[fe,Int.toNat_natCast]<;>omega)
     |exact sub_eq rfl rfl (by simp only[fe,Int.toNat_natCast]<;>omega)
     |(simp only[jM,fe,Int.toNat_natCast,List.drop_zero,List.length_take];omega)
     |skip
  rintro⟨k,hk⟩
  by_cases hlt:k<j0
  ·have d0:decide ((k:Int)<(j0:Int))=true:=by simp only[kU];omega
   have eW:IntKind.i64.wrap ((k:Int)+1)=((k+1:Nat):Int):=by rw[bE (by omega) (by omega)];omega
   have hr:=dJ Wt.c w.waits k (by omega);have hsk:nT w (k+1)=(w.waits[k]'(by omega)).n:=by
    unfold nT;rw[List.take_succ_eq_append_getElem (by omega),List.getLast?_append];rfl
   have hr:(w.waits.map Wt.c)[0+(k:Int).toNat]? = some (w.waits[k]'(by omega)).c:=by rw[Nat.zero_add];exact hr
   replace hsk:=Hd.mk hsk;repeat' ((conv=>whnf);first|with_reducible apply aQ|((with_reducible apply fk)<;>intro hc<;>try exact bF)|((refine⟨_,hr,?_⟩))|(((with_reducible apply And.intro);focus (simp only[Int.toNat_natCast];omega)))|refine aM ?_|fail)
   refine⟨⟨k+1,hlt⟩,dec_lt hlt,ay ?_⟩;repeat' first|apply And.intro|exact aK|fail
   all_goals try (conv=>whnf)
   all_goals first
    |exact eW
    |exact hsk.out.symm
    |exact hsk.out
    |skip
  have hke:k=j0:=by omega
  subst hke;have d0:decide ((k:Int)<(k:Int))=false:=by simp
  repeat' ((conv=>whnf);first|with_reducible apply aQ|((with_reducible apply fk)<;>intro hc<;>try exact bF)|refine aM ?_|fail)
  refine⟨_,_,⟨rfl,rfl⟩,?_⟩;all_goals exact aK
end Go.Proofs.YtfoiekbkkbnpkaaGreat.Tb
end
section
namespace Go.Proofs
open Go.Shelf
def Tryz.sortPl_ren:Go.Shelf.Ren:=⟨fun|6=>179|15=>188|14=>187|28=>200|29=>201|20=>192|21=>193|22=>194|23=>195|24=>196|25=>197|26=>198|27=>199|46=>202|47=>203|48=>204|49=>205|50=>206|57=>207|n=>n,fun|22=>28|24=>27|25=>226|3=>3|39=>234|0=>0|53=>245|55=>22|4=>4|46=>238|45=>237|50=>242|5=>5|9=>9|66=>247|70=>251|76=>253|77=>254|n=>n,fun|n=>n⟩
theorem Tryz.sortPl:Go.Proofs.SlLaysF0.n6 Tryz.prog Tryz.sortPl_ren:={
 mixed:=by kernel_rfl
 f6:=⟨Tryz.f179.name,by decide,Tryz.func179.trans (congrArg some (by kernel_rfl))⟩
 f14:=⟨Tryz.f187.name,by decide,Tryz.func187.trans (congrArg some (by kernel_rfl))⟩
 f15:=Tryz.func188.trans (congrArg some (by kernel_rfl))
 f20:=⟨Tryz.f192.name,by decide,Tryz.func192.trans (congrArg some (by kernel_rfl))⟩
 f21:=⟨Tryz.f193.name,by decide,Tryz.func193.trans (congrArg some (by kernel_rfl))⟩
 f22:=⟨Tryz.f194.name,by decide,Tryz.func194.trans (congrArg some (by kernel_rfl))⟩
 f23:=⟨Tryz.f195.name,by decide,Tryz.func195.trans (congrArg some (by kernel_rfl))⟩
 f24:=⟨Tryz.f196.name,by decide,Tryz.func196.trans (congrArg some (by kernel_rfl))⟩
 f25:=⟨Tryz.f197.name,by decide,Tryz.func197.trans (congrArg some (by kernel_rfl))⟩
 f26:=⟨Tryz.f198.name,by decide,Tryz.func198.trans (congrArg some (by kernel_rfl))⟩
 f27:=⟨Tryz.f199.name,by decide,Tryz.func199.trans (congrArg some (by kernel_rfl))⟩
 f28:=Tryz.func200.trans (congrArg some (by kernel_rfl))
 f29:=Tryz.func201.trans (congrArg some (by kernel_rfl))
 f46:=⟨Tryz.f202.name,by decide,Tryz.func202.trans (congrArg some (by kernel_rfl))⟩
 f47:=Tryz.func203.trans (congrArg some (by kernel_rfl))
 f48:=Tryz.func204.trans (congrArg some (by kernel_rfl))
 f49:=⟨Tryz.f205.name,by decide,Tryz.func205.trans (congrArg some (by kernel_rfl))⟩
 f50:=⟨Tryz.f206.name,by decide,Tryz.func206.trans (congrArg some (by kernel_rfl))⟩
 f57:=⟨Tryz.f207.name,by decide,Tryz.func207.trans (congrArg some (by kernel_rfl))⟩
 t0:=Tryz.underlying0
 a0:=Tryz.isAgg0
 z0:=Tryz.sizeOf0
 v0:=Tryz.zeroValue0
 t3:=Tryz.underlying3
 a3:=Tryz.isAgg3
 z3:=Tryz.sizeOf3
 v3:=Tryz.zeroValue3
 t4:=Tryz.underlying4
 a4:=Tryz.isAgg4
 z4:=Tryz.sizeOf4
 v4:=Tryz.zeroValue4
 t5:=Tryz.underlying5
 a5:=Tryz.isAgg5
 z5:=Tryz.sizeOf5
 v5:=Tryz.zeroValue5
 t9:=Tryz.underlying9
 a9:=Tryz.isAgg9
 z9:=Tryz.sizeOf9
 v9:=Tryz.zeroValue9
 t22:=Tryz.underlying28
 a22:=Tryz.isAgg28
 z22:=Tryz.sizeOf28
 v22:=Tryz.zeroValue28
 t25:=Tryz.underlying226
 a25:=Tryz.isAgg226
 z25:=Tryz.sizeOf226
 v25:=Tryz.zeroValue226
 t39:=Tryz.underlying234
 a39:=Tryz.isAgg234
 z39:=Tryz.sizeOf234
 v39:=Tryz.zeroValue234
 t45:=Tryz.underlying237
 a45:=Tryz.isAgg237
 z45:=Tryz.sizeOf237
 v45:=Tryz.zeroValue237
 t46:=Tryz.underlying238
 a46:=Tryz.isAgg238
 z46:=Tryz.sizeOf238
 v46:=Tryz.zeroValue238
 t50:=Tryz.underlying242
 a50:=Tryz.isAgg242
 z50:=Tryz.sizeOf242
 v50:=Tryz.zeroValue242
 t53:=Tryz.underlying245
 a53:=Tryz.isAgg245
 z53:=Tryz.sizeOf245
 v53:=Tryz.zeroValue245
 t55:=Tryz.underlying22
 a55:=Tryz.isAgg22
 z55:=Tryz.sizeOf22
 v55:=Tryz.zeroValue22
 t66:=Tryz.underlying247
 a66:=Tryz.isAgg247
 z66:=Tryz.sizeOf247
 v66:=Tryz.zeroValue247
 t70:=Tryz.underlying251
 a70:=Tryz.isAgg251
 z70:=Tryz.sizeOf251
 v70:=Tryz.zeroValue251
 t76:=Tryz.underlying253
 a76:=Tryz.isAgg253
 z76:=Tryz.sizeOf253
 v76:=Tryz.zeroValue253
 t77:=Tryz.underlying254
 a77:=Tryz.isAgg254
 z77:=Tryz.sizeOf254
 v77:=Tryz.zeroValue254 }
end Go.Proofs
end
section
open Go Go.Proofs.Tryz Go.AX Go.Sort Go.Shelf Go.RowKit Go.Lib
namespace Go.Proofs.YtfoiekbkkbnpkaaGreat.Tb
def PO (x:Pl):List Value:=[.int .i64 x.node,.int .u64 x.bf]
theorem Y8 (a b c d:Int)(W:World):Calls prog 180 #[.agg #[.int .i64 a,.int .u64 b],.agg #[.int .i64 c,.int .u64 d]] W fun e w'=>e=.returned (.int .i64 (Lib.compareInt a c))∧∃q os',w'=grow (W.drewN q) os':=by
 go_enter func180,Tryz.ntmps180
 go_wp2
 all_goals
  go_ret
  refine⟨?_,0,_,by rw[alloc_eq_grow,alloc_eq_grow,grow_grow];rfl⟩;simp_all [Lib.compareInt];try omega
theorem abF (x y:Pl)(W:World):Calls prog 180 #[.agg (PO x).toArray,.agg (PO y).toArray] W fun e w'=>e=.returned (.int .i64 (zx x y))∧∃q os',w'=grow (W.drewN q) os':=
 Y8 x.node x.bf y.node y.bf W
theorem PS:dP prog 188 [.sc (.int .u64 0)] (.sc (.int .i64 0)):=by
 refine⟨⟨_,func188,rfl,by decide⟩,fun F w bQ _ ha=>?_⟩;obtain⟨v,r,e,hv,hr⟩:=ha;simp only[aU] at hv;subst hv;simp only[dI] at hr;subst hr;have:bQ = #[.int .u64 0]:=by rw[←Array.toList_inj,e]
 subst this;have h:=Any.bits_Len (SlLaysF0.n15.bits (P:=prog) (ρ:=Tryz.sortPl_ren) { Tryz.sortPl with }) 0 w (by omega) (by omega);refine h.mono fun e w' ⟨he,hw⟩=>⟨_,_,he,rfl,by simp only[aU];rfl,by subst hw;exact kK.refl _ _⟩
theorem LW:bG prog 192 f192:=fF func192
theorem Gw (f:Fn):dP prog 192 [.sc (.slice none 0 0),ii 0,ii 0,.fn f [] []] unit:=by
 refine PC.le ?_;refine dW LW ?_;repeat' ((conv=>whnf);first|with_reducible apply aQ|((with_reducible apply fk)<;>intro hc<;>try exact bF)|refine aM ?_|fail)
 refine⟨Unit,fun _=>⟨[(0,.pv (.sc (.slice none 0 0))),(1,.pv (ii 0)),(2,.pv (ii 0)),(3,.pv (.fn f [] [])),(8,.pv (ii 1))],1000000000,[]⟩,fun _=>0,⟨(),ay ?_⟩,?_⟩
 ·all_goals exact aK
 rintro⟨⟩
 repeat' ((conv=>whnf);first|with_reducible apply aQ|((with_reducible apply fk)<;>intro hc<;>try exact bF)|refine aM ?_|fail)
 all_goals exact aK
theorem LX:bG prog 187 f187:=fF func187
theorem T9 (f:Fn):dP prog 187 [.sc (.slice none 0 0),ii 0,ii 0,ii 0,.fn f [] []] unit:=by
 refine PC.le ?_;refine dW LX ?_;repeat' ((conv=>whnf);first|with_reducible apply aQ|((with_reducible apply fk)<;>intro hc<;>try exact bF)|refine aM ?_|fail)
 refine⟨Unit,fun _=>⟨[(0,.pv (.sc (.slice none 0 0))),(1,.pv (ii 0)),(2,.pv (ii 0)),(3,.pv (ii 0)),(4,.pv (.fn f [] [])),(10,.pv (bl true)),(11,.pv (bl true))],1000000000,[]⟩,fun _=>0,⟨(),ay ?_⟩,?_⟩
 ·all_goals exact aK
 rintro⟨⟩
 repeat' ((conv=>whnf);first|with_reducible apply aQ|((with_reducible apply fk)<;>intro hc<;>try exact bF)|(apply bC;refine⟨_,Gw f,?_⟩)|refine aM ?_|fail)
 all_goals exact aK
theorem Ua:bG prog 179 f179:=fF func179
theorem PU (f:Fn):dP prog 179 [.sc (.slice none 0 0),.fn f [] []] unit:=by
 refine PC.le ?_;refine dW Ua ?_;repeat' ((conv=>whnf);first|with_reducible apply aQ|((with_reducible apply fk)<;>intro hc<;>try exact bF)|(apply bC;refine⟨_,PS,?_⟩)|(apply bC;refine⟨_,T9 f,?_⟩)|refine aM ?_|fail)
 all_goals exact aK
theorem JD (l:List Pl)(h:l.length≤8796093022208):lg prog 179 [.aZ 1 0,.pv (.fn (.func 180) [] [])] [(1,.arr 27 0 2 (l.map Pl.c))] (.pv unit)
  [(1,.arr 27 0 2 ((sortPl l).map Pl.c))]:=by
 have eg:∀args w,(callFunc 180 args).run prog w=.ok (.enter 180 args) w:=enters_of func180 (by kernel_rfl) rfl;exact VE (enc:=PO) (st:=2) wS (by decide) (fun _=>rfl) (fun x v hv=>by simp[PO] at hv;rcases hv with rfl|rfl<;>rfl) BP
  (fun blk cap d w hH hblk hsz=>AnyQ.slices_SortFunc_eq Tryz.sortPl 2 Tryz.isAgg27 Tryz.sizeOf27 PO (fun _=>rfl) (fun x v hv=>by simp[PO] at hv;rcases hv with rfl|rfl<;>rfl) zx Xw 180 #[] blk 0 cap d w eg
   (fun _ _ _ _ x y=>abF x y _) hH hblk hsz) (PU _) l (by omega)
end Go.Proofs.YtfoiekbkkbnpkaaGreat.Tb
end
section
open Go Go.Proofs.Tryz Go.AX
namespace Go.Proofs.YtfoiekbkkbnpkaaGreat.Tb
theorem TP:bG prog 120 f120:=fF func120
theorem Gq (n l m:Int):dP prog 120 [uu n,uu l,uu m] (bl (bR n l m)):=by
 refine PC.le ?_;refine dW TP ?_;repeat' ((conv=>whnf);first|with_reducible apply aQ|((with_reducible apply fk)<;>intro hc<;>try exact bF)|refine aM ?_|fail)
 all_goals
  repeat' first|apply And.intro|exact aK|fail
  all_goals try (conv=>whnf)
  simp_all [bR]
 omega
theorem TQ:bG prog 121 f121:=fF func121
theorem xC (n l m:Int):dP prog 121 [ii n,ii l,ii m] (bl (bR n l m)):=by
 refine PC.le ?_;refine dW TQ ?_;repeat' ((conv=>whnf);first|with_reducible apply aQ|((with_reducible apply fk)<;>intro hc<;>try exact bF)|refine aM ?_|fail)
 all_goals
  repeat' first|apply And.intro|exact aK|fail
  all_goals try (conv=>whnf)
  simp_all [bR]
 omega
theorem TR:bG prog 183 f183:=fF func183
theorem Wo (a b:Int):dP prog 183 [.agg [ii a,uu b]] (bl (rY ⟨a,b⟩)):=by
 refine PC.le ?_;refine dW TR ?_;repeat' ((conv=>whnf);first|with_reducible apply aQ|((with_reducible apply fk)<;>intro hc<;>try exact bF)|(apply bC;refine⟨_,xC _ _ _,?_⟩)|(apply bC;refine⟨_,Gq _ _ _,?_⟩)|refine aM ?_|fail)
 all_goals
  repeat' first|apply And.intro|exact aK|fail
  all_goals try (conv=>whnf)
  simp_all [rY]
theorem Gr:bG prog 190 f190:=fF func190
theorem Jy (x:Pl)(f:FuncId)(first aT:List PV)(p:Pl→Bool)(hp:dP prog f (first++([.agg x.c]++aT)) (bl (p x))) :
  dP prog 190 ([]++([.agg x.c]++[.dh [.fn (.func f) first aT] 0])) (bl (!p x)):=by
 refine PC.le ?_;refine dW Gr ?_;repeat' ((conv=>whnf);first|with_reducible apply aQ|((with_reducible apply fk)<;>intro hc<;>try exact bF)|(apply bC;refine⟨_,hp,?_⟩)|refine aM ?_|fail)
 all_goals exact aK
theorem Jz:bG prog 182 f182:=fF func182
theorem LK (l:List Pl)(f:FuncId)(first aT:List PV)(p:Pl→Bool)(hp:∀x∈l,dP prog f (first++([.agg x.c]++aT)) (bl (p x))) :
  dP prog 182 [dO l,.fn (.func f) first aT] (bl (l.all p)):=by
 refine PC.le ?_;refine dW Jz ?_;repeat' ((conv=>whnf);first|with_reducible apply aQ|((with_reducible apply fk)<;>intro hc<;>try exact bF)|(apply bC;refine⟨_,lF _ _ _ _ _ fun x hx=>Jy x _ _ _ p (hp x hx),?_⟩)|refine aM ?_|fail)
 repeat' first|apply And.intro|exact aK|fail
 all_goals try (conv=>whnf)
 rw[List.not_any_eq_all_not];simp
theorem JA:bG prog 178 f178:=fF func178
theorem LM (x:Fr)(f:FuncId)(first aT:List PV)(p:Fr→Bool)(hp:dP prog f (first++([.agg x.c]++aT)) (bl (p x))) :
  dP prog 178 ([]++([.agg x.c]++[.dh [.fn (.func f) first aT] 0])) (bl (!p x)):=by
 refine PC.le ?_;refine dW JA ?_;repeat' ((conv=>whnf);first|with_reducible apply aQ|((with_reducible apply fk)<;>intro hc<;>try exact bF)|(apply bC;refine⟨_,hp,?_⟩)|refine aM ?_|fail)
 all_goals exact aK
theorem LP:bG prog 155 f155:=fF func155
theorem PK (l:List Fr)(f:FuncId)(first aT:List PV)(p:Fr→Bool)(hp:∀x∈l,dP prog f (first++([.agg x.c]++aT)) (bl (p x))) :
  dP prog 155 [eT l,.fn (.func f) first aT] (bl (l.all p)):=by
 refine PC.le ?_;refine dW LP ?_;repeat' ((conv=>whnf);first|with_reducible apply aQ|((with_reducible apply fk)<;>intro hc<;>try exact bF)|(apply bC;refine⟨_,mU _ _ _ _ _ fun x hx=>LM x _ _ _ p (hp x hx),?_⟩)|refine aM ?_|fail)
 repeat' first|apply And.intro|exact aK|fail
 all_goals try (conv=>whnf)
 rw[List.not_any_eq_all_not];simp
theorem xD:bG prog 184 f184:=fF func184
theorem JB (l:List Pl)(f:FuncId)(first aT:List PV)(key:Pl→Int)(hp:∀x∈l,dP prog f (first++([.agg x.c]++aT)) (ii (key x))) :
  dP prog 184 [dO l,.fn (.func f) first aT] (bl (decide (l.Pairwise fun a b=>key a<key b))):=by
 refine PC.le (nL xD fun hb=>?_);have hb:l.length≤9223372036854775807:=by simpa[F6,Ar,dO] using hb
 refine dW xD ?_;repeat' ((conv=>whnf);first|with_reducible apply aQ|((with_reducible apply fk)<;>intro hc<;>try exact bF)|refine aM ?_|fail)
 refine⟨{k:Nat // (k+1≤l.length∨k=0)∧∀j (hj:j+1<l.length),j<k→key (l[j]'(by omega))<key l[j+1]},fun⟨k,_⟩=>⟨[(0,.pv (dO l)),(1,.pv (.fn (.func f) first aT)),(5,.pv (ii ((k+1:Nat):Int)))],1000000000,[]⟩,fun⟨k,_⟩=>l.length-k,⟨⟨0,by simp⟩,ay ?_⟩,?_⟩
 ·all_goals exact aK
 rintro⟨k,hk,hn⟩
 repeat' ((conv=>whnf);first|with_reducible apply aQ|((with_reducible apply fk)<;>intro hc<;>try exact bF)|refine aM ?_|fail)
 ·have hlt:k+1<l.length:=by simp at hc;omega
  have e1:IntKind.i64.wrap (((k+1:Nat):Int)-1)=((k:Nat):Int):=by rw[bE (by omega) (by omega)];omega
  repeat' ((conv=>whnf);first|with_reducible apply aQ|((with_reducible apply fk)<;>intro hc<;>try exact bF)|((refine⟨by rw[e1];omega,_,RY _ _ e1 (by omega),?_⟩))|refine aM ?_|fail)
  repeat' ((conv=>whnf);first|with_reducible apply aQ|((with_reducible apply fk)<;>intro hc<;>try exact bF)|(apply bC;refine⟨_,hp _ (List.getElem_mem _),?_⟩)|refine aM ?_|fail)
  refine⟨_,dJ _ _ _ hlt,?_⟩;repeat' ((conv=>whnf);first|with_reducible apply aQ|((with_reducible apply fk)<;>intro hc<;>try exact bF)|(apply bC;refine⟨_,hp _ (List.getElem_mem _),?_⟩)|refine aM ?_|fail)
  ·repeat' first|apply And.intro|exact aK|fail
   all_goals try (conv=>whnf)
   simp at hc;simp;intro hp;have:=List.pairwise_iff_getElem.1 hp k (k+1) (by omega) hlt (by omega);omega
  repeat' ((conv=>whnf);first|with_reducible apply aQ|((with_reducible apply fk)<;>intro hc<;>try exact bF)|refine aM ?_|fail)
  refine⟨⟨k+1,.inl hlt,?_⟩,dec_lt (by omega),ay ?_⟩
  ·intro j hj hjk;rcases Nat.lt_succ_iff_lt_or_eq.1 hjk with hj'|rfl
   ·exact hn j hj hj'
   simp at hc;exact hc
  repeat' first|apply And.intro|exact aK|fail
  all_goals try (conv=>whnf)
  rw[bE (by omega) (by omega)];omega
 repeat' first|apply And.intro|exact aK|fail
 all_goals try (conv=>whnf)
 simp at hc;simp;exact qw fun j hj=>hn j hj (by omega)
theorem zP:bG prog 158 f158:=fF func158
theorem LQ (l:List Fr)(f:FuncId)(first aT:List PV)(key:Fr→Int)(hp:∀x∈l,dP prog f (first++([.agg x.c]++aT)) (uu (key x))) :
  dP prog 158 [eT l,.fn (.func f) first aT] (bl (decide (l.Pairwise fun a b=>key a<key b))):=by
 refine PC.le (nL zP fun hb=>?_);have hb:l.length≤9223372036854775807:=by simpa[F6,Ar,eT] using hb
 refine dW zP ?_;repeat' ((conv=>whnf);first|with_reducible apply aQ|((with_reducible apply fk)<;>intro hc<;>try exact bF)|refine aM ?_|fail)
 refine⟨{k:Nat // (k+1≤l.length∨k=0)∧∀j (hj:j+1<l.length),j<k→key (l[j]'(by omega))<key l[j+1]},fun⟨k,_⟩=>⟨[(0,.pv (eT l)),(1,.pv (.fn (.func f) first aT)),(5,.pv (ii ((k+1:Nat):Int)))],1000000000,[]⟩,fun⟨k,_⟩=>l.length-k,⟨⟨0,by simp⟩,ay ?_⟩,?_⟩
 ·all_goals exact aK
 rintro⟨k,hk,hn⟩
 repeat' ((conv=>whnf);first|with_reducible apply aQ|((with_reducible apply fk)<;>intro hc<;>try exact bF)|refine aM ?_|fail)
 ·have hlt:k+1<l.length:=by simp at hc;omega
  have e1:IntKind.i64.wrap (((k+1:Nat):Int)-1)=((k:Nat):Int):=by rw[bE (by omega) (by omega)];omega
  repeat' ((conv=>whnf);first|with_reducible apply aQ|((with_reducible apply fk)<;>intro hc<;>try exact bF)|((refine⟨by rw[e1];omega,_,RY _ _ e1 (by omega),?_⟩))|refine aM ?_|fail)
  repeat' ((conv=>whnf);first|with_reducible apply aQ|((with_reducible apply fk)<;>intro hc<;>try exact bF)|(apply bC;refine⟨_,hp _ (List.getElem_mem _),?_⟩)|refine aM ?_|fail)
  refine⟨_,dJ _ _ _ hlt,?_⟩;repeat' ((conv=>whnf);first|with_reducible apply aQ|((with_reducible apply fk)<;>intro hc<;>try exact bF)|(apply bC;refine⟨_,hp _ (List.getElem_mem _),?_⟩)|refine aM ?_|fail)
  ·repeat' first|apply And.intro|exact aK|fail
   all_goals try (conv=>whnf)
   simp at hc;simp;intro hp;have:=List.pairwise_iff_getElem.1 hp k (k+1) (by omega) hlt (by omega);omega
  repeat' ((conv=>whnf);first|with_reducible apply aQ|((with_reducible apply fk)<;>intro hc<;>try exact bF)|refine aM ?_|fail)
  refine⟨⟨k+1,.inl hlt,?_⟩,dec_lt (by omega),ay ?_⟩
  ·intro j hj hjk;rcases Nat.lt_succ_iff_lt_or_eq.1 hjk with hj'|rfl
   ·exact hn j hj hj'
   simp at hc;exact hc
  repeat' first|apply And.intro|exact aK|fail
  all_goals try (conv=>whnf)
  rw[bE (by omega) (by omega)];omega
 repeat' first|apply And.intro|exact aK|fail
 all_goals try (conv=>whnf)
 simp at hc;simp;exact qw fun j hj=>hn j hj (by omega)
theorem TS:bG prog 185 f185:=fF func185
theorem Wp (a b:Int):dP prog 185 ([]++([.agg [ii a,uu b]]++[])) (ii a):=by
 refine PC.le ?_;refine dW TS ?_;repeat' ((conv=>whnf);first|with_reducible apply aQ|((with_reducible apply fk)<;>intro hc<;>try exact bF)|refine aM ?_|fail)
 all_goals exact aK
theorem Gs:bG prog 159 f159:=fF func159
theorem JC (x:Fr):dP prog 159 ([]++([.agg x.c]++[])) (uu x.first):=by
 refine PC.le ?_;refine dW Gs ?_;repeat' ((conv=>whnf);first|with_reducible apply aQ|((with_reducible apply fk)<;>intro hc<;>try exact bF)|refine aM ?_|fail)
 all_goals exact aK
theorem Wq:bG prog 157 f157:=fF func157
theorem Y6 (w n:Int)(l:List Pl)(h:l.length≤8796093022208):dP prog 157 [ii w,.agg [uu n,dO l]] (bl (jY w ⟨n,l⟩)):=by
 refine PC.le ?_;refine dW Wq ?_;repeat' ((conv=>whnf);first|with_reducible apply aQ|((with_reducible apply fk)<;>intro hc<;>try exact bF)|(apply iC;refine⟨_,_,gW _ (by omega),?_⟩)|(apply iC;refine⟨_,_,JD _ (by omega),?_⟩)|(apply bC;refine⟨_,Gq _ _ _,?_⟩)|(apply bC;refine⟨_,xC _ _ _,?_⟩)|(apply bC;refine⟨_,LK _ _ _ _ rY fun x _=>Wo x.node x.bf,?_⟩)|(apply bC;refine⟨_,JB _ _ _ _ (·.node) fun x _=>Wp _ _,?_⟩)|refine aM ?_|fail)
 all_goals
  repeat' first|apply And.intro|exact aK|fail
  all_goals try (conv=>whnf)
  simp_all only[jY,←IW,Bool.and_true,Bool.and_false,Bool.true_and,Bool.false_and,List.length_map]
theorem Gt:bG prog 156 f156:=fF func156
theorem JE (w:Int)(x:Fr)(h:x.ah.length≤8796093022208):dP prog 156 ([]++([.agg x.c]++[.dh [ii w] 0])) (bl (jY w x)):=by
 refine PC.le ?_;refine dW Gt ?_;repeat' ((conv=>whnf);first|with_reducible apply aQ|((with_reducible apply fk)<;>intro hc<;>try exact bF)|(apply bC;refine⟨_,Y6 _ _ _ h,?_⟩)|refine aM ?_|fail)
 all_goals exact aK
theorem JF:bG prog 122 f122:=fF func122
theorem LU (w:Int)(l:List Fr)(h:∀x∈l,x.ah.length≤8796093022208):dP prog 122 [ii w,eT l] (bl (bL w l)):=by
 refine PC.le ?_;refine dW JF ?_;cases l with
 | nil=>
   repeat' ((conv=>whnf);first|with_reducible apply aQ|((with_reducible apply fk)<;>intro hc<;>try exact bF)|(apply bC;refine⟨_,xC _ _ _,?_⟩)|refine aM ?_|fail)
   all_goals
    repeat' first|apply And.intro|exact aK|fail
    all_goals try (conv=>whnf)
    all_goals simp[bL,bR]
 | cons x r=>
   repeat' ((conv=>whnf);first|with_reducible apply aQ|((with_reducible apply fk)<;>intro hc<;>try exact bF)|(apply bC;refine⟨_,xC _ _ _,?_⟩)|(apply bC;refine⟨_,PK _ _ _ _ _ fun x hx=>JE w x (h x hx),?_⟩)|(apply bC;refine⟨_,LQ _ _ _ _ (·.first) fun x _=>JC x,?_⟩)|((refine⟨_,rfl,?_⟩))|refine aM ?_|fail)
   all_goals
    repeat' first|apply And.intro|exact aK|fail
    all_goals try (conv=>whnf)
    simp_all only[bL,oh,List.length_map,Bool.true_and,Bool.false_and,Bool.and_true]
theorem Gu:bG prog 68 f68:=fF func68
theorem JG (l:Lg)(h:l.ok):dP prog 68 [.agg l.c] (bl (eH l)):=by
 refine PC.le ?_;refine dW Gu ?_;repeat' ((conv=>whnf);first|with_reducible apply aQ|((with_reducible apply fk)<;>intro hc<;>try exact bF)|(apply bC;refine⟨_,xC _ _ _,?_⟩)|(apply bC;refine⟨_,Gq _ _ _,?_⟩)|(apply bC;refine⟨_,LU _ _ h,?_⟩)|refine aM ?_|fail)
 all_goals
  repeat' first|apply And.intro|exact aK|fail
  all_goals try (conv=>whnf)
  try (simp only[eH, *,Bool.true_and,Bool.false_and];done)
 have hq:0≤l.closed∧l.closed≤1:=by simpa[bR] using hc
 simp only[eH, *,Bool.true_and];rw[kT hq.1 (by omega),kT (by omega) (by omega)]
def wr0:Wr:=⟨⟨0,0,0,[],0,0⟩,0,0,0,[],[],jI,0⟩
theorem xM:bG prog 20 f20:=fF func20
theorem WT (l:Lg)(aX:Int):sJ l aX=if (!eH l||((l.closed != 0)||(decide (aX<1)||decide (aX>4611686018427387903))))=true then none else some ⟨l,aX,1,0,[],[],jI,0⟩:=by
 have h:(eH l&&((l.closed==0)&&bR aX 1 4611686018427387903)) = !(!eH l||((l.closed != 0)||(decide (aX<1)||decide (aX>4611686018427387903)))):=by
  rw[Bool.eq_iff_iff];unfold bR;cases eH l<;>simp
 unfold sJ;rw[h];cases (!eH l||((l.closed != 0)||(decide (aX<1)||decide (aX>4611686018427387903))))<;>rfl
theorem Mc (l:Lg)(aX:Int)(hok:l.ok)(hfr:eH l=true→l.aj.length≤1000∧(∀f∈l.aj,f.ah.length≤1000)∧iN l.aj) :
  dP prog 20 [.agg l.c,uu aX] (.fM [.agg ((sJ l aX).getD wr0).c,ii (if (sJ l aX).isSome then 0 else 1)]):=by
 refine PC.le ?_;have EG:=JG l hok;rw[WT];cases e1:eH l with
 | false=>
   rw[e1] at EG;clear hfr hok e1;refine dW xM ?_;repeat' ((conv=>whnf);first|with_reducible apply aQ|((with_reducible apply fk)<;>intro hc<;>try exact dK)|(apply bC;refine⟨_,EG,?_⟩)|refine aM ?_|fail)
   all_goals exact aK
 |true=>
 obtain⟨h1,h2,h3⟩:=hfr e1;rw[e1] at EG;clear hfr hok e1;cases e2:(l.closed != 0) with
 | true=>
   refine dW xM ?_;repeat' ((conv=>whnf);first|with_reducible apply aQ|((with_reducible apply fk)<;>intro hc<;>try exact dK)|(apply bC;refine⟨_,EG,?_⟩)|refine aM ?_|fail)
   all_goals exact aK
 |false=>
 cases e3:decide (aX<1) with
 | true=>
   refine dW xM ?_;repeat' ((conv=>whnf);first|with_reducible apply aQ|((with_reducible apply fk)<;>intro hc<;>try exact dK)|(apply bC;refine⟨_,EG,?_⟩)|refine aM ?_|fail)
   all_goals exact aK
 |false=>
 cases e4:decide (aX>4611686018427387903) with
 | true=>
   refine dW xM ?_;repeat' ((conv=>whnf);first|with_reducible apply aQ|((with_reducible apply fk)<;>intro hc<;>try exact dK)|(apply bC;refine⟨_,EG,?_⟩)|refine aM ?_|fail)
   all_goals exact aK
 |false=>
 have how:=qF ⟨l,aX,1,0,[],[],jI,0⟩ ⟨h1,h2,h3,by simp,by simp,by simp,by simp[jI]⟩;clear h1 h2 h3;refine dW xM ?_;repeat' ((conv=>whnf);first|with_reducible apply aQ|((with_reducible apply fk)<;>intro hc<;>try exact dK)|(apply bC;refine⟨_,EG,?_⟩)|(apply iC;refine⟨_,_,aN (how) ?_,?_⟩;exact dx)|refine aM ?_|fail)
 all_goals exact aK
theorem xN:bG prog 64 f64:=fF func64
theorem GD (w:Wr)(now:Int)(b:List UInt8)(h:U8 w)(Ae:eD now)(hnx:eD w.next)(hb:b.length≤100000)(hs:(bJ w w.next).length≤1000) :
  dP prog 64 [.agg w.c,uu now,Db b] (.fM [.agg (fV w now b).1.c,Qz (fV w now b).2.1,ii (fV w now b).2.2]):=by
 refine PC.le ?_;have hN:=qF w h;have hfu:=WQ w;have eL:((List.map jq b).length:Int)=(b.length:Int):=by rw[List.length_map]
 cases e1:(w.fenced==1) with
 | true=>
   have e:fV w now b=(w,[],5):=by unfold fV;rw[if_pos (by simpa using e1)]
   rw[e];refine dW xN ?_;repeat' ((conv=>whnf);first|with_reducible apply aQ|((with_reducible apply fk)<;>intro hc<;>try exact bF)|(apply iC;refine⟨_,_,aN (hN) ?_,?_⟩;exact dx)|refine aM ?_|fail)
   all_goals exact aK
 |false=>
 cases e2:decide (((List.map jq b).length:Int)>2048) with
 | true=>
   have e:fV w now b=(w,[],7):=by unfold fV;rw[if_neg (by simpa using e1),if_pos (by rw[eL] at e2;simpa using e2)]
   rw[e];clear eL;refine dW xN ?_;repeat' ((conv=>whnf);first|with_reducible apply aQ|((with_reducible apply fk)<;>intro hc<;>try exact bF)|(apply iC;refine⟨_,_,aN (hN) ?_,?_⟩;exact dx)|refine aM ?_|fail)
   all_goals exact aK
 |false=>
 cases e3:decide (w.next>8) with
 | true=>
   have e:fV w now b=(w,[],3):=by unfold fV;rw[if_neg (by simpa using e1),if_neg (by rw[eL] at e2;simpa using e2),if_pos (by simpa using e3)]
   rw[e];rw[e3] at hfu;clear eL;refine dW xN ?_;repeat' ((conv=>whnf);first|with_reducible apply aQ|((with_reducible apply fk)<;>intro hc<;>try exact bF)|(apply iC;refine⟨_,_,aN (hN) ?_,?_⟩;exact dx)|(apply bC;refine⟨_,hfu,?_⟩)|refine aM ?_|fail)
   all_goals exact aK
 | false=>
   have e:fV w now b=({ w with waits:=w.waits++[⟨w.next,b,[],now,now⟩],next:=w.next+1 },gM w ⟨w.next,b,[],now,0⟩,0):=by unfold fV;rw[if_neg (by simpa using e1),if_neg (by rw[eL] at e2;simpa using e2),if_neg (by simpa using e3)];rfl
   rw[e];rw[e3] at hfu;have hle:w.next≤8:=by simpa using e3
   obtain⟨hn0,_⟩:=hnx;have eX:IntKind.u64.wrap (w.next+1)=w.next+1:=kT (by omega) (by omega);have hS:=WI w h;have hcl:=jK b (by omega);have hse:=UE w ⟨w.next,b,[],now,0⟩ now (w.waits.map Wt.c) (w.bad.map Pl.c) h.fr ⟨⟨hn0,by simp only;omega⟩,by simpa using hb,by simp,Ae,by simp[eD]⟩ hs;have hwl:=h.wl;clear hN h Ae hs eL hn0;obtain⟨q,hq⟩:∃q,gM w ⟨w.next,b,[],now,0⟩=q:=⟨_,rfl⟩;rw[hq] at hse ⊢;clear hq;refine dW xN ?_;repeat' ((conv=>whnf);first|with_reducible apply aQ|((with_reducible apply fk)<;>intro hc<;>try exact bF)|rewrite[qO]|rewrite[qP]|(apply iC;refine⟨_,_,aN (hS) ?_,?_⟩;exact dx)|(apply bC;refine⟨_,hfu,?_⟩)|(apply bC;refine⟨_,hcl,?_⟩)|(apply iC;refine⟨_,_,aN (hse) ?_,?_⟩;exact dx)|(((with_reducible apply And.intro);focus (simp only[fe,mH,mI];omega)))|refine aM ?_|fail)
   repeat' first|apply And.intro|exact aK|fail
   all_goals try (conv=>whnf)
   all_goals first
    |exact eX
    |(rw[List.map_append];refine dH (aC _) ?_;(repeat' first|apply And.intro|exact aK|fail);(all_goals try (conv=>whnf)))
    |skip
theorem iR:bG prog 66 f66:=fF func66
theorem JQ {α:Type}(p:α→Bool)(l:List α):(qZ p l = -1∧l.findIdx? p=none)∨∃k,k<l.length∧qZ p l=(k:Nat)∧l.findIdx? p=some k:=by
 rcases jo p l with ⟨h1,h2⟩|⟨n,hn,h1,h2,h3⟩
 ·exact .inl ⟨h1,List.findIdx?_eq_none_iff.2 h2⟩
 refine .inr ⟨n,hn,h1,?_⟩;rw[List.findIdx?_eq_some_iff_getElem];exact⟨hn,h2,fun j hj=>by rw[h3 j (by omega) hj];simp⟩
theorem qG (w:Wr)(now:Int)(r:Rs)(h:U8 w)(iH:(aO w.l.aj).ah.length≤1000) :
  dP prog 66 [.agg w.c,uu now,.agg r.c] (.agg (fw w r).c):=by
 refine PC.le ?_;have hN:=qF w h;cases k1:(r.kind != 1) with
 | true=>
   have e:fw w r=w:=by unfold fw;rw[if_pos (by simp only[bne_iff_ne,ne_eq] at k1;simp[k1])]
   rw[e];clear e;refine dW iR ?_;repeat' ((conv=>whnf);first|with_reducible apply aQ|((with_reducible apply fk)<;>intro hc<;>try exact bF)|(apply iC;refine⟨_,_,aN (hN) ?_,?_⟩;exact dx)|refine aM ?_|fail)
   all_goals exact aK
 |false=>
 cases k2:(r.dM != w.l.id) with
 | true=>
   have e:fw w r=w:=by unfold fw;rw[if_pos (by simp only[bne_iff_ne,ne_eq] at k2;simp[k2])]
   rw[e];clear e;refine dW iR ?_;repeat' ((conv=>whnf);first|with_reducible apply aQ|((with_reducible apply fk)<;>intro hc<;>try exact bF)|(apply iC;refine⟨_,_,aN (hN) ?_,?_⟩;exact dx)|refine aM ?_|fail)
   all_goals exact aK
 |false=>
 cases k3:(r.aX != w.aX) with
 | true=>
   have e:fw w r=w:=by unfold fw;rw[if_pos (by simp only[bne_iff_ne,ne_eq] at k3;simp[k3])]
   rw[e];clear e;refine dW iR ?_;repeat' ((conv=>whnf);first|with_reducible apply aQ|((with_reducible apply fk)<;>intro hc<;>try exact bF)|(apply iC;refine⟨_,_,aN (hN) ?_,?_⟩;exact dx)|refine aM ?_|fail)
   all_goals exact aK
 |false=>
 have e0:fw w r=if r.code=0 then (match w.waits.findIdx? fun x=>x.n==r.n with
  |none=>w
  |some k=>if kH w r.from_ && !bI (w.waits[k]!).from_ r.from_ then dR (fE w r k) else w)
 else if r.code=1 then (if kH w r.from_ then { w with fenced:=1 } else w)
 else if r.code=2 then nk w fun x=>x==r.from_
 else if r.code=4 then nk w fun x=>(x.node==r.from_.node) && !(x.bf==r.from_.bf)
 else w:=by
  unfold fw;rw[if_neg (by simp only[bne_eq_false_iff_eq] at k1 k2 k3;simp[k1,k2,k3])];rfl
 rw[e0];clear e0;cases c0:(r.code==0) with
 | true=>
   rw[if_pos (by simpa using c0)];have hix:=GA w.waits 116 [] [.dh r.c 0] (fun x=>x.n==r.n) (fun x _=>Ur r x);rcases JQ (fun x=>x.n==r.n) w.waits with ⟨i1,i2⟩|⟨k,hk,i1,i2⟩
   ·rw[i2];rw[i1] at hix;have dm:decide ((-1:Int)≥0)=false:=by decide
    clear i1 i2 h iH;refine dW iR ?_;repeat' ((conv=>whnf);first|with_reducible apply aQ|((with_reducible apply fk)<;>intro hc<;>try exact dK)|(apply iC;refine⟨_,_,aN (hN) ?_,?_⟩;exact dx)|(apply bC;refine⟨_,aL (hix) ?_,?_⟩;exact dx)|refine aM ?_|fail)
    all_goals exact aK
   rw[i2];rw[i1] at hix;have dm:decide (((k:Nat):Int)≥0)=true:=by simp
   have U6:=yT w (nA w.waits) (dO w.bad) dV r.from_;have hr:=dJ Wt.c w.waits k hk;obtain⟨x,hx⟩:∃x,w.waits[k]=x:=⟨_,rfl⟩;have hx':w.waits[k]! = x:=by rw[getElem!_pos w.waits k hk];exact hx
   simp only[hx'];rw[hx] at hr;have hco:=bS x.from_ r.from_.node r.from_.bf;rw[show (x.from_.any fun y=>y==(⟨r.from_.node,r.from_.bf⟩:Pl))=bI x.from_ r.from_ from rfl] at hco;cases ea:kH w r.from_ with
   | false=>
     rw[ea] at U6;clear ea i1 i2 hx hx' h;refine dW iR ?_;repeat' ((conv=>whnf);first|with_reducible apply aQ|((with_reducible apply fk)<;>intro hc<;>try exact dK)|(apply iC;refine⟨_,_,aN (hN) ?_,?_⟩;exact dx)|(apply bC;refine⟨_,aL (hix) ?_,?_⟩;exact dx)|(apply bC;refine⟨_,aL (U6) ?_,?_⟩;exact dx)|refine aM ?_|fail)
     all_goals exact aK
   |true=>
   rw[ea] at U6;cases eb:bI x.from_ r.from_ with
   | true=>
     rw[eb] at hco;clear ea eb i1 i2 hx hx' h;refine dW iR ?_;repeat' ((conv=>whnf);first|with_reducible apply aQ|((with_reducible apply fk)<;>intro hc<;>try exact dK)|(apply iC;refine⟨_,_,aN (hN) ?_,?_⟩;exact dx)|(apply bC;refine⟨_,aL (hix) ?_,?_⟩;exact dx)|(apply bC;refine⟨_,aL (U6) ?_,?_⟩;exact dx)|((refine⟨_,hr,?_⟩))|(apply bC;refine⟨_,hco,?_⟩)|refine aM ?_|fail)
     all_goals exact aK
   |false=>
   rw[eb] at hco;clear hN eb i1 i2 hr U6;have hkl:k=(w.waits.take k).length:=by rw[List.length_take];omega
   have hW:w.waits=w.waits.take k++x::w.waits.drop (k+1):=by
    rw[←hx,List.getElem_cons_drop,List.take_append_drop]
   have eh:fE w r k={ w with waits:=w.waits.take k++({ x with from_:=x.from_++[r.from_] }:Wt)::w.waits.drop (k+1) }:=by
    unfold fE;congr 1
    rw[List.modify_eq_take_cons_drop hk,hx]
   rw[show (true && !false)=true from rfl,if_pos rfl,eh];have Zf:=h.wx;have hwl:=h.wl;have hfr:=h.fr;have hxB:NC x:=Zf x (by rw[←hx];exact List.getElem_mem hk);have hO:=WN w h (w.waits.take k) x (w.waits.drop (k+1)) hW;clear h hx hx' eh;rw[hW] at hix;obtain⟨A,hA⟩:∃A,w.waits.take k=A:=⟨_,rfl⟩;obtain⟨B,hB⟩:∃B,w.waits.drop (k+1)=B:=⟨_,rfl⟩;rw[hA] at hkl hO hix hW ⊢;rw[hB] at hO hix hW ⊢;subst hkl;have UJ:=yT w (.sl false 5 (A.map Wt.c++x.c::B.map Wt.c)) (dO w.bad) dV r.from_;rw[ea] at UJ;simp only[nA,zma,zmc] at hix;clear ea hA hB;have hfl:=hxB.from_;obtain⟨w1,hw1⟩:∃w1,w1={ w with waits:=A++({ x with from_:=x.from_++[r.from_] }:Wt)::B }:=⟨_,rfl⟩;rw[←hw1];obtain⟨j,hj⟩:∃j,(w1.waits.takeWhile (bX w1)).length=j:=⟨_,rfl⟩;have hm:=UH w1 (w.bad.map Pl.c) (by rw[hw1];exact hfr) (by
    rw[hw1];intro y hy;simp only[List.mem_append,List.mem_cons] at hy;have acg:∀z,z∈A∨z=x∨z∈B→eD z.n:=fun z hz=>(Zf z (by rw[hW];simpa using hz)).n
    rcases hy with hy|rfl|hy
    ·exact acg y (.inl hy)
    ·exact hxB.n
    exact acg y (.inr (.inr hy))) (by rw[hw1];rw[hW] at hwl;simpa using hwl) j hj
   rw[NS w1 j hj];refine dW iR ?_;repeat' ((conv=>whnf);first|fail|((with_reducible apply fk)<;>intro hc<;>try exact dK)|(apply iC;refine⟨_,_,aN (hO) ?_,?_⟩;exact dx)|(apply bC;refine⟨_,aL (hix) ?_,?_⟩;exact dx)|(apply bC;refine⟨_,aL (UJ) ?_,?_⟩;exact dx)|((with_reducible apply zoc))|((with_reducible refine (Or.inl ?_:VC _ _ (Code.block _ _) _ _∨_)))|((with_reducible apply zos))|(apply bC;refine⟨_,hco,?_⟩)|(refine VB ?_)|refine aM ?_|fail)
   refine Or.inl ?_;repeat' ((conv=>whnf);first|fail|((with_reducible apply fk)<;>intro hc<;>try exact dK)|(apply iC;refine⟨_,_,aN (hO) ?_,?_⟩;exact dx)|(apply bC;refine⟨_,aL (hix) ?_,?_⟩;exact dx)|(apply bC;refine⟨_,aL (UJ) ?_,?_⟩;exact dx)|((with_reducible apply zoc))|((with_reducible refine (Or.inl ?_:VC _ _ (Code.block _ _) _ _∨_)))|((with_reducible apply zos))|(apply bC;refine⟨_,hco,?_⟩)|(refine VB ?_)|refine aM ?_|fail)
   refine Or.inl ?_;repeat' ((conv=>whnf);first|fail|((with_reducible apply fk)<;>intro hc<;>try exact dK)|(apply iC;refine⟨_,_,aN (hO) ?_,?_⟩;exact dx)|(apply bC;refine⟨_,aL (hix) ?_,?_⟩;exact dx)|(apply bC;refine⟨_,aL (UJ) ?_,?_⟩;exact dx)|((with_reducible apply zoc))|((with_reducible refine (Or.inl ?_:VC _ _ (Code.block _ _) _ _∨_)))|((with_reducible apply zos))|(apply bC;refine⟨_,hco,?_⟩)|(refine VB ?_)|refine aM ?_|fail)
   refine Or.inr ⟨Unit,fun _=>⟨[(6,.ptr 1006 0),(7,.ptr 1007 0)],1000000000,[(1006,.var (wr0.c.map .pv)),(1007,.var (nC w1 (.pv (eT w1.l.aj)) (.aZ 1008 0) (.pv (.sl false 2 (w.bad.map Pl.c))) (.pv dV))),(1008,.arr 145 0 5 (w1.waits.map Wt.c))]⟩,?_,fun _=>?_⟩
   ·repeat' ((conv=>whnf);first|with_reducible apply aQ|((with_reducible apply fk)<;>intro hc<;>try exact dK)|(((with_reducible apply And.intro);focus (simp only[fe,mH,mI];omega)))|refine aM ?_|fail)
    refine⟨(),Pf 1003003001 rfl rfl rfl rfl (ay ?_)⟩;repeat' first|apply And.intro|exact aK|fail
    all_goals try (conv=>whnf)
    all_goals first
     |(rw[hw1];done)
     |(rw[hw1];exact aC _)
     |(rw[hw1];simp only[zma,zmc,Yk,Wt.c,dO,Pl.c];exact aC _)
     |(rw[hw1];exact aC _)
     |skip
   clear hO hix UJ hco;repeat' ((conv=>whnf);first|with_reducible apply aQ|((with_reducible apply fk)<;>intro hc<;>try exact dK)|rewrite[qO]|rewrite[qP]|(apply iC;refine⟨_,_,aN (hm) ?_,?_⟩;exact dx)|refine aM ?_|fail)
   repeat' first|apply And.intro|exact aK|fail
   all_goals try (conv=>whnf)
   all_goals first
    |(rw[jM,List.map_drop,List.take_of_length_le (by simp only[List.length_drop,fe];omega)];exact aC _)
    |(rw[hw1];exact aC _)
    |skip
 |false=>
 have c0':¬r.code=0:=by simpa using c0
 rw[if_neg c0'];clear c0';cases c1:(r.code==1) with
 | true=>
   rw[if_pos (by simpa using c1)];have U6:=yT w (nA w.waits) (dO w.bad) dV r.from_;generalize kH w r.from_=aa at U6 ⊢;cases aa;all_goals
    refine dW iR ?_;repeat' ((conv=>whnf);first|with_reducible apply aQ|((with_reducible apply fk)<;>intro hc<;>try exact dK)|(apply iC;refine⟨_,_,aN (hN) ?_,?_⟩;exact dx)|(apply bC;refine⟨_,aL (U6) ?_,?_⟩;exact dx)|refine aM ?_|fail)
    all_goals exact aK
 |false=>
 have c1':¬r.code=1:=by simpa using c1
 rw[if_neg c1'];clear c1' hN;have hB:=WJ w h;have hbl:=h.bl;have hfl:=h.fl;cases c2:(r.code==2) with
 | true=>
   rw[if_pos (by simpa using c2)];have hba:=NQ w (w.waits.map Wt.c) 118 r.c (fun x=>x==r.from_) (fun y=>Us r y) (by omega) (by omega) iH;obtain⟨w',hw'⟩:∃w',nk w (fun x=>x==r.from_)=w':=⟨_,rfl⟩;have hc':w'={ w with bad:=w'.bad }:=by rw[←hw'];rfl
   rw[hw'] at hba ⊢;clear hw';refine dW iR ?_;repeat' ((conv=>whnf);first|with_reducible apply aQ|((with_reducible apply fk)<;>intro hc<;>try exact dK)|rewrite[qO]|rewrite[qP]|(apply iC;refine⟨_,_,aN (hB) ?_,?_⟩;exact dx)|(apply iC;refine⟨_,_,aN (hba) ?_,?_⟩;exact dx)|refine aM ?_|fail)
   rw[hc'];all_goals exact aK
 |false=>
 have c2':¬r.code=2:=by simpa using c2
 rw[if_neg c2'];clear c2';cases c4:(r.code==4) with
 | true=>
   rw[if_pos (by simpa using c4)];have hba:=NQ w (w.waits.map Wt.c) 119 r.c (fun x=>(x.node==r.from_.node) && !(x.bf==r.from_.bf)) (fun y=>Ut r y) (by omega) (by omega) iH;obtain⟨w',hw'⟩:∃w',nk w (fun x=>(x.node==r.from_.node) && !(x.bf==r.from_.bf))=w':=⟨_,rfl⟩;have hc':w'={ w with bad:=w'.bad }:=by rw[←hw'];rfl
   rw[hw'] at hba ⊢;clear hw';refine dW iR ?_;repeat' ((conv=>whnf);first|with_reducible apply aQ|((with_reducible apply fk)<;>intro hc<;>try exact dK)|rewrite[qO]|rewrite[qP]|(apply iC;refine⟨_,_,aN (hB) ?_,?_⟩;exact dx)|(apply iC;refine⟨_,_,aN (hba) ?_,?_⟩;exact dx)|refine aM ?_|fail)
   rw[hc'];all_goals exact aK
 | false=>
   rw[if_neg (by simpa using c4)];have hN:=qF w h;refine dW iR ?_;repeat' ((conv=>whnf);first|with_reducible apply aQ|((with_reducible apply fk)<;>intro hc<;>try exact dK)|(apply iC;refine⟨_,_,aN (hN) ?_,?_⟩;exact dx)|refine aM ?_|fail)
   all_goals exact aK
end Go.Proofs.YtfoiekbkkbnpkaaGreat.Tb
end
