/-
  Contracts of functions of the program and of the document, each for every input that its premises name.
-/
import Derived.Test.YtiagceoepkaeoaaGreatBd
import Derived.Test.YtiagceoepkaeoaaGreatAf
import Derived.Test.YtiagceoepkaeoaaGreatBb
set_option linter.unusedSectionVars false
set_option linter.unusedVariables false
set_option linter.unusedSimpArgs false
set_option maxRecDepth 100000
set_option maxHeartbeats 4000000
section
open Go Go.Proofs.Tryz Go.AX
namespace Go.Proofs.YtiagceoepkaeoaaGreat.Tb
theorem ahU {α:Type}(c:α→List PV)(A:List α)(x:α)(B:List α)(k:Nat)(h:k<A.length):((A++x::B).map c)[k]? = some (c A[k]):=by
 rw[List.map_append,List.getElem?_append_left (by simpa using h)];simp[h]
theorem ahV {α:Type}(c:α→List PV)(A:List α)(x:α)(B:List α):((A++x::B).map c)[A.length]? = some (c x):=by
 simp
theorem ahW {α:Type}(c:α→List PV)(A:List α)(x:α)(B:List α)(k:Nat)(h:k<B.length):((A++x::B).map c)[A.length+1+k]? = some (c B[k]):=by
 rw[List.map_append,List.getElem?_append_right (by simp;omega)];simp[show A.length+1+k-A.length=k+1 by omega,h]
def Pe (c:Ch):List AV:=[.pv (uu c.aU),.pv (ii c.owner),.pv (uu c.inc),.pv (uu c.eY),.pv (uu c.first),.pv (uu c.trim),.aB 1002 0,.pv (rP c.seen),.aB 1003 0]
def Ud (l:Lg):List AV:=[.pv (uu l.id),.pv (ii l.w),.pv (ii l.a),.aB 1002 0,.pv (ii l.closed),.pv (uu l.last)]
theorem J4:aQ prog 63 f63:=bU func63
theorem Zr (l:List Int)(h:l.length*8≤140737488355328):dU prog 63 [.pv (l8 l)] [] (.aB 1001 0) [(1001,.arr 23 0 1 (l.map bR))]:=by
 refine Nr [] ?_ fun h0=>?_
 all_goals
  refine jy J4 ?_;repeat' ((conv=>whnf);first|with_reducible apply aG|((with_reducible apply fk)<;>intro hc<;>try exact aK)|refine aC ?_|fail)
  refine⟨_,_,⟨rfl,rfl⟩,?_⟩;repeat' first|apply And.intro|exact ay|fail
  all_goals try (conv=>whnf)
 exact h0
theorem Bl (l:List Int)(h:l.length*8≤140737488355328):bC prog 63 [l8 l] (l8 l):=by
 refine PC.le (Tm [] ?_ fun h0=>?_);all_goals
  refine bM J4 ?_;repeat' ((conv=>whnf);first|with_reducible apply aG|((with_reducible apply fk)<;>intro hc<;>try exact aK)|refine aC ?_|fail)
  repeat' first|apply And.intro|exact ay|fail
  all_goals try (conv=>whnf)
 exact h0
theorem wQ:aQ prog 64 f64:=bU func64
theorem II (l:List Cu)(h:l.length*16≤140737488355328):dU prog 64 [.pv (Hr l)] [] (.aB 1001 0) [(1001,.arr 127 0 2 (l.map Cu.c))]:=by
 refine Nr [] ?_ fun h0=>?_
 all_goals
  refine jy wQ ?_;repeat' ((conv=>whnf);first|with_reducible apply aG|((with_reducible apply fk)<;>intro hc<;>try exact aK)|refine aC ?_|fail)
  refine⟨_,_,⟨rfl,rfl⟩,?_⟩;repeat' first|apply And.intro|exact ay|fail
  all_goals try (conv=>whnf)
 exact h0
theorem IJ (l:List Cu)(h:l.length*16≤140737488355328):bC prog 64 [Hr l] (Hr l):=by
 refine PC.le (Tm [] ?_ fun h0=>?_);all_goals
  refine bM wQ ?_;repeat' ((conv=>whnf);first|with_reducible apply aG|((with_reducible apply fk)<;>intro hc<;>try exact aK)|refine aC ?_|fail)
  repeat' first|apply And.intro|exact ay|fail
  all_goals try (conv=>whnf)
 exact h0
theorem LQ:aQ prog 66 f66:=bU func66
theorem qI (l:List Pa)(h:l.length*64≤140737488355328):dU prog 66 [.pv (uS l)] [] (.aB 1001 0) [(1001,.arr 68 0 8 (l.map Pa.c))]:=by
 refine Nr [] ?_ fun h0=>?_
 all_goals
  refine jy LQ ?_;repeat' ((conv=>whnf);first|with_reducible apply aG|((with_reducible apply fk)<;>intro hc<;>try exact aK)|refine aC ?_|fail)
  refine⟨_,_,⟨rfl,rfl⟩,?_⟩;repeat' first|apply And.intro|exact ay|fail
  all_goals try (conv=>whnf)
 exact h0
theorem J5:aQ prog 62 f62:=bU func62
theorem GH (c:Ch)(h:ChB c):bC prog 62 ([]++([.agg c.c]++[])) (.agg c.c):=by
 have h1:=h.af;have h2:=h.seen;have h3:=h.au;refine PC.le ?_;refine bM J5 ?_;repeat' ((conv=>whnf);first|with_reducible apply aG|((with_reducible apply fk)<;>intro hc<;>try exact aK)|(apply aH;refine⟨_,Bl _ (by omega),?_⟩)|(apply aH;refine⟨_,wO _ (by omega),?_⟩)|(apply aH;refine⟨_,IJ _ (by omega),?_⟩)|refine aC ?_|fail)
 all_goals exact ay
theorem Zt (c:Ch)(h:ChB c):dU prog 62 ([]++([.pv (.agg c.c)]++[])) [] (.agg [.pv (uu c.aU),.pv (ii c.owner),.pv (uu c.inc),.pv (uu c.eY),.pv (uu c.first),.pv (uu c.trim),.aB 1001 0,.pv (rP c.seen),.aB 1002 0])
  [(1001,.arr 23 0 1 (c.af.map bR)),(1002,.arr 127 0 2 (c.au.map Cu.c))]:=by
 have h1:=h.af;have h2:=h.seen;have h3:=h.au;refine jy J5 ?_;repeat' ((conv=>whnf);first|with_reducible apply aG|((with_reducible apply fk)<;>intro hc<;>try exact aK)|(apply fB;refine⟨_,_,Zr _ (by omega),?_⟩)|(apply aH;refine⟨_,wO _ (by omega),?_⟩)|(apply fB;refine⟨_,_,II _ (by omega),?_⟩)|refine aC ?_|fail)
 refine⟨_,_,⟨rfl,rfl⟩,?_⟩;all_goals exact ay
theorem GI:aQ prog 65 f65:=bU func65
theorem GJ:aQ prog 61 f61:=bU func61
theorem Cw (l:List Lg)(h:l.length≤1000000)(hb:∀x∈l,LgB x):dU prog 65 [.pv (dO l),.pv (.fn (.func 55) [] [])] [] (.aB 1001 0) [(1001,.arr 50 0 6 (l.map Lg.c))]:=by
 refine jy GI ?_;repeat' ((conv=>whnf);first|with_reducible apply aG|((with_reducible apply fk)<;>intro hc<;>try exact aK)|refine aC ?_|fail)
 refine⟨{k:Nat // k≤l.length},fun⟨k,_⟩=>⟨[(1,.pv (.fn (.func 55) [] [])),(5,.aB 1001 0),(8,.pv (dO l)),(9,.pv (ii l.length)),(10,.pv (ii k))],1000000000,[(1001,.arr 50 0 6 ((l.take k).map Lg.c))]⟩,fun⟨k,_⟩=>l.length-k,⟨⟨0,by simp⟩,aj ?_⟩,?_⟩
 ·repeat' first|apply And.intro|exact ay|fail
  all_goals try (conv=>whnf)
  all_goals simp
 rintro⟨k,hk⟩
 by_cases hlt:k<l.length
 ·have d0:decide ((k:Int)<(l.length:Int))=true:=by simp only[gQ];omega
  have eW:IntKind.i64.wrap ((k:Int)+1)=((k+1:Nat):Int):=by rw[aJ (by omega) (by omega)];omega
  repeat' ((conv=>whnf);first|with_reducible apply aG|((with_reducible apply fk)<;>intro hc<;>try exact aK)|((refine⟨_,dx _ _ _ hlt,?_⟩))|(apply aH;refine⟨_,qG _ (hb _ (List.getElem_mem hlt)),?_⟩)|(((with_reducible apply And.intro);focus (simp only[jS,uF,xA,List.length_take,Bu] at *;omega)))|refine aC ?_|fail)
  refine⟨⟨k+1,hlt⟩,dec_lt hlt,aj ?_⟩;repeat' first|apply And.intro|exact ay|fail
  all_goals try (conv=>whnf)
  all_goals first
   |exact eW
   | (rw[List.take_succ_eq_append_getElem hlt,List.map_append]
      refine nL (bP _) ?_
      (repeat' first|apply And.intro|exact ay|fail);(all_goals try (conv=>whnf)))
 have hke:k=l.length:=by omega
 subst hke;have d0:decide ((l.length:Int)<(l.length:Int))=false:=by simp
 repeat' ((conv=>whnf);first|with_reducible apply aG|((with_reducible apply fk)<;>intro hc<;>try exact aK)|refine aC ?_|fail)
 refine⟨_,_,⟨rfl,rfl⟩,?_⟩;repeat' first|apply And.intro|exact ay|fail
 all_goals try (conv=>whnf)
 all_goals (rw[List.take_length];exact bP _)
theorem VX (A:List Lg)(x:Lg)(B:List Lg)(h:A.length+(1+B.length)≤1000000)(hA:∀y∈A,LgB y)(hx:LgB x)(hB:∀y∈B,LgB y):dU prog 65 [.pv (dO (A++x::B)),.pv (.fn (.func 55) [] [])] [] (.aB 1001 0)
  [(1001,.dN 50 0 6 (A.map Lg.c) (Ud x) (B.map Lg.c)),(1002,.fP 80 0 2 1 36 2 (own (x.av.map Fr.c)) [] [])]:=by
 have hn:(A++x::B).length=A.length+(1+B.length):=by simp[Nat.add_comm]
 have hm:(((A++x::B).map Lg.c).length:Int)=((A.length+(1+B.length):Nat):Int):=by rw[List.length_map,hn]
 refine zU Cv (sZ mixed Cv) GI rfl ?_;repeat' ((conv=>whnf);first|with_reducible apply aG|((with_reducible apply fk)<;>intro hc<;>try exact aK)|refine aC ?_|fail)
 refine⟨{k:Nat // k≤A.length} ⊕ {k:Nat // k≤B.length},fun i=>match i with
   |.inl ⟨k,_⟩=>⟨[(1,.pv (.fn (.func 55) [] [])),(5,.aB 1001 0),(8,.pv (dO (A++x::B))),(9,.pv (ii ((A.length+(1+B.length):Nat)))),(10,.pv (ii k))],1000000000,[(1001,.arr 50 0 6 ((A.take k).map Lg.c))]⟩
   |.inr ⟨k,_⟩=>⟨[(1,.pv (.fn (.func 55) [] [])),(5,.aB 1001 0),(8,.pv (dO (A++x::B))),(9,.pv (ii ((A.length+(1+B.length):Nat)))),(10,.pv (ii ((A.length+1+k:Nat))))],1000000000,[(1001,.dN 50 0 6 (A.map Lg.c) (Ud x) ((B.take k).map Lg.c)),(1002,.fP 80 0 2 1 36 2 (own (x.av.map Fr.c)) [] [])]⟩,
  fun i=>match i with
   |.inl ⟨k,_⟩=>A.length+(1+B.length)-k
   |.inr ⟨k,_⟩=>B.length-k,⟨.inl ⟨0,by simp⟩,aj ?_⟩,?_⟩
 ·repeat' first|apply And.intro|exact ay|fail
  all_goals try (conv=>whnf)
  all_goals first
   |exact hm
   |simp
 rintro (⟨k,hk⟩|⟨k,hk⟩)
 ·by_cases hlt:k<A.length
  ·have d0:decide ((k:Int)<((A.length+(1+B.length):Nat):Int))=true:=by simp only[gQ];omega
   have eW:IntKind.i64.wrap ((k:Int)+1)=((k+1:Nat):Int):=by rw[aJ (by omega) (by omega)];omega
   have hr:=ahU Lg.c A x B k hlt;repeat' ((conv=>whnf);first|with_reducible apply aG|((with_reducible apply fk)<;>intro hc<;>try exact aK)|((refine⟨_,hr,?_⟩))|(apply aH;refine⟨_,qG _ (hA _ (List.getElem_mem hlt)),?_⟩)|(((with_reducible apply And.intro);focus (simp only[jS,uF,xA,List.length_take,Bu] at *;omega)))|refine aC ?_|fail)
   refine⟨.inl ⟨k+1,hlt⟩,by simp only;omega,aj ?_⟩;repeat' first|apply And.intro|exact ay|fail
   all_goals try (conv=>whnf)
   all_goals first
    |exact eW
    | (rw[List.take_succ_eq_append_getElem hlt,List.map_append]
       refine nL (bP _) ?_
       (repeat' first|apply And.intro|exact ay|fail);(all_goals try (conv=>whnf)))
  have hke:k=A.length:=by omega
  subst hke;have d0:decide ((A.length:Int)<((A.length+(1+B.length):Nat):Int))=true:=by simp only[gQ];omega
  have eW:IntKind.i64.wrap ((A.length:Int)+1)=((A.length+1+0:Nat):Int):=by rw[aJ (by omega) (by omega)];omega
  have hr:=ahV Lg.c A x B;repeat' ((conv=>whnf);first|with_reducible apply aG|((with_reducible apply fk)<;>intro hc<;>try exact aK)|((refine⟨_,hr,?_⟩))|(apply fB;refine⟨_,_,Pd _ hx,?_⟩)|(((with_reducible apply And.intro);focus (simp only[jS,uF,xA,List.length_take,Bu] at *;omega)))|refine aC ?_|fail)
  refine⟨.inr ⟨0,by omega⟩,by simp only;omega,aj ?_⟩;repeat' first|apply And.intro|exact ay|fail
  all_goals try (conv=>whnf)
  all_goals first
   |exact eW
   |(rw[List.take_length];exact bP _)
   |simp
 by_cases hlt:k<B.length
 ·have d0:decide (((A.length+1+k:Nat):Int)<((A.length+(1+B.length):Nat):Int))=true:=by simp only[gQ];omega
  have eW:IntKind.i64.wrap (((A.length+1+k:Nat):Int)+1)=((A.length+1+(k+1):Nat):Int):=by rw[aJ (by omega) (by omega)];omega
  have hr:=ahW Lg.c A x B k hlt;repeat' ((conv=>whnf);first|with_reducible apply aG|((with_reducible apply fk)<;>intro hc<;>try exact aK)|((refine⟨_,hr,?_⟩))|(apply aH;refine⟨_,qG _ (hB _ (List.getElem_mem hlt)),?_⟩)|(((with_reducible apply And.intro);focus (simp only[jS,uF,xA,List.length_take,Bu] at *;omega)))|refine aC ?_|fail)
  refine⟨.inr ⟨k+1,hlt⟩,by simp only;omega,aj ?_⟩;repeat' first|apply And.intro|exact ay|fail
  all_goals try (conv=>whnf)
  all_goals first
   |exact eW
   | (rw[List.take_succ_eq_append_getElem hlt,List.map_append]
      refine nL (bP _) ?_
      (repeat' first|apply And.intro|exact ay|fail);(all_goals try (conv=>whnf)))
 have hke:k=B.length:=by omega
 subst hke;have d0:decide (((A.length+1+B.length:Nat):Int)<((A.length+(1+B.length):Nat):Int))=false:=by simp only[kQ];omega
 repeat' ((conv=>whnf);first|with_reducible apply aG|((with_reducible apply fk)<;>intro hc<;>try exact aK)|refine aC ?_|fail)
 refine⟨_,_,⟨rfl,rfl⟩,?_⟩;repeat' first|apply And.intro|exact ay|fail
 all_goals try (conv=>whnf)
 all_goals (rw[List.take_length];exact bP _)
theorem Cx (l:List Ch)(h:l.length≤1000000)(hb:∀x∈l,ChB x):dU prog 61 [.pv (jL l),.pv (.fn (.func 62) [] [])] [] (.aB 1001 0) [(1001,.arr 47 0 9 (l.map Ch.c))]:=by
 refine jy GJ ?_;repeat' ((conv=>whnf);first|with_reducible apply aG|((with_reducible apply fk)<;>intro hc<;>try exact aK)|refine aC ?_|fail)
 refine⟨{k:Nat // k≤l.length},fun⟨k,_⟩=>⟨[(1,.pv (.fn (.func 62) [] [])),(5,.aB 1001 0),(8,.pv (jL l)),(9,.pv (ii l.length)),(10,.pv (ii k))],1000000000,[(1001,.arr 47 0 9 ((l.take k).map Ch.c))]⟩,fun⟨k,_⟩=>l.length-k,⟨⟨0,by simp⟩,aj ?_⟩,?_⟩
 ·repeat' first|apply And.intro|exact ay|fail
  all_goals try (conv=>whnf)
  all_goals simp
 rintro⟨k,hk⟩
 by_cases hlt:k<l.length
 ·have d0:decide ((k:Int)<(l.length:Int))=true:=by simp only[gQ];omega
  have eW:IntKind.i64.wrap ((k:Int)+1)=((k+1:Nat):Int):=by rw[aJ (by omega) (by omega)];omega
  repeat' ((conv=>whnf);first|with_reducible apply aG|((with_reducible apply fk)<;>intro hc<;>try exact aK)|((refine⟨_,dx _ _ _ hlt,?_⟩))|(apply aH;refine⟨_,GH _ (hb _ (List.getElem_mem hlt)),?_⟩)|(((with_reducible apply And.intro);focus (simp only[jS,uF,xA,List.length_take,Bu] at *;omega)))|refine aC ?_|fail)
  refine⟨⟨k+1,hlt⟩,dec_lt hlt,aj ?_⟩;repeat' first|apply And.intro|exact ay|fail
  all_goals try (conv=>whnf)
  all_goals first
   |exact eW
   | (rw[List.take_succ_eq_append_getElem hlt,List.map_append]
      refine nL (bP _) ?_
      (repeat' first|apply And.intro|exact ay|fail);(all_goals try (conv=>whnf)))
 have hke:k=l.length:=by omega
 subst hke;have d0:decide ((l.length:Int)<(l.length:Int))=false:=by simp
 repeat' ((conv=>whnf);first|with_reducible apply aG|((with_reducible apply fk)<;>intro hc<;>try exact aK)|refine aC ?_|fail)
 refine⟨_,_,⟨rfl,rfl⟩,?_⟩;repeat' first|apply And.intro|exact ay|fail
 all_goals try (conv=>whnf)
 all_goals (rw[List.take_length];exact bP _)
theorem VY (A:List Ch)(x:Ch)(B:List Ch)(h:A.length+(1+B.length)≤1000000)(hA:∀y∈A,ChB y)(hx:ChB x)(hB:∀y∈B,ChB y):dU prog 61 [.pv (jL (A++x::B)),.pv (.fn (.func 62) [] [])] [] (.aB 1001 0)
  [(1001,.dN 47 0 9 (A.map Ch.c) (Pe x) (B.map Ch.c)),(1002,.arr 23 0 1 (x.af.map bR)),(1003,.arr 127 0 2 (x.au.map Cu.c))]:=by
 have hn:(A++x::B).length=A.length+(1+B.length):=by simp[Nat.add_comm]
 have hm:(((A++x::B).map Ch.c).length:Int)=((A.length+(1+B.length):Nat):Int):=by rw[List.length_map,hn]
 refine zU Cv (sZ mixed Cv) GJ rfl ?_;repeat' ((conv=>whnf);first|with_reducible apply aG|((with_reducible apply fk)<;>intro hc<;>try exact aK)|refine aC ?_|fail)
 refine⟨{k:Nat // k≤A.length} ⊕ {k:Nat // k≤B.length},fun i=>match i with
   |.inl ⟨k,_⟩=>⟨[(1,.pv (.fn (.func 62) [] [])),(5,.aB 1001 0),(8,.pv (jL (A++x::B))),(9,.pv (ii ((A.length+(1+B.length):Nat)))),(10,.pv (ii k))],1000000000,[(1001,.arr 47 0 9 ((A.take k).map Ch.c))]⟩
   |.inr ⟨k,_⟩=>⟨[(1,.pv (.fn (.func 62) [] [])),(5,.aB 1001 0),(8,.pv (jL (A++x::B))),(9,.pv (ii ((A.length+(1+B.length):Nat)))),(10,.pv (ii ((A.length+1+k:Nat))))],1000000000,[(1001,.dN 47 0 9 (A.map Ch.c) (Pe x) ((B.take k).map Ch.c)),(1002,.arr 23 0 1 (x.af.map bR)),(1003,.arr 127 0 2 (x.au.map Cu.c))]⟩,
  fun i=>match i with
   |.inl ⟨k,_⟩=>A.length+(1+B.length)-k
   |.inr ⟨k,_⟩=>B.length-k,⟨.inl ⟨0,by simp⟩,aj ?_⟩,?_⟩
 ·repeat' first|apply And.intro|exact ay|fail
  all_goals try (conv=>whnf)
  all_goals first
   |exact hm
   |simp
 rintro (⟨k,hk⟩|⟨k,hk⟩)
 ·by_cases hlt:k<A.length
  ·have d0:decide ((k:Int)<((A.length+(1+B.length):Nat):Int))=true:=by simp only[gQ];omega
   have eW:IntKind.i64.wrap ((k:Int)+1)=((k+1:Nat):Int):=by rw[aJ (by omega) (by omega)];omega
   have hr:=ahU Ch.c A x B k hlt;repeat' ((conv=>whnf);first|with_reducible apply aG|((with_reducible apply fk)<;>intro hc<;>try exact aK)|((refine⟨_,hr,?_⟩))|(apply aH;refine⟨_,GH _ (hA _ (List.getElem_mem hlt)),?_⟩)|(((with_reducible apply And.intro);focus (simp only[jS,uF,xA,List.length_take,Bu] at *;omega)))|refine aC ?_|fail)
   refine⟨.inl ⟨k+1,hlt⟩,by simp only;omega,aj ?_⟩;repeat' first|apply And.intro|exact ay|fail
   all_goals try (conv=>whnf)
   all_goals first
    |exact eW
    | (rw[List.take_succ_eq_append_getElem hlt,List.map_append]
       refine nL (bP _) ?_
       (repeat' first|apply And.intro|exact ay|fail);(all_goals try (conv=>whnf)))
  have hke:k=A.length:=by omega
  subst hke;have d0:decide ((A.length:Int)<((A.length+(1+B.length):Nat):Int))=true:=by simp only[gQ];omega
  have eW:IntKind.i64.wrap ((A.length:Int)+1)=((A.length+1+0:Nat):Int):=by rw[aJ (by omega) (by omega)];omega
  have hr:=ahV Ch.c A x B;repeat' ((conv=>whnf);first|with_reducible apply aG|((with_reducible apply fk)<;>intro hc<;>try exact aK)|((refine⟨_,hr,?_⟩))|(apply fB;refine⟨_,_,Zt _ hx,?_⟩)|(((with_reducible apply And.intro);focus (simp only[jS,uF,xA,List.length_take,Bu] at *;omega)))|refine aC ?_|fail)
  refine⟨.inr ⟨0,by omega⟩,by simp only;omega,aj ?_⟩;repeat' first|apply And.intro|exact ay|fail
  all_goals try (conv=>whnf)
  all_goals first
   |exact eW
   |(rw[List.take_length];exact bP _)
   |simp
 by_cases hlt:k<B.length
 ·have d0:decide (((A.length+1+k:Nat):Int)<((A.length+(1+B.length):Nat):Int))=true:=by simp only[gQ];omega
  have eW:IntKind.i64.wrap (((A.length+1+k:Nat):Int)+1)=((A.length+1+(k+1):Nat):Int):=by rw[aJ (by omega) (by omega)];omega
  have hr:=ahW Ch.c A x B k hlt;repeat' ((conv=>whnf);first|with_reducible apply aG|((with_reducible apply fk)<;>intro hc<;>try exact aK)|((refine⟨_,hr,?_⟩))|(apply aH;refine⟨_,GH _ (hB _ (List.getElem_mem hlt)),?_⟩)|(((with_reducible apply And.intro);focus (simp only[jS,uF,xA,List.length_take,Bu] at *;omega)))|refine aC ?_|fail)
  refine⟨.inr ⟨k+1,hlt⟩,by simp only;omega,aj ?_⟩;repeat' first|apply And.intro|exact ay|fail
  all_goals try (conv=>whnf)
  all_goals first
   |exact eW
   | (rw[List.take_succ_eq_append_getElem hlt,List.map_append]
      refine nL (bP _) ?_
      (repeat' first|apply And.intro|exact ay|fail);(all_goals try (conv=>whnf)))
 have hke:k=B.length:=by omega
 subst hke;have d0:decide (((A.length+1+B.length:Nat):Int)<((A.length+(1+B.length):Nat):Int))=false:=by simp only[kQ];omega
 repeat' ((conv=>whnf);first|with_reducible apply aG|((with_reducible apply fk)<;>intro hc<;>try exact aK)|refine aC ?_|fail)
 refine⟨_,_,⟨rfl,rfl⟩,?_⟩;repeat' first|apply And.intro|exact ay|fail
 all_goals try (conv=>whnf)
 all_goals (rw[List.take_length];exact bP _)
theorem Bn:aQ prog 30 f30:=bU func30
theorem LU (p:Pn)(h:rR p):dU prog 30 [.pv (.agg p.c)] [] (.agg [.pv (uu p.version),.pv (uu p.next),.aB 1001 0,.aB 1002 0,.aB 1003 0])
  [(1001,.arr 47 0 9 (p.channels.map Ch.c)),(1002,.arr 50 0 6 (p.af.map Lg.c)),(1003,.arr 68 0 8 (p.past.map Pa.c))]:=by
 have h1:=h.past;refine jy Bn ?_;repeat' ((conv=>whnf);first|with_reducible apply aG|((with_reducible apply fk)<;>intro hc<;>try exact aK)|(apply fB;refine⟨_,_,Cx _ h.channels h.ch,?_⟩)|(apply fB;refine⟨_,_,Cw _ h.af h.lg,?_⟩)|(apply fB;refine⟨_,_,qI _ (by omega),?_⟩)|refine aC ?_|fail)
 refine⟨_,_,⟨rfl,rfl⟩,?_⟩;all_goals exact ay
theorem Ep (p:Pn)(h:rR p):bC prog 30 [.agg p.c] (.agg p.c):=by
 have h1:=h.past;refine PC.le ?_;refine bM Bn ?_;repeat' ((conv=>whnf);first|with_reducible apply aG|((with_reducible apply fk)<;>intro hc<;>try exact aK)|(apply fB;refine⟨_,_,Cx _ h.channels h.ch,?_⟩)|(apply fB;refine⟨_,_,Cw _ h.af h.lg,?_⟩)|(apply fB;refine⟨_,_,qI _ (by omega),?_⟩)|refine aC ?_|fail)
 all_goals exact ay
theorem Pf (p:Pn)(A:List Ch)(c:Ch)(B:List Ch)(hp:p.channels=A++c::B)(h:rR p):dU prog 30 [.pv (.agg p.c)] [] (.agg [.pv (uu p.version),.pv (uu p.next),.aB 1001 0,.aB 1004 0,.aB 1005 0])
  [(1001,.dN 47 0 9 (A.map Ch.c) (Pe c) (B.map Ch.c)),(1002,.arr 23 0 1 (c.af.map bR)),(1003,.arr 127 0 2 (c.au.map Cu.c)),
   (1004,.arr 50 0 6 (p.af.map Lg.c)),(1005,.arr 68 0 8 (p.past.map Pa.c))]:=by
 have h1:=h.past;have hn:=h.channels;have hch:=h.ch;rw[hp] at hn hch;have hL:=h.af;have hlg:=h.lg;have cC:=VY A c B (by simpa[Nat.add_comm] using hn) (fun y hy=>hch y (by simp[hy])) (hch c (by simp)) (fun y hy=>hch y (by simp[hy]));rw[←hp] at cC;clear hp hn hch h;refine jy Bn ?_;repeat' ((conv=>whnf);first|with_reducible apply aG|((with_reducible apply fk)<;>intro hc<;>try exact aK)|(apply fB;refine⟨_,_,cC,?_⟩)|(apply fB;refine⟨_,_,Cw _ hL hlg,?_⟩)|(apply fB;refine⟨_,_,qI _ (by omega),?_⟩)|refine aC ?_|fail)
 refine⟨_,_,⟨rfl,rfl⟩,?_⟩;all_goals exact ay
theorem Zu (p:Pn)(A:List Lg)(x:Lg)(B:List Lg)(hp:p.af=A++x::B)(h:rR p):dU prog 30 [.pv (.agg p.c)] [] (.agg [.pv (uu p.version),.pv (uu p.next),.aB 1003 0,.aB 1001 0,.aB 1004 0])
  [(1001,.dN 50 0 6 (A.map Lg.c) (Ud x) (B.map Lg.c)),(1002,.fP 80 0 2 1 36 2 (own (x.av.map Fr.c)) [] []),
   (1003,.arr 47 0 9 (p.channels.map Ch.c)),(1004,.arr 68 0 8 (p.past.map Pa.c))]:=by
 have h1:=h.past;have hn:=h.af;have hlg:=h.lg;rw[hp] at hn hlg;have hC:=h.channels;have hch:=h.ch;have cL:=VX A x B (by simpa[Nat.add_comm] using hn) (fun y hy=>hlg y (by simp[hy])) (hlg x (by simp)) (fun y hy=>hlg y (by simp[hy]));rw[←hp] at cL;clear hp hn hlg h;refine jy Bn ?_;repeat' ((conv=>whnf);first|with_reducible apply aG|((with_reducible apply fk)<;>intro hc<;>try exact aK)|(apply fB;refine⟨_,_,Cx _ hC hch,?_⟩)|(apply fB;refine⟨_,_,cL,?_⟩)|(apply fB;refine⟨_,_,qI _ (by omega),?_⟩)|refine aC ?_|fail)
 refine⟨_,_,⟨rfl,rfl⟩,?_⟩;all_goals exact ay
def wC (a b:Int)(ch lg pa:AV)(o:bg)(c:AV)(out:Oc):List AV:=[.pv (uu a),.pv (uu b),ch,lg,pa]++(o.c.map .pv++(c::out.c.map .pv))
def wV (a b:Int)(ch lg pa:PV)(o:bg)(c:PV)(out:Oc):List PV:=[uu a,uu b,ch,lg,pa]++(o.c++(c::out.c))
def jv (row:List AV)(A B:List Ch)(L:List Lg)(Q:List Pa):List (Nat×aA):=
 [(2,.dN 47 0 9 (A.map Ch.c) row (B.map Ch.c)),(3,.arr 50 0 6 (L.map Lg.c)),(4,.arr 68 0 8 (Q.map Pa.c))]
theorem xU:aQ prog 34 f34:=bU func34
theorem RZ:aQ prog 125 f125:=bU func125
theorem LV:aQ prog 126 f126:=bU func126
theorem wR (a b:Int)(A:List Ch)(c:Ch)(B:List Ch)(L:List Lg)(Q:List Pa)(o:bg)(n:Int)(out:Oc):dU prog 34 [.ptr 1 0,.pv (ii n)]
  ((1,.var (wC a b (.aB 2 0) (.aB 3 0) (.aB 4 0) o (.bn 2 0 (A.map Ch.c).length 0) out))::jv (c.c.map .pv) A B L Q) (.pv (.dn []))
  ((1,.var (wC a b (.aB 2 0) (.aB 3 0) (.aB 4 0) o (.bn 2 0 (A.map Ch.c).length 0) (iX n)))::jv (c.c.map .pv) A B L Q):=by
 refine jy xU ?_;repeat' ((conv=>whnf);first|with_reducible apply aG|((with_reducible apply fk)<;>intro hc<;>try exact aK)|refine aC ?_|fail)
 refine⟨_,_,⟨rfl,rfl⟩,?_⟩;all_goals exact ay
theorem acv (a b:Int)(A:List Ch)(c:Ch)(B:List Ch)(L:List Lg)(Q:List Pa)(o:bg):dU prog 125 [.ptr 1 0]
  ((1,.var (wC a b (.aB 2 0) (.aB 3 0) (.aB 4 0) o (.bn 2 0 (A.map Ch.c).length 0) bQ))::jv (c.c.map .pv) A B L Q) (.pv (.dn []))
  ((1,.var (wC a b (.aB 2 0) (.aB 3 0) (.aB 4 0) o (.bn 2 0 (A.map Ch.c).length 0) bQ))::jv ((tT c o).c.map .pv) A B L Q):=by
 refine jy RZ ?_;repeat' ((conv=>whnf);first|with_reducible apply aG|((with_reducible apply fk)<;>intro hc<;>try exact aK)|refine aC ?_|fail)
 refine⟨_,_,⟨rfl,rfl⟩,?_⟩;all_goals exact ay
theorem VZ (a b:Int)(A:List Ch)(c:Ch)(B:List Ch)(L:List Lg)(Q:List Pa)(o:bg):dU prog 126 [.ptr 1 0]
  ((1,.var (wC a b (.aB 2 0) (.aB 3 0) (.aB 4 0) o (.bn 2 0 (A.map Ch.c).length 0) bQ))::jv (c.c.map .pv) A B L Q) (.pv (.dn []))
  ((1,.var (wC a b (.aB 2 0) (.aB 3 0) (.aB 4 0) o (.bn 2 0 (A.map Ch.c).length 0) { bQ with at_:=c.trim }))::jv (c.c.map .pv) A B L Q):=by
 refine jy LV ?_;repeat' ((conv=>whnf);first|with_reducible apply aG|((with_reducible apply fk)<;>intro hc<;>try exact aK)|refine aC ?_|fail)
 refine⟨_,_,⟨rfl,rfl⟩,?_⟩;all_goals exact ay
theorem Pg {f:FuncId}{args:List PV}{r r':PV}(h:bC prog f args r)(e:Te r r'):bC prog f args r':=
 PC.le (PC.mono h fun x hx=>by rw[hx];exact e)
def lgJ (l:Lg):PV:=.agg [uu l.id,ii l.w,ii l.a,.junk,ii l.closed,uu l.last]
theorem Zv (l:Lg)(b:PV):Te (.dn [.agg l.c,b]) (.dn [lgJ l,b]):=by
 unfold Te p9 lgJ Lg.c;simp only;unfold jA;refine⟨?_,lH _⟩;unfold p9;simp only;repeat (first|exact lH _|(unfold jA;refine⟨by first|exact Ng _|(unfold p9;trivial),?_⟩))
theorem Er (p:Pn)(n:Int)(h:rR p):bC prog 22 [.agg p.c,ii n] (.dn [lgJ ((fK p n).getD Ip),bl (fK p n).isSome]):=Pg (LD p n h) (Zv _ _)
theorem acw (p:Pn)(n:Int)(h:rR p):bC prog 24 [.agg p.c,uu n] (.dn [lgJ (aW p n),bl (aR p n).isSome]):=Pg (xR p n h) (Zv _ _)
def wS (a b:Int):Int:=if decide (a<b) then -1 else if decide (a>b) then 1 else 0
theorem acz:aQ prog 83 f83:=bU func83
theorem Zy (a b:Int):bC prog 83 [uu a,uu b] (ii (wS a b)):=by
 refine PC.le ?_;obtain⟨X,hX⟩:∃X,X=wS a b:=⟨_,rfl⟩;rw[←hX];unfold wS at hX;refine bM acz ?_;repeat' ((conv=>whnf);first|with_reducible apply aG|((with_reducible apply fk)<;>intro hc<;>try exact aK)|(apply aH;refine⟨_,Zz _,?_⟩)|refine aC ?_|fail)
 all_goals
  simp only[Bool.not_true, *,Bool.true_or,Bool.or_true,Bool.false_or,Bool.or_false,Bool.true_and,Bool.and_true,Bool.false_and,Bool.and_false,Bool.not_true,Bool.not_false,Bool.false_eq_true,↓reduceIte] at hX;subst hX;all_goals exact ay
theorem ZA:aQ prog 82 f82:=bU func82
def orZ (a b:Int):Int:=if (a != 0)=true then a else b
theorem V7:aQ prog 19 f19:=bU func19
theorem pW (o:bg)(h:o.av.length≤1000000)(hb:∀x∈o.av,x.aN.length≤1000000)(hs:o.seen.length≤1000000):bC prog 19 [.agg o.c] (.agg o.c):=by
 refine PC.le ?_;have hm:((o.av.map Fr.c).length:Int)=(o.av.length:Int):=by rw[List.length_map]
 refine bM V7 ?_;repeat' ((conv=>whnf);first|with_reducible apply aG|((with_reducible apply fk)<;>intro hc<;>try exact aK)|refine aC ?_|fail)
 refine⟨{k:Nat // k≤o.av.length},fun⟨k,_⟩=>⟨[(1,.ptr 1002 0),(2,.ptr 1003 0),(3,.aB 1001 0),(7,.pv (uR o.av)),(8,.pv (ii o.av.length)),(9,.pv (ii k))],1000000000,[(1001,.arr 80 0 2 ((o.av.take k).map Fr.c)),(1002,.var (o.c.map .pv)),(1003,.var ((⟨0,0,0,0,0,0,0,0,0,0,0,0,[],[],Ca,Ca⟩:bg).c.map .pv))]⟩,fun⟨k,_⟩=>o.av.length-k,⟨⟨0,by simp⟩,aj ?_⟩,?_⟩
 ·repeat' first|apply And.intro|exact ay|fail
  all_goals try (conv=>whnf)
  all_goals first
   |exact hm
   |simp
 rintro⟨k,hk⟩
 by_cases hlt:k<o.av.length
 ·have d0:decide ((k:Int)<(o.av.length:Int))=true:=by simp only[gQ];omega
  have eW:IntKind.i64.wrap ((k:Int)+1)=((k+1:Nat):Int):=by rw[aJ (by omega) (by omega)];omega
  have hbk:=hb _ (List.getElem_mem hlt);repeat' ((conv=>whnf);first|with_reducible apply aG|((with_reducible apply fk)<;>intro hc<;>try exact aK)|((refine⟨_,dx _ _ _ hlt,?_⟩))|(apply aH;refine⟨_,Bb _ (by omega),?_⟩)|(((with_reducible apply And.intro);focus (simp only[jS,uF,xA,List.length_take] at *;omega)))|refine aC ?_|fail)
  refine⟨⟨k+1,hlt⟩,dec_lt hlt,aj ?_⟩;repeat' first|apply And.intro|exact ay|fail
  all_goals try (conv=>whnf)
  all_goals first
   |exact eW
   | (rw[List.take_succ_eq_append_getElem hlt,List.map_append]
      refine nL (bP _) ?_
      (repeat' first|apply And.intro|exact ay|fail);(all_goals try (conv=>whnf)))
 have hke:k=o.av.length:=by omega
 subst hke;have d0:decide ((o.av.length:Int)<(o.av.length:Int))=false:=by simp
 repeat' ((conv=>whnf);first|with_reducible apply aG|((with_reducible apply fk)<;>intro hc<;>try exact aK)|(apply aH;refine⟨_,wO _ (by omega),?_⟩)|refine aC ?_|fail)
 repeat' first|apply And.intro|exact ay|fail
 all_goals try (conv=>whnf)
 all_goals (rw[List.take_length];exact bP _)
theorem Wj:aQ prog 32 f32:=bU func32
def tO (l:List Pa)(o:bg):Oc×Bool:=match vU l o with
 |some (some x)=>(x,true)
 |some none=>(iX 9,true)
 |none=>(bQ,false)
theorem ah5 (a b c d:Int):(orZ (wS a b) (wS c d)==0)=decide (a=b∧c=d):=by
 unfold orZ wS;simp only[gQ];by_cases h1:a<b
 ·simp[h1];omega
 by_cases h2:a>b
 ·simp[h1,h2];omega
 have:a=b:=by omega
 subst this;by_cases h3:c<d
 ·simp[h3];omega
 by_cases h4:c>d
 ·simp[h3,h4];omega
 have:c=d:=by omega
 subst this;simp
theorem ah6 (a b c d:Int):decide (orZ (wS a b) (wS c d)>0)=decide (a>b∨(a=b∧c>d)):=by
 unfold orZ wS;simp only[gQ];by_cases h1:a<b
 ·simp[h1];omega
 by_cases h2:a>b
 ·simp[h1,h2]
 have:a=b:=by omega
 subst this;by_cases h3:c<d
 ·simp[h3];omega
 by_cases h4:c>d
 ·simp[h3,h4]
 have:c=d:=by omega
 subst this;simp
theorem acE (x:Pa)(l:List Pa)(o:bg):tO (x::l) o=if (x.who != o.who)=true then tO l o else if (orZ (wS x.inc o.inc) (wS x.n o.n)==0)=true then (x.out,true) else if decide (orZ (wS x.inc o.inc) (wS x.n o.n)>0)=true then (iX 9,true) else tO l o:=by
 rw[ah5,ah6];unfold tO;conv=>lhs;unfold vU
 simp only[bne_iff_ne,ne_eq,gQ];by_cases h1:x.who=o.who
 ·simp only[h1,not_true_eq_false,if_false];by_cases h2:x.inc=o.inc∧x.n=o.n
  ·simp only[if_pos h2]
  simp only[if_neg h2];by_cases h3:x.inc>o.inc∨(x.inc=o.inc∧x.n>o.n)
  ·simp only[if_pos h3]
  simp only[if_neg h3]
 simp only[h1,not_false_eq_true,if_true]
theorem ZH (a b:Int):bC prog 82 [.sl false 1 [[ii a],[ii b]]] (ii (orZ a b)):=by
 refine PC.le ?_;obtain⟨X,hX⟩:∃X,X=orZ a b:=⟨_,rfl⟩;rw[←hX];unfold orZ at hX;refine bM ZA ?_;repeat' ((conv=>whnf);first|with_reducible apply aG|((with_reducible apply fk)<;>intro hc<;>try exact aK)|refine aC ?_|fail)
 refine⟨{k:Nat // k=0∨(k=1∧(a != 0)=false)∨(k=2∧(a != 0)=false∧(b != 0)=false)},fun⟨k,_⟩=>⟨[(3,.pv (ii 0)),(6,.pv (.sl false 1 [[ii a],[ii b]])),(7,.pv (ii 2)),(8,.pv (ii k))],1000000000,[]⟩,fun⟨k,_⟩=>2-k,⟨⟨0,.inl rfl⟩,aj ?_⟩,?_⟩
 ·all_goals exact ay
 rintro⟨k,rfl|⟨rfl,h1⟩|⟨rfl,h1,h2⟩⟩
 ·repeat' ((conv=>whnf);first|with_reducible apply aG|((with_reducible apply fk)<;>intro hc<;>try exact aK)|((refine⟨_,rfl,?_⟩))|refine aC ?_|fail)
  ·simp only[*,↓reduceIte] at hX;subst hX;all_goals exact ay
  ·refine⟨⟨1,.inr (.inl ⟨rfl,hc⟩)⟩,by show 2-1<2-0;omega,aj ?_⟩;all_goals exact ay
 ·repeat' ((conv=>whnf);first|with_reducible apply aG|((with_reducible apply fk)<;>intro hc<;>try exact aK)|((refine⟨_,rfl,?_⟩))|refine aC ?_|fail)
  ·simp only[*,Bool.false_eq_true,↓reduceIte] at hX;subst hX;all_goals exact ay
  ·refine⟨⟨2,.inr (.inr ⟨rfl,h1,hc⟩)⟩,by show 2-2<2-1;omega,aj ?_⟩;all_goals exact ay
 have h3:b=0:=by simpa using h2
 simp only[*,Bool.false_eq_true,↓reduceIte] at hX;subst hX;repeat' ((conv=>whnf);first|with_reducible apply aG|((with_reducible apply fk)<;>intro hc<;>try exact aK)|refine aC ?_|fail)
 all_goals exact ay
theorem qW (p:Pn)(o:bg)(hl:p.past.length≤1000000):bC prog 32 [.agg p.c,.agg o.c] (.dn [.agg (tO p.past o).1.c,bl (tO p.past o).2]):=by
 refine PC.le ?_;obtain⟨X,hX⟩:∃X,X=tO p.past o:=⟨_,rfl⟩;rw[←hX];have hm:((p.past.map Pa.c).length:Int)=(p.past.length:Int):=by rw[List.length_map]
 refine bM Wj ?_;repeat' ((conv=>whnf);first|with_reducible apply aG|((with_reducible apply fk)<;>intro hc<;>try exact aK)|refine aC ?_|fail)
 refine⟨{k:Nat // k≤p.past.length∧X=tO (p.past.drop k) o},fun⟨k,_⟩=>⟨[(2,.ptr 1002 0),(3,.ptr 1003 0),(4,.ptr 1004 0),(5,.pv (bl false)),(10,.pv (uS p.past)),(11,.pv (ii p.past.length)),(12,.pv (ii k))],1000000000,[(1002,.var (p.c.map .pv)),(1003,.var (o.c.map .pv)),(1004,.var (bQ.c.map .pv))]⟩,fun⟨k,_⟩=>p.past.length-k,⟨⟨0,by simpa using hX⟩,aj ?_⟩,?_⟩
 ·repeat' first|apply And.intro|exact ay|fail
  all_goals try (conv=>whnf)
  all_goals exact hm
 rintro⟨k,hk,hn⟩
 clear hX;dsimp only
 by_cases hlt:k<p.past.length
 ·have d0:decide ((k:Int)<(p.past.length:Int))=true:=by simp only[gQ];omega
  have eW:IntKind.i64.wrap ((k:Int)+1)=((k+1:Nat):Int):=by rw[aJ (by omega) (by omega)];omega
  have hr:=dx Pa.c p.past k hlt;rw[List.drop_eq_getElem_cons hlt,acE] at hn;have cU:=Zy p.past[k].inc o.inc;have cV:=Zy p.past[k].n o.n;have cO:=ZH (wS p.past[k].inc o.inc) (wS p.past[k].n o.n);generalize orZ (wS p.past[k].inc o.inc) (wS p.past[k].n o.n)=z at *;generalize p.past[k]=x at *;repeat' ((conv=>whnf);first|with_reducible apply aG|((with_reducible apply fk)<;>intro hc<;>try exact aK)|((refine⟨_,hr,?_⟩))|(apply aH;refine⟨_,cU,?_⟩)|(apply aH;refine⟨_,cV,?_⟩)|(apply aH;refine⟨_,cO,?_⟩)|(refine sF ?_)|refine aC ?_|fail)
  ·simp only[*,Bool.false_eq_true,↓reduceIte] at hn;refine⟨⟨k+1,hlt,hn⟩,dec_lt hlt,aj ?_⟩;repeat' first|apply And.intro|exact ay|fail
   all_goals try (conv=>whnf)
   all_goals exact eW
  ·simp only[*,Bool.false_eq_true,↓reduceIte] at hn;subst hn;all_goals exact ay
  ·simp only[*,Bool.false_eq_true,↓reduceIte] at hn;subst hn;all_goals exact ay
  simp only[*,Bool.false_eq_true,↓reduceIte] at hn;refine⟨⟨k+1,hlt,hn⟩,dec_lt hlt,aj ?_⟩;repeat' first|apply And.intro|exact ay|fail
  all_goals try (conv=>whnf)
  all_goals exact eW
 have hke:k=p.past.length:=by omega
 subst hke;have d0:decide ((p.past.length:Int)<(p.past.length:Int))=false:=by simp
 have hn:X=(bQ,false):=by rw[hn,List.drop_length];rfl
 subst hn;repeat' ((conv=>whnf);first|with_reducible apply aG|((with_reducible apply fk)<;>intro hc<;>try exact aK)|refine aC ?_|fail)
 all_goals exact ay
theorem zF:aQ prog 33 f33:=bU func33
theorem acF (n:Int)(h1:1≤n)(h2:n≤12):∃(nm:Int) (F:FuncId),bC prog 35 [ii n] (.agg [ii nm,.fn (.func F) [] []])∧∀i,i<10→IU nm ((2:Int) ^ i)=dZ n i:=by
 rcases (by omega:n=1∨n=2∨n=3∨n=4∨n=5∨n=6∨n=7∨n=8∨n=9∨n=10∨n=11∨n=12) with rfl|rfl|rfl|rfl|rfl|rfl|rfl|rfl|rfl|rfl|rfl|rfl
 ·exact⟨_,_,Gt,by decide⟩
 ·exact⟨_,_,Gu,by decide⟩
 ·exact⟨_,_,Gv,by decide⟩
 ·exact⟨_,_,Gw,by decide⟩
 ·exact⟨_,_,Gx,by decide⟩
 ·exact⟨_,_,Gy,by decide⟩
 ·exact⟨_,_,Gz,by decide⟩
 ·exact⟨_,_,GA,by decide⟩
 ·exact⟨_,_,GD,by decide⟩
 ·exact⟨_,_,Cs,by decide⟩
 ·exact⟨_,_,Ct,by decide⟩
 exact⟨_,_,xS,by decide⟩
theorem qJ (p:Pn)(o:bg)(hp:p.channels.length≤1000000)(h1:1≤o.kind)(h2:o.kind≤12)(hch:dZ o.kind 1=true→1≤o.channel∧o.channel≤3):bC prog 33 [.agg p.c,.agg o.c] (bl (kU p o)):=by
 refine PC.le ?_;obtain⟨nm,F,nH,G8⟩:=acF o.kind h1 h2;have hb:IU nm 2=dZ o.kind 1:=(by rfl:(2:Int) ^ 1=2)▸G8 1 (by omega);clear G8;have hm:((p.channels.map Ch.c).length:Int)=(p.channels.length:Int):=by rw[List.length_map]
 obtain⟨X,hX⟩:∃X,X=kU p o:=⟨_,rfl⟩;rw[←hX];unfold kU at hX;unfold IU at hb;cases hk:dZ o.kind 1 with
 | false=>
   rw[hk] at hb hX;simp only[Bool.false_and] at hX;subst hX;clear hch hk;refine bM zF ?_;repeat' ((conv=>whnf);first|with_reducible apply aG|((with_reducible apply fk)<;>intro hc<;>try exact aK)|(apply aH;refine⟨_,nH,?_⟩)|((rewrite[hb]))|refine aC ?_|fail)
   all_goals exact ay
 | true=>
   rw[hk] at hb hX;have hch:=hch hk;simp only[Bool.true_and] at hX;by_cases hle:o.channel≤(p.channels.length:Int)
   ·have hi:(o.channel-1).toNat<p.channels.length:=by omega
    have hw:IntKind.i64.wrap (o.channel-1)=((o.channel-1).toNat:Int):=by rw[aJ (by omega) (by omega)];omega
    have hr:=dx Ch.c p.channels (o.channel-1).toNat hi;have hg:aL p o.channel=p.channels[(o.channel-1).toNat]:=by unfold aL;rw[getElem!_pos p.channels _ hi]
    rw[hg] at hX;generalize p.channels[(o.channel-1).toNat]=x at *;have hd:decide (o.channel≤((p.channels.map Ch.c).length:Int))=true:=by rw[hm];simpa using hle
    replace hX:X=(x.aU != o.aU):=by rw[hX];by_cases he:x.aU=o.aU<;>simp[hle,he]
    subst hX;clear hg hch hk hm hle;refine bM zF ?_;repeat' ((conv=>whnf);first|with_reducible apply aG|((with_reducible apply fk)<;>intro hc<;>try exact aK)|(apply aH;refine⟨_,nH,?_⟩)|((rewrite[hb]))|((rewrite[hw]))|((rewrite[hd]))|((refine⟨_,hr,?_⟩))|refine aC ?_|fail)
    all_goals exact ay
   replace hX:X=false:=by rw[hX];simp[hle]
   subst hX;have hd:decide (o.channel≤((p.channels.map Ch.c).length:Int))=false:=by rw[hm];simpa using hle
   clear hch hk hm hle;refine bM zF ?_;repeat' ((conv=>whnf);first|with_reducible apply aG|((with_reducible apply fk)<;>intro hc<;>try exact aK)|(apply aH;refine⟨_,nH,?_⟩)|((rewrite[hb]))|((rewrite[hd]))|refine aC ?_|fail)
   all_goals exact ay
theorem Pw:aQ prog 97 f97:=bU func97
theorem Si:aQ prog 42 f42:=bU func42
theorem ZI (x:Pl):bC prog 97 ([]++([.agg x.c]++[])) (bl (!cnt x.dB)):=by
 refine PC.le ?_;have e:(!cnt x.dB)=decide (x.dB>4611686018427387903):=by unfold cnt;rw[Bool.not_not]
 rw[e];clear e;refine bM Pw ?_;repeat' ((conv=>whnf);first|with_reducible apply aG|((with_reducible apply fk)<;>intro hc<;>try exact aK)|refine aC ?_|fail)
 all_goals exact ay
theorem acG (f:Fr):Yv f = !(decide (f.first>4611686018427387903)||f.aN.any fun x=>!cnt x.dB):=by
 unfold Yv;rw[Bool.not_or,show cnt f.first = !decide (f.first>4611686018427387903) from rfl];congr 1
 induction f.aN with
 |nil=>rfl
 |cons a l ih=>rw[List.all_cons,List.any_cons,Bool.not_or,Bool.not_not,ih]
def G9 (o:bg):Bool:=if (o.kind==4)=true then (((o.av.length:Int)==1)&&(decide (o.a≥1)&&(decide (o.a≤o.w)&&fC o.w o.av))) else if (o.kind==5)=true then ((o.av.length:Int)==1) else if (o.kind==6)=true then decide ((o.av.length:Int)≥1) else true
theorem Ke (o:bg):pK o=(o.av.all Yv&&G9 o):=by
 unfold pK G9;simp only[beq_iff_eq];congr 1
theorem acH (o:bg)(hl:o.av.length≤1000000)(hb:∀x∈o.av,x.aN.length≤1000000):bC prog 42 [.agg o.c] (bl (pK o)):=by
 refine PC.le ?_;have cM:=mY o.w o.av fun x hx=>by have:=hb x hx;omega
 have hm:((o.av.map Fr.c).length:Int)=(o.av.length:Int):=by rw[List.length_map]
 obtain⟨X,hX⟩:∃X,X=pK o:=⟨_,rfl⟩;rw[←hX];rw[Ke] at hX;refine bM Si ?_;repeat' ((conv=>whnf);first|with_reducible apply aG|((with_reducible apply fk)<;>intro hc<;>try exact aK)|refine aC ?_|fail)
 refine⟨{k:Nat // k≤o.av.length∧X=((o.av.drop k).all Yv&&G9 o)},fun⟨k,_⟩=>⟨[(1,.ptr 1001 0),(6,.pv (uR o.av)),(7,.pv (ii o.av.length)),(8,.pv (ii k))],1000000000,[(1001,.var (o.c.map .pv))]⟩,fun⟨k,_⟩=>o.av.length-k,⟨⟨0,by simpa using hX⟩,aj ?_⟩,?_⟩
 ·repeat' first|apply And.intro|exact ay|fail
  all_goals try (conv=>whnf)
  all_goals exact hm
 rintro⟨k,hk,hn⟩
 clear hX;dsimp only
 by_cases hlt:k<o.av.length
 ·have d0:decide ((k:Int)<(o.av.length:Int))=true:=by simp only[gQ];omega
  have eW:IntKind.i64.wrap ((k:Int)+1)=((k+1:Nat):Int):=by rw[aJ (by omega) (by omega)];omega
  have hr:=dx Fr.c o.av k hlt;rw[List.drop_eq_getElem_cons hlt,List.all_cons,acG] at hn;have cF:=nZ o.av[k].aN 97 [] [] (fun x=>!cnt x.dB) fun x _=>ZI x
  generalize (o.av[k].aN.any fun x=>!cnt x.dB)=z at *;generalize o.av[k]=x at *;clear cM;repeat' ((conv=>whnf);first|with_reducible apply aG|((with_reducible apply fk)<;>intro hc<;>try exact aK)|((refine⟨_,hr,?_⟩))|(apply aH;refine⟨_,cF,?_⟩)|(refine sF ?_)|refine aC ?_|fail)
  ·simp only[*,Bool.true_or,Bool.or_true,Bool.not_true,Bool.false_and] at hn;subst hn;all_goals exact ay
  ·simp only[*,Bool.true_or,Bool.or_true,Bool.not_true,Bool.false_and] at hn;subst hn;all_goals exact ay
  simp only[*,Bool.or_false,Bool.false_or,Bool.not_false,Bool.true_and] at hn;refine⟨⟨k+1,hlt,hn⟩,dec_lt hlt,aj ?_⟩;repeat' first|apply And.intro|exact ay|fail
  all_goals try (conv=>whnf)
  all_goals exact eW
 have hke:k=o.av.length:=by omega
 subst hke;have d0:decide ((o.av.length:Int)<(o.av.length:Int))=false:=by simp
 rw[List.drop_length,List.all_nil,Bool.true_and] at hn;unfold G9 at hn;generalize fC o.w o.av=mf at *;rw[←hm] at hn;clear hm;repeat' ((conv=>whnf);first|with_reducible apply aG|((with_reducible apply fk)<;>intro hc<;>try exact aK)|(apply aH;refine⟨_,cM,?_⟩)|refine aC ?_|fail)
 all_goals
  simp only[*,Bool.true_and,Bool.and_true,Bool.false_and,Bool.and_false,Bool.false_eq_true,↓reduceIte] at hn;subst hn;all_goals exact ay
theorem Sl:aQ prog 43 f43:=bU func43
def nX (l:List Int):List (Int×Int):=l.foldl (fun es n=>yE es n (IntKind.i64.wrap (Ol es n+1))) []
def afD (last:Int)(x:Mk):Bool:=!(decide (x.producer≤last)||(decide (x.producer>15)||(decide (x.seq<1)||(decide (x.seq>4611686018427387903)||decide (x.offset>4611686018427387903)))))
def yO:Int→List Mk→Bool
 |_,[]=>true
 |last,x::l=>afD last x&&yO x.producer l
theorem acS (l:List Mk)(hl:l.length≤1000000):bC prog 43 [rP l] (bl (yO 0 l&&(decide ((l.length:Int)≤6)&&(((nX (l.map (·.offset))).length:Int)==(l.length:Int))))):=by
 refine PC.le ?_;have hm:((l.map Mk.c).length:Int)=(l.length:Int):=by rw[List.length_map]
 obtain⟨X,hX⟩:∃X,X=(yO 0 l&&(decide ((l.length:Int)≤6)&&(((nX (l.map (·.offset))).length:Int)==(l.length:Int)))):=⟨_,rfl⟩;rw[←hX];refine bM Sl ?_;repeat' ((conv=>whnf);first|with_reducible apply aG|((with_reducible apply fk)<;>intro hc<;>try exact aK)|refine aC ?_|fail)
 refine⟨{kf:Nat×Int // kf.1≤l.length∧X=(yO kf.2 (l.drop kf.1)&&(decide ((l.length:Int)≤6)&&(((nX (l.map (·.offset))).length:Int)==(l.length:Int))))},fun⟨(k,f),_⟩=>⟨[(0,.pv (rP l)),(3,.bn 1003 0 0 0),(4,.pv (ii f)),(8,.pv (rP l)),(9,.pv (ii l.length)),(10,.pv (ii k))],1000000000,[(1003,.mp .u64 .i64 (nX ((l.take k).map (·.offset))))]⟩,fun⟨(k,_),_⟩=>l.length-k,⟨⟨(0,0),by simpa using hX⟩,aj ?_⟩,?_⟩
 ·repeat' first|apply And.intro|exact ay|fail
  all_goals try (conv=>whnf)
  all_goals first
   |exact hm
   |simp[nX]
 rintro⟨⟨k,f⟩,hk,hn⟩
 clear hX;dsimp only at hk hn ⊢
 by_cases hlt:k<l.length
 ·have d0:decide ((k:Int)<(l.length:Int))=true:=by simp only[gQ];omega
  have eW:IntKind.i64.wrap ((k:Int)+1)=((k+1:Nat):Int):=by rw[aJ (by omega) (by omega)];omega
  have hr:=dx Mk.c l k hlt;have hstep:nX ((l.take (k+1)).map (·.offset))=yE (nX ((l.take k).map (·.offset))) l[k].offset (IntKind.i64.wrap (Ol (nX ((l.take k).map (·.offset))) l[k].offset+1)):=by
   rw[List.take_succ_eq_append_getElem hlt,List.map_append];unfold nX;rw[List.foldl_append];rfl
  rw[List.drop_eq_getElem_cons hlt] at hn;unfold yO afD at hn;generalize l[k]=x at *;clear hm;repeat' ((conv=>whnf);first|with_reducible apply aG|((with_reducible apply fk)<;>intro hc<;>try exact aK)|((refine⟨_,hr,?_⟩))|(refine sF ?_)|refine aC ?_|fail)
  ·simp only[*,Bool.true_or,Bool.or_true,Bool.false_or,Bool.not_true,Bool.false_and] at hn;subst hn;all_goals exact ay
  ·simp only[*,Bool.true_or,Bool.or_true,Bool.false_or,Bool.not_true,Bool.false_and] at hn;subst hn;all_goals exact ay
  ·simp only[*,Bool.true_or,Bool.or_true,Bool.false_or,Bool.not_true,Bool.false_and] at hn;subst hn;all_goals exact ay
  ·simp only[*,Bool.true_or,Bool.or_true,Bool.false_or,Bool.not_true,Bool.false_and] at hn;subst hn;all_goals exact ay
  ·simp only[*,Bool.true_or,Bool.or_true,Bool.false_or,Bool.not_true,Bool.false_and] at hn;subst hn;all_goals exact ay
  simp only[*,Bool.false_or,Bool.not_false,Bool.true_and] at hn;refine⟨⟨(k+1,x.producer),hlt,hn⟩,dec_lt hlt,aj ?_⟩;repeat' first|apply And.intro|exact ay|fail
  all_goals try (conv=>whnf)
  all_goals first
   |exact eW
   |exact hstep
   |exact hstep.symm
 have hke:k=l.length:=by omega
 subst hke;have d0:decide ((l.length:Int)<(l.length:Int))=false:=by simp
 rw[List.drop_length,List.take_length] at *;unfold yO at hn;rw[←hm] at hn;clear hm;repeat' ((conv=>whnf);first|with_reducible apply aG|((with_reducible apply fk)<;>intro hc<;>try exact aK)|refine aC ?_|fail)
 all_goals
  simp only[*,Bool.true_and,Bool.and_true,Bool.false_and,Bool.and_false,Bool.false_eq_true,↓reduceIte] at hn;subst hn;all_goals exact ay
theorem Mk.ah7 (x y:Mk):((x.producer==y.producer)&&((x.seq==y.seq)&&(x.offset==y.offset)))=(x==y):=by
 rw[Bool.eq_iff_iff];obtain⟨_,_,_⟩:=x;obtain⟨_,_,_⟩:=y;simp
theorem yM:aQ prog 94 f94:=bU func94
theorem L6 (l m:List Pl):bC prog 94 [xD l,xD m] (bl (decide (l=m))):=by
 refine PC.le (jK yM fun hb=>?_);have hb:l.length≤9223372036854775807∧m.length≤9223372036854775807:=by simpa[DX,xY,xD] using hb
 refine bM yM ?_;repeat' ((conv=>whnf);first|with_reducible apply aG|((with_reducible apply fk)<;>intro hc<;>try exact aK)|refine aC ?_|fail)
 ·repeat' first|apply And.intro|exact ay|fail
  all_goals try (conv=>whnf)
  simp at hc;simp;rintro rfl;exact hc rfl
 have hlen:l.length=m.length:=by simp at hc;omega
 refine⟨{k:Nat // k≤l.length∧∀j (hj:j<l.length),j<k→l[j]=m[j]},fun⟨k,_⟩=>⟨[(0,.pv (xD l)),(1,.pv (xD m)),(12,.pv (ii l.length)),(13,.pv (ii k))],1000000000,[]⟩,fun⟨k,_⟩=>l.length-k,⟨⟨0,by simp⟩,aj ?_⟩,?_⟩
 ·repeat' first|apply And.intro|exact ay|fail
  all_goals try (conv=>whnf)
  simp
 rintro⟨k,hk,hn⟩
 repeat' ((conv=>whnf);first|with_reducible apply aG|((with_reducible apply fk)<;>intro hc<;>try exact aK)|refine aC ?_|fail)
 ·have hlt:k<l.length:=by simpa using hc
  refine⟨_,dx _ _ _ hlt,?_⟩;repeat' ((conv=>whnf);first|with_reducible apply aG|((with_reducible apply fk)<;>intro hc<;>try exact aK)|refine aC ?_|fail)
  refine⟨_,dx _ _ _ (hlen▸hlt),?_⟩;repeat' ((conv=>whnf);first|with_reducible apply aG|((with_reducible apply fk)<;>intro hc<;>try exact aK)|refine aC ?_|fail)
  ·repeat' first|apply And.intro|exact ay|fail
   all_goals try (conv=>whnf)
   rw[Pl.beq] at hc;simp at hc ⊢;rintro rfl
   exact hc rfl
  repeat' ((conv=>whnf);first|with_reducible apply aG|((with_reducible apply fk)<;>intro hc<;>try exact aK)|refine aC ?_|fail)
  refine⟨⟨k+1,hlt,gH hn fun _=>?_⟩,dec_lt hlt,aj ?_⟩
  ·rw[Pl.beq] at hc;simpa using hc
  repeat' first|apply And.intro|exact ay|fail
  all_goals try (conv=>whnf)
  exact aJ (by omega) (by omega)
 repeat' first|apply And.intro|exact ay|fail
 all_goals try (conv=>whnf)
 have:k=l.length:=by simp at hc;omega
 subst this;simp;exact List.ext_getElem hlen fun i h1 h2=>hn i h1 h1
theorem Bq:aQ prog 91 f91:=bU func91
theorem Px (l m:List Mk):bC prog 91 [rP l,rP m] (bl (decide (l=m))):=by
 refine PC.le (jK Bq fun hb=>?_);have hb:l.length≤9223372036854775807∧m.length≤9223372036854775807:=by simpa[DX,xY,rP] using hb
 refine bM Bq ?_;repeat' ((conv=>whnf);first|with_reducible apply aG|((with_reducible apply fk)<;>intro hc<;>try exact aK)|refine aC ?_|fail)
 ·repeat' first|apply And.intro|exact ay|fail
  all_goals try (conv=>whnf)
  simp at hc;simp;rintro rfl;exact hc rfl
 have hlen:l.length=m.length:=by simp at hc;omega
 refine⟨{k:Nat // k≤l.length∧∀j (hj:j<l.length),j<k→l[j]=m[j]},fun⟨k,_⟩=>⟨[(0,.pv (rP l)),(1,.pv (rP m)),(12,.pv (ii l.length)),(13,.pv (ii k))],1000000000,[]⟩,fun⟨k,_⟩=>l.length-k,⟨⟨0,by simp⟩,aj ?_⟩,?_⟩
 ·repeat' first|apply And.intro|exact ay|fail
  all_goals try (conv=>whnf)
  simp
 rintro⟨k,hk,hn⟩
 repeat' ((conv=>whnf);first|with_reducible apply aG|((with_reducible apply fk)<;>intro hc<;>try exact aK)|refine aC ?_|fail)
 ·have hlt:k<l.length:=by simpa using hc
  refine⟨_,dx _ _ _ hlt,?_⟩;repeat' ((conv=>whnf);first|with_reducible apply aG|((with_reducible apply fk)<;>intro hc<;>try exact aK)|refine aC ?_|fail)
  refine⟨_,dx _ _ _ (hlen▸hlt),?_⟩;repeat' ((conv=>whnf);first|with_reducible apply aG|((with_reducible apply fk)<;>intro hc<;>try exact aK)|refine aC ?_|fail)
  ·repeat' first|apply And.intro|exact ay|fail
   all_goals try (conv=>whnf)
   rw[Mk.ah7] at hc;simp at hc ⊢;rintro rfl
   exact hc rfl
  repeat' ((conv=>whnf);first|with_reducible apply aG|((with_reducible apply fk)<;>intro hc<;>try exact aK)|refine aC ?_|fail)
  refine⟨⟨k+1,hlt,gH hn fun _=>?_⟩,dec_lt hlt,aj ?_⟩
  ·rw[Mk.ah7] at hc;simpa using hc
  repeat' first|apply And.intro|exact ay|fail
  all_goals try (conv=>whnf)
  exact aJ (by omega) (by omega)
 repeat' first|apply And.intro|exact ay|fail
 all_goals try (conv=>whnf)
 have:k=l.length:=by simp at hc;omega
 subst this;simp;exact List.ext_getElem hlen fun i h1 h2=>hn i h1 h1
theorem Sk:aQ prog 93 f93:=bU func93
theorem Wm (x y:Fr):bC prog 93 ([]++([.agg x.c,.agg y.c]++[])) (bl (decide (x=y))):=by
 refine PC.le ?_;refine bM Sk ?_;repeat' ((conv=>whnf);first|with_reducible apply aG|((with_reducible apply fk)<;>intro hc<;>try exact aK)|(apply aH;refine⟨_,L6 _ _,?_⟩)|refine aC ?_|fail)
 all_goals
  repeat' first|apply And.intro|exact ay|fail
  all_goals try (conv=>whnf)
  cases x;cases y;simp_all
theorem yN:aQ prog 92 f92:=bU func92
theorem L8 (l m:List Fr):bC prog 92 [uR l,uR m,.fn (.func 93) [] []] (bl (decide (l=m))):=by
 refine PC.le (jK yN fun hb=>?_);have hb:l.length≤9223372036854775807∧m.length≤9223372036854775807:=by simp[DX,xY,uR] at hb;omega
 refine bM yN ?_;repeat' ((conv=>whnf);first|with_reducible apply aG|((with_reducible apply fk)<;>intro hc<;>try exact aK)|refine aC ?_|fail)
 ·repeat' first|apply And.intro|exact ay|fail
  all_goals try (conv=>whnf)
  simp at hc;simp;rintro rfl;exact hc rfl
 have hlen:l.length=m.length:=by simp at hc;omega
 refine⟨{k:Nat // k≤l.length∧∀j (hj:j<l.length),j<k→l[j]=m[j]},fun⟨k,_⟩=>⟨[(1,.pv (uR m)),(2,.pv (.fn (.func 93) [] [])),(15,.pv (uR l)),(16,.pv (ii l.length)),(17,.pv (ii k))],1000000000,[]⟩,fun⟨k,_⟩=>l.length-k,⟨⟨0,by simp⟩,aj ?_⟩,?_⟩
 ·repeat' first|apply And.intro|exact ay|fail
  all_goals try (conv=>whnf)
  simp
 rintro⟨k,hk,hn⟩
 repeat' ((conv=>whnf);first|with_reducible apply aG|((with_reducible apply fk)<;>intro hc<;>try exact aK)|refine aC ?_|fail)
 ·have hlt:k<l.length:=by simpa using hc
  refine⟨_,dx _ _ _ hlt,?_⟩;repeat' ((conv=>whnf);first|with_reducible apply aG|((with_reducible apply fk)<;>intro hc<;>try exact aK)|refine aC ?_|fail)
  refine⟨_,dx _ _ _ (hlen▸hlt),?_⟩;repeat' ((conv=>whnf);first|with_reducible apply aG|((with_reducible apply fk)<;>intro hc<;>try exact aK)|(apply aH;refine⟨_,Wm (l[k]) (m[k]),?_⟩)|refine aC ?_|fail)
  ·repeat' first|apply And.intro|exact ay|fail
   all_goals try (conv=>whnf)
   simp at hc ⊢;rintro rfl
   exact hc rfl
  repeat' ((conv=>whnf);first|with_reducible apply aG|((with_reducible apply fk)<;>intro hc<;>try exact aK)|refine aC ?_|fail)
  refine⟨⟨k+1,hlt,gH hn fun _=>?_⟩,dec_lt hlt,aj ?_⟩
  ·simpa using hc
  repeat' first|apply And.intro|exact ay|fail
  all_goals try (conv=>whnf)
  exact aJ (by omega) (by omega)
 repeat' first|apply And.intro|exact ay|fail
 all_goals try (conv=>whnf)
 have:k=l.length:=by simp at hc;omega
 subst this;simp;exact List.ext_getElem hlen fun i h1 h2=>hn i h1 h1
def ZM (a b:bg):Bool:=
 (a.who==b.who)&&((a.inc==b.inc)&&((a.n==b.n)&&((a.kind==b.kind)&&((a.channel==b.channel)&&((a.aU==b.aU)&&((a.aY==b.aY)&&((a.at_==b.at_)&&((a.now==b.now)&&((a.sub==b.sub)&&((a.w==b.w)&&((a.a==b.a)&&((a.from_==b.from_)&&((a.nC==b.nC)&&(decide (a.seen=b.seen)&&decide (a.av=b.av)))))))))))))))
theorem Wn (a b:bg):ZM a b=decide (a=b):=by
 rw[Bool.eq_iff_iff];obtain⟨_,_,_,_,_,_,_,_,_,_,_,_,_,_,_,_⟩:=a;obtain⟨_,_,_,_,_,_,_,_,_,_,_,_,_,_,_,_⟩:=b;simp[ZM];grind
theorem Wo:aQ prog 39 f39:=bU func39
theorem ZN (a b:bg):bC prog 39 [.agg a.c,.agg b.c] (bl (decide (a=b))):=by
 refine PC.le ?_;rw[←Wn];refine bM Wo ?_;repeat' ((conv=>whnf);first|with_reducible apply aG|((with_reducible apply fk)<;>intro hc<;>try exact aK)|(apply aH;refine⟨_,L8 _ _,?_⟩)|(apply aH;refine⟨_,Px _ _,?_⟩)|refine aC ?_|fail)
 all_goals
  repeat' first|apply And.intro|exact ay|fail
  all_goals try (conv=>whnf)
  simp only[Pl.beq] at *;simp only[ZM, *,Bool.true_and,Bool.false_and,Bool.and_true,Bool.and_false]
theorem Py:aQ prog 18 f18:=bU func18
theorem ZO (n:Int)(h1:1≤n)(h2:n≤12):∃(nm:Int) (F:FuncId),bC prog 35 [ii n] (.agg [ii nm,.fn (.func F) [] []])∧(∀i,i<10→IU nm ((2:Int) ^ i)=dZ n i)∧∀o:bg,bC prog 40 [.agg o.c,ii nm] (.agg (gJ o (dZ n)).c):=by
 rcases (by omega:n=1∨n=2∨n=3∨n=4∨n=5∨n=6∨n=7∨n=8∨n=9∨n=10∨n=11∨n=12) with rfl|rfl|rfl|rfl|rfl|rfl|rfl|rfl|rfl|rfl|rfl|rfl
 ·exact⟨_,_,Gt,by decide,acJ⟩
 ·exact⟨_,_,Gu,by decide,acK⟩
 ·exact⟨_,_,Gv,by decide,acL⟩
 ·exact⟨_,_,Gw,by decide,acM⟩
 ·exact⟨_,_,Gx,by decide,acN⟩
 ·exact⟨_,_,Gy,by decide,acO⟩
 ·exact⟨_,_,Gz,by decide,acP⟩
 ·exact⟨_,_,GA,by decide,acQ⟩
 ·exact⟨_,_,GD,by decide,acR⟩
 ·exact⟨_,_,Cs,by decide,ZJ⟩
 ·exact⟨_,_,Ct,by decide,ZK⟩
 exact⟨_,_,xS,by decide,ZL⟩
def ZP (l:List Mk):Bool:=yO 0 l&&(decide ((l.length:Int)≤6)&&(((nX (l.map (·.offset))).length:Int)==(l.length:Int)))
def Uk (o:bg):Bool:=!((dZ o.kind 0&&(decide (o.channel<1)||decide (o.channel>3)))||(dZ o.kind 5&&(decide (o.sub<1)||decide (o.sub>3)))) &&
 (!(dZ o.kind 9&&(!qH o.from_||(!qH o.nC||(o.from_==o.nC))))&&(pK o&&ZP o.seen))
def IV (o:bg):List Int:=[o.inc,o.n,o.aU,o.aY,o.at_,o.now]
def yh (o:bg):Bool:=(decide (1≤o.kind)&&decide (o.kind≤12))&&(!(decide (o.who<1)||(decide (o.who>15)||(decide (o.inc<1)||(decide (o.n<1) || !decide (o=gJ o (dZ o.kind))))))&&((IV o).all cnt&&Uk o))
theorem pY (o:bg)(hl:o.av.length≤1000000)(hb:∀x∈o.av,x.aN.length≤1000000)(hs:o.seen.length≤1000000):bC prog 18 [.agg o.c] (bl (yh o)):=by
 refine PC.le ?_;by_cases hr:1≤o.kind∧o.kind≤12
 ·obtain⟨nm,F,nH,G8,hbare⟩:=ZO o.kind hr.1 hr.2;have hb0:IU nm 1=dZ o.kind 0:=(by rfl:(2:Int) ^ 0=1)▸G8 0 (by omega);have hb5:IU nm 32=dZ o.kind 5:=(by rfl:(2:Int) ^ 5=32)▸G8 5 (by omega);have hb9:IU nm 512=dZ o.kind 9:=(by rfl:(2:Int) ^ 9=512)▸G8 9 (by omega);unfold IU at hb0 hb5 hb9;have hbare:=hbare o;have cS:=ZN o (gJ o (dZ o.kind));have cF:=acH o hl hb;have cM:bC prog 43 [rP o.seen] (bl (ZP o.seen)):=acS o.seen hs;have cP1:=Gs o.from_;have cP2:=Gs o.nC;obtain⟨X,hX⟩:∃X,X=yh o:=⟨_,rfl⟩;rw[←hX];unfold yh at hX;rw[decide_eq_true hr.1,decide_eq_true hr.2] at hX;obtain⟨Z,hZ⟩:∃Z,Z=Uk o:=⟨_,rfl⟩;rw[←hZ] at hX;unfold Uk at hZ;simp only[Bool.true_and] at hX;generalize decide (o=gJ o (dZ o.kind))=sm at *;generalize gJ o (dZ o.kind)=o2 at *;generalize dZ o.kind 0=b0 at *;generalize dZ o.kind 5=b5 at *;generalize dZ o.kind 9=b9 at *;generalize qH o.from_=pf at *;generalize qH o.nC=pt at *;generalize pK o=fr at *;generalize ZP o.seen=mk at *;clear G8 hr hb hs hl;refine bM Py ?_;repeat' ((conv=>whnf);first|with_reducible apply aG|((with_reducible apply fk)<;>intro hc<;>try exact aK)|(apply aH;refine⟨_,nH,?_⟩)|(apply aH;refine⟨_,hbare,?_⟩)|(apply aH;refine⟨_,cS,?_⟩)|refine aC ?_|fail)
  iterate 5
   ·simp only[*,Bool.true_or,Bool.or_true,Bool.false_or,Bool.or_false,Bool.true_and,Bool.and_true,Bool.false_and,Bool.and_false,Bool.not_true,Bool.not_false,Bool.false_eq_true,↓reduceIte] at hX;subst hX;all_goals exact ay
  have hX2:X=((IV o).all cnt&&Z):=by simp only[*,Bool.true_or,Bool.or_true,Bool.false_or,Bool.or_false,Bool.true_and,Bool.and_true,Bool.false_and,Bool.and_false,Bool.not_true,Bool.not_false,Bool.false_eq_true,↓reduceIte]
  clear hX cS hbare nH;have h6:(IV o).length=6:=rfl;refine⟨{k:Nat // k≤6∧X=(((IV o).drop k).all cnt&&Z)},fun⟨k,_⟩=>⟨[(1,.ptr 1001 0),(3,.ptr 1003 0),(53,.aB 1053 0),(54,.pv (ii 6)),(55,.pv (ii k))],1000000000,[(1001,.var (o.c.map .pv)),(1003,.var [.pv (ii nm),.pv (.fn (.func F) [] [])]),(1053,.arr 23 0 1 ((IV o).map bR))]⟩,fun⟨k,_⟩=>6-k,⟨⟨0,by simpa using hX2⟩,aj ?_⟩,?_⟩
  ·all_goals exact ay
  rintro⟨k,hk,hn⟩
  clear hX2;dsimp only
  by_cases hlt:k<6
  ·have d0:decide ((k:Int)<6)=true:=by simp only[gQ];omega
   have eW:IntKind.i64.wrap ((k:Int)+1)=((k+1:Nat):Int):=by rw[aJ (by omega) (by omega)];omega
   have hlt2:k<(IV o).length:=by omega
   have hr:=dx bR (IV o) k hlt2;rw[List.drop_eq_getElem_cons hlt2,List.all_cons] at hn;unfold cnt at hn;have hkl:k<((IV o).map bR).length:=by rw[List.length_map];exact hlt2
   generalize (IV o)[k]=x at *;simp only[bR] at hr;clear hb0 hb5 hb9 cF cM cP1 cP2 hZ;repeat' ((conv=>whnf);first|with_reducible apply aG|((with_reducible apply fk)<;>intro hc<;>try exact aK)|((refine⟨_,hr,?_⟩))|(refine sF ?_)|(((with_reducible apply And.intro);focus omega))|refine aC ?_|fail)
   ·simp only[*,Bool.true_or,Bool.or_true,Bool.false_or,Bool.or_false,Bool.true_and,Bool.and_true,Bool.false_and,Bool.and_false,Bool.not_true,Bool.not_false,Bool.false_eq_true,↓reduceIte] at hn;subst hn;all_goals exact ay
   simp only[*,Bool.true_or,Bool.or_true,Bool.false_or,Bool.or_false,Bool.true_and,Bool.and_true,Bool.false_and,Bool.and_false,Bool.not_true,Bool.not_false,Bool.false_eq_true,↓reduceIte] at hn;refine⟨⟨k+1,hlt,hn⟩,dec_lt hlt,aj ?_⟩;repeat' first|apply And.intro|exact ay|fail
   all_goals try (conv=>whnf)
   all_goals exact eW
  have hke:k=6:=by omega
  subst hke;have d0:decide (((6:Nat):Int)<6)=false:=by decide
  have hn:X=Z:=by rw[hn];rfl
  subst hn;clear hlt;subst hb0;subst hb5;subst hb9;clear hn d0 h6 hk hbare;have ePl:((o.from_.node==o.nC.node)&&(o.from_.dB==o.nC.dB))=(o.from_==o.nC):=Pl.beq _ _;rw[←ePl] at hZ;clear ePl;repeat' ((conv=>whnf);first|with_reducible apply aG|((with_reducible apply fk)<;>intro hc<;>try exact aK)|(apply aH;refine⟨_,cP1,?_⟩)|(apply aH;refine⟨_,cP2,?_⟩)|(apply aH;refine⟨_,cF,?_⟩)|(apply aH;refine⟨_,cM,?_⟩)|refine aC ?_|fail)
  all_goals
   clear cF cM cP1 cP2;simp only[*,Bool.true_or,Bool.or_true,Bool.false_or,Bool.or_false,Bool.true_and,Bool.and_true,Bool.false_and,Bool.and_false,Bool.not_true,Bool.not_false,Bool.false_eq_true,↓reduceIte] at hZ;subst hZ;all_goals exact ay
 have hX:yh o=false:=by
  unfold yh;rw[Bool.and_eq_false_iff,Bool.and_eq_false_iff];left
  by_cases h1:1≤o.kind
  ·right;simp;omega
  left;simp[h1]
 rw[hX];have nH:=Zq o.kind (by omega);clear hX hr hb hs hl;refine bM Py ?_;repeat' ((conv=>whnf);first|with_reducible apply aG|((with_reducible apply fk)<;>intro hc<;>try exact aK)|(apply aH;refine⟨_,nH,?_⟩)|refine aC ?_|fail)
 all_goals exact ay
theorem gL:aQ prog 13 f13:=bU func13
def Pz (p:Pn)(o:bg):Oc:={ bQ with code:=8,aU:=(aL p o.channel).aU,owner:=(aL p o.channel).owner }
structure OpB (o:bg):Prop where
 fr:o.av.length≤1000000
 bk:∀x∈o.av,x.aN.length≤1000000
 sn:o.seen.length≤1000000
theorem Wu (p:Pn)(o:bg)(h:rR p)(ho:OpB o)(hm:(jN p&&yh o)=false):bC prog 13 [.agg p.c,.agg o.c] (.dn [.agg p.c,.agg (iX 1).c]):=by
 refine PC.le ?_;have c1:=Ep p h;have c2:=mZ p h;have c3:=pY o ho.fr ho.bk ho.sn;cases hp:jN p with
 | false=>
   rw[hp] at c2;clear hm hp c3;refine bM gL ?_;repeat' ((conv=>whnf);first|with_reducible apply aG|((with_reducible apply fk)<;>intro hc<;>try exact aK)|(apply aH;refine⟨_,c1,?_⟩)|(apply aH;refine⟨_,c2,?_⟩)|refine aC ?_|fail)
   all_goals exact ay
 | true=>
   rw[hp] at c2;have hw:yh o=false:=by simpa[hp] using hm
   rw[hw] at c3;clear hm hp hw;refine bM gL ?_;repeat' ((conv=>whnf);first|with_reducible apply aG|((with_reducible apply fk)<;>intro hc<;>try exact aK)|(apply aH;refine⟨_,c1,?_⟩)|(apply aH;refine⟨_,c2,?_⟩)|(apply aH;refine⟨_,c3,?_⟩)|refine aC ?_|fail)
   all_goals exact ay
theorem Kh (p:Pn)(o:bg)(h:rR p)(ho:OpB o)(hp:jN p=true)(hw:yh o=true)(x:Oc)(ht:tO p.past o=(x,true)):bC prog 13 [.agg p.c,.agg o.c] (.dn [.agg p.c,.agg x.c]):=by
 refine PC.le ?_;have c1:=Ep p h;have c2:=mZ p h;have c3:=pY o ho.fr ho.bk ho.sn;have c4:=qW p o h.past;rw[hp] at c2;rw[hw] at c3;rw[ht] at c4;clear hp hw ht;refine bM gL ?_;repeat' ((conv=>whnf);first|with_reducible apply aG|((with_reducible apply fk)<;>intro hc<;>try exact aK)|(apply aH;refine⟨_,c1,?_⟩)|(apply aH;refine⟨_,c2,?_⟩)|(apply aH;refine⟨_,c3,?_⟩)|(apply aH;refine⟨_,c4,?_⟩)|refine aC ?_|fail)
 all_goals exact ay
theorem Wv (p:Pn)(o:bg)(h:rR p)(ho:OpB o)(hp:jN p=true)(hw:yh o=true)(ht:tO p.past o=(bQ,false))(hv:p.version=4611686018427387903):bC prog 13 [.agg p.c,.agg o.c] (.dn [.agg p.c,.agg (iX 3).c]):=by
 refine PC.le ?_;have c1:=Ep p h;have c2:=mZ p h;have c3:=pY o ho.fr ho.bk ho.sn;have c4:=qW p o h.past;rw[hp] at c2;rw[hw] at c3;rw[ht] at c4;have hv2:(p.version==4611686018427387903)=true:=by rw[hv];rfl
 clear hp hw ht hv;refine bM gL ?_;repeat' ((conv=>whnf);first|with_reducible apply aG|((with_reducible apply fk)<;>intro hc<;>try exact aK)|(apply aH;refine⟨_,c1,?_⟩)|(apply aH;refine⟨_,c2,?_⟩)|(apply aH;refine⟨_,c3,?_⟩)|(apply aH;refine⟨_,c4,?_⟩)|refine aC ?_|fail)
 all_goals exact ay
theorem fG {o:bg}(h:yh o=true):1≤o.kind∧o.kind≤12:=by
 unfold yh at h;simp only[Bool.and_eq_true,gQ] at h;exact h.1
theorem Ww (p:Pn)(o:bg)(h:rR p)(ho:OpB o)(hp:jN p=true)(hw:yh o=true)(hch:dZ o.kind 1=true→1≤o.channel∧o.channel≤3)(ht:tO p.past o=(bQ,false))(hv:(p.version==4611686018427387903)=false)(hs:kU p o=true) :
  bC prog 13 [.agg p.c,.agg o.c] (.dn [.agg p.c,.agg (Pz p o).c]):=by
 refine PC.le ?_;have c1:=Ep p h;have c2:=mZ p h;have c3:=pY o ho.fr ho.bk ho.sn;have c4:=qW p o h.past;have c5:=qJ p o h.channels (fG hw).1 (fG hw).2 hch;rw[hp] at c2;rw[hw] at c3;rw[ht] at c4;rw[hs] at c5;unfold kU at hs;simp only[Bool.and_eq_true,gQ] at hs;have aki:=hch hs.1;have hle:=hs.2.1;have hlc:=h.channels;have hi:(o.channel-1).toNat<p.channels.length:=by omega
 have hwr:IntKind.i64.wrap (o.channel-1)=((o.channel-1).toNat:Int):=by rw[aJ (by omega) (by omega)];omega
 have hr:=dx Ch.c p.channels (o.channel-1).toNat hi;have hg:aL p o.channel=p.channels[(o.channel-1).toNat]:=by unfold aL;rw[getElem!_pos p.channels _ hi]
 unfold Pz;rw[hg];generalize p.channels[(o.channel-1).toNat]=x at *;clear hp hw ht hs hch aki hle hlc hi hg;refine bM gL ?_;repeat' ((conv=>whnf);first|with_reducible apply aG|((with_reducible apply fk)<;>intro hc<;>try exact aK)|(apply aH;refine⟨_,c1,?_⟩)|(apply aH;refine⟨_,c2,?_⟩)|(apply aH;refine⟨_,c3,?_⟩)|(apply aH;refine⟨_,c4,?_⟩)|(apply aH;refine⟨_,c5,?_⟩)|((rewrite[hwr]))|((refine⟨_,hr,?_⟩))|(refine sF ?_)|refine aC ?_|fail)
 all_goals exact ay
end Go.Proofs.YtiagceoepkaeoaaGreat.Tb
end
section
open Go Go.Proofs.Tryz Go.AX Go.Sort Go.Shelf Go.RowKit Go.Lib
namespace Go.Proofs.YtiagceoepkaeoaaGreat.Tb
def V5 (x:Cu):List Value:=[.int .i64 x.sub,.int .u64 x.at_]
theorem afy (a b c d:Int)(W:World):Calls prog 210 #[.agg #[.int .i64 a,.int .u64 b],.agg #[.int .i64 c,.int .u64 d]] W fun e w'=>e=.returned (.int .i64 (Lib.compareInt a c))∧∃q os',w'=grow (W.drewN q) os':=by
 go_enter func210,Tryz.ntmps210
 go_wp2
 all_goals
  go_ret
  refine⟨?_,0,_,by rw[alloc_eq_grow,alloc_eq_grow,grow_grow];rfl⟩;simp_all [Lib.compareInt];try omega
theorem ahY (x y:Cu)(W:World):Calls prog 210 #[.agg (V5 x).toArray,.agg (V5 y).toArray] W fun e w'=>e=.returned (.int .i64 (uI Cu.sub x y))∧∃q os',w'=grow (W.drewN q) os':=
 afy x.sub x.at_ y.sub y.at_ W
def V6 (x:Pa):List Value:=[.int .i64 x.who,.int .u64 x.inc,.int .u64 x.n,.int .i64 x.out.code,.int .u64 x.out.aU,.int .u64 x.out.at_,.int .u64 x.out.aY,.int .i64 x.out.owner]
theorem afz (a b c d e f g h a2 b2 c2 d2 e2 f2 g2 h2:Int)(W:World):Calls prog 88 #[.agg #[.int .i64 a,.int .u64 b,.int .u64 c,.int .i64 d,.int .u64 e,.int .u64 f,.int .u64 g,.int .i64 h],.agg #[.int .i64 a2,.int .u64 b2,.int .u64 c2,.int .i64 d2,.int .u64 e2,.int .u64 f2,.int .u64 g2,.int .i64 h2]] W
  fun r w'=>r=.returned (.int .i64 (Lib.compareInt a a2))∧∃q os',w'=grow (W.drewN q) os':=by
 go_enter func88,Tryz.ntmps88
 go_wp2
 all_goals
  go_ret
  refine⟨?_,0,_,by rw[alloc_eq_grow,alloc_eq_grow,grow_grow];rfl⟩;simp_all [Lib.compareInt];try omega
theorem ahZ (x y:Pa)(W:World):Calls prog 88 #[.agg (V6 x).toArray,.agg (V6 y).toArray] W fun e w'=>e=.returned (.int .i64 (uI Pa.who x y))∧∃q os',w'=grow (W.drewN q) os':=
 afz _ _ _ _ _ _ _ _ _ _ _ _ _ _ _ _ W
theorem Cy:aQ prog 239 f239:=bU func239
theorem zD (f:Fn):bC prog 239 [.sc (.slice none 0 0),ii 0,ii 0,.fn f [] []] unit:=by
 refine PC.le ?_;refine bM Cy ?_;repeat' ((conv=>whnf);first|with_reducible apply aG|((with_reducible apply fk)<;>intro hc<;>try exact aK)|refine aC ?_|fail)
 refine⟨Unit,fun _=>⟨[(0,.pv (.sc (.slice none 0 0))),(1,.pv (ii 0)),(2,.pv (ii 0)),(3,.pv (.fn f [] [])),(8,.pv (ii 1))],1000000000,[]⟩,fun _=>0,⟨(),aj ?_⟩,?_⟩
 ·all_goals exact ay
 rintro⟨⟩
 repeat' ((conv=>whnf);first|with_reducible apply aG|((with_reducible apply fk)<;>intro hc<;>try exact aK)|refine aC ?_|fail)
 all_goals exact ay
theorem Cz:aQ prog 226 f226:=bU func226
theorem GK (f:Fn):bC prog 226 [.sc (.slice none 0 0),ii 0,ii 0,ii 0,.fn f [] []] unit:=by
 refine PC.le ?_;refine bM Cz ?_;repeat' ((conv=>whnf);first|with_reducible apply aG|((with_reducible apply fk)<;>intro hc<;>try exact aK)|refine aC ?_|fail)
 refine⟨Unit,fun _=>⟨[(0,.pv (.sc (.slice none 0 0))),(1,.pv (ii 0)),(2,.pv (ii 0)),(3,.pv (ii 0)),(4,.pv (.fn f [] [])),(10,.pv (bl true)),(11,.pv (bl true))],1000000000,[]⟩,fun _=>0,⟨(),aj ?_⟩,?_⟩
 ·all_goals exact ay
 rintro⟨⟩
 repeat' ((conv=>whnf);first|with_reducible apply aG|((with_reducible apply fk)<;>intro hc<;>try exact aK)|(apply aH;refine⟨_,zD f,?_⟩)|refine aC ?_|fail)
 all_goals exact ay
theorem GL:aQ prog 209 f209:=bU func209
theorem Ec (f:Fn):bC prog 209 [.sc (.slice none 0 0),.fn f [] []] unit:=by
 refine PC.le ?_;refine bM GL ?_;repeat' ((conv=>whnf);first|with_reducible apply aG|((with_reducible apply fk)<;>intro hc<;>try exact aK)|(apply aH;refine⟨_,uj,?_⟩)|(apply aH;refine⟨_,GK f,?_⟩)|refine aC ?_|fail)
 all_goals exact ay
theorem Bo (l:List Cu)(h:l.length≤8796093022208):dU prog 209 [.aB 1 0,.pv (.fn (.func 210) [] [])] [(1,.arr 127 0 2 (l.map Cu.c))] (.pv unit)
  [(1,.arr 127 0 2 (((iP Cu.sub) l.toArray).toList.map Cu.c))]:=by
 have eg:∀args w,(callFunc 210 args).run prog w=.ok (.enter 210 args) w:=enters_of func210 (by kernel_rfl) rfl;exact Em (enc:=V5) (st:=2) (iP Cu.sub) (by decide) (fun _=>rfl) (fun x v hv=>by simp[V5] at hv;(repeat' (first|rfl|(rcases hv with hv|hv)|(subst hv)))) (qw Cu.sub)
  (fun blk cap d w hH hblk hsz=>AnyQ.slices_SortFunc_eq Tryz.sortCu 2 Tryz.isAgg127 Tryz.sizeOf127 V5 (fun _=>rfl) (fun x v hv=>by simp[V5] at hv;(repeat' (first|rfl|(rcases hv with hv|hv)|(subst hv)))) (uI Cu.sub) (Tx Cu.sub) 210 #[] blk 0 cap d w eg
   (fun _ _ _ _ x y=>ahY x y _) hH hblk hsz) (Ec _) l (by omega)
theorem GN:aQ prog 180 f180:=bU func180
theorem CB (f:Fn):bC prog 180 [.sc (.slice none 0 0),ii 0,ii 0,.fn f [] []] unit:=by
 refine PC.le ?_;refine bM GN ?_;repeat' ((conv=>whnf);first|with_reducible apply aG|((with_reducible apply fk)<;>intro hc<;>try exact aK)|refine aC ?_|fail)
 refine⟨Unit,fun _=>⟨[(0,.pv (.sc (.slice none 0 0))),(1,.pv (ii 0)),(2,.pv (ii 0)),(3,.pv (.fn f [] [])),(8,.pv (ii 1))],1000000000,[]⟩,fun _=>0,⟨(),aj ?_⟩,?_⟩
 ·all_goals exact ay
 rintro⟨⟩
 repeat' ((conv=>whnf);first|with_reducible apply aG|((with_reducible apply fk)<;>intro hc<;>try exact aK)|refine aC ?_|fail)
 all_goals exact ay
theorem GQ:aQ prog 137 f137:=bU func137
theorem LW (f:Fn):bC prog 137 [.sc (.slice none 0 0),ii 0,ii 0,ii 0,.fn f [] []] unit:=by
 refine PC.le ?_;refine bM GQ ?_;repeat' ((conv=>whnf);first|with_reducible apply aG|((with_reducible apply fk)<;>intro hc<;>try exact aK)|refine aC ?_|fail)
 refine⟨Unit,fun _=>⟨[(0,.pv (.sc (.slice none 0 0))),(1,.pv (ii 0)),(2,.pv (ii 0)),(3,.pv (ii 0)),(4,.pv (.fn f [] [])),(10,.pv (bl true)),(11,.pv (bl true))],1000000000,[]⟩,fun _=>0,⟨(),aj ?_⟩,?_⟩
 ·all_goals exact ay
 rintro⟨⟩
 repeat' ((conv=>whnf);first|with_reducible apply aG|((with_reducible apply fk)<;>intro hc<;>try exact aK)|(apply aH;refine⟨_,CB f,?_⟩)|refine aC ?_|fail)
 all_goals exact ay
theorem LX:aQ prog 87 f87:=bU func87
theorem IK (f:Fn):bC prog 87 [.sc (.slice none 0 0),.fn f [] []] unit:=by
 refine PC.le ?_;refine bM LX ?_;repeat' ((conv=>whnf);first|with_reducible apply aG|((with_reducible apply fk)<;>intro hc<;>try exact aK)|(apply aH;refine⟨_,uj,?_⟩)|(apply aH;refine⟨_,LW f,?_⟩)|refine aC ?_|fail)
 all_goals exact ay
theorem GR (l:List Pa)(h:l.length≤8796093022208):dU prog 87 [.aB 1 0,.pv (.fn (.func 88) [] [])] [(1,.arr 68 0 8 (l.map Pa.c))] (.pv unit)
  [(1,.arr 68 0 8 (((iP Pa.who) l.toArray).toList.map Pa.c))]:=by
 have eg:∀args w,(callFunc 88 args).run prog w=.ok (.enter 88 args) w:=enters_of func88 (by kernel_rfl) rfl;exact Em (enc:=V6) (st:=8) (iP Pa.who) (by decide) (fun _=>rfl) (fun x v hv=>by simp[V6] at hv;(repeat' (first|rfl|(rcases hv with hv|hv)|(subst hv)))) (qw Pa.who)
  (fun blk cap d w hH hblk hsz=>AnyQ.slices_SortFunc_eq Tryz.sortPa 8 Tryz.isAgg68 Tryz.sizeOf68 V6 (fun _=>rfl) (fun x v hv=>by simp[V6] at hv;(repeat' (first|rfl|(rcases hv with hv|hv)|(subst hv)))) (uI Pa.who) (Tx Pa.who) 88 #[] blk 0 cap d w eg
   (fun _ _ _ _ x y=>ahZ x y _) hH hblk hsz) (IK _) l (by omega)
end Go.Proofs.YtiagceoepkaeoaaGreat.Tb
end
section
open Go Go.Proofs.Tryz Go.AX
namespace Go.Proofs.YtiagceoepkaeoaaGreat.Tb
theorem Ph:aQ prog 134 f134:=bU func134
theorem Ue:aQ prog 176 f176:=bU func176
theorem Uf {l:List Cu}{n:Int}{k:Nat}(hk:k<l.length)(h:∀j (hj:j<l.length),j<k→(l[j].sub==n)=false)(hp:(l[k].sub==n)=true):xI l n=l[k].at_:=by
 unfold xI;have:l.find? (fun x=>x.sub==n)=some l[k]:=by
  rw[List.find?_eq_some_iff_getElem];exact⟨hp,k,hk,rfl,fun j hj=>by simp[h j (by omega) hj]⟩
 rw[this]
theorem Pj {l:List Cu}{n:Int}(h:∀j (hj:j<l.length),j<l.length→(l[j].sub==n)=false):xI l n=0:=by
 unfold xI;have:l.find? (fun x=>x.sub==n)=none:=by
  rw[List.find?_eq_none];intro x hx;obtain⟨j,hj,rfl⟩:=List.getElem_of_mem hx;simp[h j hj hj]
 rw[this]
def lM (c:Ch)(k:AV):List AV:=[.pv (uu c.aU),.pv (ii c.owner),.pv (uu c.inc),.pv (uu c.eY),.pv (uu c.first),.pv (uu c.trim),.pv (l8 c.af),.pv (rP c.seen),k]
def Es (row:List AV)(A B:List Ch)(K:List Cu)(L:List Lg)(Q:List Pa):List (Nat×aA):=
 [(2,.dN 47 0 9 (A.map Ch.c) row (B.map Ch.c)),(3,.arr 127 0 2 (K.map Cu.c)),(4,.arr 50 0 6 (L.map Lg.c)),(5,.arr 68 0 8 (Q.map Pa.c))]
theorem ahX (a b:Int)(A:List Ch)(c:Ch)(B:List Ch)(L:List Lg)(Q:List Pa)(o:bg)(out:Oc)(hl:c.au.length≤1000000):dU prog 176 [.ptr 1 0]
  ((1,.var (wC a b (.aB 2 0) (.aB 3 0) (.aB 4 0) o (.bn 2 0 (A.map Ch.c).length 0) out))::jv (c.c.map .pv) A B L Q) (.pv (uu (xI c.au o.sub))) ((1,.var (wC a b (.aB 2 0) (.aB 3 0) (.aB 4 0) o (.bn 2 0 (A.map Ch.c).length 0) out))::jv (c.c.map .pv) A B L Q):=by
 obtain⟨X,hX⟩:∃X,X=xI c.au o.sub:=⟨_,rfl⟩;rw[←hX];have hm:((c.au.map Cu.c).length:Int)=(c.au.length:Int):=by rw[List.length_map]
 simp only[wC,jv,Es,lM,bg.c,Pl.c,Ch.c,Oc.c,dR,fq,fI,fJ];refine jy Ue ?_;repeat' ((conv=>whnf);first|with_reducible apply aG|((with_reducible apply fk)<;>intro hc<;>try exact aK)|refine aC ?_|fail)
 refine⟨{k:Nat // k≤c.au.length∧∀j (hj:j<c.au.length),j<k→(c.au[j].sub==o.sub)=false},fun⟨k,_⟩=>⟨[(0,.ptr 1 0),(11,.pv (Hr c.au)),(12,.pv (ii c.au.length)),(13,.pv (ii k))],1000000000,(1,.var (wC a b (.aB 2 0) (.aB 3 0) (.aB 4 0) o (.bn 2 0 (A.map Ch.c).length 0) out))::jv (c.c.map .pv) A B L Q⟩,fun⟨k,_⟩=>c.au.length-k,⟨⟨0,by simp⟩,aj ?_⟩,?_⟩
 ·simp only[wC,jv,Es,lM,bg.c,Pl.c,Ch.c,Oc.c,dR,fq,fI,fJ];repeat' first|apply And.intro|exact ay|fail
  all_goals try (conv=>whnf)
  all_goals exact hm
 rintro⟨k,hk,hn⟩
 simp only[wC,jv,Es,lM,bg.c,Pl.c,Ch.c,Oc.c,dR,fq,fI,fJ];by_cases hlt:k<c.au.length
 ·have d0:decide ((k:Int)<(c.au.length:Int))=true:=by simp only[gQ];omega
  have eW:IntKind.i64.wrap ((k:Int)+1)=((k+1:Nat):Int):=by rw[aJ (by omega) (by omega)];omega
  have hr:=dx Cu.c c.au k hlt;cases hq:(c.au[k].sub==o.sub) with
  | true=>
    rw[Uf hlt hn hq] at hX;subst hX;repeat' ((conv=>whnf);first|with_reducible apply aG|((with_reducible apply fk)<;>intro hc<;>try exact aK)|((refine⟨_,hr,?_⟩))|(refine sF ?_)|refine aC ?_|fail)
    refine⟨_,_,⟨rfl,rfl⟩,?_⟩;all_goals exact ay
  | false=>
    have hn2:=gH hn fun _=>hq
    repeat' ((conv=>whnf);first|with_reducible apply aG|((with_reducible apply fk)<;>intro hc<;>try exact aK)|((refine⟨_,hr,?_⟩))|(refine sF ?_)|refine aC ?_|fail)
    refine⟨⟨k+1,hlt,hn2⟩,dec_lt hlt,aj ?_⟩;simp only[wC,jv,Es,lM,bg.c,Pl.c,Ch.c,Oc.c,dR,fq,fI,fJ];repeat' first|apply And.intro|exact ay|fail
    all_goals try (conv=>whnf)
    all_goals exact eW
 have hke:k=c.au.length:=by omega
 subst hke;have d0:decide ((c.au.length:Int)<(c.au.length:Int))=false:=by simp
 rw[Pj hn] at hX;subst hX;repeat' ((conv=>whnf);first|with_reducible apply aG|((with_reducible apply fk)<;>intro hc<;>try exact aK)|refine aC ?_|fail)
 refine⟨_,_,⟨rfl,rfl⟩,?_⟩;all_goals exact ay
theorem adW (a b:Int)(A:List Ch)(c:Ch)(B:List Ch)(L:List Lg)(Q:List Pa)(o:bg)(out:Oc)(hl:c.au.length≤1000000):dU prog 176 [.ptr 1 0]
  ((1,.var (wC a b (.aB 2 0) (.aB 4 0) (.aB 5 0) o (.bn 2 0 (A.map Ch.c).length 0) out))::Es (lM c (.aB 3 0)) A B c.au L Q) (.pv (uu (xI c.au o.sub))) ((1,.var (wC a b (.aB 2 0) (.aB 4 0) (.aB 5 0) o (.bn 2 0 (A.map Ch.c).length 0) out))::Es (lM c (.aB 3 0)) A B c.au L Q):=by
 obtain⟨X,hX⟩:∃X,X=xI c.au o.sub:=⟨_,rfl⟩;rw[←hX];have hm:((c.au.map Cu.c).length:Int)=(c.au.length:Int):=by rw[List.length_map]
 simp only[wC,jv,Es,lM,bg.c,Pl.c,Ch.c,Oc.c,dR,fq,fI,fJ];refine jy Ue ?_;repeat' ((conv=>whnf);first|with_reducible apply aG|((with_reducible apply fk)<;>intro hc<;>try exact aK)|refine aC ?_|fail)
 refine⟨{k:Nat // k≤c.au.length∧∀j (hj:j<c.au.length),j<k→(c.au[j].sub==o.sub)=false},fun⟨k,_⟩=>⟨[(0,.ptr 1 0),(11,.aB 3 0),(12,.pv (ii c.au.length)),(13,.pv (ii k))],1000000000,(1,.var (wC a b (.aB 2 0) (.aB 4 0) (.aB 5 0) o (.bn 2 0 (A.map Ch.c).length 0) out))::Es (lM c (.aB 3 0)) A B c.au L Q⟩,fun⟨k,_⟩=>c.au.length-k,⟨⟨0,by simp⟩,aj ?_⟩,?_⟩
 ·simp only[wC,jv,Es,lM,bg.c,Pl.c,Ch.c,Oc.c,dR,fq,fI,fJ];repeat' first|apply And.intro|exact ay|fail
  all_goals try (conv=>whnf)
  all_goals exact hm
 rintro⟨k,hk,hn⟩
 simp only[wC,jv,Es,lM,bg.c,Pl.c,Ch.c,Oc.c,dR,fq,fI,fJ];by_cases hlt:k<c.au.length
 ·have d0:decide ((k:Int)<(c.au.length:Int))=true:=by simp only[gQ];omega
  have eW:IntKind.i64.wrap ((k:Int)+1)=((k+1:Nat):Int):=by rw[aJ (by omega) (by omega)];omega
  have hr:=dx Cu.c c.au k hlt;cases hq:(c.au[k].sub==o.sub) with
  | true=>
    rw[Uf hlt hn hq] at hX;subst hX;repeat' ((conv=>whnf);first|with_reducible apply aG|((with_reducible apply fk)<;>intro hc<;>try exact aK)|((refine⟨_,hr,?_⟩))|(refine sF ?_)|refine aC ?_|fail)
    refine⟨_,_,⟨rfl,rfl⟩,?_⟩;all_goals exact ay
  | false=>
    have hn2:=gH hn fun _=>hq
    repeat' ((conv=>whnf);first|with_reducible apply aG|((with_reducible apply fk)<;>intro hc<;>try exact aK)|((refine⟨_,hr,?_⟩))|(refine sF ?_)|refine aC ?_|fail)
    refine⟨⟨k+1,hlt,hn2⟩,dec_lt hlt,aj ?_⟩;simp only[wC,jv,Es,lM,bg.c,Pl.c,Ch.c,Oc.c,dR,fq,fI,fJ];repeat' first|apply And.intro|exact ay|fail
    all_goals try (conv=>whnf)
    all_goals exact eW
 have hke:k=c.au.length:=by omega
 subst hke;have d0:decide ((c.au.length:Int)<(c.au.length:Int))=false:=by simp
 rw[Pj hn] at hX;subst hX;repeat' ((conv=>whnf);first|with_reducible apply aG|((with_reducible apply fk)<;>intro hc<;>try exact aK)|refine aC ?_|fail)
 refine⟨_,_,⟨rfl,rfl⟩,?_⟩;all_goals exact ay
theorem Zw (a b:Int)(A:List Ch)(c:Ch)(B:List Ch)(L:List Lg)(Q:List Pa)(o:bg)(hl:c.au.length≤1000000):dU prog 134 [.ptr 1 0]
  ((1,.var (wC a b (.aB 2 0) (.aB 3 0) (.aB 4 0) o (.bn 2 0 (A.map Ch.c).length 0) bQ))::jv (c.c.map .pv) A B L Q) (.pv (.dn []))
  ((1,.var (wC a b (.aB 2 0) (.aB 3 0) (.aB 4 0) o (.bn 2 0 (A.map Ch.c).length 0) { bQ with at_:=xI c.au o.sub }))::jv (c.c.map .pv) A B L Q):=by
 have cA:=ahX a b A c B L Q o bQ hl;simp only[wC,jv,Es,lM,bg.c,Pl.c,Ch.c,Oc.c,dR,fq,fI,fJ] at cA ⊢;refine jy Ph ?_;repeat' ((conv=>whnf);first|with_reducible apply aG|((with_reducible apply fk)<;>intro hc<;>try exact aK)|(apply fB;refine⟨_,_,cA,?_⟩)|refine aC ?_|fail)
 refine⟨_,_,⟨rfl,rfl⟩,?_⟩;all_goals exact ay
end Go.Proofs.YtiagceoepkaeoaaGreat.Tb
end
