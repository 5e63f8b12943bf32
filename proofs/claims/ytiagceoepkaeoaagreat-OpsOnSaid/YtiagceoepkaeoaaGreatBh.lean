/-
  Contracts of functions of the program and of the document, each for every input that its premises name.
-/
import Derived.Test.YtiagceoepkaeoaaGreatBe
import Derived.Test.YtiagceoepkaeoaaGreatBf
import Derived.Test.YtiagceoepkaeoaaGreatBg
import Derived.Test.YtiagceoepkaeoaaGreatAg
set_option linter.unusedSectionVars false
set_option linter.unusedVariables false
set_option linter.unusedSimpArgs false
set_option maxRecDepth 100000
set_option maxHeartbeats 4000000
section
open Go Go.Proofs.Tryz Go.AX
namespace Go.Proofs.YtiagceoepkaeoaaGreat.Tb
theorem Vl:Mg prog 124 f124:=bZ func124
theorem aep (a b:Int)(A:List Ch)(c:Ch)(B:List Ch)(L:List Lg)(Q:List Pa)(o:aV):dR prog 124 [.ptr 1 0]
  ((1,.var (wC a b (.aF 2 0) (.aF 3 0) (.aF 4 0) o (.bn 2 0 (A.map Ch.c).length 0) bS))::jv (c.c.map .pv) A B L Q) (.pv (.dn []))
  ((1,.var (wC a b (.aF 2 0) (.aF 3 0) (.aF 4 0) o (.bn 2 0 (A.map Ch.c).length 0) (mE c o).2))::jv ((mE c o).1.c.map .pv) A B L Q):=by
 obtain⟨X,hX⟩:∃X,X=mE c o:=⟨_,rfl⟩;rw[←hX];unfold mE Nf at hX;simp only[wC,jv,aV.c,Pl.c,Ch.c,Oc.c,List.map_cons,List.map_nil,List.cons_append,List.nil_append];have cR:=wP a b A c B L Q o 3 bS;simp only[wC,jv,aV.c,Pl.c,Ch.c,Oc.c,List.map_cons,List.map_nil,List.cons_append,List.nil_append] at cR;refine jA Vl ?_;repeat' ((conv=>whnf);first|with_reducible apply aK|((with_reducible apply fk)<;>intro hc<;>try exact aM)|(apply fq;(conv=>whnf);refine⟨_,_,cR,?_⟩)|((with_reducible apply And.intro);exact aG)|fail)
 all_goals
  simp only[Bool.not_true, *,Bool.true_or,Bool.or_true,Bool.false_or,Bool.or_false,Bool.true_and,Bool.and_true,Bool.false_and,Bool.and_false,Bool.not_true,Bool.not_false,Bool.false_eq_true,↓reduceIte] at hX;subst hX;refine⟨_,_,⟨rfl,rfl⟩,?_⟩;all_goals exact aL
theorem Vm:Mg prog 130 f130:=bZ func130
theorem aer (a b:Int)(A:List Ch)(c:Ch)(B:List Ch)(L:List Lg)(Q:List Pa)(o:aV)(h:tK (kF a b A c B L Q)):dR prog 130 [.ptr 1 0]
  ((1,.var (wC a b (.aF 2 0) (.aF 3 0) (.aF 4 0) o (.bn 2 0 (A.map Ch.c).length 0) bS))::jv (c.c.map .pv) A B L Q) (.pv (.dn []))
  ((1,.var (wC a b (.aF 2 0) (.aF 3 0) (.aF 4 0) o (.bn 2 0 (A.map Ch.c).length 0) (ko (kF a b A c B L Q) c o).2))::jv ((ko (kF a b A c B L Q) c o).1.c.map .pv) A B L Q):=by
 have cE:=zC (kF a b A c B L Q) o.channel h;have cO:=Eh (kF a b A c B L Q) o.channel h;have e1:(kF a b A c B L Q).c=[uu a,uu b,.sl false 9 (A.map Ch.c++c.c::B.map Ch.c),.sl false 6 (L.map Lg.c),.sl false 8 (Q.map Pa.c)]:=by
  simp only[kF,Pn.c,jL,dN,uR,List.map_append,List.map_cons]
 rw[e1] at cE cO;obtain⟨X,hX⟩:∃X,X=ko (kF a b A c B L Q) c o:=⟨_,rfl⟩;rw[←hX];unfold ko at hX;generalize (gX (kF a b A c B L Q) o.channel).isSome=is at *;generalize kV (kF a b A c B L Q) o.channel=e at *;clear h e1;have cR:=wP a b A c B L Q o 1 bS;simp only[wC,jv,aV.c,Pl.c,Ch.c,Oc.c,List.map_cons,List.map_nil,List.cons_append,List.nil_append] at cR cE cO ⊢;refine jA Vm ?_;repeat' ((conv=>whnf);first|with_reducible apply aK|((with_reducible apply fk)<;>intro hc<;>try exact aM)|(apply aC;(conv=>whnf);refine⟨_,cE,?_⟩)|(apply aC;(conv=>whnf);refine⟨_,cO,?_⟩)|(apply fq;(conv=>whnf);refine⟨_,_,cR,?_⟩)|((with_reducible apply And.intro);exact aG)|fail)
 all_goals
  simp only[nM, *,Bool.false_eq_true,↓reduceIte] at hX;subst hX;refine⟨_,_,⟨rfl,rfl⟩,?_⟩
  (repeat' first|((conv=>whnf);with_reducible apply And.intro)|exact aL|fail);(all_goals try (conv=>whnf))
theorem Ru {F:FuncId}{hp:List (Nat×aD)}{a b:Int}{A:List Ch}{c:Ch}{B:List Ch}{LA:List Lg}{x:Lg}{LB:List Lg}{Q:List Pa}{o:aV}{out:Oc}{n:Nat}
  (h:dR prog F [.ptr 1 0] hp (.pv (.dn [])) ((1,.var (wC a b (.aF 2 0) (.aF 3 0) (.aF 4 0) o (.bn 2 0 n 0) out))::Cr (c.c.map .pv) A B (x.c.map .pv) LA LB Q)) :
  dR prog F [.ptr 1 0] hp (.pv (.dn [])) (uG 0 0 a b (A++c::B) (LA++x::LB) Q o out):=by
 have h1:dR prog F [.ptr 1 0] hp (.pv (.dn [])) ((1,.var (wC a b (.aF 2 0) (.aF 3 0) (.aF 4 0) o (.bn 2 0 n 0) out))::jv (c.c.map .pv) A B (LA++x::LB) Q):=by
  simp only[wC,jv,Cr,aV.c,Pl.c,Ch.c,Oc.c,Lg.c,List.map_cons,List.map_nil,List.cons_append,List.nil_append,List.map_append] at h ⊢;refine jr h 3 rfl rfl rfl rfl ?_;refine⟨_,_,⟨rfl,rfl⟩,?_⟩
  (conv=>whnf)
  all_goals exact aL
 exact qZ h1
theorem abN {F:FuncId}{hp:List (Nat×aD)}{a b:Int}{A:List Ch}{c:Ch}{B:List Ch}{LA:List Lg}{x:Lg}{LB:List Lg}{Q:List Pa}{o:aV}{out:Oc}{n:Nat}{G:List Fr}
  (h:dR prog F [.ptr 1 0] hp (.pv (.dn [])) ((1,.var (wC a b (.aF 2 0) (.aF 3 0) (.aF 4 0) o (.bn 2 0 n 0) out))::(Cr (c.c.map .pv) A B [.pv (uu x.id),.pv (ii x.w),.pv (ii x.a),.aF 1001 0,.pv (ii x.closed),.pv (uu x.last)] LA LB Q++[(1001,.arr 80 0 2 (G.map Fr.c))]))) :
  dR prog F [.ptr 1 0] hp (.pv (.dn [])) (uG 0 0 a b (A++c::B) (LA++{ x with aA:=G }::LB) Q o out):=by
 have h1:dR prog F [.ptr 1 0] hp (.pv (.dn [])) ((1,.var (wC a b (.aF 2 0) (.aF 3 0) (.aF 4 0) o (.bn 2 0 n 0) out))::jv (c.c.map .pv) A B (LA++{ x with aA:=G }::LB) Q):=by
  simp only[wC,jv,Cr,aV.c,Pl.c,Ch.c,Oc.c,Lg.c,List.map_cons,List.map_nil,List.cons_append,List.nil_append,List.map_append] at h ⊢;refine jr h 3 rfl rfl rfl rfl ?_;refine⟨_,_,⟨rfl,rfl⟩,?_⟩
  (conv=>whnf)
  all_goals exact aL
 exact qZ h1
theorem Tq {F:FuncId}{hp:List (Nat×aD)}{a b:Int}{A:List Ch}{c:Ch}{B:List Ch}{K:List Cu}{L:List Lg}{Q:List Pa}{o:aV}{out:Oc}{n:Nat}
  (h:dR prog F [.ptr 1 0] hp (.pv (.dn [])) ((1,.var (wC a b (.aF 2 0) (.aF 4 0) (.aF 5 0) o (.bn 2 0 n 0) out))::Bn 1 (lN c (.aF 3 1)) A B K L Q)) :
  dR prog F [.ptr 1 0] hp (.pv (.dn [])) (uH 0 1 0 2 (K.map Cu.c) a b (A++{ c with au:=K }::B) L Q o out):=by
 have h1:dR prog F [.ptr 1 0] hp (.pv (.dn [])) [(1,.var (wC a b (.aF 2 0) (.aF 4 0) (.aF 5 0) o (.bn 2 0 n 0) out)),(2,.arr 47 0 9 ((A++{ c with au:=K }::B).map Ch.c)),(3,.kG 1 2 (K.map Cu.c)),(4,.arr 50 0 6 (L.map Lg.c)),(5,.arr 68 0 8 (Q.map Pa.c))]:=by
  simp only[wC,Bn,lN,aV.c,Pl.c,Ch.c,Oc.c,H8,List.map_cons,List.map_nil,List.cons_append,List.nil_append,List.map_append] at h ⊢;refine jr h 2 rfl rfl rfl rfl ?_;refine⟨_,_,⟨rfl,rfl⟩,?_⟩
  (conv=>whnf)
  all_goals exact aL
 refine iq h1 [2,4] ?_;simp only[uH,wC,aV.c,Pl.c,Oc.c,List.map_cons,List.map_nil,List.cons_append,List.nil_append]
 (conv=>whnf)
 refine⟨_,_,⟨rfl,rfl⟩,?_⟩;all_goals exact aL
theorem Tt {F:FuncId}{hp:List (Nat×aD)}{a b:Int}{A:List Ch}{c:Ch}{B:List Ch}{K:List Cu}{L:List Lg}{Q:List Pa}{o:aV}{out:Oc}{n:Nat}
  (h:dR prog F [.ptr 1 0] hp (.pv (.dn [])) ((1,.var (wC a b (.aF 2 0) (.aF 4 0) (.aF 5 0) o (.bn 2 0 n 0) out))::Bn 2 (lN c (.aF 3 2)) A B K L Q)) :
  dR prog F [.ptr 1 0] hp (.pv (.dn [])) (uH 0 2 0 2 (K.map Cu.c) a b (A++{ c with au:=K }::B) L Q o out):=by
 have h1:dR prog F [.ptr 1 0] hp (.pv (.dn [])) [(1,.var (wC a b (.aF 2 0) (.aF 4 0) (.aF 5 0) o (.bn 2 0 n 0) out)),(2,.arr 47 0 9 ((A++{ c with au:=K }::B).map Ch.c)),(3,.kG 2 2 (K.map Cu.c)),(4,.arr 50 0 6 (L.map Lg.c)),(5,.arr 68 0 8 (Q.map Pa.c))]:=by
  simp only[wC,Bn,lN,aV.c,Pl.c,Ch.c,Oc.c,H8,List.map_cons,List.map_nil,List.cons_append,List.nil_append,List.map_append] at h ⊢;refine jr h 2 rfl rfl rfl rfl ?_;refine⟨_,_,⟨rfl,rfl⟩,?_⟩
  (conv=>whnf)
  all_goals exact aL
 refine iq h1 [2,4] ?_;simp only[uH,wC,aV.c,Pl.c,Oc.c,List.map_cons,List.map_nil,List.cons_append,List.nil_append]
 (conv=>whnf)
 refine⟨_,_,⟨rfl,rfl⟩,?_⟩;all_goals exact aL
theorem Tv {F:FuncId}{hp:List (Nat×aD)}{a b:Int}{A:List Ch}{c:Ch}{B:List Ch}{K:List Int}{L:List Lg}{Q:List Pa}{o:aV}{out:Oc}{n:Nat}
  (h:dR prog F [.ptr 1 0] hp (.pv (.dn [])) ((1,.var (wC a b (.aF 2 0) (.aF 4 0) (.aF 5 0) o (.bn 2 0 n 0) out))::V9 0 0 (Tn c (.aF 3 0)) A B K L Q)) :
  dR prog F [.ptr 1 0] hp (.pv (.dn [])) (uH 0 0 0 1 (K.map dh) a b (A++{ c with af:=K }::B) L Q o out):=by
 have h1:dR prog F [.ptr 1 0] hp (.pv (.dn [])) [(1,.var (wC a b (.aF 2 0) (.aF 4 0) (.aF 5 0) o (.bn 2 0 n 0) out)),(2,.arr 47 0 9 ((A++{ c with af:=K }::B).map Ch.c)),(3,.kG 0 1 (K.map dh)),(4,.arr 50 0 6 (L.map Lg.c)),(5,.arr 68 0 8 (Q.map Pa.c))]:=by
  simp only[wC,V9,Tn,aV.c,Pl.c,Ch.c,Oc.c,List.map_cons,List.map_nil,List.cons_append,List.nil_append,List.map_append] at h ⊢;refine jr h 2 rfl rfl rfl rfl ?_;refine⟨_,_,⟨rfl,rfl⟩,?_⟩
  (conv=>whnf)
  all_goals exact aL
 refine iq h1 [2,4] ?_;simp only[uH,wC,aV.c,Pl.c,Oc.c,List.map_cons,List.map_nil,List.cons_append,List.nil_append]
 (conv=>whnf)
 refine⟨_,_,⟨rfl,rfl⟩,?_⟩;all_goals exact aL
theorem abO {F:FuncId}{hp:List (Nat×aD)}{a b:Int}{A:List Ch}{c:Ch}{B:List Ch}{L:List Lg}{Q:List Pa}{o:aV}{out:Oc}{n:Nat}
  (h:dR prog F [.ptr 1 0] hp (.pv (.dn [])) [(1,.var (wC a b (.aF 2 0) (.aF 3 0) (.aF 4 0) o (.bn 2 0 n 0) out)),(2,.dM 47 0 9 (A.map Ch.c) (c.c.map .pv) (B.map Ch.c)),(3,.arr 50 0 6 (L.map Lg.c)),(4,.arr 68 0 8 (Q.map Pa.c))]) :
  dR prog F [.ptr 1 0] hp (.pv (.dn [])) (uG 0 0 a b (A++c::B) L Q o out):=by
 have h1:dR prog F [.ptr 1 0] hp (.pv (.dn [])) [(1,.var (wC a b (.aF 2 0) (.aF 3 0) (.aF 4 0) o (.bn 2 0 n 0) out)),(2,.arr 47 0 9 ((A++c::B).map Ch.c)),(3,.arr 50 0 6 (L.map Lg.c)),(4,.arr 68 0 8 (Q.map Pa.c))]:=by
  rw[List.map_append,List.map_cons];simp only[wC,aV.c,Pl.c,Ch.c,Oc.c,List.map_cons,List.map_nil,List.cons_append,List.nil_append] at h ⊢;refine jr h 2 rfl rfl rfl rfl ?_;refine⟨_,_,⟨rfl,rfl⟩,?_⟩
  (conv=>whnf)
  all_goals exact aL
 refine iq h1 [2,3] ?_;simp only[uG,wC,aV.c,Pl.c,Oc.c,List.map_cons,List.map_nil,List.cons_append,List.nil_append]
 (conv=>whnf)
 refine⟨_,_,⟨rfl,rfl⟩,?_⟩;all_goals exact aL
theorem abP {F:FuncId}{hp:List (Nat×aD)}{a b:Int}{A:List Ch}{c:Ch}{B:List Ch}{K:List Int}{L:List Lg}{Q:List Pa}{o:aV}{out:Oc}{n:Nat}
  (h:dR prog F [.ptr 1 0] hp (.pv (.dn [])) ((1,.var (wC a b (.aF 2 0) (.aF 4 1) (.aF 5 0) o (.bn 2 0 n 0) out))::V9 1 1 (Tn c (.aF 3 1)) A B K L Q)) :
  dR prog F [.ptr 1 0] hp (.pv (.dn [])) (uH 0 1 1 1 (K.map dh) a b (A++{ c with af:=K }::B) L Q o out):=by
 have h1:dR prog F [.ptr 1 0] hp (.pv (.dn [])) [(1,.var (wC a b (.aF 2 0) (.aF 4 1) (.aF 5 0) o (.bn 2 0 n 0) out)),(2,.arr 47 0 9 ((A++{ c with af:=K }::B).map Ch.c)),(3,.kG 1 1 (K.map dh)),(4,.arr 50 1 6 (L.map Lg.c)),(5,.arr 68 0 8 (Q.map Pa.c))]:=by
  simp only[wC,V9,Tn,aV.c,Pl.c,Ch.c,Oc.c,List.map_cons,List.map_nil,List.cons_append,List.nil_append,List.map_append] at h ⊢;refine jr h 2 rfl rfl rfl rfl ?_;refine⟨_,_,⟨rfl,rfl⟩,?_⟩
  (conv=>whnf)
  all_goals exact aL
 refine iq h1 [2,4] ?_;simp only[uH,wC,aV.c,Pl.c,Oc.c,List.map_cons,List.map_nil,List.cons_append,List.nil_append]
 (conv=>whnf)
 refine⟨_,_,⟨rfl,rfl⟩,?_⟩;all_goals exact aL
theorem abQ {F:FuncId}{hp:List (Nat×aD)}{a b:Int}{A:List Ch}{c:Ch}{B:List Ch}{L:List Lg}{Q:List Pa}{o:aV}{out:Oc}{n:Nat}
  (h:dR prog F [.ptr 1 0] hp (.pv (.dn [])) [(1,.var (wC a b (.aF 2 0) (.aF 3 1) (.aF 4 0) o (.bn 2 0 n 0) out)),(2,.dM 47 0 9 (A.map Ch.c) (c.c.map .pv) (B.map Ch.c)),(3,.arr 50 1 6 (L.map Lg.c)),(4,.arr 68 0 8 (Q.map Pa.c))]) :
  dR prog F [.ptr 1 0] hp (.pv (.dn [])) (uG 0 1 a b (A++c::B) L Q o out):=by
 have h1:dR prog F [.ptr 1 0] hp (.pv (.dn [])) [(1,.var (wC a b (.aF 2 0) (.aF 3 1) (.aF 4 0) o (.bn 2 0 n 0) out)),(2,.arr 47 0 9 ((A++c::B).map Ch.c)),(3,.arr 50 1 6 (L.map Lg.c)),(4,.arr 68 0 8 (Q.map Pa.c))]:=by
  rw[List.map_append,List.map_cons];simp only[wC,aV.c,Pl.c,Ch.c,Oc.c,List.map_cons,List.map_nil,List.cons_append,List.nil_append] at h ⊢;refine jr h 2 rfl rfl rfl rfl ?_;refine⟨_,_,⟨rfl,rfl⟩,?_⟩
  (conv=>whnf)
  all_goals exact aL
 refine iq h1 [2,3] ?_;simp only[uG,wC,aV.c,Pl.c,Oc.c,List.map_cons,List.map_nil,List.cons_append,List.nil_append]
 (conv=>whnf)
 refine⟨_,_,⟨rfl,rfl⟩,?_⟩;all_goals exact aL
theorem Dx:∀(es:List (Int×Int)) (n:Int) (i:Nat),(mU es n i=none∧n∉es.map (·.1))∨∃j v,mU es n i=some (i+j,v)∧∃h:j<es.length,es[j].1=n
 |[],n,i=>.inl ⟨rfl,by simp⟩
 | (a,v)::r,n,i=>by
   unfold mU;by_cases h:n=a
   ·rw[if_pos h];exact .inr ⟨0,v,rfl,by simp,by simp[h]⟩
   rw[if_neg h];rcases Dx r n (i+1) with ⟨h1,h2⟩|⟨j,w,h1,h2,h3⟩
   ·refine .inl ⟨h1,?_⟩;simp only[List.map_cons,List.mem_cons,not_or];exact⟨h,h2⟩
   refine .inr ⟨j+1,w,?_,by simpa using h2,by simpa using h3⟩;rw[h1];congr 2
   omega
theorem Rt (es:List (Int×Int))(n v:Int):(yw es n v).map (·.1)=if n∈es.map (·.1) then es.map (·.1) else es.map (·.1)++[n]:=by
 unfold yw;rcases Dx es n 0 with ⟨h1,h2⟩|⟨j,w,h1,h2,h3⟩
 ·rw[h1,if_neg h2];simp
 rw[h1];have hm:n∈es.map (·.1):=List.mem_map.2 ⟨es[j],List.getElem_mem _,h3⟩;rw[if_pos hm];simp only[Nat.zero_add];apply List.ext_getElem (by simp);intro i a b;simp only[List.getElem_map,List.getElem_modify];split
 ·rename_i e;subst e;exact h3.symm
 rfl
theorem VI (L:List Int)(n:Int):(nZ (L++[n])).map (·.1)=if n∈(nZ L).map (·.1) then (nZ L).map (·.1) else (nZ L).map (·.1)++[n]:=by
 unfold nZ;rw[List.foldl_append];exact Rt _ _ _
theorem VJ (L:List Int):(∀n,n∈(nZ L).map (·.1)↔n∈L)∧(nZ L).length≤L.length∧((nZ L).length=L.length↔L.Nodup):=by
 suffices h:∀R:List Int,(∀n,n∈(nZ R.reverse).map (·.1)↔n∈R)∧(nZ R.reverse).length≤R.length∧((nZ R.reverse).length=R.length↔R.Nodup) by
  obtain⟨h1,h2,h3⟩:=h L.reverse;rw[List.reverse_reverse] at h1 h2 h3;simp only[List.length_reverse,List.mem_reverse] at h1 h2 h3;rw[(List.reverse_perm L).nodup_iff] at h3;exact⟨h1,h2,h3⟩
 intro R;induction R with
 |nil=>simp[nZ]
 | cons a R ih=>
   obtain⟨i1,i2,i3⟩:=ih;rw[List.reverse_cons];have hk:=VI R.reverse a;have hl:(nZ (R.reverse++[a])).length=((nZ (R.reverse++[a])).map (·.1)).length:=by rw[List.length_map]
   rw[hl,hk];by_cases ha:a∈(nZ R.reverse).map (·.1)
   ·rw[if_pos ha];have har:=(i1 a).1 ha;refine⟨fun n=>?_,?_,?_⟩
    ·rw[i1 n];constructor
     ·intro h;exact List.mem_cons_of_mem _ h
     intro h;rcases List.mem_cons.1 h with rfl|h
     ·exact har
     exact h
    ·rw[List.length_map,List.length_cons];omega
    rw[List.length_map,List.length_cons,List.nodup_cons];constructor
    ·intro h;omega
    intro h;exact absurd har h.1
   rw[if_neg ha];have har:a∉R:=fun h=>ha ((i1 a).2 h)
   refine⟨fun n=>?_,?_,?_⟩
   ·rw[List.mem_append,List.mem_singleton,i1 n,List.mem_cons];exact Or.comm
   ·simp only[List.length_append,List.length_map,List.length_cons,List.length_nil];omega
   simp only[List.length_append,List.length_map,List.length_cons,List.length_nil,List.nodup_cons];rw[←i3];constructor
   ·intro h;exact⟨har,by omega⟩
   intro h;omega
theorem JV:∀(l:List Mk) (last:Int),yJ last l=true↔(∀x∈l,last<x.producer∧x.producer≤15∧1≤x.seq∧x.seq≤4611686018427387903∧x.offset≤4611686018427387903)∧(l.map (·.producer)).Pairwise (· < ·)
 |[],last=>by simp[yJ]
 | x::l,last=>by
   unfold yJ aez;rw[Bool.and_eq_true,JV l x.producer];simp only[Bool.not_eq_true',Bool.or_eq_false_iff,decide_eq_false_iff_not,List.map_cons,List.pairwise_cons,List.mem_cons,List.mem_map,forall_exists_index,and_imp,forall_apply_eq_imp_iff₂,forall_eq_or_imp];constructor
   ·rintro⟨⟨a1,a2,a3,a4,a5⟩,b1,b2⟩
    refine⟨⟨⟨by omega,by omega,by omega,by omega,by omega⟩,fun y hy=>?_⟩,fun y hy=>(b1 y hy).1,b2⟩;have:=b1 y hy;exact⟨by omega,this.2⟩
   rintro⟨⟨⟨a1,a2,a3,a4,a5⟩,c⟩,b1,b2⟩
   exact⟨⟨by omega,by omega,by omega,by omega,by omega⟩,fun y hy=>⟨b1 y hy,(c y hy).2⟩,b2⟩
theorem abM (l:List Mk):Y3 l=zh l:=by
 rw[Bool.eq_iff_iff];have hm:=(VJ (l.map (·.offset))).2.2;rw[List.length_map] at hm;unfold Y3 zh;simp only[Bool.and_eq_true,JV,decide_eq_true_eq,List.all_eq_true,bR,l5,beq_iff_eq,j5,Int.ofNat_inj,hm];constructor
 ·rintro⟨⟨h1,h2⟩,h3,h4⟩
  exact⟨h3,fun x hx=>by have:=h1 x hx;omega,h2,h4⟩
 rintro⟨h3,h1,h2,h4⟩
 exact⟨⟨fun x hx=>by have:=h1 x hx;omega,h2⟩,h3,h4⟩
theorem ug (o:aV):xZ o=jW o:=by
 have Pd:qH o.from_=KD o.from_:=rfl;have hpt:qH o.nD=KD o.nD:=rfl;unfold xZ jW Tp;rw[abM,Pd,hpt];unfold Ir;generalize pM o=fr;generalize zh o.seen=mk;generalize KD o.from_=pf;generalize KD o.nD=pt;generalize decide (o=fQ o (dZ o.kind))=bb;generalize [o.inc,o.n,o.aY,o.bA,o.at_,o.now].all cnt=al;generalize dZ o.kind 0=b0;generalize dZ o.kind 5=b5;generalize dZ o.kind 9=b9;rw[Bool.eq_iff_iff];simp only[bR,Bool.and_eq_true,Bool.or_eq_true,Bool.not_eq_true',Bool.and_eq_false_iff,Bool.or_eq_false_iff,decide_eq_true_eq,decide_eq_false_iff_not,Bool.not_eq_false',beq_eq_false_iff_ne,ne_eq,Bool.not_eq_true];constructor
 ·rintro⟨⟨k1,k2⟩,⟨w1,w2,i1,n1,b1⟩,al1,⟨⟨h0,h5⟩,h9⟩⟩
  grind
 grind
def LJ (p:Pn)(o:aV):PV:=.dn [.agg (doM p o).1.c,.agg (doM p o).2.c]
theorem OZ {p:Pn}{o:aV}(hle:¬o.channel>(p.channels.length:Int)):doM p o=({ (fH p o).1 with version:=dO p.version 1,past:=bT p.past o (fH p o).2 },(fH p o).2):=by
 rw[gP];unfold fB;rw[if_neg hle]
theorem uh {p:Pn}{o:aV}(hle:¬o.channel>(p.channels.length:Int)){c2:Ch}{out:Oc}(hk:fH p o=(eO p o.channel c2,out)){A B:List Ch}(hset:(eO p o.channel c2).channels=A++c2::B) :
  (.dn [.agg (⟨IntKind.u64.wrap (p.version+1),p.next,A++c2::B,p.af,bT p.past o out⟩:Pn).c,.agg out.c]:PV)=LJ p o:=by
 unfold LJ;rw[OZ hle,hk,←hset];rfl
theorem Gy {p:Pn}{A B:List Ch}{c:Ch}(h:p.channels=A++c::B):kF p.version p.next A c B p.af p.past={ p with channels:=p.channels }:=by
 unfold kF;rw[←h]
section
variable {p:Pn}(h:gF p){o:aV}(D:Wd p o)(hn:fU p o.channel=true)(hle:¬o.channel>(p.channels.length:Int))
include h D hn hle
theorem Y9 (hk:o.kind=1):bE prog 13 [.agg p.c,.agg o.c] (LJ p o):=by
 obtain⟨A,B,e,hA,hset⟩:=jO hn;have nG:bE prog 35 [ii o.kind] (.agg (fC 1)):=by rw[hk];exact F5
 have:=kQ p o D _ _ A _ B e hA nG 0 0 _ _ _ _ (qZ (aep p.version p.next A (bq p o.channel) B p.af p.past o));rw[uh hle (by unfold fH;simp only[hk];rfl) (hset _)] at this;exact this
theorem Za (hk:o.kind=2):bE prog 13 [.agg p.c,.agg o.c] (LJ p o):=by
 obtain⟨A,B,e,hA,hset⟩:=jO hn;have nG:bE prog 35 [ii o.kind] (.agg (fC 2)):=by rw[hk];exact F6
 have:=kQ p o D _ _ A _ B e hA nG 0 0 _ _ _ _ (qZ (abo p.version p.next A (bq p o.channel) B p.af p.past o));rw[uh hle (by unfold fH;simp only[hk];rfl) (hset _)] at this;exact this
theorem Zb (hk:o.kind=3):bE prog 13 [.agg p.c,.agg o.c] (LJ p o):=by
 obtain⟨A,B,e,hA,hset⟩:=jO hn;have nG:bE prog 35 [ii o.kind] (.agg (fC 3)):=by rw[hk];exact F7
 have:=kQ p o D _ _ A _ B e hA nG 0 0 _ _ _ _ (qZ (Vk p.version p.next A (bq p o.channel) B p.af p.past o));rw[uh hle (c2:=bq p o.channel) (by rw[rQ hn];unfold fH;simp only[hk];rfl) (hset _)] at this;exact this
theorem Zc (hk:o.kind=7):bE prog 13 [.agg p.c,.agg o.c] (LJ p o):=by
 obtain⟨A,B,e,hA,hset⟩:=jO hn;have nG:bE prog 35 [ii o.kind] (.agg (fC 7)):=by rw[hk];exact Gb
 have ep:=Gy e;have:=kQ p o D _ _ A _ B e hA nG 0 0 _ _ _ _ (qZ (aer p.version p.next A (bq p o.channel) B p.af p.past o (by rw[ep];exact h.Dc)));rw[ep] at this;rw[uh hle (by unfold fH;simp only[hk];rfl) (hset _)] at this;exact this
theorem VK (hk:o.kind=11):bE prog 13 [.agg p.c,.agg o.c] (LJ p o):=by
 obtain⟨A,B,e,hA,hset⟩:=jO hn;have nG:bE prog 35 [ii o.kind] (.agg (fC 11)):=by rw[hk];exact Cg
 have:=kQ p o D _ _ A _ B e hA nG 0 0 _ _ _ _ (qZ (YJ p.version p.next A (bq p o.channel) B p.af p.past o (h.chB (fJ hn)).au));rw[uh hle (c2:=bq p o.channel) (by rw[rQ hn];unfold fH;simp only[hk];rfl) (hset _)] at this;exact this
theorem Zd (hk:o.kind=9):bE prog 13 [.agg p.c,.agg o.c] (LJ p o):=by
 obtain⟨A,B,e,hA,hset⟩:=jO hn;have nG:bE prog 35 [ii o.kind] (.agg (fC 9)):=by rw[hk];exact Gd
 have hcl:(bq p o.channel).au.length≤100000:=by have:=(h.ch _ (fJ hn)).1.k0;omega
 by_cases h0:∀x∈(bq p o.channel).au,(fun (x:Cu)=>x.sub==o.sub) x=false
 ·have:=xP p o D _ _ A _ B e hA nG 0 _ 0 _ _ _ _ _ _ (Tq (aew p.version p.next A (bq p o.channel) B p.af p.past o h0 hcl));rw[uh hle (by unfold fH;simp only[hk];rfl) (hset _)] at this;exact this
 have:=xP p o D _ _ A _ B e hA nG 0 _ 0 _ _ _ _ _ _ (Tt (aex p.version p.next A (bq p o.channel) B p.af p.past o h0 hcl));rw[uh hle (by unfold fH;simp only[hk];rfl) (hset _)] at this;exact this
theorem VL (hk:o.kind=10):bE prog 13 [.agg p.c,.agg o.c] (LJ p o):=by
 obtain⟨A,B,e,hA,hset⟩:=jO hn;have nG:bE prog 35 [ii o.kind] (.agg (fC 10)):=by rw[hk];exact Cf
 have hcl:(bq p o.channel).au.length≤100000:=by have:=(h.ch _ (fJ hn)).1.k0;omega
 by_cases h0:∀x∈(bq p o.channel).au,(fun (x:Cu)=>x.sub==o.sub) x=false
 ·have:=xP p o D _ _ A _ B e hA nG 0 _ 0 _ _ _ _ _ _ (Tq (abv p.version p.next A (bq p o.channel) B p.af p.past o h0 hcl));rw[uh hle (by unfold fH;simp only[hk];rfl) (hset _)] at this;exact this
 have:=xP p o D _ _ A _ B e hA nG 0 _ 0 _ _ _ _ _ _ (Tt (abw p.version p.next A (bq p o.channel) B p.af p.past o h0 hcl));rw[uh hle (by unfold fH;simp only[hk];rfl) (hset _)] at this;exact this
end
theorem Ls (T:List Int)(a:Int):T.contains a=T.any fun y=>y==a:=by
 induction T with
 |nil=>rfl
 |cons x T ih=>rw[List.contains_cons,List.any_cons,ih];congr 1;exact Bool.beq_comm
theorem kE {p:Pn}{o:aV}(hle:¬o.channel>(p.channels.length:Int)){q:Pn}{out:Oc}(hk:fH p o=(q,out)) :
  LJ p o=.dn [.agg (⟨IntKind.u64.wrap (p.version+1),q.next,q.channels,q.af,bT p.past o out⟩:Pn).c,.agg out.c]:=by
 unfold LJ;rw[OZ hle,hk];rfl
section
variable {p:Pn}(h:gF p){o:aV}(D:Wd p o)(hn:fU p o.channel=true)(hle:¬o.channel>(p.channels.length:Int))
include h D hn hle
theorem Ze (hk:o.kind=4):bE prog 13 [.agg p.c,.agg o.c] (LJ p o):=by
 obtain⟨A,B,e,hA,hset⟩:=jO hn;have nG:bE prog 35 [ii o.kind] (.agg (fC 4)):=by rw[hk];exact F8
 have ep:=Gy e;have hkm:fH p o=gW p (bq p o.channel) o:=by unfold fH;simp only[hk];rfl
 have hB:=(h.chB (fJ hn)).af;have hl8:((((bq p o.channel).af.map dh).length:Int)==8)=decide (((bq p o.channel).af.length:Int)=8):=by rw[List.length_map];rfl
 have hL:=h.Dc.af;cases h1:((gX p o.channel).isSome||((bq p o.channel).aY==0)) with
 | true=>
   have hl:=Gt p.version p.next A (bq p o.channel) B p.af p.past o (by rw[ep];exact h.Dc) hB hL _ _ rfl rfl (false,ig 5) (by rw[ep,h1];rfl);have:=Cw p o D _ _ A _ B e hA nG 0 _ _ _ _ _ _ _ _ (Tv hl);have hR:gW p (bq p o.channel) o=(p,ig 5):=by unfold gW iL;rw[if_pos h1]
   rw[kE hle (hkm.trans hR),e];exact this
 | false=>
   cases h2:((decide (((bq p o.channel).af.length:Int)=8)||decide (p.next>4611686018427387903))||decide (dO (kV p o.channel) 16>4611686018427387903)) with
   | true=>
     have hl:=Gt p.version p.next A (bq p o.channel) B p.af p.past o (by rw[ep];exact h.Dc) hB hL _ _ rfl rfl (false,ig 3) (by rw[ep,h1,hl8];unfold dO at h2;rw[h2];rfl);have:=Cw p o D _ _ A _ B e hA nG 0 _ _ _ _ _ _ _ _ (Tv hl);have hR:gW p (bq p o.channel) o=(p,ig 3):=by unfold gW iL;rw[if_neg (by rw[h1];decide),if_pos h2]
     rw[kE hle (hkm.trans hR),e];exact this
   | false=>
     have hl:=Gt p.version p.next A (bq p o.channel) B p.af p.past o (by rw[ep];exact h.Dc) hB hL _ _ rfl rfl (true,{ bS with bA:=p.next }) (by rw[ep,h1,hl8];unfold dO at h2;rw[h2];rfl);have:=Cw p o D _ _ A _ B e hA nG 0 _ _ _ _ _ _ _ _ (abP hl);have hR:gW p (bq p o.channel) o=({ eO p o.channel { bq p o.channel with af:=(bq p o.channel).af++[p.next] } with af:=p.af++[⟨p.next,o.w,o.a,o.aA,0,0⟩],next:=dO p.next 1 },{ bS with bA:=p.next }):=by unfold gW iL;rw[if_neg (by rw[h1];decide),if_neg (by rw[h2];decide)]
     rw[kE hle (hkm.trans hR)];simp only;rw[hset];exact this
theorem Zf (hk:o.kind=8):bE prog 13 [.agg p.c,.agg o.c] (LJ p o):=by
 obtain⟨A,B,e,hA,hset⟩:=jO hn;have nG:bE prog 35 [ii o.kind] (.agg (fC 8)):=by rw[hk];exact Gc
 have ep:=Gy e;have hkm:fH p o=iD p (bq p o.channel) o:=by unfold fH;simp only[hk];rfl
 have hB:=(h.chB (fJ hn)).af;have hL:=h.Dc.af;have hc:=h.ch _ (fJ hn);have hgl:=hc.1.len;have hg3:=hc.1.e3;have hs:=xH h (bq p o.channel).trim (bq p o.channel).af (bq p o.channel).first hc.2.2.1 (by omega)
 obtain⟨y,hy⟩:∃y,y=fG p (bq p o.channel).trim (bq p o.channel).af (bq p o.channel).first:=⟨_,rfl⟩
 rw[←hy] at hs;cases h1:(!l6 ((bq p o.channel).af.drop y.1) o.bA||o.seen.any (fun x=>decide (x.offset≥y.2))) with
 | true=>
   have hl:=VA p.version p.next A (bq p o.channel) B p.af p.past o (by rw[ep];exact h.Dc) hB hL y (by rw[ep];exact hy) hs.1 _ _ rfl rfl _ rfl h1;have:=kQ p o D _ _ A _ B e hA nG 0 0 _ _ _ _ (qZ hl);have hR:iD p (bq p o.channel) o=(p,ig 5):=by unfold iD nE;simp only;rw[←hy,if_pos h1]
   rw[kE hle (hkm.trans hR),e];exact this
 | false=>
   have h2:l6 ((bq p o.channel).af.drop y.1) o.bA=true∧o.seen.any (fun x=>decide (x.offset≥y.2))=false:=by
    rw[Bool.or_eq_false_iff] at h1;exact⟨by simpa using h1.1,h1.2⟩
   have hR:iD p (bq p o.channel) o=({ eO p o.channel { bq p o.channel with af:=(bq p o.channel).af.drop y.1,first:=y.2,seen:=o.seen } with af:=p.af.filter fun l=>!((bq p o.channel).af.take y.1).contains l.id },{ bS with at_:=y.2 }):=by
    unfold iD nE;simp only;rw[←hy,if_neg (by rw[h1];decide)]
   have hfe:(p.af.filter fun l=>!((bq p o.channel).af.take y.1).contains l.id)=p.af.filter fun l=>!(((bq p o.channel).af.take y.1).any fun z=>z==l.id):=by
    congr 1;funext l;rw[Ls]
   rw[kE hle (hkm.trans hR)];simp only;rw[hset,hfe];by_cases h0:∀x∈p.af,(fun (x:Lg)=>((bq p o.channel).af.take y.1).any fun z=>z==x.id) x=false
   ·have hl:=VB p.version p.next A (bq p o.channel) B p.af p.past o (by rw[ep];exact h.Dc) hB hL y (by rw[ep];exact hy) hs.1 _ _ rfl rfl h2.2 h2.1 h0;have:=kQ p o D _ _ A _ B e hA nG 0 0 _ _ _ _ (abO hl);rw[List.filter_eq_self.2 (fun x hx=>by have:=h0 x hx;simp only at this;rw[this];rfl)];exact this
   have hl:=VD p.version p.next A (bq p o.channel) B p.af p.past o (by rw[ep];exact h.Dc) hB hL y (by rw[ep];exact hy) hs.1 _ _ rfl rfl h2.2 h2.1 h0;have:=kQ p o D _ _ A _ B e hA nG 0 1 _ _ _ _ (abQ hl);exact this
end
theorem Lu {p:Pn}(h:gF p){A:List Lg}{l:Lg}{B:List Lg}(e:p.af=A++l::B){l':Lg}(hid:l'.id=l.id):(kN p l').af=A++l'::B:=by
 have hr:=h.pO;unfold nL at hr;rw[e,List.map_append,List.map_cons,List.pairwise_append,List.pairwise_cons] at hr;obtain⟨_,⟨r2,_⟩,r3⟩:=hr;unfold kN;simp only;rw[e,List.map_append,List.map_cons];have e1:A.map (fun x=>if x.id==l'.id then l' else x)=A:=by
  rw[List.map_congr_left (g:=id)]
  ·simp
  intro y hy;have:=r3 y.id (List.mem_map.2 ⟨y,hy,rfl⟩) l.id (by simp);rw[hid,if_neg (by simp;omega)];rfl
 have e2:B.map (fun x=>if x.id==l'.id then l' else x)=B:=by
  rw[List.map_congr_left (g:=id)]
  ·simp
  intro y hy;have:=r2 y.id (List.mem_map.2 ⟨y,hy,rfl⟩);rw[hid,if_neg (by simp;omega)];rfl
 rw[e1,e2,hid,if_pos (by simp)]
theorem Zg {A:List Lg}{l:Lg}{B:List Lg}(hA:∀y∈A,(y.id==l.id)=false):qo (fun y=>y.id==l.id) (A++l::B)=((A.map Lg.c).length:Int):=by
 rw[List.length_map];exact nU (fun y:Lg=>y.id==l.id) (by simp) (fun j hj hja=>by rw[List.getElem_append_left (by omega)];exact hA _ (List.getElem_mem _)) (by simp)
theorem Tw {p:Pn}{A B:List Ch}{c:Ch}{LA LB:List Lg}{l:Lg}(h:p.channels=A++c::B)(hL:p.af=LA++l::LB):kF p.version p.next A c B (LA++l::LB) p.past={ p with channels:=p.channels }:=by
 unfold kF;rw[←h,←hL]
section
variable {p:Pn}(h:gF p){o:aV}(D:Wd p o)
include h D
theorem VN (hk:o.kind=12):bE prog 13 [.agg p.c,.agg o.c] (LJ p o):=by
 have ho:Fy o:=l7 (by rw[←ug];exact D.hw);have hc0:=adV ho hk;have hle:¬o.channel>(p.channels.length:Int):=by rw[hc0];omega
 have hkm:fH p o=jV p (fA p o):=by unfold fH;simp only[hk];rfl
 have QO:∀x∈p.af,x.aA.length≤1000000:=fun x hx=>(h.lgB hx).aA
 cases hf:p.af.find? (nN o) with
 | none=>
   have:=Gx p o D hk hc0 QO (fun x hx=>by rw[hf] at hx;cases hx);have hR:fA p o=(none,ig 5):=by unfold fA;rw[hf]
   rw[kE hle (q:=p) (out:=ig 5) (by rw[hkm,hR];rfl)];exact this
 | some l=>
   cases hb:l.aA.any (oh o) with
   | true=>
     have:=Gx p o D hk hc0 QO (fun x hx=>by rw[hf] at hx;have:=Option.some.inj hx;subst this;exact .inl hb);have hR:fA p o=(none,ig 5):=by unfold fA;rw[hf];simp only;rw[if_pos hb]
     rw[kE hle (q:=p) (out:=ig 5) (by rw[hkm,hR];rfl)];exact this
   | false=>
     cases hs:l.aA.any (fun f=>decide (kD o f≥0)) with
     | false=>
       have:=Gx p o D hk hc0 QO (fun x hx=>by rw[hf] at hx;have:=Option.some.inj hx;subst this;exact .inr hs);have hR:fA p o=(none,ig 5):=by unfold fA;rw[hf];simp only;rw[if_neg (by rw[hb];decide),if_neg (by rw[hs];decide)]
       rw[kE hle (q:=p) (out:=ig 5) (by rw[hkm,hR];rfl)];exact this
     | true=>
       have hR:fA p o=(some { l with aA:=l.aA.map (jk o) },bS):=by unfold fA;rw[hf];simp only;rw[if_neg (by rw[hb];decide),if_pos hs]
       obtain⟨hx,A,B,e,hA⟩:=List.find?_eq_some_iff_append.1 hf;have:=Y5 p o D hk hc0 A l B e (fun y hy=>by simpa using hA y hy) hx (fun f hf2=>by
        cases hq:oh o f with
        |false=>rfl
        |true=>rw[List.any_eq_true.2 ⟨f,hf2,hq⟩] at hb;cases hb) (by obtain⟨f,hf2,hq⟩:=List.any_eq_true.1 hs;exact⟨f,hf2,hq⟩)
       rw[kE hle (q:=kN p { l with aA:=l.aA.map (jk o) }) (out:=bS) (by rw[hkm,hR];rfl),Lu h (l':={ l with aA:=l.aA.map (jk o) }) e rfl];exact this
variable (hn:fU p o.channel=true)(hle:¬o.channel>(p.channels.length:Int))
include hn hle
theorem Zh (hk:o.kind=6):bE prog 13 [.agg p.c,.agg o.c] (LJ p o):=by
 obtain⟨A,B,e,hA,hset⟩:=jO hn;have nG:bE prog 35 [ii o.kind] (.agg (fC 6)):=by rw[hk];exact Ga
 have ep:=Gy e;have hkm:fH p o=jV p (dV p (bq p o.channel) o):=by unfold fH;simp only[hk];rfl
 cases hlm:pK p o with
 | none=>
   have hl:=Vs p.version p.next A (bq p o.channel) B p.af p.past o (by rw[ep];exact h.Dc) (by rw[ep];exact hlm);have:=kQ p o D _ _ A _ B e hA nG 0 0 _ _ _ _ (qZ hl);have hR:dV p (bq p o.channel) o=(none,ig 5):=by unfold dV;rw[hlm]
   rw[kE hle (q:=p) (out:=ig 5) (by rw[hkm,hR];rfl),e];exact this
 | some l=>
   obtain⟨hop,hid⟩:=oD h hn hlm;obtain⟨hm,_,_,_⟩:=oC h hn hop;obtain⟨LA,LB,eL,hLA,_⟩:=Ny h hm;have ep2:=Tw e eL;obtain⟨X,hX⟩:∃X,X=if (!fw l.w o.aA||(decide (o.at_>8)||decide ((bq p o.channel).trim>dO (kV p o.channel) o.at_))) then (l,ig 5) else ({ l with aA:=o.aA,closed:=1,last:=o.at_ },bS):=⟨_,rfl⟩
   have hl:=Vt p.version p.next A (bq p o.channel) B LA l LB p.past o D.ho.bk (by rw[ep2];exact h.Dc) (by rw[ep2];exact hop) hid (Zg hLA) X (by rw[ep2];exact hX);have:=xQ p o D _ _ A _ B e LA l LB eL hA nG 0 0 _ _ _ _ (Ru hl);have hR:dV p (bq p o.channel) o=if !fw l.w o.aA||(decide (o.at_>8)||decide ((bq p o.channel).trim>dO (kV p o.channel) o.at_)) then (none,ig 5) else (some { l with aA:=o.aA,closed:=1,last:=o.at_ },bS):=by unfold dV;rw[hlm]
   cases hb:(!fw l.w o.aA||(decide (o.at_>8)||decide ((bq p o.channel).trim>dO (kV p o.channel) o.at_))) with
   | true=>
     rw[hb] at hX hR;simp only[if_true] at hX hR;subst hX;rw[kE hle (q:=p) (out:=ig 5) (by rw[hkm,hR];rfl),e,eL];exact this
   | false=>
     rw[hb] at hX hR;simp only[Bool.false_eq_true,if_false] at hX hR;subst hX;rw[kE hle (q:=kN p { l with aA:=o.aA,closed:=1,last:=o.at_ }) (out:=bS) (by rw[hkm,hR];rfl),Lu h (l':={ l with aA:=o.aA,closed:=1,last:=o.at_ }) eL rfl];have ec:(kN p { l with aA:=o.aA,closed:=1,last:=o.at_ }).channels=A++bq p o.channel::B:=e;rw[ec];exact this
end
section
variable {p:Pn}(h:gF p){o:aV}(D:Wd p o)(hn:fU p o.channel=true)(hle:¬o.channel>(p.channels.length:Int))
include h D hn hle
theorem Zi (hk:o.kind=5):bE prog 13 [.agg p.c,.agg o.c] (LJ p o):=by
 obtain⟨A,B,e,hA,hset⟩:=jO hn;have nG:bE prog 35 [ii o.kind] (.agg (fC 5)):=by rw[hk];exact F9
 have ep:=Gy e;have hkm:fH p o=jV p (dU p o):=by unfold fH;simp only[hk];rfl
 have ho:Fy o:=l7 (by rw[←ug];exact D.hw);obtain⟨f,hf⟩:∃f,o.aA=[f]:=by
  have hfr:=ho.fr;rw[JR] at hfr;unfold Gv at hfr;simp only[hk,Bool.and_eq_true] at hfr;have:(o.aA.length:Int)=1:=by simpa using hfr.2
  exact List.length_eq_one_iff.1 (by omega)
 have hfb:f.aI.length≤1000000:=D.ho.bk f (by rw[hf];simp);cases hlm:pK p o with
 | none=>
   have hl:=Vr p.version p.next A (bq p o.channel) B p.af p.past o f (by rw[ep];exact h.Dc) hf (by rw[ep];exact hlm);have:=kQ p o D _ _ A _ B e hA nG 0 0 _ _ _ _ (qZ hl);have hR:dU p o=(none,ig 5):=by unfold dU;rw[hlm]
   rw[kE hle (q:=p) (out:=ig 5) (by rw[hkm,hR];rfl),e];exact this
 | some l=>
   obtain⟨hop,hid⟩:=oD h hn hlm;obtain⟨hm,_,_,_⟩:=oC h hn hop;obtain⟨LA,LB,eL,hLA,_⟩:=Ny h hm;have ep2:=Tw e eL;have Fh:=(h.lg l hm).1;have hfr:=Nw Fh;have hne:l.aA≠[]:=by
    intro e0;unfold mr fw at Fh;simp only[Bool.and_eq_true,bR,decide_eq_true_eq] at Fh;have:=Fh.2.2.2.1.1.1;rw[e0] at this;simp at this
   obtain⟨F,ed,hFe⟩:∃F ed,l.aA=F++[ed]:=⟨l.aA.dropLast,l.aA.getLast hne,(List.dropLast_concat_getLast hne).symm⟩;have hhd:SA o.aA=f:=by rw[hf];rfl
   have Pe:aay l.aA=ed:=by rw[hFe];unfold aay;simp
   obtain⟨G,hG⟩:∃G,G=Ng l.aA f:=⟨_,rfl⟩;obtain⟨X,hX⟩:∃X:Bool×Oc,X=if (decide (f.first≥ed.first)&&(((((F++[ed]).map Fr.c).length:Int)==6)&&(decide (((G.map Fr.c).length:Int)>(((F++[ed]).map Fr.c).length:Int))&&vT l.w f))) then (false,ig 3)
    else if decide (f.first<ed.first) || !fw l.w G then (false,ig 5) else (true,bS):=⟨_,rfl⟩
   have hR:dU p o=if (decide (f.first≥ed.first)&&(decide ((l.aA.length:Int)=6)&&(decide (G.length>l.aA.length)&&vT l.w f))) then (none,ig 3)
    else if decide (f.first<ed.first) || !fw l.w G then (none,ig 5) else (some { l with aA:=G },bS):=by
    unfold dU;rw[hlm];simp only;rw[hhd,Pe,←hG]
   have hc1:((((F++[ed]).map Fr.c).length:Int)==6)=decide ((l.aA.length:Int)=6):=by rw[List.length_map,hFe];rfl
   have hc2:decide (((G.map Fr.c).length:Int)>(((F++[ed]).map Fr.c).length:Int))=decide (G.length>l.aA.length):=by rw[List.length_map,List.length_map,hFe,decide_eq_decide];omega
   have hX0:=hX;rw[hc1,hc2] at hX;have hFl:F.length≤1000:=by have:=hfr.1;rw[hFe,List.length_append] at this;omega
   have YO:∀y∈F++[ed],y.aI.length≤1000000:=fun y hy=>by have:=hfr.2 y (by rw[hFe];exact hy);omega
   have hl:dR prog 128 [.ptr 1 0]
     ((1,.var (wC p.version p.next (.aF 2 0) (.aF 3 0) (.aF 4 0) o (.bn 2 0 (A.map Ch.c).length 0) bS))::Cr ((bq p o.channel).c.map .pv) A B (l.c.map .pv) LA LB p.past) (.pv (.dn []))
     ((1,.var (wC p.version p.next (.aF 2 0) (.aF 3 0) (.aF 4 0) o (.bn 2 0 (A.map Ch.c).length 0) X.2))::(Cr ((bq p o.channel).c.map .pv) A B (match X.1 with
       |true=>[.pv (uu l.id),.pv (ii l.w),.pv (ii l.a),.aF 1001 0,.pv (ii l.closed),.pv (uu l.last)]
       |false=>l.c.map .pv) LA LB p.past++match X.1 with
       |true=>[(1001,.arr 80 0 2 (G.map Fr.c))]
       |false=>[])):=by
    cases hq:(f.first==ed.first) with
    |false=>exact Rh p.version p.next A (bq p o.channel) B LA l LB p.past o f F ed hFe hFl YO (by rw[ep2];exact h.Dc) hf hfb (by rw[ep2];exact hop) hid (Zg hLA) hq G (by rw[hG,Ng,Pe,hq,hFe];rfl) X hX0
    |true=>exact Ri p.version p.next A (bq p o.channel) B LA l LB p.past o f F ed hFe hFl YO (by rw[ep2];exact h.Dc) hf hfb (by rw[ep2];exact hop) hid (Zg hLA) hq G (by rw[hG,Ng,Pe,hq,hFe];simp) X hX0
   cases hb:(decide (f.first≥ed.first)&&(decide ((l.aA.length:Int)=6)&&(decide (G.length>l.aA.length)&&vT l.w f))) with
   | true=>
     rw[hb] at hX hR;simp only[if_true] at hX hR;subst hX;have:=xQ p o D _ _ A _ B e LA l LB eL hA nG 0 0 _ _ _ _ (Ru hl);rw[kE hle (q:=p) (out:=ig 3) (by rw[hkm,hR];rfl),e,eL];exact this
   | false=>
     rw[hb] at hX hR;simp only[Bool.false_eq_true,if_false] at hX hR;cases hb2:(decide (f.first<ed.first) || !fw l.w G) with
     | true=>
       rw[hb2] at hX hR;simp only[if_true] at hX hR;subst hX;have:=xQ p o D _ _ A _ B e LA l LB eL hA nG 0 0 _ _ _ _ (Ru hl);rw[kE hle (q:=p) (out:=ig 5) (by rw[hkm,hR];rfl),e,eL];exact this
     | false=>
       rw[hb2] at hX hR;simp only[Bool.false_eq_true,if_false] at hX hR;subst hX;have:=xQ p o D _ _ A _ B e LA l LB eL hA nG 0 0 _ _ _ _ (abN hl);rw[kE hle (q:=kN p { l with aA:=G }) (out:=bS) (by rw[hkm,hR];rfl),Lu h (l':={ l with aA:=G }) eL rfl];have ec:(kN p { l with aA:=G }).channels=A++bq p o.channel::B:=e;rw[ec];exact this
end
theorem Zj {n:Int}(h1:1≤n)(h2:n≤12)(h:dZ n 1=true):dZ n 0=true:=by
 rcases (by omega:n=1∨n=2∨n=3∨n=4∨n=5∨n=6∨n=7∨n=8∨n=9∨n=10∨n=11∨n=12) with rfl|rfl|rfl|rfl|rfl|rfl|rfl|rfl|rfl|rfl|rfl|rfl<;>first|rfl|(revert h;decide)
theorem aeB {p:Pn}(h:gF p){o:aV}(D:Wd p o):bE prog 13 [.agg p.c,.agg o.c] (LJ p o):=by
 have ho:Fy o:=l7 (by rw[←ug];exact D.hw);by_cases hle:o.channel>(p.channels.length:Int)
 ·have:=Y8 p o D hle;have e:doM p o=({ p with version:=dO p.version 1,past:=bT p.past o (ig 4) },ig 4):=by
   rw[gP];unfold fB;rw[if_pos hle]
  unfold LJ;rw[e];exact this
 by_cases h12:o.kind=12
 ·exact VN h D h12
 have hn:=qB ho hle h12;have k1:=ho.k1;have k2:=ho.k2;rcases (by omega:o.kind=1∨o.kind=2∨o.kind=3∨o.kind=4∨o.kind=5∨o.kind=6∨o.kind=7∨o.kind=8∨o.kind=9∨o.kind=10∨o.kind=11) with hk|hk|hk|hk|hk|hk|hk|hk|hk|hk|hk
 ·exact Y9 h D hn hle hk
 ·exact Za h D hn hle hk
 ·exact Zb h D hn hle hk
 ·exact Ze h D hn hle hk
 ·exact Zi h D hn hle hk
 ·exact Zh h D hn hle hk
 ·exact Zc h D hn hle hk
 ·exact Zf h D hn hle hk
 ·exact Zd h D hn hle hk
 ·exact VL h D hn hle hk
 exact VK h D hn hle hk
theorem iM {p:Pn}(h:gF p){o:aV}(ho:ZK o):bE prog 13 [.agg p.c,.agg o.c] (.dn [.agg (aS p o).1.c,.agg (aS p o).2.c]):=by
 have hp:=h.may;have hB:=h.Dc;have hpl:=h.vW;unfold aS;rw[hp];cases hw:jW o with
 | false=>
   have:=VE p o hB ho (by rw[hp,ug,hw];rfl);exact this
 | true=>
   have IW:=l7 hw;have hw2:xZ o=true:=by rw[ug];exact hw
   have hch:dZ o.kind 1=true→1≤o.channel∧o.channel≤3:=fun e=>IW.ch (Zj IW.k1 IW.k2 e)
   simp only[Bool.not_true,Bool.or_self,Bool.false_eq_true,if_false];cases ht:kg p.past o with
   | some t=>
     cases t with
     |some x=>exact JU p o hB ho hp hw2 x (by unfold tO;rw[ht])
     |none=>exact JU p o hB ho hp hw2 (ig 9) (by unfold tO;rw[ht])
   | none=>
     have ht2:tO p.past o=(bS,false):=by unfold tO;rw[ht]
     by_cases hv:p.version=4611686018427387903
     ·simp only[hv,if_true];have:=VF p o hB ho hp hw2 ht2 hv;exact this
     have hv2:(p.version==4611686018427387903)=false:=by simpa using hv
     simp only[hv,if_false];cases hs:gJ p o with
     | true=>
       simp only[if_true];exact VG p o hB ho hp hw2 hch ht2 hv2 hs
     | false=>
       simp only[Bool.false_eq_true,if_false];exact aeB h ⟨hB,ho,hp,hw2,hch,ht2,hv2,hs,by omega⟩
theorem Rv:Mg prog 12 f12:=bZ func12
theorem Lv:Mg prog 15 f15:=bZ func15
theorem xR:Mg prog 29 f29:=bZ func29
def ja (o:aV):Bool:=(decide (((o.aA.map Fr.c).length:Int)>30)||decide (((o.seen.map Mk.c).length:Int)>30))||o.aA.any fun f=>decide (((f.aI.map Pl.c).length:Int)>30)
theorem lK (o:aV):bE prog 12 [.agg o.c] (bl (ja o)):=by
 refine PC.le ?_;have hm:((o.aA.map Fr.c).length:Int)=(o.aA.length:Int):=by rw[List.length_map]
 obtain⟨X,hX⟩:∃X,X=ja o:=⟨_,rfl⟩;rw[←hX];unfold ja at hX;clear hm;refine bN Rv ?_;repeat' ((conv=>whnf);first|with_reducible apply aK|((with_reducible apply fk)<;>intro hc<;>try exact aM)|((with_reducible apply And.intro);exact aG)|fail)
 ·simp only[*,Bool.true_or] at hX;subst hX;all_goals exact aL
 ·simp only[*,Bool.true_or,Bool.or_true] at hX;subst hX;all_goals exact aL
 rename_i hq;have hl:o.aA.length≤1000000:=by simp only[List.length_map,decide_eq_false_iff_not] at hq;omega
 simp only[hq,hc,Bool.false_or] at hX;refine⟨{k:Nat // k≤o.aA.length∧X=(o.aA.drop k).any fun f=>decide (((f.aI.map Pl.c).length:Int)>30)},fun⟨k,_⟩=>⟨[(1,.ptr 1001 0),(3,.pv (ii k))],1000000000,[(1001,.var (o.c.map .pv))]⟩,fun⟨k,_⟩=>o.aA.length-k,⟨⟨0,by simpa using hX⟩,ak ?_⟩,?_⟩
 ·repeat' first
   |fail
   |with_reducible exact True.intro
   |with_reducible exact rfl
   |with_reducible exact ah _
   |((conv=>whnf);with_reducible apply And.intro)
   |((conv=>whnf);with_reducible exact True.intro)
   |exact rfl
   |exact fun h=>h
   |exact ah _
  all_goals try (conv=>whnf)
 rintro⟨k,hk,hn⟩
 clear hX hq hc;dsimp only
 by_cases hlt:k<o.aA.length
 ·have d0:decide ((k:Int)<((o.aA.map Fr.c).length:Int))=true:=by simp only[List.length_map,decide_eq_true_eq];omega
  have eW:IntKind.i64.wrap ((k:Int)+1)=((k+1:Nat):Int):=by rw[aO (by omega) (by omega)];omega
  have hr:=cu Fr.c o.aA k hlt;rw[List.drop_eq_getElem_cons hlt,List.any_cons] at hn;generalize o.aA[k]=f at *;simp only[Fr.c,vP] at hr;repeat' ((conv=>whnf);first|with_reducible apply aK|((with_reducible apply fk)<;>intro hc<;>try exact aM)|((refine⟨_,hr,?_⟩))|(((with_reducible apply And.intro);exact mg))|((with_reducible apply And.intro);exact aG)|fail)
  ·simp only[*,Bool.true_or] at hn;subst hn;all_goals exact aL
  simp only[*,Bool.false_or] at hn;refine⟨⟨k+1,hlt,hn⟩,dec_lt hlt,ak ?_⟩;repeat' first|((conv=>whnf);with_reducible apply And.intro)|exact aL|fail
  all_goals try (conv=>whnf)
  all_goals exact eW
 have hke:k=o.aA.length:=by omega
 subst hke;have d0:decide ((o.aA.length:Int)<((o.aA.map Fr.c).length:Int))=false:=by simp
 replace hn:X=false:=by rw[hn,List.drop_length];rfl
 subst hn;clear hlt hk;repeat' ((conv=>whnf);first|with_reducible apply aK|((with_reducible apply fk)<;>intro hc<;>try exact aM)|((with_reducible apply And.intro);exact aG)|fail)
 all_goals exact aL
theorem qJ (p:Pn)(id:Int)(h:tK p):bE prog 15 [.agg p.c,uu id] (.dn [.agg (dm p id).c,bl (bg p id).isSome]):=by
 refine PC.le ?_;have c1:=A9 p id h;refine bN Lv ?_;repeat' ((conv=>whnf);first|with_reducible apply aK|((with_reducible apply fk)<;>intro hc<;>try exact aM)|(apply aC;(conv=>whnf);refine⟨_,c1,?_⟩)|((with_reducible apply And.intro);exact aG)|fail)
 all_goals exact aL
def aeC:Ch:=⟨0,0,0,0,0,0,[],[],[]⟩
def fD (n:Nat):Pn:=⟨0,1,List.replicate n aeC,[],[]⟩
def Iw:Pn:=⟨0,0,[],[],[]⟩
theorem VO (n:Int)(h:n<1∨3<n):bE prog 29 [ii n] (.dn [.agg Iw.c,ii 1]):=by
 refine PC.le ?_;have c1:=jC n 1 3;have e:bR n 1 3=false:=by unfold bR;rw[Bool.and_eq_false_iff];simp only[tq];omega
 rw[e] at c1;clear e;refine bN xR ?_;repeat' ((conv=>whnf);first|with_reducible apply aK|((with_reducible apply fk)<;>intro hc<;>try exact aM)|(apply aC;(conv=>whnf);refine⟨_,c1,?_⟩)|((with_reducible apply And.intro);exact aG)|fail)
 all_goals exact aL
theorem JW:bE prog 29 [ii 1] (.dn [.agg (fD 1).c,ii 0]):=by
 refine PC.le ?_;have c1:=jC 1 1 3;have e:bR 1 1 3=true:=by decide
 rw[e] at c1;clear e;refine bN xR ?_;repeat' ((conv=>whnf);first|with_reducible apply aK|((with_reducible apply fk)<;>intro hc<;>try exact aM)|(apply aC;(conv=>whnf);refine⟨_,c1,?_⟩)|((with_reducible apply And.intro);exact aG)|fail)
 all_goals exact aL
theorem VP:bE prog 29 [ii 2] (.dn [.agg (fD 2).c,ii 0]):=by
 refine PC.le ?_;have c1:=jC 2 1 3;have e:bR 2 1 3=true:=by decide
 rw[e] at c1;clear e;refine bN xR ?_;repeat' ((conv=>whnf);first|with_reducible apply aK|((with_reducible apply fk)<;>intro hc<;>try exact aM)|(apply aC;(conv=>whnf);refine⟨_,c1,?_⟩)|((with_reducible apply And.intro);exact aG)|fail)
 all_goals exact aL
theorem VQ:bE prog 29 [ii 3] (.dn [.agg (fD 3).c,ii 0]):=by
 refine PC.le ?_;have c1:=jC 3 1 3;have e:bR 3 1 3=true:=by decide
 rw[e] at c1;clear e;refine bN xR ?_;repeat' ((conv=>whnf);first|with_reducible apply aK|((with_reducible apply fk)<;>intro hc<;>try exact aM)|(apply aC;(conv=>whnf);refine⟨_,c1,?_⟩)|((with_reducible apply And.intro);exact aG)|fail)
 all_goals exact aL
theorem uj:Mg prog 10 f10:=bZ func10
theorem wS (n:Nat)(h1:1≤n)(h2:n≤3):gF (fD n):=by
 have hc:∀c∈(fD n).channels,c=aeC:=fun c hc=>(List.mem_replicate.1 hc).2
 have hf:(List.replicate n aeC).flatMap (·.af)=[]:=by
  rw[List.flatMap_eq_nil_iff];intro c hc;rw[(List.mem_replicate.1 hc).2];rfl
 refine⟨Int.le_refl 0,(by decide:(0:Int)≤4611686018427387903),Int.le_refl 1,(by decide:(1:Int)≤4611686018427387904),by simp[fD,h1],by simp[fD,h2],fun l hl=>(by cases hl),List.Pairwise.nil,by unfold gY fD;simp only;rw[hf];exact List.Perm.refl _,fun c hm=>?_,rfl,List.Pairwise.nil⟩;rw[hc c hm];refine⟨?_,Int.le_refl 0,Int.le_refl 0,fun e=>(by cases e)⟩;rw[←Jr];rfl
def Tx (l:List aV):PV:=.sl false 18 (l.map aV.c)
theorem um {o:aV}(h:ja o=false):ZK o:=by
 unfold ja at h;simp only[Bool.or_eq_false_iff,decide_eq_false_iff_not,List.length_map,List.any_eq_false,decide_eq_true_eq] at h;obtain⟨⟨a,b⟩,c⟩:=h;exact⟨by omega,fun x hx=>by have:=c x hx;omega,by omega⟩
def yK (n:Int)(l:List aV):Option Pn:=if n<1∨3<n∨80<l.length∨l.any ja=true then none else some (gT (fD n.toNat) l)
theorem Rw (n:Nat)(c1:bE prog 29 [ii (n:Int)] (.dn [.agg (fD n).c,ii 0]))(h1:1≤n)(h2:n≤3)(l:List aV)(hl:l.length≤80)(h0:∀o∈l,0≤o.at_) :
  bE prog 10 [ii (n:Int),Tx l] (.dn [.agg (if l.any ja then Iw else gT (fD n) l).c,bl (!l.any ja)]):=by
 refine PC.le ?_;have hm:((l.map aV.c).length:Int)=(l.length:Int):=by rw[List.length_map]
 have d80:decide (((l.map aV.c).length:Int)>80)=false:=by simp only[List.length_map,decide_eq_false_iff_not];omega
 obtain⟨X,hX⟩:∃X:Pn×Bool,X=(if l.any ja then Iw else gT (fD n) l,!l.any ja):=⟨_,rfl⟩;have e1:(if l.any ja then Iw else gT (fD n) l)=X.1:=by rw[hX]
 have e2:(!l.any ja)=X.2:=by rw[hX]
 rw[e1,e2];clear e1 e2 hm;refine bN uj ?_;repeat' ((conv=>whnf);first|with_reducible apply aK|((with_reducible apply fk)<;>intro hc<;>try exact aM)|(apply aC;(conv=>whnf);refine⟨_,c1,?_⟩)|((with_reducible apply And.intro);exact aG)|fail)
 refine⟨{k:Nat // k≤l.length∧∀j (hj:j<l.length),j<k→ja l[j]=false},fun⟨k,_⟩=>⟨[(1,.pv (Tx l)),(4,.ptr 1004 0),(6,.ptr 1006 0),(8,.pv (ii k))],1000000000,[(1004,.var (Iw.c.map .pv)),(1006,.var ((gT (fD n) (l.take k)).c.map .pv))]⟩,fun⟨k,_⟩=>l.length-k,⟨⟨0,by simp⟩,ak ?_⟩,?_⟩
 ·repeat' first
   |fail
   |with_reducible exact True.intro
   |with_reducible exact rfl
   |with_reducible exact ah _
   |((conv=>whnf);with_reducible apply And.intro)
   |((conv=>whnf);with_reducible exact True.intro)
   |exact rfl
   |exact fun h=>h
   |exact ah _
  all_goals try (conv=>whnf)
 rintro⟨k,hk,hn⟩
 dsimp only
 by_cases hlt:k<l.length
 ·have d0:decide ((k:Int)<((l.map aV.c).length:Int))=true:=by simp only[List.length_map,decide_eq_true_eq];omega
  have eW:IntKind.i64.wrap ((k:Int)+1)=((k+1:Nat):Int):=by rw[aO (by omega) (by omega)];omega
  have hr:=cu aV.c l k hlt;have hok:gF (gT (fD n) (l.take k)):=AA (wS n h1 h2) fun o ho=>h0 o (List.mem_of_mem_take ho)
  have cL:=lK l[k];cases hlo:ja l[k] with
  | true=>
    have hX2:X=(Iw,false):=by
     have:l.any ja=true:=List.any_eq_true.2 ⟨_,List.getElem_mem hlt,hlo⟩;rw[hX,this];rfl
    subst hX2;rw[hlo] at cL;generalize l[k]=o at *;generalize gT (fD n) (l.take k)=q at *;clear hX hn hok hlo d80 c1 h0;repeat' ((conv=>whnf);first|with_reducible apply aK|((with_reducible apply fk)<;>intro hc<;>try exact aM)|((refine⟨_,hr,?_⟩))|(apply aC;(conv=>whnf);refine⟨_,cL,?_⟩)|(((with_reducible apply And.intro);exact mg))|((with_reducible apply And.intro);exact aG)|fail)
    all_goals exact aL
  | false=>
    rw[hlo] at cL;have cA:=iM hok (um hlo);have hst:(aS (gT (fD n) (l.take k)) l[k]).1=gT (fD n) (l.take (k+1)):=by
     rw[List.take_succ_eq_append_getElem hlt];unfold gT;rw[List.foldl_append];rfl
    rw[hst] at cA;have hnx:∀j (hj:j<l.length),j<k+1→ja l[j]=false:=dS hn fun _=>hlo
    replace hnx:=Hd.mk hnx;generalize l[k]=o at *;generalize hq2:gT (fD n) (l.take (k+1))=q2 at *;replace hq2:=Hd.mk hq2;generalize gT (fD n) (l.take k)=q at *;clear hX hn hok hlo d80 c1 h0 hst;repeat' ((conv=>whnf);first|with_reducible apply aK|((with_reducible apply fk)<;>intro hc<;>try exact aM)|((refine⟨_,hr,?_⟩))|(apply aC;(conv=>whnf);refine⟨_,cL,?_⟩)|(apply aC;(conv=>whnf);refine⟨_,cA,?_⟩)|(((with_reducible apply And.intro);exact mg))|((with_reducible apply And.intro);exact aG)|fail)
    refine⟨⟨k+1,hlt,hnx.out⟩,dec_lt hlt,ak ?_⟩;dsimp only
    rw[hq2.out];repeat' first|((conv=>whnf);with_reducible apply And.intro)|exact aL|fail
    all_goals try (conv=>whnf)
    all_goals exact eW
 have hke:k=l.length:=by omega
 subst hke;have d0:decide ((l.length:Int)<((l.map aV.c).length:Int))=false:=by simp
 have hX2:X=(gT (fD n) l,true):=by
  have:l.any ja=false:=by
   rw[List.any_eq_false];intro o ho;obtain⟨j,hj,rfl⟩:=List.getElem_of_mem ho;rw[hn j hj hj];decide
  rw[hX,this];rfl
 subst hX2;rw[List.take_length] at *;clear hX hn d80 c1 h0 hlt hk;repeat' ((conv=>whnf);first|with_reducible apply aK|((with_reducible apply fk)<;>intro hc<;>try exact aM)|((with_reducible apply And.intro);exact aG)|fail)
 all_goals exact aL
theorem uI:Mg prog 90 f90:=bZ func90
theorem Zk {α:Type}[DecidableEq α]{a b:List α}(h:a.length≠b.length):decide (a=b)=false:=by
 rw[decide_eq_false_iff_not];rintro rfl;exact h rfl
theorem acT {α:Type}[DecidableEq α]{a b:List α}{k:Nat}(h1:k<a.length)(h2:k<b.length)(h:a[k]≠b[k]):decide (a=b)=false:=by
 rw[decide_eq_false_iff_not];rintro rfl;exact h rfl
theorem Zl {α:Type}[DecidableEq α]{a b:List α}(hl:a.length=b.length)(h:∀j (hj:j<a.length),j<a.length→a[j]=b[j]'(hl▸hj)):decide (a=b)=true:=by
 rw[decide_eq_true_eq];exact List.ext_getElem hl fun i h1 h2=>h i h1 h1
theorem Gz (a b:List Mk)(ha:a.length≤1000000):bE prog 90 [qp a,qp b] (bl (decide (a=b))):=by
 refine PC.le ?_;obtain⟨X,hX⟩:∃X,X=decide (a=b):=⟨_,rfl⟩;rw[←hX];by_cases hl:a.length=b.length
 ·have d1:(((a.map Mk.c).length:Int) != ((b.map Mk.c).length:Int))=false:=by simp[hl]
  refine bN uI ?_;repeat' ((conv=>whnf);first|with_reducible apply aK|((with_reducible apply fk)<;>intro hc<;>try exact aM)|((with_reducible apply And.intro);exact aG)|fail)
  refine⟨{k:Nat // k≤a.length∧∀j (hj:j<a.length),j<k→a[j]=b[j]'(hl▸hj)},fun⟨k,_⟩=>⟨[(0,.pv (qp a)),(1,.pv (qp b)),(5,.pv (ii k))],1000000000,[]⟩,fun⟨k,_⟩=>a.length-k,⟨⟨0,by simp⟩,ak ?_⟩,?_⟩
  ·repeat' first
    |fail
    |with_reducible exact True.intro
    |with_reducible exact rfl
    |with_reducible exact ah _
    |((conv=>whnf);with_reducible apply And.intro)
    |((conv=>whnf);with_reducible exact True.intro)
    |exact rfl
    |exact fun h=>h
    |exact ah _
   all_goals try (conv=>whnf)
  rintro⟨k,hk,hn⟩
  dsimp only
  clear d1;by_cases hlt:k<a.length
  ·have d0:decide ((k:Int)<((a.map Mk.c).length:Int))=true:=by simp only[List.length_map,decide_eq_true_eq];omega
   have eW:IntKind.i64.wrap ((k:Int)+1)=((k+1:Nat):Int):=by rw[aO (by omega) (by omega)];omega
   have hr1:=cu Mk.c a k hlt;have hr2:=cu Mk.c b k (hl▸hlt);have hb3:=Mk.aey a[k] (b[k]'(hl▸hlt));simp only[Mk.c] at hr1 hr2;by_cases he:a[k]=b[k]'(hl▸hlt)
   ·have hnx:=dS hn fun _=>he
    have hb4:(((a[k].producer==(b[k]'(hl▸hlt)).producer)&&((a[k].seq==(b[k]'(hl▸hlt)).seq)&&(a[k].offset==(b[k]'(hl▸hlt)).offset))))=true:=by rw[hb3];simpa using he
    replace hnx:=Hd.mk hnx;clear hb3 he hn hX;repeat' ((conv=>whnf);first|with_reducible apply aK|((with_reducible apply fk)<;>intro hc<;>try exact aM)|((refine⟨_,hr1,?_⟩))|((refine⟨_,hr2,?_⟩))|(((with_reducible apply And.intro);exact mg))|((with_reducible apply And.intro);exact aG)|fail)
    all_goals first
     |(exfalso;simp only[hb4,Bool.not_true,Bool.not_false,reduceCtorEq] at hc;done)
     |skip
    refine⟨⟨k+1,hlt,hnx.out⟩,dec_lt hlt,ak ?_⟩;repeat' first|((conv=>whnf);with_reducible apply And.intro)|exact aL|fail
    all_goals try (conv=>whnf)
    all_goals exact eW
   have hX2:X=false:=by rw[hX];exact acT hlt (hl▸hlt) he
   subst hX2;have hb4:(((a[k].producer==(b[k]'(hl▸hlt)).producer)&&((a[k].seq==(b[k]'(hl▸hlt)).seq)&&(a[k].offset==(b[k]'(hl▸hlt)).offset))))=false:=by rw[hb3];simpa using he
   clear hb3 he hn hX;repeat' ((conv=>whnf);first|with_reducible apply aK|((with_reducible apply fk)<;>intro hc<;>try exact aM)|((refine⟨_,hr1,?_⟩))|((refine⟨_,hr2,?_⟩))|(((with_reducible apply And.intro);exact mg))|((with_reducible apply And.intro);exact aG)|fail)
   all_goals first
    |(exfalso;simp only[hb4,Bool.not_true,Bool.not_false,reduceCtorEq] at hc;done)
    |skip
   all_goals exact aL
  have hke:k=a.length:=by omega
  subst hke;have d0:decide ((a.length:Int)<((a.map Mk.c).length:Int))=false:=by simp
  have hX2:X=true:=by rw[hX];exact Zl hl hn
  subst hX2;clear hX hn hlt hk;repeat' ((conv=>whnf);first|with_reducible apply aK|((with_reducible apply fk)<;>intro hc<;>try exact aM)|((with_reducible apply And.intro);exact aG)|fail)
  ·exfalso;rw[d0] at hc;cases hc
  repeat' first
   |fail
   |with_reducible exact True.intro
   |with_reducible exact rfl
   |with_reducible exact ah _
   |((conv=>whnf);with_reducible apply And.intro)
   |((conv=>whnf);with_reducible exact True.intro)
   |exact rfl
   |exact fun h=>h
   |exact ah _
  all_goals try (conv=>whnf)
 have d1:(((a.map Mk.c).length:Int) != ((b.map Mk.c).length:Int))=true:=by simp only[List.length_map,bne_iff_ne,ne_eq];omega
 have hX2:X=false:=by rw[hX];exact Zk hl
 subst hX2;clear hX hl;refine bN uI ?_;repeat' ((conv=>whnf);first|with_reducible apply aK|((with_reducible apply fk)<;>intro hc<;>try exact aM)|((with_reducible apply And.intro);exact aG)|fail)
 all_goals exact aL
theorem wU:Mg prog 17 f17:=bZ func17
theorem GA (p:Pn)(o:aV)(h:tK p)(ho:ZK o):bE prog 17 [.agg p.c,.agg o.c] (bl (j6 p&&(jW o&&gJ p o))):=by
 refine PC.le ?_;have c2:=nY p h;have c3:=ng o ho.fr ho.bk ho.sn;rw[ug] at c3;cases hp:j6 p with
 | false=>
   rw[hp] at c2;clear hp c3;refine bN wU ?_;repeat' ((conv=>whnf);first|with_reducible apply aK|((with_reducible apply fk)<;>intro hc<;>try exact aM)|(apply aC;(conv=>whnf);refine⟨_,c2,?_⟩)|((with_reducible apply And.intro);exact aG)|fail)
   all_goals exact aL
 | true=>
   rw[hp] at c2;cases hw:jW o with
   | false=>
     rw[hw] at c3;clear hp hw;refine bN wU ?_;repeat' ((conv=>whnf);first|with_reducible apply aK|((with_reducible apply fk)<;>intro hc<;>try exact aM)|(apply aC;(conv=>whnf);refine⟨_,c2,?_⟩)|(apply aC;(conv=>whnf);refine⟨_,c3,?_⟩)|((with_reducible apply And.intro);exact aG)|fail)
     all_goals exact aL
   | true=>
     have IW:=l7 hw;rw[hw] at c3;have c5:=oH p o h.channels IW.k1 IW.k2 fun e=>IW.ch (Zj IW.k1 IW.k2 e)
     clear hp hw IW;refine bN wU ?_;repeat' ((conv=>whnf);first|with_reducible apply aK|((with_reducible apply fk)<;>intro hc<;>try exact aM)|(apply aC;(conv=>whnf);refine⟨_,c2,?_⟩)|(apply aC;(conv=>whnf);refine⟨_,c3,?_⟩)|(apply aC;(conv=>whnf);refine⟨_,c5,?_⟩)|((with_reducible apply And.intro);exact aG)|fail)
     all_goals exact aL
theorem Cx:Mg prog 20 f20:=bZ func20
theorem og (a b:Lg)(s:Bool)(c:bE prog 46 [p8 a.aA,p8 b.aA] (bl (decide (a.aA=b.aA)))):bE prog 20 [.agg a.c,.agg b.c] (bl (decide (a=b))):=by
 refine PC.le ?_;have e:decide (a=b)=((a.id==b.id)&&((a.w==b.w)&&((a.a==b.a)&&((a.closed==b.closed)&&((a.last==b.last)&&decide (a.aA=b.aA)))))):=by
  rw[Bool.eq_iff_iff];obtain⟨_,_,_,_,_,_⟩:=a;obtain⟨_,_,_,_,_,_⟩:=b;simp;grind
 obtain⟨X,hX⟩:∃X,X=decide (a=b):=⟨_,rfl⟩;rw[←hX];rw[e] at hX;clear e;generalize decide (a.aA=b.aA)=z at *;refine bN Cx ?_;repeat' ((conv=>whnf);first|with_reducible apply aK|((with_reducible apply fk)<;>intro hc<;>try exact aM)|(apply aC;(conv=>whnf);refine⟨_,c,?_⟩)|((with_reducible apply And.intro);exact aG)|fail)
 all_goals
  simp only[*,Bool.true_and,Bool.false_and,Bool.and_true,Bool.and_false] at hX;subst hX;all_goals exact aL
theorem uJ:Mg prog 46 f46:=bZ func46
theorem pX (a b:List Fr)(ha:a.length≤1000000)(hab:∀x∈a,x.aI.length≤1000000):bE prog 46 [p8 a,p8 b] (bl (decide (a=b))):=by
 refine PC.le ?_;obtain⟨X,hX⟩:∃X,X=decide (a=b):=⟨_,rfl⟩;rw[←hX];by_cases hl:a.length=b.length
 ·have d1:(((a.map Fr.c).length:Int) != ((b.map Fr.c).length:Int))=false:=by simp[hl]
  refine bN uJ ?_;repeat' ((conv=>whnf);first|with_reducible apply aK|((with_reducible apply fk)<;>intro hc<;>try exact aM)|((with_reducible apply And.intro);exact aG)|fail)
  refine⟨{k:Nat // k≤a.length∧∀j (hj:j<a.length),j<k→a[j]=b[j]'(hl▸hj)},fun⟨k,_⟩=>⟨[(0,.pv (p8 a)),(1,.pv (p8 b)),(5,.pv (ii k))],1000000000,[]⟩,fun⟨k,_⟩=>a.length-k,⟨⟨0,by simp⟩,ak ?_⟩,?_⟩
  ·repeat' first
    |fail
    |with_reducible exact True.intro
    |with_reducible exact rfl
    |with_reducible exact ah _
    |((conv=>whnf);with_reducible apply And.intro)
    |((conv=>whnf);with_reducible exact True.intro)
    |exact rfl
    |exact fun h=>h
    |exact ah _
   all_goals try (conv=>whnf)
  rintro⟨k,hk,hn⟩
  dsimp only
  clear d1;by_cases hlt:k<a.length
  ·have d0:decide ((k:Int)<((a.map Fr.c).length:Int))=true:=by simp only[List.length_map,decide_eq_true_eq];omega
   have eW:IntKind.i64.wrap ((k:Int)+1)=((k+1:Nat):Int):=by rw[aO (by omega) (by omega)];omega
   have hr1:=cu Fr.c a k hlt;have hr2:=cu Fr.c b k (hl▸hlt);have hxb:=hab _ (List.getElem_mem hlt);have hnx:a[k]=b[k]'(hl▸hlt)→∀j (hj:j<a.length),j<k+1→a[j]=b[j]'(hl▸hj):=fun he=>dS hn fun _=>he
   have GQ:a[k]≠b[k]'(hl▸hlt)→X=false:=fun he=>by rw[hX];exact acT hlt (hl▸hlt) he
   replace hnx:=Hd.mk hnx;replace GQ:=Hd.mk GQ;generalize hx:a[k]=x at *;generalize hy:b[k]'(hl▸hlt)=y at *;clear hn hX hx hy;simp only[Fr.c,vP] at hr1 hr2;repeat' ((conv=>whnf);first|with_reducible apply aK|((with_reducible apply fk)<;>intro hc<;>try exact aM)|((refine⟨_,hr1,?_⟩))|((refine⟨_,hr2,?_⟩))|(((with_reducible apply And.intro);exact mg))|((with_reducible apply And.intro);exact aG)|fail)
   ·rename_i hq1;have hX2:=GQ.out (fun e=>by rw[e] at hq1;simp at hq1);subst hX2;all_goals exact aL
   ·have hX2:=GQ.out (fun e=>by rw[e] at hc;simp at hc);subst hX2;all_goals exact aL
   rename_i hfe;have Rx:x.first=y.first:=by simpa using hfe
   have hlb:x.aI.length=y.aI.length:=by
    have:(x.aI.length:Int)=(y.aI.length:Int):=by simpa using hc
    omega
   clear hfe hc;refine⟨{m:Nat // m≤x.aI.length∧∀i (hi:i<x.aI.length),i<m→x.aI[i]=y.aI[i]'(hlb▸hi)},fun⟨m,_⟩=>⟨[(0,.pv (p8 a)),(1,.pv (p8 b)),(5,.pv (ii k)),(6,.pv (ii m))],1000000000,[]⟩,fun⟨m,_⟩=>x.aI.length-m,⟨⟨0,by simp⟩,ak ?_⟩,?_⟩
   ·repeat' first
     |fail
     |with_reducible exact True.intro
     |with_reducible exact rfl
     |with_reducible exact ah _
     |((conv=>whnf);with_reducible apply And.intro)
     |((conv=>whnf);with_reducible exact True.intro)
     |exact rfl
     |exact fun h=>h
     |exact ah _
    all_goals try (conv=>whnf)
   rintro⟨m,hm,hq⟩
   dsimp only
   by_cases hmt:m<x.aI.length
   ·have d2:decide ((m:Int)<((x.aI.map Pl.c).length:Int))=true:=by simp only[List.length_map,decide_eq_true_eq];omega
    have eM:IntKind.i64.wrap ((m:Int)+1)=((m+1:Nat):Int):=by rw[aO (by omega) (by omega)];omega
    have hp1:=cu Pl.c x.aI m hmt;have hp2:=cu Pl.c y.aI m (hlb▸hmt);have hbq:=Pl.beq x.aI[m] (y.aI[m]'(hlb▸hmt));simp only[Pl.c] at hp1 hp2;by_cases he:x.aI[m]=y.aI[m]'(hlb▸hmt)
    ·have hmx:=dS hq fun _=>he
     rw[beq_iff_eq.2 he] at hbq;replace hmx:=Hd.mk hmx;replace Rx:=Hd.mk Rx;clear he hq;repeat' ((conv=>whnf);first|with_reducible apply aK|((with_reducible apply fk)<;>intro hc<;>try exact aM)|((refine⟨_,hr1,?_⟩))|((refine⟨_,hr2,?_⟩))|((refine⟨_,hp1,?_⟩))|((refine⟨_,hp2,?_⟩))|(((with_reducible apply And.intro);exact mg))|((with_reducible apply And.intro);exact aG)|fail)
     all_goals first
      |(exfalso;simp only[hbq,Bool.not_true,Bool.not_false,reduceCtorEq] at hc;done)
      |skip
     refine⟨⟨m+1,hmt,hmx.out⟩,dec_lt hmt,ak ?_⟩;repeat' first|((conv=>whnf);with_reducible apply And.intro)|exact aL|fail
     all_goals try (conv=>whnf)
     all_goals exact eM
    have hX2:=GQ.out (fun e=>by subst e;exact he rfl);subst hX2;rw[beq_eq_false_iff_ne.2 he] at hbq;replace Rx:=Hd.mk Rx;clear he hq;repeat' ((conv=>whnf);first|with_reducible apply aK|((with_reducible apply fk)<;>intro hc<;>try exact aM)|((refine⟨_,hr1,?_⟩))|((refine⟨_,hr2,?_⟩))|((refine⟨_,hp1,?_⟩))|((refine⟨_,hp2,?_⟩))|(((with_reducible apply And.intro);exact mg))|((with_reducible apply And.intro);exact aG)|fail)
    all_goals first
     |(exfalso;simp only[hbq,Bool.not_true,Bool.not_false,reduceCtorEq] at hc;done)
     |skip
    all_goals exact aL
   have hme:m=x.aI.length:=by omega
   subst hme;have hxy:x=y:=by
    have uM:x.aI=y.aI:=List.ext_getElem hlb fun i h1 h2=>hq i h1 h1
    obtain⟨_,_⟩:=x;obtain⟨_,_⟩:=y;simp only at Rx uM;rw[Rx,uM]
   have hnx2:=hnx.out hxy;have d2:decide ((x.aI.length:Int)<((x.aI.map Pl.c).length:Int))=false:=by simp
   replace hnx2:=Hd.mk hnx2;clear hq hmt hm Rx hxy;replace hlb:=Hd.mk hlb;repeat' ((conv=>whnf);first|with_reducible apply aK|((with_reducible apply fk)<;>intro hc<;>try exact aM)|((refine⟨_,hr1,?_⟩))|(((with_reducible apply And.intro);exact mg))|((with_reducible apply And.intro);exact aG)|fail)
   all_goals first
    |(exfalso;rw[d2] at hc;cases hc;done)
    |skip
   refine⟨⟨k+1,hlt,hnx2.out⟩,dec_lt hlt,ak ?_⟩;repeat' first|((conv=>whnf);with_reducible apply And.intro)|exact aL|fail
   all_goals try (conv=>whnf)
   all_goals exact eW
  have hke:k=a.length:=by omega
  subst hke;have d0:decide ((a.length:Int)<((a.map Fr.c).length:Int))=false:=by simp
  have hX2:X=true:=by rw[hX];exact Zl hl hn
  subst hX2;clear hX hn hlt hk;repeat' ((conv=>whnf);first|with_reducible apply aK|((with_reducible apply fk)<;>intro hc<;>try exact aM)|((with_reducible apply And.intro);exact aG)|fail)
  ·exfalso;rw[d0] at hc;cases hc
  repeat' first
   |fail
   |with_reducible exact True.intro
   |with_reducible exact rfl
   |with_reducible exact ah _
   |((conv=>whnf);with_reducible apply And.intro)
   |((conv=>whnf);with_reducible exact True.intro)
   |exact rfl
   |exact fun h=>h
   |exact ah _
  all_goals try (conv=>whnf)
 have d1:(((a.map Fr.c).length:Int) != ((b.map Fr.c).length:Int))=true:=by simp only[List.length_map,bne_iff_ne,ne_eq];omega
 have hX2:X=false:=by rw[hX];exact Zk hl
 subst hX2;clear hX hl;refine bN uJ ?_;repeat' ((conv=>whnf);first|with_reducible apply aK|((with_reducible apply fk)<;>intro hc<;>try exact aM)|((with_reducible apply And.intro);exact aG)|fail)
 all_goals exact aL
theorem Bh:Mg prog 38 f38:=bZ func38
theorem Cu.ajl (x y:Cu):((x.sub==y.sub)&&(x.at_==y.at_))=(x==y):=by
 rw[Bool.eq_iff_iff];obtain⟨_,_⟩:=x;obtain⟨_,_⟩:=y;simp
theorem sD (a b:Ch)(hal:a.af.length≤1000000)(hac:a.au.length≤1000000)(has:a.seen.length≤1000000):bE prog 38 [.agg a.c,.agg b.c] (bl (decide (a=b))):=by
 refine PC.le ?_;have cM:=Gz a.seen b.seen has;obtain⟨X,hX⟩:∃X,X=decide (a=b):=⟨_,rfl⟩;rw[←hX];have GQ:a≠b→X=false:=fun he=>by rw[hX];simpa using he
 replace hX:=Hd.mk hX;replace GQ:=Hd.mk GQ;generalize hsm:decide (a.seen=b.seen)=sm at *;refine bN Bh ?_;repeat' ((conv=>whnf);first|with_reducible apply aK|((with_reducible apply fk)<;>intro hc<;>try exact aM)|(apply aC;(conv=>whnf);refine⟨_,cM,?_⟩)|((with_reducible apply And.intro);exact aG)|fail)
 iterate 9
  ·have hX2:=GQ.out (fun e=>by subst e;clear cM;simp_all);subst hX2;all_goals exact aL
 have hE:a.aY=b.aY∧a.owner=b.owner∧a.inc=b.inc∧a.eB=b.eB∧a.first=b.first∧a.trim=b.trim∧(a.af.length:Int)=b.af.length∧(a.au.length:Int)=b.au.length∧a.seen=b.seen:=by
  clear cM hX GQ;simp_all
 obtain⟨e1,e2,e3,e4,e5,e6,e7,e8,e9⟩:=hE;have hl:a.af.length=b.af.length:=by omega
 have hk:a.au.length=b.au.length:=by omega
 have hfin:a.af=b.af→a.au=b.au→a=b:=by
  clear cM hX GQ;intro h1 h2;obtain⟨_,_,_,_,_,_,_,_,_⟩:=a;obtain⟨_,_,_,_,_,_,_,_,_⟩:=b;simp only at e1 e2 e3 e4 e5 e6 e9 h1 h2;rw[e1,e2,e3,e4,e5,e6,e9,h1,h2]
 replace hfin:=Hd.mk hfin;clear cM e1 e2 e3 e4 e5 e6 e7 e8 e9 hsm;refine⟨{k:Nat // k≤a.af.length∧∀j (hj:j<a.af.length),j<k→a.af[j]=b.af[j]'(hl▸hj)},fun⟨k,_⟩=>⟨[(2,.ptr 1002 0),(3,.ptr 1003 0),(5,.pv (ii k))],1000000000,[(1002,.var (a.c.map .pv)),(1003,.var (b.c.map .pv))]⟩,fun⟨k,_⟩=>a.af.length-k,⟨⟨0,by simp⟩,ak ?_⟩,?_⟩
 ·repeat' first
   |fail
   |with_reducible exact True.intro
   |with_reducible exact rfl
   |with_reducible exact ah _
   |((conv=>whnf);with_reducible apply And.intro)
   |((conv=>whnf);with_reducible exact True.intro)
   |exact rfl
   |exact fun h=>h
   |exact ah _
  all_goals try (conv=>whnf)
 rintro⟨k,hkl,hn⟩
 dsimp only
 by_cases hlt:k<a.af.length
 ·have d0:decide ((k:Int)<((a.af.map dh).length:Int))=true:=by simp only[List.length_map,decide_eq_true_eq];omega
  have eW:IntKind.i64.wrap ((k:Int)+1)=((k+1:Nat):Int):=by rw[aO (by omega) (by omega)];omega
  have hr1:=cu dh a.af k hlt;have hr2:=cu dh b.af k (hl▸hlt);simp only[dh] at hr1 hr2;by_cases he:a.af[k]=b.af[k]'(hl▸hlt)
  ·have hnx:=dS hn fun _=>he
   have hb4:(a.af[k]==b.af[k]'(hl▸hlt))=true:=by rw[he];simp
   replace hnx:=Hd.mk hnx;clear he hn;repeat' ((conv=>whnf);first|with_reducible apply aK|((with_reducible apply fk)<;>intro hc<;>try exact aM)|((refine⟨_,hr1,?_⟩))|((refine⟨_,hr2,?_⟩))|(((with_reducible apply And.intro);exact mg))|((with_reducible apply And.intro);exact aG)|fail)
   all_goals first
    |(exfalso;simp only[bne,hb4,Bool.not_true,Bool.not_false,reduceCtorEq] at hc;done)
    |skip
   refine⟨⟨k+1,hlt,hnx.out⟩,dec_lt hlt,ak ?_⟩;repeat' first|((conv=>whnf);with_reducible apply And.intro)|exact aL|fail
   all_goals try (conv=>whnf)
   all_goals exact eW
  have hX2:=GQ.out (fun e=>by subst e;exact he rfl);subst hX2;have hb4:(a.af[k]==b.af[k]'(hl▸hlt))=false:=by simpa using he
  clear he hn;repeat' ((conv=>whnf);first|with_reducible apply aK|((with_reducible apply fk)<;>intro hc<;>try exact aM)|((refine⟨_,hr1,?_⟩))|((refine⟨_,hr2,?_⟩))|(((with_reducible apply And.intro);exact mg))|((with_reducible apply And.intro);exact aG)|fail)
  all_goals first
   |(exfalso;simp only[bne,hb4,Bool.not_true,Bool.not_false,reduceCtorEq] at hc;done)
   |skip
  all_goals exact aL
 have hke:k=a.af.length:=by omega
 subst hke;have d0:decide ((a.af.length:Int)<((a.af.map dh).length:Int))=false:=by simp
 have hq5:a.af=b.af:=List.ext_getElem hl fun i h1 h2=>hn i h1 h1
 replace hq5:=Hd.mk hq5;clear hn hlt hkl;repeat' ((conv=>whnf);first|with_reducible apply aK|((with_reducible apply fk)<;>intro hc<;>try exact aM)|((with_reducible apply And.intro);exact aG)|fail)
 all_goals first
  |(exfalso;rw[d0] at hc;cases hc;done)
  |skip
 refine⟨{k:Nat // k≤a.au.length∧∀j (hj:j<a.au.length),j<k→a.au[j]=b.au[j]'(hk▸hj)},fun⟨k,_⟩=>⟨[(2,.ptr 1002 0),(3,.ptr 1003 0),(6,.pv (ii k))],1000000000,[(1002,.var (a.c.map .pv)),(1003,.var (b.c.map .pv))]⟩,fun⟨k,_⟩=>a.au.length-k,⟨⟨0,by simp⟩,ak ?_⟩,?_⟩
 ·repeat' first
   |fail
   |with_reducible exact True.intro
   |with_reducible exact rfl
   |with_reducible exact ah _
   |((conv=>whnf);with_reducible apply And.intro)
   |((conv=>whnf);with_reducible exact True.intro)
   |exact rfl
   |exact fun h=>h
   |exact ah _
  all_goals try (conv=>whnf)
 rintro⟨k,hkl,hn⟩
 dsimp only
 by_cases hlt:k<a.au.length
 ·have d0:decide ((k:Int)<((a.au.map Cu.c).length:Int))=true:=by simp only[List.length_map,decide_eq_true_eq];omega
  have eW:IntKind.i64.wrap ((k:Int)+1)=((k+1:Nat):Int):=by rw[aO (by omega) (by omega)];omega
  have hr1:=cu Cu.c a.au k hlt;have hr2:=cu Cu.c b.au k (hk▸hlt);simp only[Cu.c] at hr1 hr2;by_cases he:a.au[k]=b.au[k]'(hk▸hlt)
  ·have hnx:=dS hn fun _=>he
   have hb4:((a.au[k].sub==(b.au[k]'(hk▸hlt)).sub)&&(a.au[k].at_==(b.au[k]'(hk▸hlt)).at_))=true:=by rw[he];simp
   replace hnx:=Hd.mk hnx;clear he hn;repeat' ((conv=>whnf);first|with_reducible apply aK|((with_reducible apply fk)<;>intro hc<;>try exact aM)|((refine⟨_,hr1,?_⟩))|((refine⟨_,hr2,?_⟩))|(((with_reducible apply And.intro);exact mg))|((with_reducible apply And.intro);exact aG)|fail)
   all_goals first
    |(exfalso;simp only[bne,hb4,Bool.not_true,Bool.not_false,reduceCtorEq] at hc;done)
    |skip
   refine⟨⟨k+1,hlt,hnx.out⟩,dec_lt hlt,ak ?_⟩;repeat' first|((conv=>whnf);with_reducible apply And.intro)|exact aL|fail
   all_goals try (conv=>whnf)
   all_goals exact eW
  have hX2:=GQ.out (fun e=>by subst e;exact he rfl);subst hX2;have hb4:((a.au[k].sub==(b.au[k]'(hk▸hlt)).sub)&&(a.au[k].at_==(b.au[k]'(hk▸hlt)).at_))=false:=by rw[Cu.ajl];simpa using he
  clear he hn;repeat' ((conv=>whnf);first|with_reducible apply aK|((with_reducible apply fk)<;>intro hc<;>try exact aM)|((refine⟨_,hr1,?_⟩))|((refine⟨_,hr2,?_⟩))|(((with_reducible apply And.intro);exact mg))|((with_reducible apply And.intro);exact aG)|fail)
  all_goals first
   |(exfalso;simp only[bne,hb4,Bool.not_true,Bool.not_false,reduceCtorEq] at hc;done)
   |skip
  all_goals exact aL
 have hke:k=a.au.length:=by omega
 subst hke;have d0:decide ((a.au.length:Int)<((a.au.map Cu.c).length:Int))=false:=by simp
 have hq6:a.au=b.au:=List.ext_getElem hk fun i h1 h2=>hn i h1 h1
 replace hq6:=Hd.mk hq6;clear hn hlt hkl;repeat' ((conv=>whnf);first|with_reducible apply aK|((with_reducible apply fk)<;>intro hc<;>try exact aM)|((with_reducible apply And.intro);exact aG)|fail)
 all_goals first
  |(exfalso;rw[d0] at hc;cases hc;done)
  |skip
 have hX2:X=true:=by rw[hX.out];simpa using hfin.out hq5.out hq6.out
 subst hX2;all_goals exact aL
theorem Ry:Mg prog 16 f16:=bZ func16
theorem Pa.agX (x y:Pa):((x.who==y.who)&&((x.inc==y.inc)&&((x.n==y.n)&&((x.out.code==y.out.code)&&((x.out.aY==y.out.aY)&&((x.out.at_==y.out.at_)&&((x.out.bA==y.out.bA)&&(x.out.owner==y.out.owner))))))))=(x==y):=by
 rw[Bool.eq_iff_iff];obtain⟨_,_,_,⟨_,_,_,_,_⟩⟩:=x;obtain⟨_,_,_,⟨_,_,_,_,_⟩⟩:=y;simp;try grind
theorem oV (a b:Pn)(h:tK a):bE prog 16 [.agg a.c,.agg b.c] (bl (decide (a=b))):=by
 refine PC.le ?_;have hlc:=h.channels;have hll:=h.af;have hlp:=h.past;obtain⟨X,hX⟩:∃X,X=decide (a=b):=⟨_,rfl⟩;rw[←hX];have GQ:a≠b→X=false:=fun he=>by rw[hX];simpa using he
 replace hX:=Hd.mk hX;replace GQ:=Hd.mk GQ;refine bN Ry ?_;repeat' ((conv=>whnf);first|with_reducible apply aK|((with_reducible apply fk)<;>intro hc<;>try exact aM)|((with_reducible apply And.intro);exact aG)|fail)
 iterate 5
  ·have hX2:=GQ.out (fun e=>by subst e;simp_all);subst hX2;all_goals exact aL
 have hE:a.version=b.version∧a.next=b.next∧(a.channels.length:Int)=b.channels.length∧(a.af.length:Int)=b.af.length∧(a.past.length:Int)=b.past.length:=by
  clear hX GQ h;simp_all
 obtain⟨e1,e2,e3,e4,e5⟩:=hE;have hl:a.channels.length=b.channels.length:=by omega
 have hk:a.af.length=b.af.length:=by omega
 have hp:a.past.length=b.past.length:=by omega
 have hfin:a.channels=b.channels→a.af=b.af→a.past=b.past→a=b:=by
  clear hX GQ h;intro h1 h2 h3;obtain⟨_,_,_,_,_⟩:=a;obtain⟨_,_,_,_,_⟩:=b;simp only at e1 e2 h1 h2 h3;rw[e1,e2,h1,h2,h3]
 replace hfin:=Hd.mk hfin;clear e1 e2 e3 e4 e5;refine⟨{k:Nat // k≤a.channels.length∧∀j (hj:j<a.channels.length),j<k→a.channels[j]=b.channels[j]'(hl▸hj)},fun⟨k,_⟩=>⟨[(2,.ptr 1002 0),(3,.ptr 1003 0),(5,.pv (ii k))],1000000000,[(1002,.var (a.c.map .pv)),(1003,.var (b.c.map .pv))]⟩,fun⟨k,_⟩=>a.channels.length-k,⟨⟨0,by simp⟩,ak ?_⟩,?_⟩
 ·repeat' first
   |fail
   |with_reducible exact True.intro
   |with_reducible exact rfl
   |with_reducible exact ah _
   |((conv=>whnf);with_reducible apply And.intro)
   |((conv=>whnf);with_reducible exact True.intro)
   |exact rfl
   |exact fun h=>h
   |exact ah _
  all_goals try (conv=>whnf)
 rintro⟨k,hkl,hn⟩
 dsimp only
 by_cases hlt:k<a.channels.length
 ·have d0:decide ((k:Int)<((a.channels.map Ch.c).length:Int))=true:=by simp only[List.length_map,decide_eq_true_eq];omega
  have eW:IntKind.i64.wrap ((k:Int)+1)=((k+1:Nat):Int):=by rw[aO (by omega) (by omega)];omega
  have hr1:=cu Ch.c a.channels k hlt;have hr2:=cu Ch.c b.channels k (hl▸hlt);by_cases he:a.channels[k]=b.channels[k]'(hl▸hlt)
  ·have hnx:=dS hn fun _=>he
   have cX:=sD a.channels[k] (b.channels[k]'(hl▸hlt)) (h.ch _ (List.getElem_mem hlt)).af (h.ch _ (List.getElem_mem hlt)).au (h.ch _ (List.getElem_mem hlt)).seen;rw[show decide (a.channels[k]=b.channels[k]'(hl▸hlt))=true from by simpa using he] at cX;replace hnx:=Hd.mk hnx;clear he hn;repeat' ((conv=>whnf);first|with_reducible apply aK|((with_reducible apply fk)<;>intro hc<;>try exact aM)|((refine⟨_,hr1,?_⟩))|((refine⟨_,hr2,?_⟩))|(((with_reducible apply And.intro);exact mg))|(apply aC;(conv=>whnf);refine⟨_,cX,?_⟩)|((with_reducible apply And.intro);exact aG)|fail)
   refine⟨⟨k+1,hlt,hnx.out⟩,dec_lt hlt,ak ?_⟩;repeat' first|((conv=>whnf);with_reducible apply And.intro)|exact aL|fail
   all_goals try (conv=>whnf)
   all_goals exact eW
  have hX2:=GQ.out (fun e=>by subst e;exact he rfl);subst hX2;have cX:=sD a.channels[k] (b.channels[k]'(hl▸hlt)) (h.ch _ (List.getElem_mem hlt)).af (h.ch _ (List.getElem_mem hlt)).au (h.ch _ (List.getElem_mem hlt)).seen;rw[show decide (a.channels[k]=b.channels[k]'(hl▸hlt))=false from by simpa using he] at cX;clear he hn;repeat' ((conv=>whnf);first|with_reducible apply aK|((with_reducible apply fk)<;>intro hc<;>try exact aM)|((refine⟨_,hr1,?_⟩))|((refine⟨_,hr2,?_⟩))|(((with_reducible apply And.intro);exact mg))|(apply aC;(conv=>whnf);refine⟨_,cX,?_⟩)|((with_reducible apply And.intro);exact aG)|fail)
  all_goals exact aL
 have hke:k=a.channels.length:=by omega
 subst hke;have d0:decide ((a.channels.length:Int)<((a.channels.map Ch.c).length:Int))=false:=by simp
 have hq5:a.channels=b.channels:=List.ext_getElem hl fun i h1 h2=>hn i h1 h1
 replace hq5:=Hd.mk hq5;clear hn hlt hkl;repeat' ((conv=>whnf);first|with_reducible apply aK|((with_reducible apply fk)<;>intro hc<;>try exact aM)|((with_reducible apply And.intro);exact aG)|fail)
 all_goals first
  |(exfalso;rw[d0] at hc;cases hc;done)
  |skip
 refine⟨{k:Nat // k≤a.af.length∧∀j (hj:j<a.af.length),j<k→a.af[j]=b.af[j]'(hk▸hj)},fun⟨k,_⟩=>⟨[(2,.ptr 1002 0),(3,.ptr 1003 0),(6,.pv (ii k))],1000000000,[(1002,.var (a.c.map .pv)),(1003,.var (b.c.map .pv))]⟩,fun⟨k,_⟩=>a.af.length-k,⟨⟨0,by simp⟩,ak ?_⟩,?_⟩
 ·repeat' first
   |fail
   |with_reducible exact True.intro
   |with_reducible exact rfl
   |with_reducible exact ah _
   |((conv=>whnf);with_reducible apply And.intro)
   |((conv=>whnf);with_reducible exact True.intro)
   |exact rfl
   |exact fun h=>h
   |exact ah _
  all_goals try (conv=>whnf)
 rintro⟨k,hkl,hn⟩
 dsimp only
 by_cases hlt:k<a.af.length
 ·have d0:decide ((k:Int)<((a.af.map Lg.c).length:Int))=true:=by simp only[List.length_map,decide_eq_true_eq];omega
  have eW:IntKind.i64.wrap ((k:Int)+1)=((k+1:Nat):Int):=by rw[aO (by omega) (by omega)];omega
  have hr1:=cu Lg.c a.af k hlt;have hr2:=cu Lg.c b.af k (hk▸hlt);by_cases he:a.af[k]=b.af[k]'(hk▸hlt)
  ·have hnx:=dS hn fun _=>he
   have cX:=og a.af[k] (b.af[k]'(hk▸hlt)) true (pX _ _ (h.lg _ (List.getElem_mem hlt)).aA (h.lg _ (List.getElem_mem hlt)).aI);rw[show decide (a.af[k]=b.af[k]'(hk▸hlt))=true from by simpa using he] at cX;replace hnx:=Hd.mk hnx;clear he hn;repeat' ((conv=>whnf);first|with_reducible apply aK|((with_reducible apply fk)<;>intro hc<;>try exact aM)|((refine⟨_,hr1,?_⟩))|((refine⟨_,hr2,?_⟩))|(((with_reducible apply And.intro);exact mg))|(apply aC;(conv=>whnf);refine⟨_,cX,?_⟩)|((with_reducible apply And.intro);exact aG)|fail)
   refine⟨⟨k+1,hlt,hnx.out⟩,dec_lt hlt,ak ?_⟩;repeat' first|((conv=>whnf);with_reducible apply And.intro)|exact aL|fail
   all_goals try (conv=>whnf)
   all_goals exact eW
  have hX2:=GQ.out (fun e=>by subst e;exact he rfl);subst hX2;have cX:=og a.af[k] (b.af[k]'(hk▸hlt)) true (pX _ _ (h.lg _ (List.getElem_mem hlt)).aA (h.lg _ (List.getElem_mem hlt)).aI);rw[show decide (a.af[k]=b.af[k]'(hk▸hlt))=false from by simpa using he] at cX;clear he hn;repeat' ((conv=>whnf);first|with_reducible apply aK|((with_reducible apply fk)<;>intro hc<;>try exact aM)|((refine⟨_,hr1,?_⟩))|((refine⟨_,hr2,?_⟩))|(((with_reducible apply And.intro);exact mg))|(apply aC;(conv=>whnf);refine⟨_,cX,?_⟩)|((with_reducible apply And.intro);exact aG)|fail)
  all_goals exact aL
 have hke:k=a.af.length:=by omega
 subst hke;have d0:decide ((a.af.length:Int)<((a.af.map Lg.c).length:Int))=false:=by simp
 have hq6:a.af=b.af:=List.ext_getElem hk fun i h1 h2=>hn i h1 h1
 replace hq6:=Hd.mk hq6;clear hn hlt hkl;repeat' ((conv=>whnf);first|with_reducible apply aK|((with_reducible apply fk)<;>intro hc<;>try exact aM)|((with_reducible apply And.intro);exact aG)|fail)
 all_goals first
  |(exfalso;rw[d0] at hc;cases hc;done)
  |skip
 refine⟨{k:Nat // k≤a.past.length∧∀j (hj:j<a.past.length),j<k→a.past[j]=b.past[j]'(hp▸hj)},fun⟨k,_⟩=>⟨[(2,.ptr 1002 0),(3,.ptr 1003 0),(7,.pv (ii k))],1000000000,[(1002,.var (a.c.map .pv)),(1003,.var (b.c.map .pv))]⟩,fun⟨k,_⟩=>a.past.length-k,⟨⟨0,by simp⟩,ak ?_⟩,?_⟩
 ·repeat' first
   |fail
   |with_reducible exact True.intro
   |with_reducible exact rfl
   |with_reducible exact ah _
   |((conv=>whnf);with_reducible apply And.intro)
   |((conv=>whnf);with_reducible exact True.intro)
   |exact rfl
   |exact fun h=>h
   |exact ah _
  all_goals try (conv=>whnf)
 rintro⟨k,hkl,hn⟩
 dsimp only
 by_cases hlt:k<a.past.length
 ·have d0:decide ((k:Int)<((a.past.map Pa.c).length:Int))=true:=by simp only[List.length_map,decide_eq_true_eq];omega
  have eW:IntKind.i64.wrap ((k:Int)+1)=((k+1:Nat):Int):=by rw[aO (by omega) (by omega)];omega
  have hr1:=cu Pa.c a.past k hlt;have hr2:=cu Pa.c b.past k (hp▸hlt);simp only[Pa.c] at hr1 hr2;by_cases he:a.past[k]=b.past[k]'(hp▸hlt)
  ·have hnx:=dS hn fun _=>he
   have hb4:((a.past[k].who==(b.past[k]'(hp▸hlt)).who)&&((a.past[k].inc==(b.past[k]'(hp▸hlt)).inc)&&((a.past[k].n==(b.past[k]'(hp▸hlt)).n)&&((a.past[k].out.code==(b.past[k]'(hp▸hlt)).out.code)&&((a.past[k].out.aY==(b.past[k]'(hp▸hlt)).out.aY)&&((a.past[k].out.at_==(b.past[k]'(hp▸hlt)).out.at_)&&((a.past[k].out.bA==(b.past[k]'(hp▸hlt)).out.bA)&&(a.past[k].out.owner==(b.past[k]'(hp▸hlt)).out.owner))))))))=true:=by rw[Pa.agX];simpa using he
   replace hnx:=Hd.mk hnx;clear he hn;repeat' ((conv=>whnf);first|with_reducible apply aK|((with_reducible apply fk)<;>intro hc<;>try exact aM)|((refine⟨_,hr1,?_⟩))|((refine⟨_,hr2,?_⟩))|(((with_reducible apply And.intro);exact mg))|((with_reducible apply And.intro);exact aG)|fail)
   all_goals first
    |(exfalso;simp only[bne,hb4,Bool.not_true,Bool.not_false,reduceCtorEq] at hc;done)
    |skip
   refine⟨⟨k+1,hlt,hnx.out⟩,dec_lt hlt,ak ?_⟩;repeat' first|((conv=>whnf);with_reducible apply And.intro)|exact aL|fail
   all_goals try (conv=>whnf)
   all_goals exact eW
  have hX2:=GQ.out (fun e=>by subst e;exact he rfl);subst hX2;have hb4:((a.past[k].who==(b.past[k]'(hp▸hlt)).who)&&((a.past[k].inc==(b.past[k]'(hp▸hlt)).inc)&&((a.past[k].n==(b.past[k]'(hp▸hlt)).n)&&((a.past[k].out.code==(b.past[k]'(hp▸hlt)).out.code)&&((a.past[k].out.aY==(b.past[k]'(hp▸hlt)).out.aY)&&((a.past[k].out.at_==(b.past[k]'(hp▸hlt)).out.at_)&&((a.past[k].out.bA==(b.past[k]'(hp▸hlt)).out.bA)&&(a.past[k].out.owner==(b.past[k]'(hp▸hlt)).out.owner))))))))=false:=by rw[Pa.agX];simpa using he
  clear he hn;repeat' ((conv=>whnf);first|with_reducible apply aK|((with_reducible apply fk)<;>intro hc<;>try exact aM)|((refine⟨_,hr1,?_⟩))|((refine⟨_,hr2,?_⟩))|(((with_reducible apply And.intro);exact mg))|((with_reducible apply And.intro);exact aG)|fail)
  all_goals first
   |(exfalso;simp only[bne,hb4,Bool.not_true,Bool.not_false,reduceCtorEq] at hc;done)
   |skip
  all_goals exact aL
 have hke:k=a.past.length:=by omega
 subst hke;have d0:decide ((a.past.length:Int)<((a.past.map Pa.c).length:Int))=false:=by simp
 have hq7:a.past=b.past:=List.ext_getElem hp fun i h1 h2=>hn i h1 h1
 replace hq7:=Hd.mk hq7;clear hn hlt hkl;repeat' ((conv=>whnf);first|with_reducible apply aK|((with_reducible apply fk)<;>intro hc<;>try exact aM)|((with_reducible apply And.intro);exact aG)|fail)
 all_goals first
  |(exfalso;rw[d0] at hc;cases hc;done)
  |skip
 have hX2:X=true:=by rw[hX.out];simpa using hfin.out hq5.out hq6.out hq7.out
 subst hX2;all_goals exact aL
theorem O0:Mg prog 11 f11:=bZ func11
def Bj (w n t:Int):aV:=⟨w,1,n,1,1,0,0,0,t,0,0,0,[],[],⟨0,0⟩,⟨0,0⟩⟩
def O1 (v:Int)(l:List Pa):Pn:=⟨v,1,[⟨1,4,1,5,0,0,[],[],[]⟩],[],l⟩
def LC:Pa:=⟨4,1,1,⟨0,1,0,0,4⟩⟩
theorem Zm (o:aV)(out:Oc):bT [] o out=[⟨o.who,o.inc,o.n,out⟩]:=List.perm_singleton.1 (jY [] o out)
theorem Ej (w n t:Int)(hw:1≤w∧w≤15)(hn:1≤n∧n≤100)(ht:0≤t∧t≤100):jW (Bj w n t)=true:=by
 have a1:n≤4611686018427387903:=by omega
 have a2:t≤4611686018427387903:=by omega
 simp[jW,Bj,bR,cnt,hw,hn,fQ,dZ,XJ,pM,zh,j5,a1,a2];exact⟨⟨.inl (by decide),.inr rfl⟩,by decide,by decide⟩
theorem acU:aS (fD 1) (Bj 4 1 5)=(O1 1 [LC],⟨0,1,0,0,4⟩):=by
 have h:=wS 1 (by decide) (by decide);unfold aS;rw[h.may,Ej 4 1 5 (by decide) (by decide) (by decide)];simp only[Bool.not_true,Bool.or_self,Bool.false_eq_true,if_false];have e1:kg (fD 1).past (Bj 4 1 5)=none:=rfl;have e2:gJ (fD 1) (Bj 4 1 5)=false:=by decide
 rw[e1,e2];simp only[Bool.false_eq_true,if_false];rw[if_neg (by decide),gP];have e3:fB (fD 1) (Bj 4 1 5)=(⟨0,1,[⟨1,4,1,5,0,0,[],[],[]⟩],[],[]⟩,⟨0,1,0,0,4⟩):=by decide
 rw[e3,show (fD 1).past=[] from rfl,Zm];rfl
theorem GD:gF (O1 1 [LC]):=by
 have:=gQ (wS 1 (by decide) (by decide)) (o:=Bj 4 1 5) (by decide);rw[acU] at this;exact this
theorem agY:aS (O1 1 [LC]) (Bj 4 1 5)=(O1 1 [LC],⟨0,1,0,0,4⟩):=
 Db GD (o:=Bj 4 1 5) (out:=⟨0,1,0,0,4⟩) (by decide) (Ej 4 1 5 (by decide) (by decide) (by decide))
theorem acV:aS (O1 1 [LC]) (Bj 5 1 16)=(O1 2 (bT [LC] (Bj 5 1 16) ⟨5,1,0,0,4⟩),⟨5,1,0,0,4⟩):=by
 have h:=GD;unfold aS;rw[h.may,Ej 5 1 16 (by decide) (by decide) (by decide)];simp only[Bool.not_true,Bool.or_self,Bool.false_eq_true,if_false];have e1:kg (O1 1 [LC]).past (Bj 5 1 16)=none:=by decide
 have e2:gJ (O1 1 [LC]) (Bj 5 1 16)=false:=by decide
 rw[e1,e2];simp only[Bool.false_eq_true,if_false];rw[if_neg (by decide),gP];have e3:fB (O1 1 [LC]) (Bj 5 1 16)=(O1 1 [LC],⟨5,1,0,0,4⟩):=by decide
 rw[e3];rfl
theorem Ty:gF (O1 2 (bT [LC] (Bj 5 1 16) ⟨5,1,0,0,4⟩)):=by
 have:=gQ GD (o:=Bj 5 1 16) (by decide);rw[acV] at this;exact this
theorem agZ:(aS (O1 2 (bT [LC] (Bj 5 1 16) ⟨5,1,0,0,4⟩)) (Bj 5 2 17)).2=⟨0,2,0,0,5⟩:=by
 have h:=Ty;have e1:=vY (o:=Bj 5 2 17) (Nt [LC] (Bj 5 1 16) ⟨5,1,0,0,4⟩) rfl h.p2;have e0:(O1 2 (bT [LC] (Bj 5 1 16) ⟨5,1,0,0,4⟩)).past=bT [LC] (Bj 5 1 16) ⟨5,1,0,0,4⟩:=rfl;rw[if_neg (by decide),if_neg (by decide)] at e1;unfold aS;rw[h.may,Ej 5 2 17 (by decide) (by decide) (by decide),e0,e1];simp only[Bool.not_true,Bool.or_self,Bool.false_eq_true,if_false];rw[if_neg (by show ¬(2:Int)=_;decide)];have e2:gJ (O1 2 (bT [LC] (Bj 5 1 16) ⟨5,1,0,0,4⟩)) (Bj 5 2 17)=false:=rfl;rw[e2];simp only[Bool.false_eq_true,if_false];rfl
theorem Tz (w n t:Int):ZK (Bj w n t):=um (by simp[ja,Bj])
theorem bF:bE prog 11 [] (bl true):=by
 refine PC.le ?_;have c1:=iM (wS 1 (by decide) (by decide)) (Tz 4 1 5);have c2:=iM GD (Tz 4 1 5);have c3:=iM GD (Tz 5 1 16);have c4:=iM Ty (Tz 5 2 17);rw[agZ] at c4;rw[acU] at c1;rw[agY] at c2;rw[acV] at c3;dsimp only at c1 c2 c3 c4
 generalize (aS (O1 2 (bT [LC] (Bj 5 1 16) ⟨5,1,0,0,4⟩)) (Bj 5 2 17)).1=q4 at *;generalize O1 2 (bT [LC] (Bj 5 1 16) ⟨5,1,0,0,4⟩)=q3 at *;generalize O1 1 [LC]=q2 at *;have c0:=JW;generalize fD 1=q1 at *;refine bN O0 ?_;repeat' ((conv=>whnf);first|with_reducible apply aK|((with_reducible apply fk)<;>intro hc<;>try exact aM)|(apply aC;(conv=>whnf);refine⟨_,c0,?_⟩)|(apply aC;(conv=>whnf);refine⟨_,nA (c1) ?_,?_⟩;exact qi)|(apply aC;(conv=>whnf);refine⟨_,nA (c2) ?_,?_⟩;exact qi)|(apply aC;(conv=>whnf);refine⟨_,nA (c3) ?_,?_⟩;exact qi)|(apply aC;(conv=>whnf);refine⟨_,nA (c4) ?_,?_⟩;exact qi)|((with_reducible apply And.intro);exact aG)|fail)
 all_goals exact aL
theorem VR (n:Int)(q:Pn)(e:Int)(b1:(e != 0)=true)(l:List aV)(c0:bE prog 29 [ii n] (.dn [.agg q.c,ii e])):bE prog 10 [ii n,Tx l] (.dn [.agg Iw.c,bl false]):=by
 refine PC.le ?_;refine bN uj ?_;repeat' ((conv=>whnf);first|with_reducible apply aK|((with_reducible apply fk)<;>intro hc<;>try exact aM)|(apply aC;(conv=>whnf);refine⟨_,c0,?_⟩)|((with_reducible apply And.intro);exact aG)|fail)
 all_goals exact aL
theorem VS (n:Int)(q:Pn)(e:Int)(b1:(e != 0)=false)(l:List aV)(b2:decide (((l.map aV.c).length:Int)>80)=true)(c0:bE prog 29 [ii n] (.dn [.agg q.c,ii e])):bE prog 10 [ii n,Tx l] (.dn [.agg Iw.c,bl false]):=by
 refine PC.le ?_;refine bN uj ?_;repeat' ((conv=>whnf);first|with_reducible apply aK|((with_reducible apply fk)<;>intro hc<;>try exact aM)|(apply aC;(conv=>whnf);refine⟨_,c0,?_⟩)|((with_reducible apply And.intro);exact aG)|fail)
 all_goals exact aL
theorem wW (n:Int)(l:List aV)(h0:∀o∈l,0≤o.at_):bE prog 10 [ii n,Tx l] (.dn [.agg ((yK n l).getD Iw).c,bl (yK n l).isSome]):=by
 unfold yK;by_cases hn:n<1∨3<n
 ·rw[if_pos (by omega)];exact VR n Iw 1 rfl l (VO n hn)
 have hst:∃k:Nat,1≤k∧k≤3∧n=(k:Int)∧bE prog 29 [ii (k:Int)] (.dn [.agg (fD k).c,ii 0]):=by
  rcases (by omega:n=1∨n=2∨n=3) with rfl|rfl|rfl
  ·exact⟨1,by decide,by decide,rfl,JW⟩
  ·exact⟨2,by decide,by decide,rfl,VP⟩
  exact⟨3,by decide,by decide,rfl,VQ⟩
 obtain⟨k,k1,k2,rfl,cS⟩:=hst;by_cases hl:80<l.length
 ·rw[if_pos (by simp[hl])];exact VS k (fD k) 0 rfl l (by simp only[List.length_map,decide_eq_true_eq];omega) cS
 have:=Rw k cS k1 k2 l (by omega) h0;rw[Int.toNat_natCast];cases ha:l.any ja with
 |true=>rw[ha] at this;rw[if_pos (.inr (.inr (.inr rfl)))];exact this
 | false=>
   rw[ha] at this;rw[if_neg (by
    rintro (h|h|h|h)
    ·omega
    ·omega
    ·omega
    cases h)]
   exact this
theorem wX {n:Int}{l:List aV}{p:Pn}(h:yK n l=some p)(h0:∀o∈l,0≤o.at_):gF p:=by
 unfold yK at h;split at h
 ·cases h
 rename_i hn;have:=Option.some.inj h;subst this;exact AA (wS n.toNat (by omega) (by omega)) h0
end Go.Proofs.YtiagceoepkaeoaaGreat.Tb
end
