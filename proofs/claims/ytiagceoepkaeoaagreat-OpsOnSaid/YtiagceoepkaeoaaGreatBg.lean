/-
  Contracts of functions of the program and of the document, each for every input that its premises name.
-/
import Derived.Test.YtiagceoepkaeoaaGreatBe
import Derived.Test.YtiagceoepkaeoaaGreatAf
import Derived.Test.YtiagceoepkaeoaaGreatBf
set_option linter.unusedSectionVars false
set_option linter.unusedVariables false
set_option linter.unusedSimpArgs false
set_option maxRecDepth 100000
set_option maxHeartbeats 4000000
section
open Go Go.Proofs.Tryz Go.AX
namespace Go.Proofs.YtiagceoepkaeoaaGreat.Tb
theorem Gq:Mg prog 178 f178:=bZ func178
theorem uf:Mg prog 135 f135:=bZ func135
theorem OI:Mg prog 177 f177:=bZ func177
theorem OJ:Mg prog 179 f179:=bZ func179
theorem JM (l:List Pl)(a b:Int):bE prog 178 [vP l,.agg [ii a,uu b]] (ii (qo (fun y=>y==⟨a,b⟩) l)):=by
 refine PC.le (kL Gq fun hb=>?_);have hb:l.length≤9223372036854775807:=by simpa[DR,y7,vP] using hb
 refine bN Gq ?_;repeat' ((conv=>whnf);first|with_reducible apply aK|((with_reducible apply fk)<;>intro hc<;>try exact aM)|((with_reducible apply And.intro);exact aG)|fail)
 refine⟨{k:Nat // k≤l.length∧∀j (hj:j<l.length),j<k→(l[j]==⟨a,b⟩)=false},fun⟨k,_⟩=>⟨[(0,.pv (vP l)),(3,.ptr 1003 0),(7,.pv (ii l.length)),(8,.pv (ii k))],1000000000,[(1003,.var [.pv (ii a),.pv (uu b)])]⟩,fun⟨k,_⟩=>l.length-k,⟨⟨0,by simp⟩,ak ?_⟩,?_⟩
 ·repeat' first
   |fail
   |with_reducible exact True.intro
   |with_reducible exact rfl
   |with_reducible exact ah _
   |((conv=>whnf);with_reducible apply And.intro)
   |((conv=>whnf);with_reducible exact True.intro)
   |exact rfl
   |exact fun h=>h
   |exact ah _
  all_goals try (conv=>whnf)
  simp
 rintro⟨k,hk,hn⟩
 repeat' ((conv=>whnf);first|with_reducible apply aK|((with_reducible apply fk)<;>intro hc<;>try exact aM)|((with_reducible apply And.intro);exact aG)|fail)
 ·have hlt:k<l.length:=by simpa using hc
  refine⟨_,cu _ _ _ hlt,?_⟩;repeat' ((conv=>whnf);first|with_reducible apply aK|((with_reducible apply fk)<;>intro hc<;>try exact aM)|((with_reducible apply And.intro);exact aG)|fail)
  ·skip
   repeat' first|((conv=>whnf);with_reducible apply And.intro)|exact aL|fail
   all_goals try (conv=>whnf)
   exact (nU _ hlt hn (by rw[←Pl.afW];exact hc)).symm
  skip
  repeat' ((conv=>whnf);first|with_reducible apply aK|((with_reducible apply fk)<;>intro hc<;>try exact aM)|((with_reducible apply And.intro);exact aG)|fail)
  refine⟨⟨k+1,hlt,dS hn fun _=>(by rw[←Pl.afW];exact hc)⟩,dec_lt hlt,ak ?_⟩;repeat' first|((conv=>whnf);with_reducible apply And.intro)|exact aL|fail
  all_goals try (conv=>whnf)
  exact aO (by omega) (by omega)
 skip
 repeat' first|((conv=>whnf);with_reducible apply And.intro)|exact aL|fail
 all_goals try (conv=>whnf)
 have:k=l.length:=by simp at hc;omega
 subst this;exact (iP _ (tH hn)).symm
theorem Gr (a b:Int)(ch lg pa:PV)(o:aV)(c:PV)(out:Oc)(x:Lg):bE prog 177 ([]++([.agg x.c]++[.bU [.bU (wV a b ch lg pa o c out) 0] 0])) (bl (nN o x)):=by
 refine PC.le ?_;obtain⟨X,hX⟩:∃X,X=nN o x:=⟨_,rfl⟩;rw[←hX];unfold nN at hX;simp only[wV,aV.c,Pl.c,Oc.c,List.cons_append,List.nil_append];refine bN OI ?_;repeat' ((conv=>whnf);first|with_reducible apply aK|((with_reducible apply fk)<;>intro hc<;>try exact aM)|((with_reducible apply And.intro);exact aG)|fail)
 all_goals
  simp only[Bool.not_true, *,Bool.true_or,Bool.or_true,Bool.false_or,Bool.or_false,Bool.true_and,Bool.and_true,Bool.false_and,Bool.and_false,Bool.not_true,Bool.not_false,Bool.false_eq_true,↓reduceIte] at hX;subst hX;all_goals exact aL
theorem Gs (a b:Int)(ch lg pa:PV)(o:aV)(c:PV)(out:Oc)(x:Pl):bE prog 179 ([]++([.agg x.c]++[.bU [.bU (wV a b ch lg pa o c out) 0] 0])) (bl (x.node==o.nD.node)):=by
 refine PC.le ?_;simp only[wV,aV.c,Pl.c,Oc.c,List.cons_append,List.nil_append];refine bN OJ ?_;repeat' ((conv=>whnf);first|with_reducible apply aK|((with_reducible apply fk)<;>intro hc<;>try exact aM)|((with_reducible apply And.intro);exact aG)|fail)
 all_goals exact aL
theorem pW {α:Type}(f:α→List PV)(l:List α)(k:Nat)(h:k<l.length):own ((l.drop k).map f)=(true,f l[k])::own ((l.drop (k+1)).map f):=by
 unfold own;rw[List.drop_eq_getElem_cons h];rfl
theorem Tj (a b:List (List PV)):own (a++b)=own a++own b:=by simp[own]
theorem Rb (a b:Int)(ch:List Ch)(A:List Lg)(x:Lg)(B:List Lg)(Q:List Pa)(o:aV)(hA:∀y∈A,nN o y=false)(hx:nN o x=true)(hok:∀f∈x.aA,oh o f=false)(hsome:∃f∈x.aA,decide (kD o f≥0)=true)
  (hl:x.aA.length≤1000000) (hll:(A++x::B).length≤1000000) (hbk:∀f∈x.aA,f.aI.length≤1000000):dR prog 135 [.ptr 1 0]
  [(1,.var (wC a b (.pv (jL ch)) (.aF 2 0) (.aF 4 0) o (.pv (.sc (.pointer none))) bS)),(2,.dM 50 0 6 (A.map Lg.c) [.pv (uu x.id),.pv (ii x.w),.pv (ii x.a),.aF 3 0,.pv (ii x.closed),.pv (uu x.last)] (B.map Lg.c)),(3,.fK 80 0 2 1 36 2 (own (x.aA.map Fr.c)) [] []),(4,.arr 68 0 8 (Q.map Pa.c))] (.pv (.dn []))
  [(1,.var (wC a b (.pv (jL ch)) (.aF 2 0) (.aF 4 0) o (.pv (.sc (.pointer none))) bS)),(2,.dM 50 0 6 (A.map Lg.c) [.pv (uu x.id),.pv (ii x.w),.pv (ii x.a),.aF 3 0,.pv (ii x.closed),.pv (uu x.last)] (B.map Lg.c)),(3,.fK 80 0 2 1 36 2 (own ((x.aA.map (jk o)).map Fr.c)) [] []),(4,.arr 68 0 8 (Q.map Pa.c))]:=by
 have hx1:qo (nN o) (A++x::B)=(A.length:Nat):=nU (nN o) (by simp) (fun j hj hja=>by rw[List.getElem_append_left (by omega)];exact hA _ (List.getElem_mem _)) (by simpa using hx);have c1:∀L:PV,bE prog 53 [dN (A++x::B),.fn (.func 177) [] [.bU [.bU (wV a b (jL ch) L (uR Q) o (.sc (.pointer none)) bS) 0] 0]] (ii (A.length:Nat)):=fun L=>by
  have:=dW (A++x::B) 177 [] [.bU [.bU (wV a b (jL ch) L (uR Q) o (.sc (.pointer none)) bS) 0] 0] (nN o) fun y _=>Gr a b (jL ch) L (uR Q) o (.sc (.pointer none)) bS y
  rw[hx1] at this;exact this
 have cI:∀f:Fr,bE prog 178 [vP f.aI,.agg [ii o.from_.node,uu o.from_.dB]] (ii (kD o f)):=fun f=>JM _ _ _
 have cJ:∀(L:PV) (f:Fr),bE prog 139 [vP f.aI,.fn (.func 179) [] [.bU [.bU (wV a b (jL ch) L (uR Q) o (.sc (.pointer none)) bS) 0] 0]] (ii (Nh o f)):=fun L f=>
  mW f.aI 179 [] [.bU [.bU (wV a b (jL ch) L (uR Q) o (.sc (.pointer none)) bS) 0] 0] (fun y=>y.node==o.nD.node) fun y _=>Gs a b (jL ch) L (uR Q) o (.sc (.pointer none)) bS y
 have e2:∀l:List (List PV),(own l).map (·.2)++List.map (·.2) ([]:List (Bool×List PV))=l:=fun l=>by rw[Te,List.map_nil,List.append_nil]
 have e1:dN (A++x::B)=.sl false 6 (A.map Lg.c++[uu x.id,ii x.w,ii x.a,.sl false 2 ((own (x.aA.map Fr.c)).map (·.2)++List.map (·.2) ([]:List (Bool×List PV))),ii x.closed,uu x.last]::B.map Lg.c):=by
  rw[e2];simp only[dN,List.map_append,List.map_cons];rfl
 have e3:((own (x.aA.map Fr.c)).length:Int)=(x.aA.length:Int):=by simp[own]
 have d0:decide (((A.length:Nat):Int)<0)=false:=by simp only[tq];omega
 rw[e1] at c1;clear hx1 hA hx e1;simp only[wC,wV,aV.c,Pl.c,Oc.c,List.map_cons,List.map_nil,List.cons_append,List.nil_append] at c1 cJ ⊢;refine jA uf ?_;repeat' ((conv=>whnf);first|with_reducible apply aK|((with_reducible apply fk)<;>intro hc<;>try exact aM)|(apply aC;(conv=>whnf);refine⟨_,c1 _,?_⟩)|(((with_reducible apply And.intro);focus (simp only[List.length_map,List.length_append,List.length_cons];omega)))|((with_reducible apply And.intro);exact aG)|fail)
 obtain⟨F,hF⟩:∃F,F=x.aA:=⟨_,rfl⟩;rw[←hF] at hok hsome hl hbk e3 ⊢;replace hF:=Hd.mk hF;have hn0:0<F.length:=by obtain⟨f,hf,_⟩:=hsome;exact List.length_pos_of_mem hf
 clear c1;refine⟨{k:Nat // k<F.length} ⊕ Unit,fun i=>match i with
   |.inl ⟨k,hk⟩=>⟨[(1,.ptr 1001 0),(2,.pv (ii (A.length:Nat))),(3,.pv (bl ((F.take (k)).any fun f=>decide (kD o f≥0)))),(30,.aF 3 0),(31,.pv (ii (F.length:Nat))),(32,.pv (ii (k:Nat)))],1000000000,(1001,.var [.ptr 1 0])::(1,.var (wC a b (.pv (jL ch)) (.aF 2 0) (.aF 4 0) o (.pv (.sc (.pointer none))) bS))::(2,.dM 50 0 6 (A.map Lg.c) [.pv (uu x.id),.pv (ii x.w),.pv (ii x.a),.aF 3 0,.pv (ii x.closed),.pv (uu x.last)] (B.map Lg.c))::(3,.fK 80 0 2 1 36 2 (own ((F.take k).map Fr.c)) [.pv (uu F[k].first),.aF 1005 0] (own ((F.drop (k+1)).map Fr.c)))::(1005,.arr 36 0 2 (F[k].aI.map Pl.c))::[(4,.arr 68 0 8 (Q.map Pa.c))]⟩
   |.inr _=>⟨[(1,.ptr 1001 0),(2,.pv (ii (A.length:Nat))),(3,.pv (bl ((F.take (F.length)).any fun f=>decide (kD o f≥0)))),(30,.aF 3 0),(31,.pv (ii (F.length:Nat))),(32,.pv (ii (F.length:Nat)))],1000000000,(1001,.var [.ptr 1 0])::(1,.var (wC a b (.pv (jL ch)) (.aF 2 0) (.aF 4 0) o (.pv (.sc (.pointer none))) bS))::(2,.dM 50 0 6 (A.map Lg.c) [.pv (uu x.id),.pv (ii x.w),.pv (ii x.a),.aF 3 0,.pv (ii x.closed),.pv (uu x.last)] (B.map Lg.c))::(3,.fK 80 0 2 1 36 2 (own (F.map Fr.c)) [] ([]))::[(4,.arr 68 0 8 (Q.map Pa.c))]⟩,fun i=>match i with
   |.inl ⟨k,_⟩=>F.length-k
   |.inr _=>0,⟨.inl ⟨0,hn0⟩,?_⟩,?_⟩
 ·simp only[wC,aV.c,Pl.c,Oc.c,List.map_cons,List.map_nil,List.cons_append,List.nil_append];refine eD 3 [] ((true,Fr.c (F[0]'hn0))::own ((F.drop 1).map Fr.c)) rfl ?_ ?_
  ·have:=pW Fr.c F 0 hn0;rw[List.drop_zero] at this;rw[this,List.append_nil];rfl
  refine kX (rr:=(F[0]'hn0).aI.map Pl.c) 3 900000000 rfl rfl rfl ?_;refine ak ?_;repeat' first|((conv=>whnf);with_reducible apply And.intro)|exact aL|fail
  all_goals try (conv=>whnf)
  all_goals first
   |exact e3
   |rfl
   |simp
   |trace_state
 rintro (⟨k,hk⟩|⟨⟩)
 ·simp only[wC,aV.c,Pl.c,Oc.c,List.map_cons,List.map_nil,List.cons_append,List.nil_append];have d1:decide ((k:Int)<(F.length:Int))=true:=by simp only[kC];omega
  have eW:IntKind.i64.wrap ((k:Int)+1)=((k+1:Nat):Int):=by rw[aO (by omega) (by omega)];omega
  have hb:=hok _ (List.getElem_mem hk);have hpre:own ((F.take k).map Fr.c)++[(true,Fr.c F[k])]=own ((F.take (k+1)).map Fr.c):=(Oy Fr.c F k hk).symm;have Be:(F.take (k+1)).any (fun f=>decide (kD o f≥0))=((F.take k).any (fun f=>decide (kD o f≥0))||decide (kD o F[k]≥0)):=by
   rw[List.take_succ_eq_append_getElem hk,List.any_append];simp
  have hcase:decide (kD o F[k]<0)=true∨(decide (kD o F[k]<0)=false∧decide (Nh o F[k]≥0)=false)∨(decide (kD o F[k]<0)=false∧decide (Nh o F[k]≥0)=true∧(Nh o F[k] != kD o F[k])=false):=by
   unfold oh at hb;by_cases h1:kD o F[k]<0
   ·exact .inl (by simpa using h1)
   have h1':decide (kD o F[k]≥0)=true:=by simp only[kC];omega
   have agS:decide (kD o F[k]<0)=false:=by simp only[tq];exact h1
   rw[h1',Bool.true_and] at hb;cases h2:decide (Nh o F[k]≥0) with
   |false=>exact .inr (.inl ⟨agS,rfl⟩)
   |true=>rw[h2,Bool.true_and] at hb;exact .inr (.inr ⟨agS,rfl,hb⟩)
  clear hb hok hsome;rcases hcase with d2|⟨d2,d3⟩|⟨d2,d3,d4⟩
  ·have hsm:((F.take k).any fun f=>decide (kD o f≥0))=(F.take (k+1)).any fun f=>decide (kD o f≥0):=by
    rw[Be];have:decide (kD o F[k]≥0)=false:=by simp only[decide_eq_true_eq,decide_eq_false_iff_not] at d2 ⊢;omega
    rw[this,Bool.or_false]
   replace hsm:=Hd.mk hsm;clear Be;repeat' ((conv=>whnf);first|with_reducible apply aK|((with_reducible apply fk)<;>intro hc<;>try exact aM)|(apply aC;(conv=>whnf);refine⟨_,cI _,?_⟩)|(apply aC;(conv=>whnf);refine⟨_,cJ _ _,?_⟩)|(((with_reducible apply And.intro);focus (simp only[own,dH,List.length_map,List.length_take,List.length_drop,List.length_append,List.length_cons,List.length_nil];omega)))|((with_reducible apply And.intro);exact aG)|fail)
   by_cases hn:k+1<F.length
   ·refine⟨.inl ⟨k+1,hn⟩,by simp only;omega,?_⟩;simp only[wC,aV.c,Pl.c,Oc.c,List.map_cons,List.map_nil,List.cons_append,List.nil_append];refine gU (rr:=F[k].aI.map Pl.c) (vd:=0) 3 _ (Fr.c F[k]) rfl ?_ rfl rfl ?_
    ·exact rfl
    refine eD 3 (own ((F.take (k+1)).map Fr.c)) ((true,Fr.c F[k+1])::own ((F.drop (k+1+1)).map Fr.c)) rfl ?_ ?_
    ·rw[pW Fr.c F (k+1) hn,hpre]
    refine kX (rr:=F[k+1].aI.map Pl.c) 3 900000000 rfl rfl rfl ?_;refine ak ?_;repeat' first|((conv=>whnf);with_reducible apply And.intro)|exact aL|fail
    all_goals try (conv=>whnf)
    all_goals first
     |exact eW
     |exact hsm.out
     |trace_state
   have hke:k+1=F.length:=by omega
   refine⟨.inr (),by simp only;omega,?_⟩;simp only[wC,aV.c,Pl.c,Oc.c,List.map_cons,List.map_nil,List.cons_append,List.nil_append];refine gU (rr:=F[k].aI.map Pl.c) (vd:=0) 3 _ (Fr.c F[k]) rfl ?_ rfl rfl ?_
   ·exact rfl
   refine eD 3 (own (F.map Fr.c)) [] rfl ?_ ?_
   ·rw[List.drop_eq_nil_of_le (by omega),hpre,hke,List.take_length];simp[own]
   refine ak ?_;repeat' first|((conv=>whnf);with_reducible apply And.intro)|exact aL|fail
   all_goals try (conv=>whnf)
   all_goals first
    |(rw[eW,hke])
    |(rw[←hke];exact hsm.out)
    |trace_state
  ·have hsm:true=(F.take (k+1)).any fun f=>decide (kD o f≥0):=by
    rw[Be];have:decide (kD o F[k]≥0)=true:=by simp only[decide_eq_true_eq,decide_eq_false_iff_not] at d2 ⊢;omega
    rw[this,Bool.or_true]
   replace hsm:=Hd.mk hsm;clear Be;repeat' ((conv=>whnf);first|with_reducible apply aK|((with_reducible apply fk)<;>intro hc<;>try exact aM)|(apply aC;(conv=>whnf);refine⟨_,cI _,?_⟩)|(apply aC;(conv=>whnf);refine⟨_,cJ _ _,?_⟩)|(((with_reducible apply And.intro);focus (simp only[own,dH,List.length_map,List.length_take,List.length_drop,List.length_append,List.length_cons,List.length_nil];omega)))|((with_reducible apply And.intro);exact aG)|fail)
   by_cases hn:k+1<F.length
   ·refine⟨.inl ⟨k+1,hn⟩,by simp only;omega,?_⟩;simp only[wC,aV.c,Pl.c,Oc.c,List.map_cons,List.map_nil,List.cons_append,List.nil_append];refine gU (rr:=F[k].aI.map Pl.c) (vd:=0) 3 _ (Fr.c F[k]) rfl ?_ rfl rfl ?_
    ·exact rfl
    refine eD 3 (own ((F.take (k+1)).map Fr.c)) ((true,Fr.c F[k+1])::own ((F.drop (k+1+1)).map Fr.c)) rfl ?_ ?_
    ·rw[pW Fr.c F (k+1) hn,hpre]
    refine kX (rr:=F[k+1].aI.map Pl.c) 3 900000000 rfl rfl rfl ?_;refine ak ?_;repeat' first|((conv=>whnf);with_reducible apply And.intro)|exact aL|fail
    all_goals try (conv=>whnf)
    all_goals first
     |exact eW
     |exact hsm.out
     |trace_state
   have hke:k+1=F.length:=by omega
   refine⟨.inr (),by simp only;omega,?_⟩;simp only[wC,aV.c,Pl.c,Oc.c,List.map_cons,List.map_nil,List.cons_append,List.nil_append];refine gU (rr:=F[k].aI.map Pl.c) (vd:=0) 3 _ (Fr.c F[k]) rfl ?_ rfl rfl ?_
   ·exact rfl
   refine eD 3 (own (F.map Fr.c)) [] rfl ?_ ?_
   ·rw[List.drop_eq_nil_of_le (by omega),hpre,hke,List.take_length];simp[own]
   refine ak ?_;repeat' first|((conv=>whnf);with_reducible apply And.intro)|exact aL|fail
   all_goals try (conv=>whnf)
   all_goals first
    |(rw[eW,hke])
    |(rw[←hke];exact hsm.out)
    |trace_state
  have hsm:true=(F.take (k+1)).any fun f=>decide (kD o f≥0):=by
   rw[Be];have:decide (kD o F[k]≥0)=true:=by simp only[decide_eq_true_eq,decide_eq_false_iff_not] at d2 ⊢;omega
   rw[this,Bool.or_true]
  replace hsm:=Hd.mk hsm;clear Be;repeat' ((conv=>whnf);first|with_reducible apply aK|((with_reducible apply fk)<;>intro hc<;>try exact aM)|(apply aC;(conv=>whnf);refine⟨_,cI _,?_⟩)|(apply aC;(conv=>whnf);refine⟨_,cJ _ _,?_⟩)|(((with_reducible apply And.intro);focus (simp only[own,dH,List.length_map,List.length_take,List.length_drop,List.length_append,List.length_cons,List.length_nil];omega)))|((with_reducible apply And.intro);exact aG)|fail)
  by_cases hn:k+1<F.length
  ·refine⟨.inl ⟨k+1,hn⟩,by simp only;omega,?_⟩;simp only[wC,aV.c,Pl.c,Oc.c,List.map_cons,List.map_nil,List.cons_append,List.nil_append];refine gU (rr:=F[k].aI.map Pl.c) (vd:=0) 3 _ (Fr.c F[k]) rfl ?_ rfl rfl ?_
   ·exact rfl
   refine eD 3 (own ((F.take (k+1)).map Fr.c)) ((true,Fr.c F[k+1])::own ((F.drop (k+1+1)).map Fr.c)) rfl ?_ ?_
   ·rw[pW Fr.c F (k+1) hn,hpre]
   refine kX (rr:=F[k+1].aI.map Pl.c) 3 900000000 rfl rfl rfl ?_;refine ak ?_;repeat' first|((conv=>whnf);with_reducible apply And.intro)|exact aL|fail
   all_goals try (conv=>whnf)
   all_goals first
    |exact eW
    |exact hsm.out
    |trace_state
  have hke:k+1=F.length:=by omega
  refine⟨.inr (),by simp only;omega,?_⟩;simp only[wC,aV.c,Pl.c,Oc.c,List.map_cons,List.map_nil,List.cons_append,List.nil_append];refine gU (rr:=F[k].aI.map Pl.c) (vd:=0) 3 _ (Fr.c F[k]) rfl ?_ rfl rfl ?_
  ·exact rfl
  refine eD 3 (own (F.map Fr.c)) [] rfl ?_ ?_
  ·rw[List.drop_eq_nil_of_le (by omega),hpre,hke,List.take_length];simp[own]
  refine ak ?_;repeat' first|((conv=>whnf);with_reducible apply And.intro)|exact aL|fail
  all_goals try (conv=>whnf)
  all_goals first
   |(rw[eW,hke])
   |(rw[←hke];exact hsm.out)
   |trace_state
 simp only[wC,aV.c,Pl.c,Oc.c,List.map_cons,List.map_nil,List.cons_append,List.nil_append];have d1:decide (((F.length:Nat):Int)<(F.length:Int))=false:=by simp
 have d3:((F.take F.length).any fun f=>decide (kD o f≥0))=true:=by
  rw[List.take_length,List.any_eq_true];exact hsome
 clear hsome hok;repeat' ((conv=>whnf);first|with_reducible apply aK|((with_reducible apply fk)<;>intro hc<;>try exact iK)|(((with_reducible apply And.intro);focus (simp only[own,dH,List.length_map,List.length_take,List.length_drop,List.length_append,List.length_cons,List.length_nil];omega)))|((with_reducible apply And.intro);exact aG)|fail)
 clear d3 d1;refine⟨{k:Nat // k<F.length} ⊕ Unit,fun i=>match i with
   |.inl ⟨k,hk⟩=>⟨[(1,.ptr 1001 0),(72,.aF 3 0),(73,.pv (ii (F.length:Nat))),(74,.pv (ii (k:Nat)))],1000000000,(1001,.var [.ptr 1 0])::(1,.var (wC a b (.pv (jL ch)) (.aF 2 0) (.aF 4 0) o (.pv (.sc (.pointer none))) bS))::(2,.dM 50 0 6 (A.map Lg.c) [.pv (uu x.id),.pv (ii x.w),.pv (ii x.a),.aF 3 0,.pv (ii x.closed),.pv (uu x.last)] (B.map Lg.c))::(3,.fK 80 0 2 1 36 2 (own (((F.take k).map (jk o)).map Fr.c)) [.pv (uu F[k].first),.aF 1005 0] (own ((F.drop (k+1)).map Fr.c)))::(1005,.arr 36 0 2 (F[k].aI.map Pl.c))::[(4,.arr 68 0 8 (Q.map Pa.c))]⟩
   |.inr _=>⟨[(1,.ptr 1001 0),(72,.aF 3 0),(73,.pv (ii (F.length:Nat))),(74,.pv (ii (F.length:Nat)))],1000000000,(1001,.var [.ptr 1 0])::(1,.var (wC a b (.pv (jL ch)) (.aF 2 0) (.aF 4 0) o (.pv (.sc (.pointer none))) bS))::(2,.dM 50 0 6 (A.map Lg.c) [.pv (uu x.id),.pv (ii x.w),.pv (ii x.a),.aF 3 0,.pv (ii x.closed),.pv (uu x.last)] (B.map Lg.c))::(3,.fK 80 0 2 1 36 2 (own ((F.map (jk o)).map Fr.c)) [] ([]))::[(4,.arr 68 0 8 (Q.map Pa.c))]⟩,fun i=>match i with
   |.inl ⟨k,_⟩=>F.length-k
   |.inr _=>0,⟨.inl ⟨0,hn0⟩,?_⟩,?_⟩
 ·simp only[wC,aV.c,Pl.c,Oc.c,List.map_cons,List.map_nil,List.cons_append,List.nil_append];refine eD 3 [] ((true,Fr.c (F[0]'hn0))::own ((F.drop 1).map Fr.c)) rfl ?_ ?_
  ·have:=pW Fr.c F 0 hn0;rw[List.drop_zero] at this;rw[this,List.append_nil];rfl
  refine kX (rr:=(F[0]'hn0).aI.map Pl.c) 3 900000000 rfl rfl rfl ?_;refine ak ?_;repeat' first|((conv=>whnf);with_reducible apply And.intro)|exact aL|fail
  all_goals try (conv=>whnf)
  all_goals first
   |exact e3
   |rfl
   |simp
   |trace_state
 rintro (⟨k,hk⟩|⟨⟩)
 ·simp only[wC,aV.c,Pl.c,Oc.c,List.map_cons,List.map_nil,List.cons_append,List.nil_append];have d1:decide ((k:Int)<(F.length:Int))=true:=by simp only[kC];omega
  have eW:IntKind.i64.wrap ((k:Int)+1)=((k+1:Nat):Int):=by rw[aO (by omega) (by omega)];omega
  cases d2:decide (kD o F[k]≥0) with
  | false=>
    have hpre:own (((F.take k).map (jk o)).map Fr.c)++[(true,Fr.c F[k])]=own (((F.take (k+1)).map (jk o)).map Fr.c):=by
     have e5:jk o F[k]=F[k]:=by unfold jk;rw[d2];rfl
     rw[List.take_succ_eq_append_getElem hk,List.map_append,List.map_append,Tj];simp only[List.map_cons,List.map_nil,e5];rfl
    repeat' ((conv=>whnf);first|with_reducible apply aK|((with_reducible apply fk)<;>intro hc<;>try exact aM)|(apply aC;(conv=>whnf);refine⟨_,cI _,?_⟩)|(((with_reducible apply And.intro);focus (simp only[own,dH,List.length_map,List.length_take,List.length_drop,List.length_append,List.length_cons,List.length_nil];omega)))|((with_reducible apply And.intro);exact aG)|fail)
    by_cases hn:k+1<F.length
    ·refine⟨.inl ⟨k+1,hn⟩,by simp only;omega,?_⟩;simp only[wC,aV.c,Pl.c,Oc.c,List.map_cons,List.map_nil,List.cons_append,List.nil_append];refine gU (rr:=F[k].aI.map Pl.c) (vd:=0) 3 _ (Fr.c F[k]) rfl ?_ rfl rfl ?_
     ·exact rfl
     refine eD 3 (own (((F.take (k+1)).map (jk o)).map Fr.c)) ((true,Fr.c F[k+1])::own ((F.drop (k+1+1)).map Fr.c)) rfl ?_ ?_
     ·rw[pW Fr.c F (k+1) hn,hpre]
     refine kX (rr:=F[k+1].aI.map Pl.c) 3 900000000 rfl rfl rfl ?_;refine ak ?_;repeat' first|((conv=>whnf);with_reducible apply And.intro)|exact aL|fail
     all_goals try (conv=>whnf)
     all_goals first
      |exact eW
      |trace_state
    have hke:k+1=F.length:=by omega
    refine⟨.inr (),by simp only;omega,?_⟩;simp only[wC,aV.c,Pl.c,Oc.c,List.map_cons,List.map_nil,List.cons_append,List.nil_append];refine gU (rr:=F[k].aI.map Pl.c) (vd:=0) 3 _ (Fr.c F[k]) rfl ?_ rfl rfl ?_
    ·exact rfl
    refine eD 3 (own ((F.map (jk o)).map Fr.c)) [] rfl ?_ ?_
    ·rw[List.drop_eq_nil_of_le (by omega),hpre,hke,List.take_length];simp[own]
    refine ak ?_;repeat' first|((conv=>whnf);with_reducible apply And.intro)|exact aL|fail
    all_goals try (conv=>whnf)
    all_goals first
     |(rw[eW,hke])
     |trace_state
  | true=>
    have hi0:0≤kD o F[k]:=by simpa using d2
    have hi1:(kD o F[k]).toNat<F[k].aI.length:=by
     rcases nK (fun y=>y==o.from_) F[k].aI with ⟨h1,_⟩|⟨m,hm,h1,_⟩
     ·unfold kD at hi0;omega
     unfold kD;rw[h1];simpa using hm
    have hpre:own (((F.take k).map (jk o)).map Fr.c)++[(true,[uu F[k].first,.sl false 2 ((F[k].aI.map Pl.c).set (kD o F[k]).toNat [ii o.nD.node,uu o.nD.dB])])]=own (((F.take (k+1)).map (jk o)).map Fr.c):=by
     have e5:Fr.c (jk o F[k])=[uu F[k].first,.sl false 2 ((F[k].aI.map Pl.c).set (kD o F[k]).toNat [ii o.nD.node,uu o.nD.dB])]:=by
      unfold jk;rw[d2];simp only[if_true,Fr.c,vP,List.map_set,Pl.c]
     rw[List.take_succ_eq_append_getElem hk,List.map_append,List.map_append,Tj];simp only[List.map_cons,List.map_nil,e5];rfl
    have hrk:(F[k].aI.map Pl.c)[(kD o F[k]).toNat]? = some (Pl.c (F[k].aI[(kD o F[k]).toNat]'hi1)):=by rw[List.getElem?_map,List.getElem?_eq_getElem hi1];rfl
    have hi:Hd (0≤kD o F[k]∧(kD o F[k]).toNat<F[k].aI.length):=⟨hi0,hi1⟩;clear hi0;repeat' ((conv=>whnf);first|with_reducible apply aK|((with_reducible apply fk)<;>intro hc<;>try exact aM)|(apply aC;(conv=>whnf);refine⟨_,cI _,?_⟩)|((refine⟨_,hrk,?_⟩))|(((with_reducible apply And.intro);focus (exact hi.out.1)))|(((with_reducible apply And.intro);focus (rw[List.length_map];exact hi.out.2)))|(((with_reducible apply And.intro);focus (simp only[own,dH,List.length_map,List.length_take,List.length_drop,List.length_append,List.length_cons,List.length_nil];omega)))|((with_reducible apply And.intro);exact aG)|fail)
    by_cases hn:k+1<F.length
    ·refine⟨.inl ⟨k+1,hn⟩,by simp only;omega,?_⟩;simp only[wC,aV.c,Pl.c,Oc.c,List.map_cons,List.map_nil,List.cons_append,List.nil_append];refine gU (rr:=(F[k].aI.map Pl.c).set (kD o F[k]).toNat [ii o.nD.node,uu o.nD.dB]) (vd:=0) 3 _ ([uu F[k].first,.sl false 2 ((F[k].aI.map Pl.c).set (kD o F[k]).toNat [ii o.nD.node,uu o.nD.dB])]) rfl ?_ rfl rfl ?_
     ·exact rfl
     refine eD 3 (own (((F.take (k+1)).map (jk o)).map Fr.c)) ((true,Fr.c F[k+1])::own ((F.drop (k+1+1)).map Fr.c)) rfl ?_ ?_
     ·rw[pW Fr.c F (k+1) hn,hpre]
     refine kX (rr:=F[k+1].aI.map Pl.c) 3 900000000 rfl rfl rfl ?_;refine ak ?_;repeat' first|((conv=>whnf);with_reducible apply And.intro)|exact aL|fail
     all_goals try (conv=>whnf)
     all_goals first
      |exact eW
      |trace_state
    have hke:k+1=F.length:=by omega
    refine⟨.inr (),by simp only;omega,?_⟩;simp only[wC,aV.c,Pl.c,Oc.c,List.map_cons,List.map_nil,List.cons_append,List.nil_append];refine gU (rr:=(F[k].aI.map Pl.c).set (kD o F[k]).toNat [ii o.nD.node,uu o.nD.dB]) (vd:=0) 3 _ ([uu F[k].first,.sl false 2 ((F[k].aI.map Pl.c).set (kD o F[k]).toNat [ii o.nD.node,uu o.nD.dB])]) rfl ?_ rfl rfl ?_
    ·exact rfl
    refine eD 3 (own ((F.map (jk o)).map Fr.c)) [] rfl ?_ ?_
    ·rw[List.drop_eq_nil_of_le (by omega),hpre,hke,List.take_length];simp[own]
    refine ak ?_;repeat' first|((conv=>whnf);with_reducible apply And.intro)|exact aL|fail
    all_goals try (conv=>whnf)
    all_goals first
     |(rw[eW,hke])
     |trace_state
 simp only[wC,aV.c,Pl.c,Oc.c,List.map_cons,List.map_nil,List.cons_append,List.nil_append];have d1:decide (((F.length:Nat):Int)<(F.length:Int))=false:=by simp
 repeat' ((conv=>whnf);first|with_reducible apply aK|((with_reducible apply fk)<;>intro hc<;>try exact aM)|(((with_reducible apply And.intro);focus (simp only[own,dH,List.length_map,List.length_take,List.length_drop,List.length_append,List.length_cons,List.length_nil];omega)))|((with_reducible apply And.intro);exact aG)|fail)
 refine⟨_,_,⟨rfl,rfl⟩,?_⟩;all_goals exact aL
def Tk (Q:List Pa):List (Nat×aD):=[(2,.arr 68 0 8 (Q.map Pa.c))]
theorem JN (a b:Int)(ch:List Ch)(L:List Lg)(Q:List Pa)(o:aV)(n:Int)(out:Oc):dR prog 34 [.ptr 1 0,.pv (ii n)]
  ((1,.var (wC a b (.pv (jL ch)) (.pv (dN L)) (.aF 2 0) o (.pv (.sc (.pointer none))) out))::Tk Q) (.pv (.dn []))
  ((1,.var (wC a b (.pv (jL ch)) (.pv (dN L)) (.aF 2 0) o (.pv (.sc (.pointer none))) (ig n)))::Tk Q):=by
 refine jA xO ?_;repeat' ((conv=>whnf);first|with_reducible apply aK|((with_reducible apply fk)<;>intro hc<;>try exact aM)|((with_reducible apply And.intro);exact aG)|fail)
 refine⟨_,_,⟨rfl,rfl⟩,?_⟩;all_goals exact aL
theorem Rc (a b:Int)(ch:List Ch)(L:List Lg)(Q:List Pa)(o:aV)(hl:L.length≤1000000)(QO:∀x∈L,x.aA.length≤1000000)
  (hno:∀x,L.find? (nN o)=some x→x.aA.any (oh o)=true∨x.aA.any (fun f=>decide (kD o f≥0))=false):dR prog 135 [.ptr 1 0]
  ((1,.var (wC a b (.pv (jL ch)) (.pv (dN L)) (.aF 2 0) o (.pv (.sc (.pointer none))) bS))::Tk Q) (.pv (.dn []))
  ((1,.var (wC a b (.pv (jL ch)) (.pv (dN L)) (.aF 2 0) o (.pv (.sc (.pointer none))) (ig 5)))::Tk Q):=by
 have cR:=JN a b ch L Q o 5 bS;have c1:bE prog 53 [dN L,.fn (.func 177) [] [.bU [.bU (wV a b (jL ch) (dN L) (uR Q) o (.sc (.pointer none)) bS) 0] 0]] (ii (qo (nN o) L)):=
  dW L 177 [] [.bU [.bU (wV a b (jL ch) (dN L) (uR Q) o (.sc (.pointer none)) bS) 0] 0] (nN o) fun y _=>Gr a b (jL ch) (dN L) (uR Q) o (.sc (.pointer none)) bS y
 have cI:∀f:Fr,bE prog 178 [vP f.aI,.agg [ii o.from_.node,uu o.from_.dB]] (ii (kD o f)):=fun f=>JM _ _ _
 have cJ:∀(f:Fr),bE prog 139 [vP f.aI,.fn (.func 179) [] [.bU [.bU (wV a b (jL ch) (dN L) (uR Q) o (.sc (.pointer none)) bS) 0] 0]] (ii (Nh o f)):=fun f=>
  mW f.aI 179 [] [.bU [.bU (wV a b (jL ch) (dN L) (uR Q) o (.sc (.pointer none)) bS) 0] 0] (fun y=>y.node==o.nD.node) fun y _=>Gs a b (jL ch) (dN L) (uR Q) o (.sc (.pointer none)) bS y
 simp only[wC,wV,Tk,aV.c,Pl.c,Oc.c,List.map_cons,List.map_nil,List.cons_append,List.nil_append] at c1 cJ cR ⊢;rcases Nc (nN o) L with ⟨e1,e2⟩|⟨k,hk,e1,e2⟩
 ·rw[e1] at c1;have d0:decide ((-1:Int)<0)=true:=rfl;clear e1 e2 hno QO cI cJ;refine jA uf ?_;repeat' ((conv=>whnf);first|with_reducible apply aK|((with_reducible apply fk)<;>intro hc<;>try exact aM)|rewrite[AP]|rewrite[AQ]|(apply aC;(conv=>whnf);refine⟨_,c1,?_⟩)|(apply fq;(conv=>whnf);refine⟨_,_,cR,?_⟩)|((with_reducible apply And.intro);exact aG)|fail)
  refine⟨_,_,⟨rfl,rfl⟩,?_⟩;all_goals exact aL
 rw[e1] at c1;have d0:decide (((k:Nat):Int)<0)=false:=by simp only[tq];omega
 have hx:=hno _ e2;have hfl:=QO _ (List.getElem_mem hk);have hr:=cu Lg.c L k hk;clear e1 e2 hno QO;generalize hxe:L[k]=x at *;clear hxe;obtain⟨xi,xw,xa,F,xc,xl⟩:=x;simp only[Lg.c] at hx hfl hr;have hm:((F.map Fr.c).length:Int)=(F.length:Int):=by rw[List.length_map]
 refine jA uf ?_;repeat' ((conv=>whnf);first|with_reducible apply aK|((with_reducible apply fk)<;>intro hc<;>try exact aM)|(apply aC;(conv=>whnf);refine⟨_,c1,?_⟩)|((refine⟨_,hr,?_⟩))|(((with_reducible apply And.intro);exact mg))|((with_reducible apply And.intro);exact aG)|fail)
 refine⟨{j:Nat // j≤F.length∧∀i (hi:i<F.length),i<j→oh o F[i]=false},fun⟨j,_⟩=>⟨[(1,.ptr 1001 0),(2,.pv (ii (k:Nat))),(3,.pv (bl ((F.take j).any fun f=>decide (kD o f≥0)))),(30,.pv (p8 F)),(31,.pv (ii F.length)),(32,.pv (ii j))],1000000000,(1001,.var [.ptr 1 0])::(1,.var (wC a b (.pv (jL ch)) (.pv (dN L)) (.aF 2 0) o (.pv (.sc (.pointer none))) bS))::Tk Q⟩,fun⟨j,_⟩=>F.length-j,⟨⟨0,by simp⟩,ak ?_⟩,?_⟩
 ·simp only[wC,Tk,aV.c,Pl.c,Oc.c,List.map_cons,List.map_nil,List.cons_append,List.nil_append];repeat' first|((conv=>whnf);with_reducible apply And.intro)|exact aL|fail
  all_goals try (conv=>whnf)
  all_goals exact hm
 rintro⟨j,hj,hn⟩
 simp only[wC,Tk,aV.c,Pl.c,Oc.c,List.map_cons,List.map_nil,List.cons_append,List.nil_append];clear c1 hr d0;by_cases hlt:j<F.length
 ·have d1:decide ((j:Int)<(F.length:Int))=true:=by simp only[kC];omega
  have eW:IntKind.i64.wrap ((j:Int)+1)=((j+1:Nat):Int):=by rw[aO (by omega) (by omega)];omega
  have hrow:=cu Fr.c F j hlt;have Be:(F.take (j+1)).any (fun f=>decide (kD o f≥0))=((F.take j).any (fun f=>decide (kD o f≥0))||decide (kD o F[j]≥0)):=by
   rw[List.take_succ_eq_append_getElem hlt,List.any_append];simp
  have hbad:oh o F[j]=(decide (kD o F[j]≥0)&&(decide (Nh o F[j]≥0)&&(Nh o F[j] != kD o F[j]))):=rfl;have hge:decide (kD o F[j]≥0) = !decide (kD o F[j]<0):=by
   by_cases h:kD o F[j]<0
   ·simp[h]
   simp[h];omega
  rw[hge] at Be hbad;have cI:=cI F[j];have cJ:=cJ F[j];have hstep:oh o F[j]=false→∀i (hi:i<F.length),i<j+1→oh o F[i]=false:=fun h=>dS hn fun _=>h
  clear hn hx hge hm;generalize oh o F[j]=bd at *;generalize kD o F[j]=vi at *;generalize Nh o F[j]=vj at *;generalize F[j]=f at *;simp only[Fr.c] at hrow;replace hstep:=Hd.mk hstep;generalize hs1:((F.take j).any fun f=>decide (kD o f≥0))=s1 at *;repeat' ((conv=>whnf);first|with_reducible apply aK|((with_reducible apply fk)<;>intro hc<;>try exact aM)|rewrite[AP]|rewrite[AQ]|((refine⟨_,hrow,?_⟩))|(apply aC;(conv=>whnf);refine⟨_,cI,?_⟩)|(apply aC;(conv=>whnf);refine⟨_,cJ,?_⟩)|(apply fq;(conv=>whnf);refine⟨_,_,cR,?_⟩)|(((with_reducible apply And.intro);exact mg))|((with_reducible apply And.intro);exact aG)|fail)
  ·have hbf:bd=false:=by rw[hbad];simp only[*,Bool.not_true,Bool.not_false,Bool.false_and,Bool.true_and,Bool.and_false]
   have hs2:((F.take (j+1)).any fun f=>decide (kD o f≥0))=s1:=by rw[Be];simp only[*,Bool.not_true,Bool.not_false,Bool.or_false,Bool.or_true]
   refine⟨⟨j+1,hlt,hstep.out hbf⟩,dec_lt hlt,ak ?_⟩;simp only[wC,Tk,aV.c,Pl.c,Oc.c,List.map_cons,List.map_nil,List.cons_append,List.nil_append];rw[hs2];clear hs2 hbf Be hbad;repeat' first|((conv=>whnf);with_reducible apply And.intro)|exact aL|fail
   all_goals try (conv=>whnf)
   all_goals exact eW
  ·refine⟨_,_,⟨rfl,rfl⟩,?_⟩;all_goals exact aL
  ·have hbf:bd=false:=by rw[hbad];simp only[*,Bool.not_true,Bool.not_false,Bool.false_and,Bool.true_and,Bool.and_false]
   have hs2:((F.take (j+1)).any fun f=>decide (kD o f≥0))=true:=by rw[Be];simp only[*,Bool.not_true,Bool.not_false,Bool.or_false,Bool.or_true]
   refine⟨⟨j+1,hlt,hstep.out hbf⟩,dec_lt hlt,ak ?_⟩;simp only[wC,Tk,aV.c,Pl.c,Oc.c,List.map_cons,List.map_nil,List.cons_append,List.nil_append];rw[hs2];clear hs2 hbf Be hbad;repeat' first|((conv=>whnf);with_reducible apply And.intro)|exact aL|fail
   all_goals try (conv=>whnf)
   all_goals exact eW
  have hbf:bd=false:=by rw[hbad];simp only[*,Bool.not_true,Bool.not_false,Bool.false_and,Bool.true_and,Bool.and_false]
  have hs2:((F.take (j+1)).any fun f=>decide (kD o f≥0))=true:=by rw[Be];simp only[*,Bool.not_true,Bool.not_false,Bool.or_false,Bool.or_true]
  refine⟨⟨j+1,hlt,hstep.out hbf⟩,dec_lt hlt,ak ?_⟩;simp only[wC,Tk,aV.c,Pl.c,Oc.c,List.map_cons,List.map_nil,List.cons_append,List.nil_append];rw[hs2];clear hs2 hbf Be hbad;repeat' first|((conv=>whnf);with_reducible apply And.intro)|exact aL|fail
  all_goals try (conv=>whnf)
  all_goals exact eW
 have hje:j=F.length:=by omega
 subst hje;have d1:decide ((F.length:Int)<(F.length:Int))=false:=by simp
 have hs:((F.take F.length).any fun f=>decide (kD o f≥0))=false:=by
  rw[List.take_length];rcases hx with h|h
  ·obtain⟨f,hf,hb⟩:=List.any_eq_true.1 h;obtain⟨i,hi,rfl⟩:=List.getElem_of_mem hf;rw[hn i hi hi] at hb;cases hb
  exact h
 rw[hs];clear hs hx hn cI cJ;repeat' ((conv=>whnf);first|with_reducible apply aK|((with_reducible apply fk)<;>intro hc<;>try exact aM)|rewrite[AP]|rewrite[AQ]|(apply fq;(conv=>whnf);refine⟨_,_,cR,?_⟩)|((with_reducible apply And.intro);exact aG)|fail)
 refine⟨_,_,⟨rfl,rfl⟩,?_⟩;all_goals exact aL
theorem Y8 (p:Pn)(o:aV)(D:Wd p o)(hgt:o.channel>(p.channels.length:Int)):bE prog 13 [.agg p.c,.agg o.c] (.dn [.agg ({ p with version:=IntKind.u64.wrap (p.version+1),past:=bT p.past o (ig 4) }:Pn).c,.agg (ig 4).c]):=by
 refine PC.le ?_;have c1:=Lc p D.h;have c2:=nY p D.h;have c3:=ng o D.ho.fr D.ho.bk D.ho.sn;have c4:=qY p o D.h.past;have c5:=oH p o D.h.channels (fE D.hw).1 (fE D.hw).2 D.hch;have c6:=nQ o D.ho.fr D.ho.bk D.ho.sn;obtain⟨kr,c7⟩:=kZ p.version p.next p.channels p.af p.past o (ig 4) D.hpl;rw[D.hp] at c2;rw[D.hw] at c3;rw[D.ht] at c4;rw[D.hs] at c5;have hv:=D.hv;have hlc:=D.h.channels;have hm:((p.channels.map Ch.c).length:Int)=(p.channels.length:Int):=by rw[List.length_map]
 have e1:p.c=[uu p.version,uu p.next,.sl false 9 (p.channels.map Ch.c),.sl false 6 (p.af.map Lg.c),.sl false 8 (p.past.map Pa.c)]:=rfl;have hd:=JN p.version p.next p.channels p.af p.past o 4 bS;have hg1:decide (o.channel>((p.channels.map Ch.c).length:Int))=true:=by rw[hm];simpa using hgt
 rw[e1] at c1 c2 c4 c5 ⊢;clear D e1 hlc hm hgt;simp only[wC,Tk,aV.c,Pl.c,Oc.c,List.map_cons,List.map_nil,List.cons_append,List.nil_append] at c1 c2 c3 c4 c5 c6 c7 hd ⊢;refine bN gD ?_;repeat' ((conv=>whnf);first|fail|((with_reducible apply fk)<;>intro hc<;>try exact aM)|rewrite[AP]|rewrite[AQ]|(apply fq;(conv=>whnf);refine⟨_,_,c1,?_⟩)|(apply aC;(conv=>whnf);refine⟨_,c2,?_⟩)|(apply aC;(conv=>whnf);refine⟨_,c3,?_⟩)|(apply aC;(conv=>whnf);refine⟨_,c4,?_⟩)|(apply aC;(conv=>whnf);refine⟨_,c5,?_⟩)|(apply aC;(conv=>whnf);refine⟨_,c6,?_⟩)|((with_reducible apply GL))|((with_reducible apply GN))|((with_reducible refine (Or.inl ?_:VC _ _ (Code.region 2 _ _) _ _∨_)))|((with_reducible apply And.intro);exact aG)|fail)
 (conv=>whnf)
 refine Or.inr ⟨Unit,fun _=>⟨[(2,.ptr 1002 0),(3,.ptr 1003 0),(4,.ptr 1004 0),(5,.ptr 1005 0),(9,.ptr 1009 0)],1000000000,[(1002,.var [.pv (uu p.version),.pv (uu p.next),.pv (jL p.channels),.pv (dN p.af),.aF 1010 0]),(1003,.var (o.c.map .pv)),(1004,.var [.pv (uu 0),.pv (uu 0),.pv (.sc (.slice none 0 0)),.pv (.sc (.slice none 0 0)),.pv (.sc (.slice none 0 0))]),(1005,.var (bS.c.map .pv)),(1009,.var (wC p.version p.next (.pv (jL p.channels)) (.pv (dN p.af)) (.aF 1010 0) o (.pv (.sc (.pointer none))) bS)),(1010,.arr 68 0 8 (p.past.map Pa.c))]⟩,?_,fun _=>?_⟩
 ·repeat' ((conv=>whnf)
           first
           |with_reducible apply aK
           |((with_reducible apply fk)<;>intro hc<;>try exact aM)
           |rewrite[AP]
           |rewrite[AQ]
           |(apply aC;(conv=>whnf);refine⟨_,c6,?_⟩)
           |((with_reducible apply And.intro);exact aG)|fail)
  refine⟨(),BZ [1001003001,1002003001] ?_⟩;simp only[wC,aV.c,Pl.c,Oc.c,List.map_cons,List.map_nil,List.cons_append,List.nil_append]
  (conv=>whnf)
  repeat' first|((conv=>whnf);with_reducible apply And.intro)|exact aL|fail
  all_goals try (conv=>whnf)
 simp only[wC,aV.c,Pl.c,Oc.c,List.map_cons,List.map_nil,List.cons_append,List.nil_append];repeat' ((conv=>whnf);first|with_reducible apply aK|((with_reducible apply fk)<;>intro hc<;>try exact aM)|rewrite[AP]|rewrite[AQ]|(apply fq;(conv=>whnf);refine⟨_,_,hd,?_⟩)|(apply fq;(conv=>whnf);refine⟨_,_,cB (c7) ?_,?_⟩;exact qi)|((with_reducible apply And.intro);exact aG)|fail)
 all_goals exact aL
theorem OY (l:List (List PV)):(own l).map (·.2)++List.map (·.2) ([]:List (Bool×List PV))=l:=by rw[Te,List.map_nil,List.append_nil]
def Y4 (a b:Int)(ch:List Ch)(L:List Lg)(F:List Fr)(Q:List Pa)(o:aV)(out:Oc):List (Nat×aD):=
 [(1,.var (wC a b (.pv (jL ch)) (.pv (dN L)) (.aF 4 0) o (.pv .junk) out)),(2,.kG 0 6 (L.map Lg.c)),(3,.kG 0 2 (F.map Fr.c)),(4,.arr 68 0 8 (Q.map Pa.c))]
theorem aeA {F:FuncId}{hp:List (Nat×aD)}{a b:Int}{ch:List Ch}{A:List Lg}{x:Lg}{B:List Lg}{Q:List Pa}{o:aV}{G:List Fr}
  (h:dR prog F [.ptr 1 0] hp (.pv (.dn [])) [(1,.var (wC a b (.pv (jL ch)) (.aF 2 0) (.aF 4 0) o (.pv (.sc (.pointer none))) bS)),(2,.dM 50 0 6 (A.map Lg.c) [.pv (uu x.id),.pv (ii x.w),.pv (ii x.a),.aF 3 0,.pv (ii x.closed),.pv (uu x.last)] (B.map Lg.c)),(3,.fK 80 0 2 1 36 2 (own (G.map Fr.c)) [] []),(4,.arr 68 0 8 (Q.map Pa.c))]) :
  dR prog F [.ptr 1 0] hp (.pv (.dn [])) (Y4 a b ch (A++{ x with aA:=G }::B) G Q o bS):=by
 have h1:dR prog F [.ptr 1 0] hp (.pv (.dn [])) [(1,.var (wC a b (.pv (jL ch)) (.aF 2 0) (.aF 4 0) o (.pv (.sc (.pointer none))) bS)),(2,.dM 50 0 6 (A.map Lg.c) [.pv (uu x.id),.pv (ii x.w),.pv (ii x.a),.aF 3 0,.pv (ii x.closed),.pv (uu x.last)] (B.map Lg.c)),(3,.arr 80 0 2 (G.map Fr.c)),(4,.arr 68 0 8 (Q.map Pa.c))]:=by
  have e:=OY (G.map Fr.c);simp only[wC,aV.c,Pl.c,Oc.c,List.map_cons,List.map_nil,List.cons_append,List.nil_append] at h ⊢;refine KR h 3 rfl ?_;rw[e];refine⟨_,_,⟨rfl,rfl⟩,?_⟩
  (conv=>whnf)
  all_goals exact aL
 have h2:dR prog F [.ptr 1 0] hp (.pv (.dn [])) [(1,.var (wC a b (.pv (jL ch)) (.aF 2 0) (.aF 4 0) o (.pv (.sc (.pointer none))) bS)),(2,.arr 50 0 6 ((A++{ x with aA:=G }::B).map Lg.c)),(3,.kG 0 2 (G.map Fr.c)),(4,.arr 68 0 8 (Q.map Pa.c))]:=by
  rw[List.map_append,List.map_cons];simp only[wC,aV.c,Pl.c,Oc.c,Lg.c,List.map_cons,List.map_nil,List.cons_append,List.nil_append] at h1 ⊢;refine jr h1 2 rfl rfl rfl rfl ?_;refine⟨_,_,⟨rfl,rfl⟩,?_⟩
  (conv=>whnf)
  all_goals exact aL
 refine iq h2 [2] ?_;simp only[Y4,wC,aV.c,Pl.c,Oc.c,List.map_cons,List.map_nil,List.cons_append,List.nil_append]
 (conv=>whnf)
 refine⟨_,_,⟨rfl,rfl⟩,?_⟩;all_goals exact aL
theorem Y5 (p:Pn)(o:aV)(D:Wd p o)(h12:o.kind=12)(hc0:o.channel=0)(A:List Lg)(x:Lg)(B:List Lg)(hL:p.af=A++x::B)(hA:∀y∈A,nN o y=false)(hx:nN o x=true)(hok:∀f∈x.aA,oh o f=false)(hsome:∃f∈x.aA,decide (kD o f≥0)=true):bE prog 13 [.agg p.c,.agg o.c] (.dn [.agg ({ p with version:=IntKind.u64.wrap (p.version+1),af:=A++{ x with aA:=x.aA.map (jk o) }::B,past:=bT p.past o bS }:Pn).c,.agg bS.c]):=by
 refine PC.le ?_;have c1:=YG p A x B hL D.h;have c2:=nY p D.h;have c3:=ng o D.ho.fr D.ho.bk D.ho.sn;have c4:=qY p o D.h.past;have c5:=oH p o D.h.channels (fE D.hw).1 (fE D.hw).2 D.hch;have c6:=nQ o D.ho.fr D.ho.bk D.ho.sn;obtain⟨kr,c7⟩:=kZ p.version p.next p.channels (A++{ x with aA:=x.aA.map (jk o) }::B) p.past o bS D.hpl;rw[D.hp] at c2;rw[D.hw] at c3;rw[D.ht] at c4;rw[D.hs] at c5;have hv:=D.hv;have hlc:=D.h.channels;have hm:((p.channels.map Ch.c).length:Int)=(p.channels.length:Int):=by rw[List.length_map]
 have e1:p.c=[uu p.version,uu p.next,.sl false 9 (p.channels.map Ch.c),.sl false 6 (A.map Lg.c++[uu x.id,ii x.w,ii x.a,.sl false 2 ((own (x.aA.map Fr.c)).map (·.2)++List.map (·.2) ([]:List (Bool×List PV))),ii x.closed,uu x.last]::B.map Lg.c),.sl false 8 (p.past.map Pa.c)]:=by
  rw[OY];simp only[Pn.c,jL,dN,uR,hL,List.map_append,List.map_cons,Lg.c,p8]
 have hxb:=D.h.lg x (by rw[hL];simp);have hd:=aeA (Rb p.version p.next p.channels A x B p.past o hA hx hok hsome hxb.aA (by rw[←hL];exact D.h.af) hxb.aI);have nG:bE prog 35 [ii o.kind] (.agg (fC 12)):=by rw[h12];exact xN
 simp only[fC] at nG;have hg1:decide (o.channel>((p.channels.map Ch.c).length:Int))=false:=by rw[hm,hc0];simp
 have hg0:decide (o.channel>0)=false:=by rw[hc0];rfl
 rw[e1] at c2 c4 c5;clear D e1 hlc hm hc0 h12 hA hx hok hsome hxb hL;simp only[Tf,Y4,wC,Tk,aV.c,Pl.c,Oc.c,List.map_cons,List.map_nil,List.cons_append,List.nil_append] at c1 c2 c3 c4 c5 c6 c7 hd ⊢;refine bN gD ?_;repeat' ((conv=>whnf);first|fail|((with_reducible apply fk)<;>intro hc<;>try exact aM)|rewrite[AP]|rewrite[AQ]|(apply fq;(conv=>whnf);refine⟨_,_,c1,?_⟩)|(apply aC;(conv=>whnf);refine⟨_,c2,?_⟩)|(apply aC;(conv=>whnf);refine⟨_,c3,?_⟩)|(apply aC;(conv=>whnf);refine⟨_,c4,?_⟩)|(apply aC;(conv=>whnf);refine⟨_,c5,?_⟩)|(apply aC;(conv=>whnf);refine⟨_,c6,?_⟩)|((with_reducible apply GL))|((with_reducible apply GN))|((with_reducible refine (Or.inl ?_:VC _ _ (Code.region 2 _ _) _ _∨_)))|((with_reducible apply And.intro);exact aG)|fail)
 (conv=>whnf)
 refine Or.inr ⟨Unit,fun _=>⟨[(2,.ptr 1002 0),(3,.ptr 1003 0),(4,.ptr 1004 0),(5,.ptr 1005 0),(9,.ptr 1009 0)],1000000000,[(1002,.var [.pv (uu p.version),.pv (uu p.next),.pv (jL p.channels),.aF 1010 0,.aF 1012 0]),(1003,.var (o.c.map .pv)),(1004,.var [.pv (uu 0),.pv (uu 0),.pv (.sc (.slice none 0 0)),.pv (.sc (.slice none 0 0)),.pv (.sc (.slice none 0 0))]),(1005,.var (bS.c.map .pv)),(1009,.var (wC p.version p.next (.pv (jL p.channels)) (.aF 1010 0) (.aF 1012 0) o (.pv (.sc (.pointer none))) bS)),(1010,.dM 50 0 6 (A.map Lg.c) [.pv (uu x.id),.pv (ii x.w),.pv (ii x.a),.aF 1011 0,.pv (ii x.closed),.pv (uu x.last)] (B.map Lg.c)),(1011,.fK 80 0 2 1 36 2 (own (x.aA.map Fr.c)) [] []),(1012,.arr 68 0 8 (p.past.map Pa.c))]⟩,?_,fun _=>?_⟩
 ·repeat' ((conv=>whnf)
           first
           |with_reducible apply aK
           |((with_reducible apply fk)<;>intro hc<;>try exact aM)
           |rewrite[AP]
           |rewrite[AQ]
           |(apply aC;(conv=>whnf);refine⟨_,c6,?_⟩)
           |((with_reducible apply And.intro);exact aG)|fail)
  refine⟨(),BZ [1003003001] ?_⟩;simp only[wC,aV.c,Pl.c,Oc.c,List.map_cons,List.map_nil,List.cons_append,List.nil_append]
  (conv=>whnf)
  repeat' first|((conv=>whnf);with_reducible apply And.intro)|exact aL|fail
  all_goals try (conv=>whnf)
 simp only[wC,aV.c,Pl.c,Oc.c,List.map_cons,List.map_nil,List.cons_append,List.nil_append];repeat' ((conv=>whnf);first|with_reducible apply aK|((with_reducible apply fk)<;>intro hc<;>try exact aM)|rewrite[AP]|rewrite[AQ]|(apply aC;(conv=>whnf);refine⟨_,nG,?_⟩)|(apply fq;(conv=>whnf);refine⟨_,_,hd,?_⟩)|(apply fq;(conv=>whnf);refine⟨_,_,cB (c7) ?_,?_⟩;exact qi)|((with_reducible apply And.intro);exact aG)|fail)
 all_goals exact aL
theorem Gx (p:Pn)(o:aV)(D:Wd p o)(h12:o.kind=12)(hc0:o.channel=0)(QO:∀x∈p.af,x.aA.length≤1000000)
  (hno:∀x,p.af.find? (nN o)=some x→x.aA.any (oh o)=true∨x.aA.any (fun f=>decide (kD o f≥0))=false):bE prog 13 [.agg p.c,.agg o.c] (.dn [.agg ({ p with version:=IntKind.u64.wrap (p.version+1),past:=bT p.past o (ig 5) }:Pn).c,.agg (ig 5).c]):=by
 refine PC.le ?_;have c1:=Lc p D.h;have c2:=nY p D.h;have c3:=ng o D.ho.fr D.ho.bk D.ho.sn;have c4:=qY p o D.h.past;have c5:=oH p o D.h.channels (fE D.hw).1 (fE D.hw).2 D.hch;have c6:=nQ o D.ho.fr D.ho.bk D.ho.sn;obtain⟨kr,c7⟩:=kZ p.version p.next p.channels p.af p.past o (ig 5) D.hpl;rw[D.hp] at c2;rw[D.hw] at c3;rw[D.ht] at c4;rw[D.hs] at c5;have hv:=D.hv;have hlc:=D.h.channels;have hm:((p.channels.map Ch.c).length:Int)=(p.channels.length:Int):=by rw[List.length_map]
 have e1:p.c=[uu p.version,uu p.next,.sl false 9 (p.channels.map Ch.c),.sl false 6 (p.af.map Lg.c),.sl false 8 (p.past.map Pa.c)]:=rfl;have hd:=Rc p.version p.next p.channels p.af p.past o D.h.af QO hno;have nG:bE prog 35 [ii o.kind] (.agg (fC 12)):=by rw[h12];exact xN
 simp only[fC] at nG;have hg1:decide (o.channel>((p.channels.map Ch.c).length:Int))=false:=by rw[hm,hc0];simp
 have hg0:decide (o.channel>0)=false:=by rw[hc0];rfl
 rw[e1] at c1 c2 c4 c5 ⊢;clear D e1 hlc hm hc0 h12 QO hno;simp only[wC,Tk,aV.c,Pl.c,Oc.c,List.map_cons,List.map_nil,List.cons_append,List.nil_append] at c1 c2 c3 c4 c5 c6 c7 hd ⊢;refine bN gD ?_;repeat' ((conv=>whnf);first|fail|((with_reducible apply fk)<;>intro hc<;>try exact aM)|rewrite[AP]|rewrite[AQ]|(apply fq;(conv=>whnf);refine⟨_,_,c1,?_⟩)|(apply aC;(conv=>whnf);refine⟨_,c2,?_⟩)|(apply aC;(conv=>whnf);refine⟨_,c3,?_⟩)|(apply aC;(conv=>whnf);refine⟨_,c4,?_⟩)|(apply aC;(conv=>whnf);refine⟨_,c5,?_⟩)|(apply aC;(conv=>whnf);refine⟨_,c6,?_⟩)|((with_reducible apply GL))|((with_reducible apply GN))|((with_reducible refine (Or.inl ?_:VC _ _ (Code.region 2 _ _) _ _∨_)))|((with_reducible apply And.intro);exact aG)|fail)
 (conv=>whnf)
 refine Or.inr ⟨Unit,fun _=>⟨[(2,.ptr 1002 0),(3,.ptr 1003 0),(4,.ptr 1004 0),(5,.ptr 1005 0),(9,.ptr 1009 0)],1000000000,[(1002,.var [.pv (uu p.version),.pv (uu p.next),.pv (jL p.channels),.pv (dN p.af),.aF 1010 0]),(1003,.var (o.c.map .pv)),(1004,.var [.pv (uu 0),.pv (uu 0),.pv (.sc (.slice none 0 0)),.pv (.sc (.slice none 0 0)),.pv (.sc (.slice none 0 0))]),(1005,.var (bS.c.map .pv)),(1009,.var (wC p.version p.next (.pv (jL p.channels)) (.pv (dN p.af)) (.aF 1010 0) o (.pv (.sc (.pointer none))) bS)),(1010,.arr 68 0 8 (p.past.map Pa.c))]⟩,?_,fun _=>?_⟩
 ·repeat' ((conv=>whnf)
           first
           |with_reducible apply aK
           |((with_reducible apply fk)<;>intro hc<;>try exact aM)
           |rewrite[AP]
           |rewrite[AQ]
           |(apply aC;(conv=>whnf);refine⟨_,c6,?_⟩)
           |((with_reducible apply And.intro);exact aG)|fail)
  refine⟨(),BZ [1001003001,1002003001] ?_⟩;simp only[wC,aV.c,Pl.c,Oc.c,List.map_cons,List.map_nil,List.cons_append,List.nil_append]
  (conv=>whnf)
  repeat' first|((conv=>whnf);with_reducible apply And.intro)|exact aL|fail
  all_goals try (conv=>whnf)
 simp only[wC,aV.c,Pl.c,Oc.c,List.map_cons,List.map_nil,List.cons_append,List.nil_append];repeat' ((conv=>whnf);first|with_reducible apply aK|((with_reducible apply fk)<;>intro hc<;>try exact aM)|rewrite[AP]|rewrite[AQ]|(apply aC;(conv=>whnf);refine⟨_,nG,?_⟩)|(apply fq;(conv=>whnf);refine⟨_,_,hd,?_⟩)|(apply fq;(conv=>whnf);refine⟨_,_,cB (c7) ?_,?_⟩;exact qi)|((with_reducible apply And.intro);exact aG)|fail)
 all_goals exact aL
theorem wR:Mg prog 128 f128:=bZ func128
theorem Vr (a b:Int)(A:List Ch)(c:Ch)(B:List Ch)(L:List Lg)(Q:List Pa)(o:aV)(f:Fr)(h:tK (kF a b A c B L Q))(hf:o.aA=[f])(hn:pK (kF a b A c B L Q) o=none):dR prog 128 [.ptr 1 0]
  ((1,.var (wC a b (.aF 2 0) (.aF 3 0) (.aF 4 0) o (.bn 2 0 (A.map Ch.c).length 0) bS))::jv (c.c.map .pv) A B L Q) (.pv (.dn []))
  ((1,.var (wC a b (.aF 2 0) (.aF 3 0) (.aF 4 0) o (.bn 2 0 (A.map Ch.c).length 0) (ig 5)))::jv (c.c.map .pv) A B L Q):=by
 have cL:=Tm a b A c B L Q o bS h hn;have cR:=wP a b A c B L Q o 5 bS;clear h hn;simp only[wC,jv,aV.c,Pl.c,Ch.c,Oc.c,p8,hf,List.map_cons,List.map_nil,List.cons_append,List.nil_append] at cL cR ⊢;refine jA wR ?_;repeat' ((conv=>whnf);first|with_reducible apply aK|((with_reducible apply fk)<;>intro hc<;>try exact aM)|(refine Or.inr ?_;(conv=>whnf);refine⟨_,_,cL,?_⟩)|(apply fq;(conv=>whnf);refine⟨_,_,cL,?_⟩)|(apply fq;(conv=>whnf);refine⟨_,_,cR,?_⟩)|((refine⟨_,rfl,?_⟩))|((with_reducible apply And.intro);exact aG)|fail)
 refine⟨_,_,⟨rfl,rfl⟩,?_⟩;all_goals exact aL
theorem Rh (a b:Int)(A:List Ch)(c:Ch)(B:List Ch)(LA:List Lg)(x:Lg)(LB:List Lg)(Q:List Pa)(o:aV)(f:Fr)(F:List Fr)(e:Fr)(hle:x.aA=F++[e])(hFl:F.length≤1000)(YO:∀y∈F++[e],y.aI.length≤1000000)
  (h:tK (kF a b A c B (LA++x::LB) Q)) (hf:o.aA=[f]) (hfb:f.aI.length≤1000000) (hop:gX (kF a b A c B (LA++x::LB) Q) o.channel=some x) (hid:x.id=o.bA) (hix:qo (fun y=>y.id==x.id) (LA++x::LB)=((LA.map Lg.c).length:Int))
  (hq:(f.first==e.first)=false) (G:List Fr) (hG:G=(F++[e])++[f])
  (X:Bool×Oc) (hX:X=if (decide (f.first≥e.first)&&(((((F++[e]).map Fr.c).length:Int)==6)&&(decide (((G.map Fr.c).length:Int)>(((F++[e]).map Fr.c).length:Int))&&vT x.w f))) then (false,ig 3)
   else if decide (f.first<e.first) || !fw x.w G then (false,ig 5) else (true,bS)):dR prog 128 [.ptr 1 0]
  ((1,.var (wC a b (.aF 2 0) (.aF 3 0) (.aF 4 0) o (.bn 2 0 (A.map Ch.c).length 0) bS))::Cr (c.c.map .pv) A B (x.c.map .pv) LA LB Q) (.pv (.dn []))
  ((1,.var (wC a b (.aF 2 0) (.aF 3 0) (.aF 4 0) o (.bn 2 0 (A.map Ch.c).length 0) X.2))::(Cr (c.c.map .pv) A B (match X.1 with
    |true=>[.pv (uu x.id),.pv (ii x.w),.pv (ii x.a),.aF 1001 0,.pv (ii x.closed),.pv (uu x.last)]
    |false=>x.c.map .pv) LA LB Q++match X.1 with
    |true=>[(1001,.arr 80 0 2 (G.map Fr.c))]
    |false=>[])):=by
 have cL:=Li a b A c B LA x LB Q o bS h hop hid hix;have YP:=su a b A c B LA x LB Q o 3 bS;have YQ:=su a b A c B LA x LB Q o 5 bS;have cF:=OL x.w f (by omega);have hGb:∀y∈G,y.aI.length≤8796093022208:=by
  intro y hy;rw[hG] at hy;rcases List.mem_append.1 hy with hy|hy
  ·have:y∈F++[e]:=by first|exact hy|exact List.mem_append.2 (.inl hy)
   have:=YO y this;omega
  rw[List.mem_singleton] at hy;subst hy;omega
 have cM:=mZ x.w G hGb;have hGm:G.map Fr.c=(F++[e]).map Fr.c++[[uu f.first,vP f.aI]]:=by
  rw[hG,List.map_append];rfl
 rw[p8] at cM;rw[hGm] at cM hX ⊢;generalize fw x.w G=mf at *;generalize vT x.w f=ft at *;have hRl:((F++[e]).map Fr.c).length=F.length+1:=by simp
 have hw:IntKind.i64.wrap ((((F++[e]).map Fr.c).length:Int)-1)=(F.length:Int):=by rw[hRl,aO (by omega) (by omega)];omega
 have hrow:((F++[e]).map Fr.c)[((F.length:Nat):Int).toNat]? = some [uu e.first,vP e.aI]:=by
  have:=cu Fr.c (F++[e]) F.length (by simp);rw[this];simp[Fr.c]
 have hT1:mo ((F++[e]).map Fr.c) none (some (((F++[e]).map Fr.c).length:Int))=(F++[e]).map Fr.c:=by unfold mo;simp only;rw[Int.toNat_natCast,List.take_length]
 have hT2:mo ((F++[e]).map Fr.c) none (some (F.length:Int))=F.map Fr.c:=by unfold mo;simp only;rw[Int.toNat_natCast,List.map_append,List.take_append_of_le_length (by simp),List.take_of_length_le (by simp)]
 have aev:(F.map Fr.c).length=F.length:=by simp
 obtain⟨xi,xw,xa,xf,xc,xl⟩:=x;simp only at hle;subst hle;simp only[Lg.c,wC,Cr,aV.c,Pl.c,Ch.c,Oc.c,p8,hf,List.map_cons,List.map_nil,List.cons_append,List.nil_append] at cL YP YQ cF cM ⊢;generalize hS:F.map Fr.c=S at *;generalize hR:(F++[e]).map Fr.c=R at *;clear h YO hop hid hix hGb hG hGm hS hR;simp only[Fr.c] at cF cM;refine jA wR ?_;repeat' ((conv=>whnf);first|with_reducible apply aK|((with_reducible apply fk)<;>intro hc<;>try exact iK)|(refine Or.inr ?_;(conv=>whnf);refine⟨_,_,cL,?_⟩)|(apply fq;(conv=>whnf);refine⟨_,_,cL,?_⟩)|(apply fq;(conv=>whnf);refine⟨_,_,YP,?_⟩)|(apply fq;(conv=>whnf);refine⟨_,_,YQ,?_⟩)|((refine⟨_,rfl,?_⟩))|((refine⟨_,hrow,?_⟩))|rewrite[hw]|rewrite[hT1]|rewrite[hT2]|(apply aC;(conv=>whnf);refine⟨_,cF,?_⟩)|(apply aC;(conv=>whnf);refine⟨_,cM,?_⟩)|(((with_reducible apply And.intro);focus (simp only[dX,List.length_map];omega)))|((with_reducible apply And.intro);exact aG)|fail)
 all_goals clear cL YP YQ cF cM hrow hT1 hT2 hw hRl aev hFl
 all_goals
  simp only[Bool.not_true, *,Bool.true_or,Bool.or_true,Bool.false_or,Bool.or_false,Bool.true_and,Bool.and_true,Bool.false_and,Bool.and_false,Bool.not_true,Bool.not_false,Bool.false_eq_true,↓reduceIte] at hX;subst hX;refine⟨_,_,⟨rfl,rfl⟩,?_⟩;all_goals exact aL
theorem Ri (a b:Int)(A:List Ch)(c:Ch)(B:List Ch)(LA:List Lg)(x:Lg)(LB:List Lg)(Q:List Pa)(o:aV)(f:Fr)(F:List Fr)(e:Fr)(hle:x.aA=F++[e])(hFl:F.length≤1000)(YO:∀y∈F++[e],y.aI.length≤1000000)
  (h:tK (kF a b A c B (LA++x::LB) Q)) (hf:o.aA=[f]) (hfb:f.aI.length≤1000000) (hop:gX (kF a b A c B (LA++x::LB) Q) o.channel=some x) (hid:x.id=o.bA) (hix:qo (fun y=>y.id==x.id) (LA++x::LB)=((LA.map Lg.c).length:Int))
  (hq:(f.first==e.first)=true) (G:List Fr) (hG:G=F++[f])
  (X:Bool×Oc) (hX:X=if (decide (f.first≥e.first)&&(((((F++[e]).map Fr.c).length:Int)==6)&&(decide (((G.map Fr.c).length:Int)>(((F++[e]).map Fr.c).length:Int))&&vT x.w f))) then (false,ig 3)
   else if decide (f.first<e.first) || !fw x.w G then (false,ig 5) else (true,bS)):dR prog 128 [.ptr 1 0]
  ((1,.var (wC a b (.aF 2 0) (.aF 3 0) (.aF 4 0) o (.bn 2 0 (A.map Ch.c).length 0) bS))::Cr (c.c.map .pv) A B (x.c.map .pv) LA LB Q) (.pv (.dn []))
  ((1,.var (wC a b (.aF 2 0) (.aF 3 0) (.aF 4 0) o (.bn 2 0 (A.map Ch.c).length 0) X.2))::(Cr (c.c.map .pv) A B (match X.1 with
    |true=>[.pv (uu x.id),.pv (ii x.w),.pv (ii x.a),.aF 1001 0,.pv (ii x.closed),.pv (uu x.last)]
    |false=>x.c.map .pv) LA LB Q++match X.1 with
    |true=>[(1001,.arr 80 0 2 (G.map Fr.c))]
    |false=>[])):=by
 have cL:=Li a b A c B LA x LB Q o bS h hop hid hix;have YP:=su a b A c B LA x LB Q o 3 bS;have YQ:=su a b A c B LA x LB Q o 5 bS;have cF:=OL x.w f (by omega);have hGb:∀y∈G,y.aI.length≤8796093022208:=by
  intro y hy;rw[hG] at hy;rcases List.mem_append.1 hy with hy|hy
  ·have:y∈F++[e]:=by first|exact hy|exact List.mem_append.2 (.inl hy)
   have:=YO y this;omega
  rw[List.mem_singleton] at hy;subst hy;omega
 have cM:=mZ x.w G hGb;have hGm:G.map Fr.c=F.map Fr.c++[[uu f.first,vP f.aI]]:=by
  rw[hG,List.map_append];rfl
 rw[p8] at cM;rw[hGm] at cM hX ⊢;generalize fw x.w G=mf at *;generalize vT x.w f=ft at *;have hRl:((F++[e]).map Fr.c).length=F.length+1:=by simp
 have hw:IntKind.i64.wrap ((((F++[e]).map Fr.c).length:Int)-1)=(F.length:Int):=by rw[hRl,aO (by omega) (by omega)];omega
 have hrow:((F++[e]).map Fr.c)[((F.length:Nat):Int).toNat]? = some [uu e.first,vP e.aI]:=by
  have:=cu Fr.c (F++[e]) F.length (by simp);rw[this];simp[Fr.c]
 have hT1:mo ((F++[e]).map Fr.c) none (some (((F++[e]).map Fr.c).length:Int))=(F++[e]).map Fr.c:=by unfold mo;simp only;rw[Int.toNat_natCast,List.take_length]
 have hT2:mo ((F++[e]).map Fr.c) none (some (F.length:Int))=F.map Fr.c:=by unfold mo;simp only;rw[Int.toNat_natCast,List.map_append,List.take_append_of_le_length (by simp),List.take_of_length_le (by simp)]
 have aev:(F.map Fr.c).length=F.length:=by simp
 obtain⟨xi,xw,xa,xf,xc,xl⟩:=x;simp only at hle;subst hle;simp only[Lg.c,wC,Cr,aV.c,Pl.c,Ch.c,Oc.c,p8,hf,List.map_cons,List.map_nil,List.cons_append,List.nil_append] at cL YP YQ cF cM ⊢;generalize hS:F.map Fr.c=S at *;generalize hR:(F++[e]).map Fr.c=R at *;clear h YO hop hid hix hGb hG hGm hS hR;simp only[Fr.c] at cF cM;refine jA wR ?_;repeat' ((conv=>whnf);first|with_reducible apply aK|((with_reducible apply fk)<;>intro hc<;>try exact iK)|(refine Or.inr ?_;(conv=>whnf);refine⟨_,_,cL,?_⟩)|(apply fq;(conv=>whnf);refine⟨_,_,cL,?_⟩)|(apply fq;(conv=>whnf);refine⟨_,_,YP,?_⟩)|(apply fq;(conv=>whnf);refine⟨_,_,YQ,?_⟩)|((refine⟨_,rfl,?_⟩))|((refine⟨_,hrow,?_⟩))|rewrite[hw]|rewrite[hT1]|rewrite[hT2]|(apply aC;(conv=>whnf);refine⟨_,cF,?_⟩)|(apply aC;(conv=>whnf);refine⟨_,cM,?_⟩)|(((with_reducible apply And.intro);focus (simp only[dX,List.length_map];omega)))|((with_reducible apply And.intro);exact aG)|fail)
 all_goals clear cL YP YQ cF cM hrow hT1 hT2 hw hRl aev hFl
 all_goals
  simp only[Bool.not_true, *,Bool.true_or,Bool.or_true,Bool.false_or,Bool.or_false,Bool.true_and,Bool.and_true,Bool.false_and,Bool.and_false,Bool.not_true,Bool.not_false,Bool.false_eq_true,↓reduceIte] at hX;subst hX;refine⟨_,_,⟨rfl,rfl⟩,?_⟩;all_goals exact aL
theorem Dw:Mg prog 129 f129:=bZ func129
theorem Vs (a b:Int)(A:List Ch)(c:Ch)(B:List Ch)(L:List Lg)(Q:List Pa)(o:aV)(h:tK (kF a b A c B L Q))(hn:pK (kF a b A c B L Q) o=none):dR prog 129 [.ptr 1 0]
  ((1,.var (wC a b (.aF 2 0) (.aF 3 0) (.aF 4 0) o (.bn 2 0 (A.map Ch.c).length 0) bS))::jv (c.c.map .pv) A B L Q) (.pv (.dn []))
  ((1,.var (wC a b (.aF 2 0) (.aF 3 0) (.aF 4 0) o (.bn 2 0 (A.map Ch.c).length 0) (ig 5)))::jv (c.c.map .pv) A B L Q):=by
 have cL:=Tm a b A c B L Q o bS h hn;have cR:=wP a b A c B L Q o 5 bS;have cE:=zC (kF a b A c B L Q) o.channel h;have e1:(kF a b A c B L Q).c=[uu a,uu b,.sl false 9 (A.map Ch.c++c.c::B.map Ch.c),.sl false 6 (L.map Lg.c),.sl false 8 (Q.map Pa.c)]:=by
  simp only[kF,Pn.c,jL,dN,uR,List.map_append,List.map_cons]
 rw[e1] at cE;generalize kV (kF a b A c B L Q) o.channel=en at *;clear h hn e1;simp only[wC,jv,aV.c,Pl.c,Ch.c,Oc.c,List.map_cons,List.map_nil,List.cons_append,List.nil_append] at cL cR cE ⊢;refine jA Dw ?_;repeat' ((conv=>whnf);first|fail|((with_reducible apply fk)<;>intro hc<;>try exact aM)|(apply fq;(conv=>whnf);refine⟨_,_,cL,?_⟩)|((with_reducible apply And.intro);exact aG)|fail)
 (conv=>whnf)
 refine Or.inr ⟨Unit,fun _=>⟨[(0,.ptr 1 0),(2,.pv (.sc (.pointer none))),(3,.pv (uu en))],1000000000,((1,.var (wC a b (.aF 2 0) (.aF 3 0) (.aF 4 0) o (.bn 2 0 (A.map Ch.c).length 0) bS))::jv (c.c.map .pv) A B L Q)⟩,?_,fun _=>?_⟩
 ·repeat' ((conv=>whnf)
           first
           |with_reducible apply aK
           |((with_reducible apply fk)<;>intro hc<;>try exact aM)
           |(apply aC;(conv=>whnf);refine⟨_,cE,?_⟩)
           |((with_reducible apply And.intro);exact aG)|fail)
  refine⟨(),ak ?_⟩;simp only[Lg.c,wC,jv,Cr,aV.c,Pl.c,Ch.c,Oc.c,List.map_cons,List.map_nil,List.cons_append,List.nil_append];repeat' first|((conv=>whnf);with_reducible apply And.intro)|exact aL|fail
  all_goals try (conv=>whnf)
 simp only[Lg.c,wC,jv,Cr,aV.c,Pl.c,Ch.c,Oc.c,List.map_cons,List.map_nil,List.cons_append,List.nil_append];repeat' ((conv=>whnf);first|with_reducible apply aK|((with_reducible apply fk)<;>intro hc<;>try exact aM)|(apply fq;(conv=>whnf);refine⟨_,_,cR,?_⟩)|((with_reducible apply And.intro);exact aG)|fail)
 refine⟨_,_,⟨rfl,rfl⟩,?_⟩;all_goals exact aL
theorem Vt (a b:Int)(A:List Ch)(c:Ch)(B:List Ch)(LA:List Lg)(x:Lg)(LB:List Lg)(Q:List Pa)(o:aV)(YO:∀y∈o.aA,y.aI.length≤1000000)
  (h:tK (kF a b A c B (LA++x::LB) Q)) (hop:gX (kF a b A c B (LA++x::LB) Q) o.channel=some x) (hid:x.id=o.bA) (hix:qo (fun y=>y.id==x.id) (LA++x::LB)=((LA.map Lg.c).length:Int))
  (X:Lg×Oc) (hX:X=if (!fw x.w o.aA||(decide (o.at_>8)||decide (c.trim>dO (kV (kF a b A c B (LA++x::LB) Q) o.channel) o.at_))) then (x,ig 5) else ({ x with aA:=o.aA,closed:=1,last:=o.at_ },bS)):dR prog 129 [.ptr 1 0]
  ((1,.var (wC a b (.aF 2 0) (.aF 3 0) (.aF 4 0) o (.bn 2 0 (A.map Ch.c).length 0) bS))::Cr (c.c.map .pv) A B (x.c.map .pv) LA LB Q) (.pv (.dn []))
  ((1,.var (wC a b (.aF 2 0) (.aF 3 0) (.aF 4 0) o (.bn 2 0 (A.map Ch.c).length 0) X.2))::Cr (c.c.map .pv) A B (X.1.c.map .pv) LA LB Q):=by
 have cL:=Li a b A c B LA x LB Q o bS h hop hid hix;have cR:=su a b A c B LA x LB Q o 5 bS;have cE:=zC (kF a b A c B (LA++x::LB) Q) o.channel h;have cM:=mZ x.w o.aA fun y hy=>by have:=YO y hy;omega
 have e1:(kF a b A c B (LA++x::LB) Q).c=[uu a,uu b,.sl false 9 (A.map Ch.c++c.c::B.map Ch.c),.sl false 6 (LA.map Lg.c++x.c::LB.map Lg.c),.sl false 8 (Q.map Pa.c)]:=by
  simp only[kF,Pn.c,jL,dN,uR,List.map_append,List.map_cons]
 rw[e1] at cE;unfold dO at hX;generalize fw x.w o.aA=mf at *;generalize kV (kF a b A c B (LA++x::LB) Q) o.channel=en at *;clear h e1 hop hid hix YO;obtain⟨xi,xw,xa,xf,xc,xl⟩:=x;simp only[Lg.c,wC,Cr,aV.c,Pl.c,Ch.c,Oc.c,List.map_cons,List.map_nil,List.cons_append,List.nil_append] at cL cR cE cM ⊢;refine jA Dw ?_;repeat' ((conv=>whnf);first|fail|((with_reducible apply fk)<;>intro hc<;>try exact aM)|(apply fq;(conv=>whnf);refine⟨_,_,cL,?_⟩)|((with_reducible apply And.intro);exact aG)|fail)
 (conv=>whnf)
 refine Or.inr ⟨Unit,fun _=>⟨[(0,.ptr 1 0),(2,.bn 3 0 (LA.map Lg.c).length 0),(3,.pv (uu en))],1000000000,((1,.var (wC a b (.aF 2 0) (.aF 3 0) (.aF 4 0) o (.bn 2 0 (A.map Ch.c).length 0) bS))::Cr (c.c.map .pv) A B [.pv (uu xi),.pv (ii xw),.pv (ii xa),.pv (p8 xf),.pv (ii xc),.pv (uu xl)] LA LB Q)⟩,?_,fun _=>?_⟩
 ·repeat' ((conv=>whnf)
           first
           |with_reducible apply aK
           |((with_reducible apply fk)<;>intro hc<;>try exact aM)
           |(apply aC;(conv=>whnf);refine⟨_,cE,?_⟩)
           |((with_reducible apply And.intro);exact aG)|fail)
  refine⟨(),ak ?_⟩;simp only[Lg.c,wC,jv,Cr,aV.c,Pl.c,Ch.c,Oc.c,List.map_cons,List.map_nil,List.cons_append,List.nil_append];repeat' first|((conv=>whnf);with_reducible apply And.intro)|exact aL|fail
  all_goals try (conv=>whnf)
 simp only[Lg.c,wC,jv,Cr,aV.c,Pl.c,Ch.c,Oc.c,List.map_cons,List.map_nil,List.cons_append,List.nil_append];repeat' ((conv=>whnf);first|with_reducible apply aK|((with_reducible apply fk)<;>intro hc<;>try exact iK)|(apply fq;(conv=>whnf);refine⟨_,_,cR,?_⟩)|(apply aC;(conv=>whnf);refine⟨_,cM,?_⟩)|((with_reducible apply And.intro);exact aG)|fail)
 all_goals clear cL cR cE cM
 all_goals
  simp only[Bool.not_true, *,Bool.true_or,Bool.or_true,Bool.false_or,Bool.or_false,Bool.true_and,Bool.and_true,Bool.false_and,Bool.and_false,Bool.not_true,Bool.not_false,Bool.false_eq_true,↓reduceIte] at hX;subst hX;refine⟨_,_,⟨rfl,rfl⟩,?_⟩;all_goals exact aL
theorem Vu:Mg prog 169 f169:=bZ func169
theorem Rj (p:Pn)(trim id:Int)(r:List Int)(first:Int):fG p trim (id::r) first=(if ((dm p id).closed==0||decide (IntKind.u64.wrap (first+(dm p id).last)>trim))=true then (0,first) else ((fG p trim r (IntKind.u64.wrap (first+(dm p id).last))).1+1,(fG p trim r (IntKind.u64.wrap (first+(dm p id).last))).2)):=rfl
theorem Rk (a b:Int)(A:List Ch)(c:Ch)(B:List Ch)(L:List Lg)(Q:List Pa)(o:aV)(out:Oc)(h:tK (kF a b A c B L Q))(hl:c.af.length≤1000000):dR prog 169 [.ptr 1 0]
  ((1,.var (wC a b (.aF 2 0) (.aF 3 0) (.aF 4 0) o (.bn 2 0 (A.map Ch.c).length 0) out))::jv (c.c.map .pv) A B L Q)
  (.pv (.dn [ii (fG (kF a b A c B L Q) c.trim c.af c.first).1,uu (fG (kF a b A c B L Q) c.trim c.af c.first).2]))
  ((1,.var (wC a b (.aF 2 0) (.aF 3 0) (.aF 4 0) o (.bn 2 0 (A.map Ch.c).length 0) out))::jv (c.c.map .pv) A B L Q):=by
 have cF:=fun id=>abp (kF a b A c B L Q) id h
 have e1:(kF a b A c B L Q).c=[uu a,uu b,.sl false 9 (A.map Ch.c++c.c::B.map Ch.c),.sl false 6 (L.map Lg.c),.sl false 8 (Q.map Pa.c)]:=by
  simp only[kF,Pn.c,jL,dN,uR,List.map_append,List.map_cons]
 rw[e1] at cF;clear h e1;generalize kF a b A c B L Q=p at *;obtain⟨X,hX⟩:∃X,X=fG p c.trim c.af c.first:=⟨_,rfl⟩
 rw[←hX];have hm:((c.af.map dh).length:Int)=(c.af.length:Int):=by rw[List.length_map]
 simp only[lgJ,wC,jv,aV.c,Pl.c,Ch.c,Oc.c,List.map_cons,List.map_nil,List.cons_append,List.nil_append] at cF ⊢;refine jA Vu ?_;repeat' ((conv=>whnf);first|with_reducible apply aK|((with_reducible apply fk)<;>intro hc<;>try exact aM)|((with_reducible apply And.intro);exact aG)|fail)
 refine⟨{kf:Nat×Int // kf.1≤c.af.length∧X=(kf.1+(fG p c.trim (c.af.drop kf.1) kf.2).1,(fG p c.trim (c.af.drop kf.1) kf.2).2)},fun⟨(k,f),_⟩=>⟨[(0,.ptr 1 0),(2,.pv (ii k)),(3,.pv (uu f)),(21,.pv (p9 c.af)),(22,.pv (ii c.af.length)),(23,.pv (ii k))],1000000000,(1,.var (wC a b (.aF 2 0) (.aF 3 0) (.aF 4 0) o (.bn 2 0 (A.map Ch.c).length 0) out))::jv (c.c.map .pv) A B L Q⟩,fun⟨(k,_),_⟩=>c.af.length-k,⟨⟨(0,c.first),by rw[hX];simp⟩,ak ?_⟩,?_⟩
 ·simp only[wC,jv,aV.c,Pl.c,Ch.c,Oc.c,List.map_cons,List.map_nil,List.cons_append,List.nil_append];repeat' first|((conv=>whnf);with_reducible apply And.intro)|exact aL|fail
  all_goals try (conv=>whnf)
  all_goals exact hm
 rintro⟨⟨k,f⟩,hk,hn⟩
 simp only at hk hn;simp only[wC,jv,aV.c,Pl.c,Ch.c,Oc.c,List.map_cons,List.map_nil,List.cons_append,List.nil_append];by_cases hlt:k<c.af.length
 ·have d0:decide ((k:Int)<(c.af.length:Int))=true:=by simp only[kC];omega
  have eW:IntKind.i64.wrap ((k:Int)+1)=((k+1:Nat):Int):=by rw[aO (by omega) (by omega)];omega
  have hr:=cu dh c.af k hlt;have cF:=cF c.af[k];rw[List.drop_eq_getElem_cons hlt] at hn;rw[Rj] at hn;generalize c.af[k]=id at *;generalize dm p id=x at *;obtain⟨xi,xw,xa,xf,xc,xl⟩:=x;simp only at hn cF;simp only[dh] at hr;clear hX;repeat' ((conv=>whnf);first|with_reducible apply aK|((with_reducible apply fk)<;>intro hc<;>try exact aM)|((refine⟨_,hr,?_⟩))|(apply aC;(conv=>whnf);refine⟨_,cF,?_⟩)|(((with_reducible apply And.intro);exact mg))|((with_reducible apply And.intro);exact aG)|fail)
  ·simp only[*,Bool.true_or,↓reduceIte] at hn;subst hn;refine⟨_,_,⟨rfl,rfl⟩,?_⟩;all_goals exact aL
  ·simp only[*,Bool.false_or,Bool.or_true,↓reduceIte] at hn;subst hn;refine⟨_,_,⟨rfl,rfl⟩,?_⟩;all_goals exact aL
  simp only[*,Bool.false_or,Bool.or_false,Bool.false_eq_true,↓reduceIte] at hn;refine⟨⟨(k+1,IntKind.u64.wrap (f+xl)),hlt,?_⟩,dec_lt hlt,ak ?_⟩
  ·rw[hn];simp only[Nat.add_assoc,Nat.add_comm 1,Nat.add_left_comm]
  simp only[wC,jv,aV.c,Pl.c,Ch.c,Oc.c,List.map_cons,List.map_nil,List.cons_append,List.nil_append];repeat' first|((conv=>whnf);with_reducible apply And.intro)|exact aL|fail
  all_goals try (conv=>whnf)
  all_goals exact eW
 have hke:k=c.af.length:=by omega
 subst hke;have d0:decide ((c.af.length:Int)<(c.af.length:Int))=false:=by simp
 have hn:X=(c.af.length,f):=by rw[hn,List.drop_length];simp[fG]
 subst hn;clear hX cF;repeat' ((conv=>whnf);first|with_reducible apply aK|((with_reducible apply fk)<;>intro hc<;>try exact aM)|((with_reducible apply And.intro);exact aG)|fail)
 refine⟨_,_,⟨rfl,rfl⟩,?_⟩;all_goals exact aL
theorem Gw:Mg prog 206 f206:=bZ func206
theorem Iu:Mg prog 174 f174:=bZ func174
theorem Vz (l:List Int)(a:Int):bE prog 206 [p9 l,uu a] (ii (qo (fun y=>y==a) l)):=by
 refine PC.le (kL Gw fun hb=>?_);have hb:l.length≤9223372036854775807:=by simpa[DR,y7,p9] using hb
 refine bN Gw ?_;repeat' ((conv=>whnf);first|with_reducible apply aK|((with_reducible apply fk)<;>intro hc<;>try exact aM)|((with_reducible apply And.intro);exact aG)|fail)
 refine⟨{k:Nat // k≤l.length∧∀j (hj:j<l.length),j<k→(a==l[j])=false},fun⟨k,_⟩=>⟨[(0,.pv (p9 l)),(1,.pv (uu a)),(7,.pv (ii l.length)),(8,.pv (ii k))],1000000000,[]⟩,fun⟨k,_⟩=>l.length-k,⟨⟨0,by simp⟩,ak ?_⟩,?_⟩
 ·repeat' first
   |fail
   |with_reducible exact True.intro
   |with_reducible exact rfl
   |with_reducible exact ah _
   |((conv=>whnf);with_reducible apply And.intro)
   |((conv=>whnf);with_reducible exact True.intro)
   |exact rfl
   |exact fun h=>h
   |exact ah _
  all_goals try (conv=>whnf)
  all_goals simp
 rintro⟨k,hk,hn⟩
 repeat' ((conv=>whnf);first|with_reducible apply aK|((with_reducible apply fk)<;>intro hc<;>try exact aM)|((with_reducible apply And.intro);exact aG)|fail)
 ·have hlt:k<l.length:=by simpa using hc
  refine⟨_,cu dh _ _ hlt,?_⟩;repeat' ((conv=>whnf);first|with_reducible apply aK|((with_reducible apply fk)<;>intro hc<;>try exact aM)|((with_reducible apply And.intro);exact aG)|fail)
  ·skip
   repeat' first|((conv=>whnf);with_reducible apply And.intro)|exact aL|fail
   all_goals try (conv=>whnf)
   exact (nU _ hlt (fun j hj hjk=>by have:=hn j hj hjk;rw[←this];exact Bool.beq_comm) (by rw[←hc];exact Bool.beq_comm)).symm
  skip
  repeat' ((conv=>whnf);first|with_reducible apply aK|((with_reducible apply fk)<;>intro hc<;>try exact aM)|((with_reducible apply And.intro);exact aG)|fail)
  refine⟨⟨k+1,hlt,dS hn fun _=>hc⟩,dec_lt hlt,ak ?_⟩;repeat' first|((conv=>whnf);with_reducible apply And.intro)|exact aL|fail
  all_goals try (conv=>whnf)
  exact aO (by omega) (by omega)
 skip
 repeat' first|((conv=>whnf);with_reducible apply And.intro)|exact aL|fail
 all_goals try (conv=>whnf)
 have:k=l.length:=by simp at hc;omega
 subst this;exact (iP _ (fun x hx=>by obtain⟨j,hj,rfl⟩:=List.getElem_of_mem hx;have:=hn j hj hj;rw[←this];exact Bool.beq_comm)).symm
theorem Lm (l:List Int)(a:Int):bE prog 174 [p9 l,uu a] (bl (l.any fun y=>y==a)):=by
 refine PC.le ?_;refine bN Iu ?_;repeat' ((conv=>whnf);first|with_reducible apply aK|((with_reducible apply fk)<;>intro hc<;>try exact aM)|(apply aC;(conv=>whnf);refine⟨_,Vz _ _,?_⟩)|((with_reducible apply And.intro);exact aG)|fail)
 repeat' first|((conv=>whnf);with_reducible apply And.intro)|exact aL|fail
 all_goals try (conv=>whnf)
 all_goals exact tF _ _
theorem Lp:Mg prog 171 f171:=bZ func171
theorem Lr:Mg prog 173 f173:=bZ func173
theorem Cs (x:Mk)(n:Int):bE prog 171 ([]++([.agg x.c]++[.bU [uu n] 0])) (bl (decide (x.offset≥n))):=by
 refine PC.le ?_;refine bN Lp ?_;repeat' ((conv=>whnf);first|with_reducible apply aK|((with_reducible apply fk)<;>intro hc<;>try exact aM)|((with_reducible apply And.intro);exact aG)|fail)
 all_goals exact aL
theorem JS (x:Lg)(T:List Int):bE prog 173 ([]++([.agg x.c]++[.bU [p9 T] 0])) (bl (T.any fun y=>y==x.id)):=by
 refine PC.le ?_;refine bN Lr ?_;repeat' ((conv=>whnf);first|with_reducible apply aK|((with_reducible apply fk)<;>intro hc<;>try exact aM)|(apply aC;(conv=>whnf);refine⟨_,Lm _ _,?_⟩)|((with_reducible apply And.intro);exact aG)|fail)
 all_goals exact aL
theorem sw:Mg prog 172 f172:=bZ func172
theorem Ct (T:List Int)(l:List Lg)(h0:∀x∈l,(fun (x:Lg)=>T.any fun y=>y==x.id) x=false)(hl:l.length≤1000000) :
  dR prog 172 [.aF 1 0,.pv (.fn (.func 173) [] [.bU [p9 T] 0])] ((1,.arr 50 0 6 (l.map Lg.c))::[]) (.aF 1 0) ((1,.arr 50 0 6 (l.map Lg.c))::[]):=by
 have hx:qo (fun (x:Lg)=>T.any fun y=>y==x.id) l = -1:=iP (fun (x:Lg)=>T.any fun y=>y==x.id) h0;have hD:∀m:List Lg,∀x∈l,bE prog 173 ([]++([.agg x.c]++[.bU [p9 T] 0])) (bl ((fun (x:Lg)=>T.any fun y=>y==x.id) x)):=fun m x _=>JS _ _
 have cI:=dW l 173 [] [.bU [p9 T] 0] (fun (x:Lg)=>T.any fun y=>y==x.id) (hD l);rw[hx] at cI;clear hx hD h0;try simp only[List.map_cons,List.map_nil,List.cons_append,List.nil_append,List.map_append] at cI ⊢
 refine jA sw ?_;repeat' ((conv=>whnf);first|with_reducible apply aK|((with_reducible apply fk)<;>intro hc<;>try exact aM)|(apply aC;(conv=>whnf);refine⟨_,cI,?_⟩)|((with_reducible apply And.intro);exact aG)|fail)
 refine⟨_,_,⟨rfl,rfl⟩,?_⟩;all_goals exact aL
theorem Bg (T:List Int)(l:List Lg)(h0:¬∀x∈l,(fun (x:Lg)=>T.any fun y=>y==x.id) x=false)(hl:l.length≤1000000) :
  dR prog 172 [.aF 1 0,.pv (.fn (.func 173) [] [.bU [p9 T] 0])] ((1,.arr 50 0 6 (l.map Lg.c))::[]) (.sub 1 0 6 0 (l.filter fun x=>!(fun (x:Lg)=>T.any fun y=>y==x.id) x).length) ((1,.arr 50 0 6 ((l.filter fun x=>!(fun (x:Lg)=>T.any fun y=>y==x.id) x).map Lg.c++List.replicate (l.length-(l.filter fun x=>!(fun (x:Lg)=>T.any fun y=>y==x.id) x).length) [uu 0,ii 0,ii 0,.sc (.slice none 0 0),ii 0,uu 0]))::[]):=by
 obtain⟨ix,hix,hxe,hxp,hxf⟩:∃k,∃hk:k<l.length,qo (fun (x:Lg)=>T.any fun y=>y==x.id) l=(k:Nat)∧(fun (x:Lg)=>T.any fun y=>y==x.id) l[k]=true∧∀j (hj:j<l.length),j<k→(fun (x:Lg)=>T.any fun y=>y==x.id) l[j]=false:=by
  rcases nK (fun (x:Lg)=>T.any fun y=>y==x.id) l with ⟨_,h⟩|⟨k,hk,h1,h2,h3⟩
  ·exact absurd h h0
  exact⟨k,hk,h1,h2,h3⟩
 obtain⟨hS,hK⟩:=ze (p:=(fun (x:Lg)=>T.any fun y=>y==x.id)) ix hix hxf hxp;have hD:∀m:List Lg,∀x∈l,bE prog 173 ([]++([.agg x.c]++[.bU [p9 T] 0])) (bl ((fun (x:Lg)=>T.any fun y=>y==x.id) x)):=fun m x _=>JS _ _
 have cI:=dW l 173 [] [.bU [p9 T] 0] (fun (x:Lg)=>T.any fun y=>y==x.id) (hD l);rw[hxe] at cI;have d9:((ix:Int) == -1)=false:=by simp
 have eX:IntKind.i64.wrap ((ix:Int)+1)=((ix+1:Nat):Int):=by rw[aO (by omega) (by omega)];omega
 try simp only[List.map_cons,List.map_nil,List.cons_append,List.nil_append,List.map_append] at cI hD ⊢
 refine jA sw ?_;repeat' ((conv=>whnf);first|with_reducible apply aK|((with_reducible apply fk)<;>intro hc<;>try exact aM)|(apply aC;(conv=>whnf);refine⟨_,cI,?_⟩)|((with_reducible apply And.intro);exact aG)|fail)
 clear cI d9;refine⟨{jm:Nat×List Lg // KE (fun (x:Lg)=>T.any fun y=>y==x.id) l jm},fun⟨(j,m),_⟩=>⟨[(0,.aF 1 0),(1,.pv (.fn (.func 173) [] [.bU [p9 T] 0])),(5,.pv (ii (dF (fun (x:Lg)=>T.any fun y=>y==x.id) l j).length)),(6,.pv (ii j))],1000000000,(1,.arr 50 0 6 (m.map Lg.c))::[]⟩,fun⟨(j,_),_⟩=>l.length-j,⟨⟨(ix+1,l),hS⟩,ak ?_⟩,?_⟩
 ·simp only[List.map_cons,List.map_nil,List.cons_append,List.nil_append,List.map_append];repeat' first|((conv=>whnf);with_reducible apply And.intro)|exact aL|fail
  all_goals try (conv=>whnf)
  all_goals first
   |exact eX
   |rw[hK]
 rintro⟨⟨j,m⟩,hj⟩
 obtain⟨hj1,hj2,hj3,hj4⟩:=id hj;simp only at hj1 hj2 hj3 hj4;have hkl:=Ar (fun (x:Lg)=>T.any fun y=>y==x.id) l j hj1;try simp only[List.map_cons,List.map_nil,List.cons_append,List.nil_append,List.map_append]
 by_cases hlt:j<m.length
 ·have hlt2:j<l.length:=by omega
  have d0:decide ((j:Int)<((m.map Lg.c).length:Int))=true:=by simp only[List.length_map,decide_eq_true_eq];omega
  obtain⟨_,he⟩:=Fu hj hlt2;have JL:=hD m m[j] (by rw[he];exact List.getElem_mem hlt2);have hi:(dF (fun (x:Lg)=>T.any fun y=>y==x.id) l j).length<m.length:=by omega
  have eJ:IntKind.i64.wrap ((j:Int)+1)=((j+1:Nat):Int):=by rw[aO (by omega) (by omega)];omega
  cases hp2:(fun (x:Lg)=>T.any fun y=>y==x.id) m[j] with
  | false=>
    change bE _ _ _ (bl ((fun (x:Lg)=>T.any fun y=>y==x.id) m[j])) at JL
    rw[hp2] at JL;have Pd:(fun (x:Lg)=>T.any fun y=>y==x.id) l[j]=false:=by rw[←he];exact hp2
    have hks:(dF (fun (x:Lg)=>T.any fun y=>y==x.id) l (j+1)).length=(dF (fun (x:Lg)=>T.any fun y=>y==x.id) l j).length+1:=za hlt2 Pd;have eI:IntKind.i64.wrap (((dF (fun (x:Lg)=>T.any fun y=>y==x.id) l j).length:Int)+1)=((dF (fun (x:Lg)=>T.any fun y=>y==x.id) l (j+1)).length:Int):=by rw[aO (by omega) (by omega),hks];omega
    repeat' ((conv=>whnf);first|with_reducible apply aK|((with_reducible apply fk)<;>intro hc<;>try exact aM)|(((with_reducible apply And.intro);exact mg))|((refine⟨_,cu _ _ _ hlt,?_⟩))|((refine⟨_,cu _ _ _ hi,?_⟩))|(apply aC;(conv=>whnf);refine⟨_,JL,?_⟩)|((with_reducible apply And.intro);exact aG)|fail)
    refine⟨⟨(j+1,m.set (dF (fun (x:Lg)=>T.any fun y=>y==x.id) l j).length l[j]),BP hj hlt2 Pd⟩,dec_lt hlt2,ak ?_⟩;try simp only[List.map_cons,List.map_nil,List.cons_append,List.nil_append,List.map_append]
    repeat' first|((conv=>whnf);with_reducible apply And.intro)|exact aL|fail
    all_goals try (conv=>whnf)
    all_goals first
     |exact eI
     |exact eJ
     | (refine iG ?_
        rw[←he,List.map_set];rfl)
  | true=>
    change bE _ _ _ (bl ((fun (x:Lg)=>T.any fun y=>y==x.id) m[j])) at JL
    rw[hp2] at JL;have hpt:(fun (x:Lg)=>T.any fun y=>y==x.id) l[j]=true:=by rw[←he];exact hp2
    have hks:(dF (fun (x:Lg)=>T.any fun y=>y==x.id) l (j+1)).length=(dF (fun (x:Lg)=>T.any fun y=>y==x.id) l j).length:=zb hlt2 hpt;repeat' ((conv=>whnf);first|with_reducible apply aK|((with_reducible apply fk)<;>intro hc<;>try exact aM)|(((with_reducible apply And.intro);exact mg))|((refine⟨_,cu _ _ _ hlt,?_⟩))|(apply aC;(conv=>whnf);refine⟨_,JL,?_⟩)|((with_reducible apply And.intro);exact aG)|fail)
    refine⟨⟨(j+1,m),BO hj hlt2 hpt⟩,dec_lt hlt2,ak ?_⟩;try simp only[List.map_cons,List.map_nil,List.cons_append,List.nil_append,List.map_append]
    repeat' first|((conv=>whnf);with_reducible apply And.intro)|exact aL|fail
    all_goals try (conv=>whnf)
    all_goals first
     |exact eJ
     |rw[hks]
 have hjl:j=l.length:=by omega
 have d0:decide ((j:Int)<((m.map Lg.c).length:Int))=false:=by simp only[List.length_map,decide_eq_false_iff_not];omega
 subst hjl;have hkf:dF (fun (x:Lg)=>T.any fun y=>y==x.id) l l.length=l.filter fun x=>!(fun (x:Lg)=>T.any fun y=>y==x.id) x:=by unfold dF;rw[List.take_length]
 repeat' ((conv=>whnf);first|with_reducible apply aK|((with_reducible apply fk)<;>intro hc<;>try exact aM)|(((with_reducible apply And.intro);focus (simp only[List.length_map,List.length_append,List.length_take,List.length_drop,List.length_replicate];omega)))|((with_reducible apply And.intro);exact aG)|fail)
 refine⟨_,_,⟨rfl,rfl⟩,?_⟩;repeat' first|((conv=>whnf);with_reducible apply And.intro)|exact aL|fail
 all_goals try (conv=>whnf)
 all_goals first
  |(rw[hkf];rfl)
  | (refine iG ?_
     rw[←hkf,Int.toNat_natCast,List.length_map,←List.map_take,hj3,List.drop_eq_nil_of_le (by simp),List.append_nil,hj2])
theorem Cv (T:List Int)(l:List Lg)(h0:¬∀x∈l,(fun (x:Lg)=>T.any fun y=>y==x.id) x=false)(hl:l.length≤1000000) :
  dR prog 172 [.aF 1 0,.pv (.fn (.func 173) [] [.bU [p9 T] 0])] ((1,.arr 50 0 6 (l.map Lg.c))::[]) (.aF 1 1) ((1,.arr 50 1 6 ((l.filter fun x=>!(fun (x:Lg)=>T.any fun y=>y==x.id) x).map Lg.c))::[]):=by
 have h:=KN (Bg T l h0 hl) (by simp);rw[List.take_append_of_le_length (by simp),List.take_of_length_le (by simp)] at h;exact h
theorem iZ:Mg prog 131 f131:=bZ func131
theorem VA (a b:Int)(A:List Ch)(c:Ch)(B:List Ch)(L:List Lg)(Q:List Pa)(o:aV)(h:tK (kF a b A c B L Q))(hl:c.af.length≤1000000)(hL:L.length≤1000000)(y:Nat×Int)(hy:y=fG (kF a b A c B L Q) c.trim c.af c.first)(hn:y.1≤c.af.length)(T R:List Int)(hT:T=c.af.take y.1)(hR:R=c.af.drop y.1)(se:Bool)(hse:o.seen.any (fun x=>decide (x.offset≥y.2))=se)(hno:(!l6 R o.bA||se)=true):dR prog 131 [.ptr 1 0]
  ((1,.var (wC a b (.aF 2 0) (.aF 3 0) (.aF 4 0) o (.bn 2 0 (A.map Ch.c).length 0) bS))::jv (c.c.map .pv) A B L Q) (.pv (.dn []))
  ((1,.var (wC a b (.aF 2 0) (.aF 3 0) (.aF 4 0) o (.bn 2 0 (A.map Ch.c).length 0) (ig 5)))::jv (c.c.map .pv) A B L Q):=by
 have cR:=wP a b A c B L Q o 5 bS;have cG:=Rk a b A c B L Q o bS h (by omega);rw[←hy] at cG;obtain⟨n,fi⟩:=y;simp only at hn hT hR cG hse ⊢;have cS:=jd o.seen 171 [] [.bU [uu fi] 0] (fun x=>decide (x.offset≥fi)) fun x _=>Cs x fi
 rw[hse] at cS;have Ph:mo (c.af.map dh) (some (n:Int)) none=R.map dh:=by rw[hR];unfold mo;simp only;rw[Int.toNat_natCast,List.map_drop]
 have hC2:mo (c.af.map dh) none (some (n:Int))=T.map dh:=by rw[hT];unfold mo;simp only;rw[Int.toNat_natCast,List.map_take]
 have hnl:(n:Int)≤((c.af.map dh).length:Int):=by rw[List.length_map];omega
 have hRl:R.length≤1000000:=by rw[hR,List.length_drop];omega
 have cC:=Bb R (by omega);clear h hy hT hR hn hse;simp only[p9,qp,wC,jv,aV.c,Pl.c,Ch.c,Oc.c,List.map_cons,List.map_nil,List.cons_append,List.nil_append] at cG cR cS ⊢;cases R with
 | nil=>
   simp only[l6,List.map_nil] at hno Ph;have hz:(((([]:List (List PV)).length:Nat):Int)==0)=true:=by rfl
   have hp:decide (((([]:List (List PV)).length:Nat):Int)>0)=false:=by rfl
   cases hq:(o.bA==0) with
   | false=>
     clear hno;refine jA iZ ?_;repeat' ((conv=>whnf);first|with_reducible apply aK|((with_reducible apply fk)<;>intro hc<;>try exact iK)|rewrite[AP]|rewrite[AQ]|rewrite[Ph]|rewrite[hC2]|(apply fq;(conv=>whnf);refine⟨_,_,cG,?_⟩)|(apply aC;(conv=>whnf);refine⟨_,cS,?_⟩)|(apply fq;(conv=>whnf);refine⟨_,_,cR,?_⟩)|((refine⟨_,rfl,?_⟩))|(((with_reducible apply And.intro);focus (simp only[dX];omega)))|((with_reducible apply And.intro);exact aG)|fail)
     all_goals clear cG cS cR
     all_goals
      refine⟨_,_,⟨rfl,rfl⟩,?_⟩;all_goals exact aL
   | true=>
     have hs:se=true:=by simpa[hq] using hno
     subst hs;clear hno;refine jA iZ ?_;repeat' ((conv=>whnf);first|with_reducible apply aK|((with_reducible apply fk)<;>intro hc<;>try exact iK)|rewrite[AP]|rewrite[AQ]|rewrite[Ph]|rewrite[hC2]|(apply fq;(conv=>whnf);refine⟨_,_,cG,?_⟩)|(apply aC;(conv=>whnf);refine⟨_,cS,?_⟩)|(apply fq;(conv=>whnf);refine⟨_,_,cR,?_⟩)|((refine⟨_,rfl,?_⟩))|(((with_reducible apply And.intro);focus (simp only[dX];omega)))|((with_reducible apply And.intro);exact aG)|fail)
     all_goals clear cG cS cR
     all_goals
      refine⟨_,_,⟨rfl,rfl⟩,?_⟩;all_goals exact aL
 | cons r0 rr=>
   simp only[l6,List.map_cons,dh] at hno Ph;have hz:(((([uu r0]::rr.map dh).length:Nat):Int)==0)=false:=by first|(simp;done)|(simp;omega)
   have hp:decide (((([uu r0]::rr.map dh).length:Nat):Int)>0)=true:=by first|(simp;done)|(simp;omega)
   cases hq:(o.bA==r0) with
   | false=>
     clear hno;refine jA iZ ?_;repeat' ((conv=>whnf);first|with_reducible apply aK|((with_reducible apply fk)<;>intro hc<;>try exact iK)|rewrite[AP]|rewrite[AQ]|rewrite[Ph]|rewrite[hC2]|(apply fq;(conv=>whnf);refine⟨_,_,cG,?_⟩)|(apply aC;(conv=>whnf);refine⟨_,cS,?_⟩)|(apply fq;(conv=>whnf);refine⟨_,_,cR,?_⟩)|((refine⟨_,rfl,?_⟩))|(((with_reducible apply And.intro);focus (simp only[dX];omega)))|((with_reducible apply And.intro);exact aG)|fail)
     all_goals clear cG cS cR
     all_goals
      refine⟨_,_,⟨rfl,rfl⟩,?_⟩;all_goals exact aL
   | true=>
     have hs:se=true:=by simpa[hq] using hno
     subst hs;clear hno;refine jA iZ ?_;repeat' ((conv=>whnf);first|with_reducible apply aK|((with_reducible apply fk)<;>intro hc<;>try exact iK)|rewrite[AP]|rewrite[AQ]|rewrite[Ph]|rewrite[hC2]|(apply fq;(conv=>whnf);refine⟨_,_,cG,?_⟩)|(apply aC;(conv=>whnf);refine⟨_,cS,?_⟩)|(apply fq;(conv=>whnf);refine⟨_,_,cR,?_⟩)|((refine⟨_,rfl,?_⟩))|(((with_reducible apply And.intro);focus (simp only[dX];omega)))|((with_reducible apply And.intro);exact aG)|fail)
     all_goals clear cG cS cR
     all_goals
      refine⟨_,_,⟨rfl,rfl⟩,?_⟩;all_goals exact aL
theorem VB (a b:Int)(A:List Ch)(c:Ch)(B:List Ch)(L:List Lg)(Q:List Pa)(o:aV)(h:tK (kF a b A c B L Q))(hl:c.af.length≤1000000)(hL:L.length≤1000000)(y:Nat×Int)(hy:y=fG (kF a b A c B L Q) c.trim c.af c.first)(hn:y.1≤c.af.length)(T R:List Int)(hT:T=c.af.take y.1)(hR:R=c.af.drop y.1)(hse:o.seen.any (fun x=>decide (x.offset≥y.2))=false)(hno:l6 R o.bA=true)(h0:∀x∈L,(fun (x:Lg)=>T.any fun y=>y==x.id) x=false):dR prog 131 [.ptr 1 0]
  ((1,.var (wC a b (.aF 2 0) (.aF 3 0) (.aF 4 0) o (.bn 2 0 (A.map Ch.c).length 0) bS))::jv (c.c.map .pv) A B L Q) (.pv (.dn []))
  [(1,.var (wC a b (.aF 2 0) (.aF 3 0) (.aF 4 0) o (.bn 2 0 (A.map Ch.c).length 0) { bS with at_:=y.2 })),(2,.dM 47 0 9 (A.map Ch.c) (Ch.c { c with af:=R,first:=y.2,seen:=o.seen } |>.map .pv) (B.map Ch.c)),(3,.arr 50 0 6 (L.map Lg.c)),(4,.arr 68 0 8 (Q.map Pa.c))]:=by
 have cD:=Ct T L h0 hL;clear h0;have cG:=Rk a b A c B L Q o bS h (by omega);rw[←hy] at cG;obtain⟨n,fi⟩:=y;simp only at hn hT hR cG hse ⊢;have cS:=jd o.seen 171 [] [.bU [uu fi] 0] (fun x=>decide (x.offset≥fi)) fun x _=>Cs x fi
 rw[hse] at cS;have Ph:mo (c.af.map dh) (some (n:Int)) none=R.map dh:=by rw[hR];unfold mo;simp only;rw[Int.toNat_natCast,List.map_drop]
 have hC2:mo (c.af.map dh) none (some (n:Int))=T.map dh:=by rw[hT];unfold mo;simp only;rw[Int.toNat_natCast,List.map_take]
 have hnl:(n:Int)≤((c.af.map dh).length:Int):=by rw[List.length_map];omega
 have hRl:R.length≤1000000:=by rw[hR,List.length_drop];omega
 have cC:=Bb R (by omega);clear h hy hT hR hn hse;simp only[p9,qp,wC,jv,aV.c,Pl.c,Ch.c,Oc.c,List.map_cons,List.map_nil,List.cons_append,List.nil_append] at cG cD cS ⊢;cases R with
 | nil=>
   simp only[l6,List.map_nil] at hno Ph;have hz:(((([]:List (List PV)).length:Nat):Int)==0)=true:=by rfl
   have hp:decide (((([]:List (List PV)).length:Nat):Int)>0)=false:=by rfl
   refine jA iZ ?_;repeat' ((conv=>whnf);first|with_reducible apply aK|((with_reducible apply fk)<;>intro hc<;>try exact iK)|rewrite[AP]|rewrite[AQ]|rewrite[Ph]|rewrite[hC2]|(apply fq;(conv=>whnf);refine⟨_,_,cG,?_⟩)|(apply aC;(conv=>whnf);refine⟨_,cS,?_⟩)|(apply fq;(conv=>whnf);refine⟨_,_,cD,?_⟩)|(apply aC;(conv=>whnf);refine⟨_,cC,?_⟩)|((refine⟨_,rfl,?_⟩))|(((with_reducible apply And.intro);focus (simp only[dX];omega)))|((with_reducible apply And.intro);exact aG)|fail)
   all_goals clear cG cS cD
   all_goals
    refine⟨_,_,⟨rfl,rfl⟩,?_⟩;all_goals exact aL
 | cons r0 rr=>
   simp only[l6,List.map_cons,dh] at hno Ph ⊢;have hz:(((([uu r0]::rr.map dh).length:Nat):Int)==0)=false:=by first|(simp;done)|(simp;omega)
   have hp:decide (((([uu r0]::rr.map dh).length:Nat):Int)>0)=true:=by first|(simp;done)|(simp;omega)
   refine jA iZ ?_;repeat' ((conv=>whnf);first|with_reducible apply aK|((with_reducible apply fk)<;>intro hc<;>try exact iK)|rewrite[AP]|rewrite[AQ]|rewrite[Ph]|rewrite[hC2]|(apply fq;(conv=>whnf);refine⟨_,_,cG,?_⟩)|(apply aC;(conv=>whnf);refine⟨_,cS,?_⟩)|(apply fq;(conv=>whnf);refine⟨_,_,cD,?_⟩)|(apply aC;(conv=>whnf);refine⟨_,cC,?_⟩)|((refine⟨_,rfl,?_⟩))|(((with_reducible apply And.intro);focus (simp only[dX];omega)))|((with_reducible apply And.intro);exact aG)|fail)
   all_goals clear cG cS cD
   all_goals
    refine⟨_,_,⟨rfl,rfl⟩,?_⟩;all_goals exact aL
theorem VD (a b:Int)(A:List Ch)(c:Ch)(B:List Ch)(L:List Lg)(Q:List Pa)(o:aV)(h:tK (kF a b A c B L Q))(hl:c.af.length≤1000000)(hL:L.length≤1000000)(y:Nat×Int)(hy:y=fG (kF a b A c B L Q) c.trim c.af c.first)(hn:y.1≤c.af.length)(T R:List Int)(hT:T=c.af.take y.1)(hR:R=c.af.drop y.1)(hse:o.seen.any (fun x=>decide (x.offset≥y.2))=false)(hno:l6 R o.bA=true)(h0:¬∀x∈L,(fun (x:Lg)=>T.any fun y=>y==x.id) x=false):dR prog 131 [.ptr 1 0]
  ((1,.var (wC a b (.aF 2 0) (.aF 3 0) (.aF 4 0) o (.bn 2 0 (A.map Ch.c).length 0) bS))::jv (c.c.map .pv) A B L Q) (.pv (.dn []))
  [(1,.var (wC a b (.aF 2 0) (.aF 3 1) (.aF 4 0) o (.bn 2 0 (A.map Ch.c).length 0) { bS with at_:=y.2 })),(2,.dM 47 0 9 (A.map Ch.c) (Ch.c { c with af:=R,first:=y.2,seen:=o.seen } |>.map .pv) (B.map Ch.c)),(3,.arr 50 1 6 ((L.filter fun x=>!(fun (x:Lg)=>T.any fun y=>y==x.id) x).map Lg.c)),(4,.arr 68 0 8 (Q.map Pa.c))]:=by
 have cD:=Cv T L h0 hL;clear h0;have cG:=Rk a b A c B L Q o bS h (by omega);rw[←hy] at cG;obtain⟨n,fi⟩:=y;simp only at hn hT hR cG hse ⊢;have cS:=jd o.seen 171 [] [.bU [uu fi] 0] (fun x=>decide (x.offset≥fi)) fun x _=>Cs x fi
 rw[hse] at cS;have Ph:mo (c.af.map dh) (some (n:Int)) none=R.map dh:=by rw[hR];unfold mo;simp only;rw[Int.toNat_natCast,List.map_drop]
 have hC2:mo (c.af.map dh) none (some (n:Int))=T.map dh:=by rw[hT];unfold mo;simp only;rw[Int.toNat_natCast,List.map_take]
 have hnl:(n:Int)≤((c.af.map dh).length:Int):=by rw[List.length_map];omega
 have hRl:R.length≤1000000:=by rw[hR,List.length_drop];omega
 have cC:=Bb R (by omega);clear h hy hT hR hn hse;simp only[p9,qp,wC,jv,aV.c,Pl.c,Ch.c,Oc.c,List.map_cons,List.map_nil,List.cons_append,List.nil_append] at cG cD cS ⊢;cases R with
 | nil=>
   simp only[l6,List.map_nil] at hno Ph;have hz:(((([]:List (List PV)).length:Nat):Int)==0)=true:=by rfl
   have hp:decide (((([]:List (List PV)).length:Nat):Int)>0)=false:=by rfl
   refine jA iZ ?_;repeat' ((conv=>whnf);first|with_reducible apply aK|((with_reducible apply fk)<;>intro hc<;>try exact iK)|rewrite[AP]|rewrite[AQ]|rewrite[Ph]|rewrite[hC2]|(apply fq;(conv=>whnf);refine⟨_,_,cG,?_⟩)|(apply aC;(conv=>whnf);refine⟨_,cS,?_⟩)|(apply fq;(conv=>whnf);refine⟨_,_,cD,?_⟩)|(apply aC;(conv=>whnf);refine⟨_,cC,?_⟩)|((refine⟨_,rfl,?_⟩))|(((with_reducible apply And.intro);focus (simp only[dX];omega)))|((with_reducible apply And.intro);exact aG)|fail)
   all_goals clear cG cS cD
   all_goals
    refine⟨_,_,⟨rfl,rfl⟩,?_⟩;all_goals exact aL
 | cons r0 rr=>
   simp only[l6,List.map_cons,dh] at hno Ph ⊢;have hz:(((([uu r0]::rr.map dh).length:Nat):Int)==0)=false:=by first|(simp;done)|(simp;omega)
   have hp:decide (((([uu r0]::rr.map dh).length:Nat):Int)>0)=true:=by first|(simp;done)|(simp;omega)
   refine jA iZ ?_;repeat' ((conv=>whnf);first|with_reducible apply aK|((with_reducible apply fk)<;>intro hc<;>try exact iK)|rewrite[AP]|rewrite[AQ]|rewrite[Ph]|rewrite[hC2]|(apply fq;(conv=>whnf);refine⟨_,_,cG,?_⟩)|(apply aC;(conv=>whnf);refine⟨_,cS,?_⟩)|(apply fq;(conv=>whnf);refine⟨_,_,cD,?_⟩)|(apply aC;(conv=>whnf);refine⟨_,cC,?_⟩)|((refine⟨_,rfl,?_⟩))|(((with_reducible apply And.intro);focus (simp only[dX];omega)))|((with_reducible apply And.intro);exact aG)|fail)
   all_goals clear cG cS cD
   all_goals
    refine⟨_,_,⟨rfl,rfl⟩,?_⟩;all_goals exact aL
end Go.Proofs.YtiagceoepkaeoaaGreat.Tb
end
