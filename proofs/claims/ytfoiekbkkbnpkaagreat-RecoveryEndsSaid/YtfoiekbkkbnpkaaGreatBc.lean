/-
  Contracts of functions of the program and of the document, each for every input that its premises name.
-/
import Derived.Test.YtfoiekbkkbnpkaaGreatBb
import Derived.Test.YtfoiekbkkbnpkaaGreatAf
import Derived.Test.YtfoiekbkkbnpkaaGreatAe
import Derived.Test.YtfoiekbkkbnpkaaGreatBa
set_option linter.unusedSectionVars false
set_option linter.unusedVariables false
set_option linter.unusedSimpArgs false
set_option maxRecDepth 100000
set_option maxHeartbeats 4000000
section
open Go Go.Proofs.Tryz Go.AX
namespace Go.Proofs.YtfoiekbkkbnpkaaGreat.Tb
theorem DC:bM prog 29 f29:=fO func29
theorem jI (l:List Fr)(w n:Int):(setOf l w n).length≤w.toNat:=by
 unfold setOf;split
 ·simp
 split
 ·simp[eP]
 simp
theorem Xp {l:List Fr}{f:Fr}(h:aY l)(J:f.ok):aY (dS l f):=by
 intro x G;unfold dS at G;rw[List.mem_append,List.mem_singleton] at G;rcases G with G|rfl
 ·split at G
  ·exact h x (List.dropLast_subset _ G)
  exact h x G
 exact J
def upW (now:Int)(x:Wt):Wt:={ x with born:=now,since:=now }
def Uv (P L:List Wt)(now:Int)(i:Nat):List Wt:=P++((L.take i).map (upW now)++L.drop i)
theorem aeX (P L:List Wt)(now:Int)(i:Nat)(h:i<L.length):(Uv P L now i)[P.length+i]? = some L[i]:=by
 unfold Uv;rw[List.getElem?_append_right (by omega),Nat.add_sub_cancel_left,List.getElem?_append_right (by simp;omega)];simp only[fG,List.length_take];rw[Nat.min_eq_left (by omega),Nat.sub_self,List.getElem?_drop,Nat.add_zero,List.getElem?_eq_getElem h]
theorem acw (P L:List Wt)(now:Int)(i:Nat)(h:i<L.length):(Uv P L now i).set (P.length+i) (upW now L[i])=Uv P L now (i+1):=by
 unfold Uv;rw[List.set_append_right _ _ (by omega),Nat.add_sub_cancel_left];congr 1
 have e:((L.take i).map (upW now)).length=i:=by simp;omega
 rw[List.set_append_right _ _ (by omega),e,Nat.sub_self,List.take_succ_eq_append_getElem h,List.map_append,List.append_assoc];congr 1
 rw[List.drop_eq_getElem_cons h];rfl
theorem GU (w:Wr)(now:Int)(ok:Bool)(h:(w.change.first==0)=false)(G:Wr)(J:G={ w with l:={ w.l with af:=if ok then dS w.l.af w.change else w.l.af },change:=kT,bad:=[] })(j:Nat)(K:(G.waits.takeWhile (fT G)).length=j) :
  dP w now ok=({ G with sure:=qU G j,waits:=(G.waits.drop j).map (upW now) },(G.waits.drop j).flatMap (kM { G with sure:=qU G j })):=by
 unfold dP;rw[if_neg (by simpa using h)];have e:jT w ok={ G with sure:=qU G j,waits:=G.waits.drop j }:=by
  unfold jT;rw[←J];exact Ut G j K
 rw[e];rfl
theorem Ru (w:Wr)(now:Int)(ok:Bool)(h:WrB w)(cO:gU now)(hw:w.l.w≤5)(aq:w.change.ok) :
  dF prog 29 [.agg w.c,uu now,bl ok] (.cK [.agg (dP w now ok).1.c,kH (dP w now ok).2]):=by
 refine PC.le ?_;cases c1:(w.change.first==0) with
 | true=>
   have hN:=uD w h;have e:dP w now ok=(w,[]):=by unfold dP;rw[if_pos (by simpa using c1)]
   rw[e];refine dQ DC ?_;repeat' ((conv=>whnf);first|(with_reducible first|apply aM|apply fk<;>intro hc<;>try exact aV)|refine eF hN ?_|refine aK ?_|fail)
   all_goals exact aJ
 |false=>
 obtain⟨F,X⟩:∃F,(if ok then dS w.l.af w.change else w.l.af)=F:=⟨_,rfl⟩;obtain⟨j,hj⟩:∃j,(w.waits.takeWhile (fT { w with l:={ w.l with af:=F },change:=kT,bad:=[] })).length=j:=⟨_,rfl⟩;rw[GU w now ok c1 { w with l:={ w.l with af:=F },change:=kT,bad:=[] } (by rw[X]) j hj];have hC:=aeP w h;have Q:=Xn w (w.waits.map Wt.c) (w.bad.map Pl.c) (by have:=h.fl;omega);have V:aY F:=by
  rw[←X];cases ok
  ·exact h.fr
  exact Xp h.fr aq
 have S:=h.wx;have ah:=h.wl;have ar:=h.fl;have hm:=acs { w with l:={ w.l with af:=F },change:=kT,bad:=[] } V (fun x hx=>(S x hx).n) ah j hj;refine dQ DC ?_;repeat' ((conv=>whnf);first|fail|((with_reducible apply fk)<;>intro hc<;>try exact iA)|rewrite[nE]|rewrite[nG]|refine eF hC ?_|refine aK ?_|fail)
 refine Or.inl ?_;repeat' ((conv=>whnf);first|fail|((with_reducible apply fk)<;>intro hc<;>try exact iA)|refine aK ?_|fail)
 clear hC;refine Or.inr ⟨Unit,fun _=>⟨[(1,.pv (uu now)),(6,.ptr 1006 0),(8,.ptr 1008 0)],1000000000,[(1006,.var (wr0.c.map .pv)),(1008,.var (qA w (.pv (cB F)) (.aO 1009 0) (.pv (av w.bad)) (.pv gB))),(1009,.arr 145 0 5 (w.waits.map Wt.c))]⟩,?_,fun _=>?_⟩
 ·clear hm S ah V;cases ok with
  | false=>
    simp only[Bool.false_eq_true,↓reduceIte] at X;rw[←X];repeat' ((conv=>whnf);first|(with_reducible first|apply aM|apply fk<;>intro hc<;>try exact iA)|refine aK ?_|fail)
    refine⟨(),BV [1002003001] ?_⟩;all_goals exact aJ
  | true=>
    simp only[↓reduceIte] at X;rw[←X];unfold dS;cases K:((aL w.l.af).first==w.change.first) with
    | false=>
      simp only[Bool.false_eq_true,↓reduceIte];obtain⟨lf,gN⟩:∃lf,aL w.l.af=lf:=⟨_,rfl⟩;rw[gN] at Q K;repeat' ((conv=>whnf);first|(with_reducible first|apply aM|apply fk<;>intro hc<;>try exact iA)|(refine Or.inr ?_;(conv=>whnf);refine⟨_,_,bP (Q) ?_,?_⟩;exact oF)|(((with_reducible apply And.intro);focus (simp only[fG,jo,jq];omega)))|refine aK ?_|fail)
      refine⟨(),BV [1002003001] ?_⟩;repeat' first|apply And.intro|exact aJ|fail
      all_goals try (conv=>whnf)
      all_goals first
       |(rw[List.map_append];exact ay _)
    | true=>
      simp only[↓reduceIte];obtain⟨lf,gN⟩:∃lf,aL w.l.af=lf:=⟨_,rfl⟩;have h0:0<w.l.af.length:=by
       rcases Nat.eq_zero_or_pos w.l.af.length with h0|h0
       ·rw[List.eq_nil_of_length_eq_zero h0,qw] at K;simp only[kT,beq_iff_eq] at K;rw[←K] at c1;cases c1
       exact h0
      rw[gN] at Q K;obtain⟨k,hk⟩:∃k,w.l.af.length=k+1:=⟨w.l.af.length-1,by omega⟩;have eI:IntKind.i64.wrap (((w.l.af.map Fr.c).length:Int)-1)=((k:Nat):Int):=by rw[List.length_map,bF (by omega) (by omega)];omega
      repeat' ((conv=>whnf);first|(with_reducible first|apply aM|apply fk<;>intro hc<;>try exact iA)|rewrite[eI]|(refine Or.inr ?_;(conv=>whnf);refine⟨_,_,bP (Q) ?_,?_⟩;exact oF)|(((with_reducible apply And.intro);focus (simp only[fG,jo,jq,Int.toNat_natCast];omega)))|refine aK ?_|fail)
      refine⟨(),BV [1002003001] ?_⟩;repeat' first|apply And.intro|exact aJ|fail
      all_goals try (conv=>whnf)
      simp only[jQ,List.drop_zero,Int.toNat_natCast,List.length_singleton,Nat.sub_zero];rw[List.drop_eq_nil_of_le (by rw[List.length_map];omega),List.append_nil,List.take_of_length_le (by simp only[rP,List.length_take,fG,List.length_singleton];omega),List.map_append,List.dropLast_eq_take,hk,Nat.add_sub_cancel,List.map_take];exact ay _
 clear Q ar;obtain⟨L,hL⟩:∃L,w.waits.drop j=L:=⟨_,rfl⟩;obtain⟨P,hP⟩:∃P,w.waits.take j=P:=⟨_,rfl⟩;have ax:j≤w.waits.length:=by rw[←hj];exact (List.takeWhile_prefix _).length_le
 have aa:w.waits=P++L:=by rw[←hP,←hL,List.take_append_drop]
 have ap:P.length=j:=by rw[←hP,List.length_take];omega
 obtain⟨J,tZ⟩:∃J,qU { w with l:={ w.l with af:=F },change:=kT,bad:=[] } j=J:=⟨_,rfl⟩;rw[tZ] at hm ⊢;simp only[hL];have ao:∀x∈L,Uc x:=fun x hx=>S x (by rw[aa];simp[hx])
 clear hL hP hj S X tZ ax h;simp only[aa,rP] at hm ah ⊢;clear aa;subst ap;repeat' ((conv=>whnf);first|(with_reducible first|apply aM|apply fk<;>intro hc<;>try exact iA)|rewrite[nE]|rewrite[nG]|refine eF hm ?_|refine aK ?_|fail)
 refine⟨{i:Nat // i≤L.length},fun⟨i,_⟩=>⟨[(1,.pv (uu now)),(6,.ptr 1006 0),(8,.ptr 1008 0),(72,.pv (ii L.length)),(73,.pv (ii i))],1000000000,[(1006,.var (wr0.c.map .pv)),(1008,.var (qA { w with l:={ w.l with af:=F },change:=kT,bad:=[],sure:=J } (.pv (cB F)) (.sub 1009 0 5 P.length (P.length+L.length)) (.pv gB) (.aO 1010 0))),(1009,.arr 145 0 5 ((Uv P L now i).map Wt.c)),(1010,.arr 93 0 10 (((L.take i).flatMap (kM { w with l:={ w.l with af:=F },change:=kT,bad:=[],sure:=J })).map Rq.c))]⟩,fun⟨i,_⟩=>L.length-i,⟨⟨0,Nat.zero_le _⟩,aD ?_⟩,?_⟩
 ·repeat' first|apply And.intro|exact aJ|fail
  all_goals try (conv=>whnf)
  all_goals first
   |(simp only[jQ,List.length_take,List.length_drop,fG,rP];omega)
   |skip
 rintro⟨i,hi⟩
 dsimp only
 clear hm;by_cases G:i<L.length
 rotate_left
 ·have az:i=L.length:=by omega
  subst az;have d0:decide ((L.length:Int)<(L.length:Int))=false:=by simp
  have eC:Uv P L now L.length=P++L.map (upW now):=by unfold Uv;rw[List.take_length,List.drop_length,List.append_nil]
  rw[eC,List.take_length];repeat' ((conv=>whnf);first|(with_reducible first|apply aM|apply fk<;>intro hc<;>try exact aV)|refine aK ?_|fail)
  repeat' first|apply And.intro|exact aJ|fail
  all_goals try (conv=>whnf)
  all_goals first
   |(rw[jQ,List.map_append,List.drop_left' (by rw[List.length_map]),List.take_of_length_le (by simp only[fG];omega)];exact ay _)
   |skip
 have d0:decide ((i:Int)<(L.length:Int))=true:=by simp only[iG];omega
 have eW:IntKind.i64.wrap ((i:Int)+1)=((i+1:Nat):Int):=by rw[bF (by omega) (by omega)];omega
 have ai:((Uv P L now i).map Wt.c)[P.length+i]? = some (L[i]).c:=by rw[List.getElem?_map,aeX P L now i G];rfl
 have ad:=acw P L now i G;have hB:=ao _ (List.getElem_mem G);have ag:L.take (i+1)=L.take i++[L[i]]:=List.take_succ_eq_append_getElem G;obtain⟨x,hx⟩:∃x,L[i]=x:=⟨_,rfl⟩;rw[hx] at ai ad hB ag;have aw:P.length+i<((Uv P L now i).map Wt.c).length:=(List.getElem?_eq_some_iff.1 ai).1;obtain⟨q,hq⟩:∃q,(L.take i).flatMap (kM { w with l:={ w.l with af:=F },change:=kT,bad:=[],sure:=J })=q:=⟨_,rfl⟩;have a0:q.length≤5*i:=by
  rw[←hq];have hg:∀(l:List Wt),(l.flatMap (kM { w with l:={ w.l with af:=F },change:=kT,bad:=[],sure:=J })).length≤5*l.length:=fun l=>by
   induction l with
   |nil=>simp
   | cons y l ih=>
     rw[List.flatMap_cons,List.length_append,List.length_cons];have h1:=sO { w with l:={ w.l with af:=F },change:=kT,bad:=[],sure:=J } y (fD { w with l:={ w.l with af:=F },change:=kT,bad:=[],sure:=J } y.n);rw[sN] at h1;have h2:=jI F w.l.w y.n;have h3:(fD { w with l:={ w.l with af:=F },change:=kT,bad:=[],sure:=J } y.n).length≤w.l.w.toNat:=h2;omega
  have:=hg (L.take i);rw[List.length_take] at this;omega
 have al:(L.take (i+1)).flatMap (kM { w with l:={ w.l with af:=F },change:=kT,bad:=[],sure:=J })=q++kM { w with l:={ w.l with af:=F },change:=kT,bad:=[],sure:=J } { x with born:=now }:=by
  rw[ag,List.flatMap_append,hq];simp only[List.flatMap_cons,List.flatMap_nil,List.append_nil];rfl
 rw[hq];have am:(((Uv P L now i).map Wt.c).set (P.length+i) ({ x with born:=now }:Wt).c)[P.length+i]? = some ({ x with born:=now }:Wt).c:=List.getElem?_set_self aw;have ae:=ack { w with l:={ w.l with af:=F },change:=kT,bad:=[],sure:=J } { x with born:=now } now (P.length+i) P.length (P.length+L.length) (((Uv P L now i).map Wt.c).set (P.length+i) ({ x with born:=now }:Wt).c) q am (by omega) V ⟨hB.n,hB.body,hB.from_,cO,hB.since⟩ (by
  have h2:=jI F w.l.w x.n;have h3:(fD { w with l:={ w.l with af:=F },change:=kT,bad:=[],sure:=J } ({ x with born:=now }:Wt).n).length≤w.l.w.toNat:=h2;omega)
 rw[List.set_set] at ae;have ak:((Uv P L now i).map Wt.c).set (P.length+i) ({ x with born:=now,since:=now }:Wt).c=(Uv P L now (i+1)).map Wt.c:=by
  rw[←ad,List.map_set];rfl
 rw[ak,←al] at ae;clear ad ak al ag hx hq am;repeat' ((conv=>whnf);first|(with_reducible first|apply aM|apply fk<;>intro hc<;>try exact iA)|rewrite[nE]|rewrite[nG]|((refine⟨_,ai,?_⟩))|refine eF ae ?_|(((with_reducible apply And.intro);focus (rw[Int.toNat_natCast];omega)))|refine aK ?_|fail)
 refine⟨⟨i+1,G⟩,dec_lt G,aD ?_⟩;repeat' first|apply And.intro|exact aJ|fail
 all_goals try (conv=>whnf)
 all_goals first
  |exact eW
  |skip
def zi (s:Sk):List (Nat×aI):=[(1,.var (skA s (.aO 2 0) (.aO 3 0) (.aO 4 0) (.aO 5 0) (.aO 6 0))),(2,.arr 95 0 21 (s.bH.map Lk.c)),(3,.arr 202 0 4 (s.has.map Hp.c)),(4,.arr 202 0 4 (s.told.map Hp.c)),(5,.arr 221 0 4 (s.aF.map Fk.c)),(6,.arr 9 0 1 (s.bS.map Ap))]
def Lr (s:Sk):List (Nat×aI):=[(1,.var (skA s (.aO 1001 0) (.aO 1002 0) (.aO 1003 0) (.aO 1004 0) (.aO 1005 0))),(2,.d9 1 21 []),(3,.d9 1 4 []),(4,.d9 1 4 []),(5,.d9 1 4 []),(6,.d9 1 1 []),(1001,.arr 95 0 21 (s.bH.map Lk.c)),(1002,.arr 202 0 4 (s.has.map Hp.c)),(1003,.arr 202 0 4 (s.told.map Hp.c)),(1004,.arr 221 0 4 (s.aF.map Fk.c)),(1005,.arr 9 0 1 (s.bS.map Ap))]
def skM (s:Sk):List (Nat×aI):=[(1781,.arr 9 0 1 (s.bS.map Ap)),(1780,.arr 221 0 4 (s.aF.map Fk.c)),(1779,.arr 202 0 4 (s.told.map Hp.c)),(1778,.arr 202 0 4 (s.has.map Hp.c)),(1777,.arr 95 0 21 (s.bH.map Lk.c)),(1,.var (skA s (.aO 1777 0) (.aO 1778 0) (.aO 1779 0) (.aO 1780 0) (.aO 1781 0))),(2,.d9 1 21 []),(3,.d9 1 4 []),(4,.d9 1 4 []),(5,.d9 1 4 []),(6,.d9 1 1 [])]
theorem l7 {f:FuncId}{r:List AV}{s:Sk}{Q:AV→List (Nat×aI)→Prop}(h:GC prog f (.ptr 1 0::r) (skM s) Q)(G:Dj 6 1781 (Dj 5 1780 (Dj 4 1779 (Dj 3 1778 (Dj 2 1777 r))))=r):GC prog f (.ptr 1 0::r) (zi s) Q:=by
 refine nV 2 1777 rfl (nV 3 1778 rfl (nV 4 1779 rfl (nV 5 1780 rfl (nV 6 1781 rfl ?_))));show GC _ _ (.ptr 1 0::(Dj 6 1781 (Dj 5 1780 (Dj 4 1779 (Dj 3 1778 (Dj 2 1777 r)))))) (skM s) Q
 rw[G];exact h
theorem Rk:bM prog 90 f90:=fO func90
theorem pq (s:Sk)(to:Int)(l:List Rq)(hl:l.length≤1000000)(hb:s.bH.length≤1000000):dX prog 90 [.ptr 1 0,.pv (uu to),.pv (kH l)] (zi s) (.pv (.cK [])) (Lr (iq s to l)):=by
 refine l7 ?_ rfl;refine fw Rk ?_;repeat' ((conv=>whnf);first|(with_reducible first|apply aM|apply fk<;>intro hc<;>try exact aV)|refine aK ?_|fail)
 refine⟨{k:Nat // k≤l.length∧k≤90-s.bH.length},fun⟨k,_⟩=>⟨[(0,.ptr 1 0),(1,.pv (uu to)),(2,.pv (kH l)),(6,.pv (ii k))],1000000000,Lr { s with bH:=s.bH++(l.take k).map (lkQ to) }⟩,fun⟨k,_⟩=>l.length-k,⟨⟨0,Nat.zero_le _,Nat.zero_le _⟩,aD ?_⟩,?_⟩
 ·repeat' first|apply And.intro|exact aJ|fail
  all_goals try (conv=>whnf)
  all_goals first
   |(simp only[List.take_zero,zmn,List.append_nil];exact ay _)
   |skip
 rintro⟨k,hk,ad⟩
 dsimp only
 have G:(((s.bH++(l.take k).map (lkQ to)).map Lk.c).length:Int)=((s.bH.length+k:Nat):Int):=by simp only[fG,rP,List.length_take];omega
 cases V:decide ((k:Int)<((l.map Rq.c).length:Int)) with
 | false=>
   have Q:k=l.length:=by rw[List.length_map,decide_eq_false_iff_not] at V;omega
   have e:iq s to l={ s with bH:=s.bH++(l.take k).map (lkQ to) }:=by
    unfold iq;rw[List.take_of_length_le (by omega),List.take_of_length_le (by omega)];rfl
   rw[e];clear e Q G;repeat' ((conv=>whnf);first|(with_reducible first|apply aM|apply fk<;>intro hc<;>try exact iA)|refine aK ?_|fail)
   refine⟨_,_,⟨rfl,rfl⟩,?_⟩;all_goals exact aJ
 |true=>
 have J:k<l.length:=by rw[List.length_map,decide_eq_true_eq] at V;omega
 cases X:decide ((((s.bH++(l.take k).map (lkQ to)).map Lk.c).length:Int)<90) with
 | false=>
   have e:iq s to l={ s with bH:=s.bH++(l.take k).map (lkQ to) }:=by
    rw[G,decide_eq_false_iff_not] at X;have:90-s.bH.length=k:=by omega
    unfold iq;rw[this];rfl
   rw[e];clear e G;repeat' ((conv=>whnf);first|(with_reducible first|apply aM|apply fk<;>intro hc<;>try exact iA)|refine aK ?_|fail)
   refine⟨_,_,⟨rfl,rfl⟩,?_⟩;all_goals exact aJ
 | true=>
   have aa:s.bH.length+k<90:=by rw[G,decide_eq_true_eq] at X;omega
   have eW:IntKind.i64.wrap ((k:Int)+1)=((k+1:Nat):Int):=by rw[bF (by omega) (by omega)];omega
   have K:s.bH++List.map (lkQ to) (List.take (k+1) l)=(s.bH++List.map (lkQ to) (List.take k l))++[lkQ to l[k]]:=by rw[List.take_succ_eq_append_getElem J,List.map_append,List.append_assoc];rfl
   replace K:=Hd.mk K;have hr:=dR Rq.c l k J;have S:k<(l.map Rq.c).length:=by rw[List.length_map];exact J
   clear G;repeat' ((conv=>whnf);first|(with_reducible first|apply aM|apply fk<;>intro hc<;>try exact iA)|((refine⟨_,hr,?_⟩))|(((with_reducible apply And.intro);focus (rw[Int.toNat_natCast];exact S)))|(((with_reducible apply And.intro);focus (simp only[fG,jo,jq,rP,List.length_take];omega)))|refine aK ?_|fail)
   refine⟨⟨k+1,J,by omega⟩,dec_lt J,aD ?_⟩;repeat' first|apply And.intro|exact aJ|fail
   all_goals try (conv=>whnf)
   all_goals first
    |exact eW
    | (show jc (List.map Lk.c (s.bH++List.map (lkQ to) (List.take (k+1) l))) (List.map Lk.c (s.bH++List.map (lkQ to) (List.take k l))++_)
       rw[K.out,List.map_append];refine bW (ay _) ?_
       (repeat' first|apply And.intro|exact aJ|fail);(all_goals try (conv=>whnf)))
    |skip
theorem N9:bM prog 75 f75:=fO func75
theorem Rh (a b:Int):dF prog 75 [.agg [ii a,uu b]] (bl (vR ⟨a,b⟩)):=by
 refine PC.le ?_;refine dQ N9 ?_;repeat' ((conv=>whnf);first|(with_reducible first|apply aM|apply fk<;>intro hc<;>try exact aV)|refine aK ?_|fail)
 all_goals
  repeat' first|apply And.intro|exact aJ|fail
  all_goals try (conv=>whnf)
  simp only[vR,dA];simp only[iG,uS] at *;first
   |(symm;simp only[Bool.and_eq_false_iff,uS];omega)
   |(rw[Bool.eq_iff_iff];simp only[Bool.and_eq_true,iG];omega)
theorem Dv:bM prog 25 f25:=fO func25
theorem ql (w:Int)(l:List Fr):dF prog 25 [ii w,cB l] (bl (dh w l)):=by
 refine PC.le (pU Dv fun hb=>?_);have hb:l.length≤9223372036854775807:=by simpa[IX,DU,cB] using hb
 refine dQ Dv ?_;cases Q:q9 l with
 | false=>
   cases l with
   | nil=>
     repeat' ((conv=>whnf);first|(with_reducible first|apply aM|apply fk<;>intro hc<;>try exact aV)|refine aK ?_|fail)
     repeat' first|apply And.intro|exact aJ|fail
     all_goals try (conv=>whnf)
     all_goals simp[dh,dA]
   | cons x r=>
     repeat' ((conv=>whnf);first|(with_reducible first|apply aM|apply fk<;>intro hc<;>try exact aV)|((refine⟨_,rfl,?_⟩))|refine aK ?_|fail)
     all_goals try (exfalso;simp[q9] at Q hc;exact Q hc)
     all_goals
      repeat' first|apply And.intro|exact aJ|fail
      all_goals try (conv=>whnf)
      all_goals (simp only[dh,Q,Bool.false_and,Bool.and_false])
 | true=>
   obtain⟨h0,e0⟩:=(yM l).1 Q;have ad:(l.map Fr.c)[(0:Int).toNat]? = some l[0].c:=dR Fr.c l 0 h0;have V:(¬(1≤l.length∧l.length≤6))→dh w l=false:=fun h=>by
    cases e:dh w l with
    |false=>rfl
    |true=>exact absurd ⟨((j5 w l).1 e).1,((j5 w l).1 e).2.1⟩ h
   repeat' ((conv=>whnf);first|(with_reducible first|apply aM|apply fk<;>intro hc<;>try exact aV)|((refine⟨_,ad,?_⟩))|refine aK ?_|fail)
   ·repeat' first|apply And.intro|exact aJ|fail
    all_goals try (conv=>whnf)
    exact (V (by simp at *;omega)).symm
   ·repeat' first|apply And.intro|exact aJ|fail
    all_goals try (conv=>whnf)
    exact (V (by simp at *;omega)).symm
   ·exfalso;simp[e0] at hc
   have h6:1≤l.length∧l.length≤6:=by simp at *;omega
   refine⟨{k:Nat // k≤l.length∧∀j (hj:j<l.length),j<k→yL w l j hj},fun⟨k,_⟩=>⟨[(0,.pv (ii w)),(1,.pv (cB l)),(5,.pv (ii k))],1000000000,[]⟩,fun⟨k,_⟩=>l.length-k,⟨⟨0,by simp⟩,aD ?_⟩,?_⟩
   ·all_goals exact aJ
   rintro⟨k,hk,hn⟩
   repeat' ((conv=>whnf);first|(with_reducible first|apply aM|apply fk<;>intro hc<;>try exact aV)|refine aK ?_|fail)
   ·have G:k<l.length:=by simpa using hc
    have K:¬yL w l k G→dh w l=false:=Qz G;have e1 (h:0<k):IntKind.i64.wrap (((k:Nat):Int)-1)=((k-1:Nat):Int):=by rw[bF (by omega) (by omega)];omega
    refine⟨_,dR _ _ _ G,?_⟩;repeat' ((conv=>whnf);first|(with_reducible first|apply aM|apply fk<;>intro hc<;>try exact aV)|((refine⟨_,dR _ _ _ G,?_⟩))|((refine⟨by rw[e1 (by simp at hc;omega)];omega,_,Qg _ _ (e1 (by simp at hc;omega)) (by omega),?_⟩))|refine aK ?_|fail)
    all_goals
     first
      |(have X:(∀x∈l[k].ah,vR x=true)→(l[k].ah.map (·.node)).Nodup→yL w l k G:=(by intro h1 h2;simp only[iG,uS,fG] at *;exact⟨by omega,fun h=>by omega,by omega,by omega,List.all_eq_true.2 h1,h2⟩))
      |((repeat' first|apply And.intro|exact aJ|fail);(all_goals try (conv=>whnf));exact (K (by rintro⟨g1,g2,g3,g4,_⟩;simp only[iG,uS,fG] at *;by_cases ae:0<k<;>first|omega|(have g2:=g2 ae;omega))).symm)
    all_goals
     repeat' ((conv=>whnf);first|(with_reducible first|apply aM|apply fk<;>intro hc<;>try exact aV)|refine aK ?_|fail)
     generalize aa:l[k].ah=bk at *;have ag:bk.length≤5:=by simp only[iG,uS,fG] at *;omega
     refine⟨{j:Nat // j≤bk.length∧(∀i (hi:i<bk.length),i<j→vR bk[i]=true)∧((bk.take j).map (·.node)).Nodup},fun⟨j,_⟩=>⟨[(0,.pv (ii w)),(1,.pv (cB l)),(5,.pv (ii k)),(6,.pv (av bk)),(7,.pv (ii j))],1000000000,[]⟩,fun⟨j,_⟩=>bk.length-j,⟨⟨0,by simp⟩,aD ?_⟩,?_⟩
     ·all_goals exact aJ
     rintro⟨j,hj,hm,hd⟩
     repeat' ((conv=>whnf);first|(with_reducible first|apply aM|apply fk<;>intro hc<;>try exact aV)|refine aK ?_|fail)
     ·have J:j<bk.length:=by simpa using hc
      refine⟨_,dR _ _ _ J,?_⟩;repeat' ((conv=>whnf);first|(with_reducible first|apply aM|apply fk<;>intro hc<;>try exact aV)|(apply bX;refine⟨_,Rh _ _,?_⟩)|refine aK ?_|fail)
      ·repeat' first|apply And.intro|exact aJ|fail
       all_goals try (conv=>whnf)
       refine (K fun g=>?_).symm;have:=List.all_eq_true.1 g.2.2.2.2.1 bk[j] (by rw[aa];exact List.getElem_mem J);rw[Pl.eta] at hc;rw[this] at hc;cases hc
      repeat' ((conv=>whnf);first|(with_reducible first|apply aM|apply fk<;>intro hc<;>try exact aV)|refine aK ?_|fail)
      refine⟨{i:Nat // i≤j∧∀x (hx:x<bk.length),x<i→bk[x].node≠bk[j].node},fun⟨i,_⟩=>⟨[(0,.pv (ii w)),(1,.pv (cB l)),(5,.pv (ii k)),(6,.pv (av bk)),(7,.pv (ii j)),(8,.pv (ii i))],1000000000,[]⟩,fun⟨i,_⟩=>j-i,⟨⟨0,by simp⟩,aD ?_⟩,?_⟩
      ·all_goals exact aJ
      have af:vR bk[j]=true:=by rw[Pl.eta] at hc;simpa using hc
      rintro⟨i,hi,hx⟩
      repeat' ((conv=>whnf);first|(with_reducible first|apply aM|apply fk<;>intro hc<;>try exact aV)|refine aK ?_|fail)
      ·have S:i<j:=by simpa using hc
       refine⟨_,dR _ _ _ (by omega:i<bk.length),?_⟩;repeat' ((conv=>whnf);first|(with_reducible first|apply aM|apply fk<;>intro hc<;>try exact aV)|((refine⟨_,dR _ _ _ J,?_⟩))|refine aK ?_|fail)
       ·repeat' first|apply And.intro|exact aJ|fail
        all_goals try (conv=>whnf)
        refine (K fun g=>?_).symm;have:=g.2.2.2.2.2;rw[aa] at this;have:=List.pairwise_iff_getElem.1 this i j (by simp;omega) (by simp;omega) S;simp at this hc;exact this hc
       repeat' ((conv=>whnf);first|(with_reducible first|apply aM|apply fk<;>intro hc<;>try exact aV)|refine aK ?_|fail)
       refine⟨⟨i+1,S,lF hx fun _=>by simpa using hc⟩,dec_lt S,aD ?_⟩;repeat' first|apply And.intro|exact aJ|fail
       all_goals try (conv=>whnf)
       exact bF (by omega) (by omega)
      have S:i=j:=by simp at hc;omega
      subst S;repeat' ((conv=>whnf);first|(with_reducible first|apply aM|apply fk<;>intro hc<;>try exact aV)|refine aK ?_|fail)
      refine⟨⟨i+1,J,lF hm fun _=>af,QA J hd hx⟩,dec_lt J,aD ?_⟩;repeat' first|apply And.intro|exact aJ|fail
      all_goals try (conv=>whnf)
      exact bF (by omega) (by omega)
     have hj:j=bk.length:=by simp at hc;omega
     subst hj;repeat' ((conv=>whnf);first|(with_reducible first|apply aM|apply fk<;>intro hc<;>try exact aV)|refine aK ?_|fail)
     refine⟨⟨k+1,G,lF hn fun _=>X (vQ hm) (by simpa using hd)⟩,dec_lt G,aD ?_⟩;repeat' first|apply And.intro|exact aJ|fail
     all_goals try (conv=>whnf)
     exact bF (by omega) (by omega)
   repeat' first|apply And.intro|exact aJ|fail
   all_goals try (conv=>whnf)
   have:k=l.length:=by simp at hc;omega
   subst this;exact ((j5 w l).2 ⟨h6.1,h6.2,Q,fun j hj=>hn j hj hj⟩).symm
theorem K5:bM prog 21 f21:=fO func21
theorem Dw (l:Lg)(J : -9223372036854775808≤l.closed∧l.closed≤9223372036854775807∧0≤l.last):dF prog 21 [.agg l.c] (bl (dN l)):=by
 refine PC.le ?_;obtain⟨X,G⟩:∃X,X=dN l:=⟨_,rfl⟩;rw[←G];refine dQ K5 ?_;repeat' ((conv=>whnf);first|(with_reducible first|apply aM|apply fk<;>intro hc<;>try exact aV)|(apply bX;refine⟨_,ql _ _,?_⟩)|refine aK ?_|fail)
 all_goals
  repeat' first|apply And.intro|exact aJ|fail
  all_goals try (conv=>whnf)
  subst G;simp only[dN,dA];grind
theorem JU:bM prog 36 f36:=fO func36
theorem Oo (l:List Pl)(a b:Int):dF prog 36 [av l,.agg [ii a,uu b]] (bl (l.any fun y=>y==⟨a,b⟩)):=by
 refine PC.le (pU JU fun J=>?_);have J:l.length≤9223372036854775807:=by simpa[IX,DU,av] using J
 refine dQ JU ?_;repeat' ((conv=>whnf);first|(with_reducible first|apply aM|apply fk<;>intro hc<;>try exact aV)|refine aK ?_|fail)
 refine⟨{k:Nat // k≤l.length∧∀j (V:j<l.length),j<k→(l[j]==⟨a,b⟩)=false},fun⟨k,_⟩=>⟨[(0,.pv (av l)),(3,.ptr 1003 0),(5,.pv (ii k))],1000000000,[(1003,.var [.pv (ii a),.pv (uu b)])]⟩,fun⟨k,_⟩=>l.length-k,⟨⟨0,by simp⟩,aD ?_⟩,?_⟩
 ·all_goals exact aJ
 rintro⟨k,X,K⟩
 repeat' ((conv=>whnf);first|(with_reducible first|apply aM|apply fk<;>intro hc<;>try exact aV)|refine aK ?_|fail)
 ·have G:k<l.length:=by simpa using hc
  refine⟨_,dR _ _ _ G,?_⟩;repeat' ((conv=>whnf);first|(with_reducible first|apply aM|apply fk<;>intro hc<;>try exact aV)|refine aK ?_|fail)
  ·repeat' first|apply And.intro|exact aJ|fail
   all_goals try (conv=>whnf)
   rw[Pl.adA] at hc;exact (List.any_eq_true.2 ⟨l[k],List.getElem_mem G,hc⟩).symm
  repeat' ((conv=>whnf);first|(with_reducible first|apply aM|apply fk<;>intro hc<;>try exact aV)|refine aK ?_|fail)
  refine⟨⟨k+1,G,lF K fun _=>(by rw[←Pl.adA];exact hc)⟩,dec_lt G,aD ?_⟩;repeat' first|apply And.intro|exact aJ|fail
  all_goals try (conv=>whnf)
  exact bF (by omega) (by omega)
 repeat' first|apply And.intro|exact aJ|fail
 all_goals try (conv=>whnf)
 have:k=l.length:=by simp at hc;omega
 subst this;refine (Bool.eq_false_iff.2 fun h=>?_).symm;obtain⟨x,S,Q⟩:=List.any_eq_true.1 h;rw[vQ (q:=fun x=>(x==(⟨a,b⟩:Pl))=false) K x S] at Q;cases Q
theorem GL:bM prog 126 f126:=fO func126
theorem JV (l:List Fr)(n:Int):dF prog 126 [cB l,uu n] (ii (ow (fun f=>decide (f.first≤n)) l)):=by
 refine PC.le (pU GL fun Q=>?_);have Q:l.length≤9223372036854775807:=by simpa[IX,DU,cB] using Q
 refine dQ GL ?_;repeat' ((conv=>whnf);first|(with_reducible first|apply aM|apply fk<;>intro hc<;>try exact aV)|refine aK ?_|fail)
 refine⟨{k:Nat // k≤l.length∧∀j (G:j<l.length),k≤j→decide (l[j].first≤n)=false},fun⟨k,_⟩=>⟨[(0,.pv (cB l)),(1,.pv (uu n)),(5,.pv (ii (((k:Nat):Int)-1)))],1000000000,[]⟩,fun⟨k,_⟩=>k,⟨⟨l.length,Nat.le_refl _,fun j G h=>by omega⟩,aD ?_⟩,?_⟩
 ·repeat' first|apply And.intro|exact aJ|fail
  all_goals try (conv=>whnf)
  rw[bF (by simp;omega) (by simp;omega),List.length_map]
 rintro⟨k,V,K⟩
 repeat' ((conv=>whnf);first|(with_reducible first|apply aM|apply fk<;>intro hc<;>try exact aV)|refine aK ?_|fail)
 ·have J:k-1<l.length∧1≤k:=by simp at hc;omega
  repeat' ((conv=>whnf);first|(with_reducible first|apply aM|apply fk<;>intro hc<;>try exact aV)|((refine⟨by simp at hc;omega,_,Qg _ _ (k:=k-1) (by omega) J.1,?_⟩))|refine aK ?_|fail)
  ·repeat' first|apply And.intro|exact aJ|fail
   all_goals try (conv=>whnf)
   rw[Jo _ J.1 (fun j G h=>K j G (by omega)) hc];omega
  repeat' ((conv=>whnf);first|(with_reducible first|apply aM|apply fk<;>intro hc<;>try exact aV)|refine aK ?_|fail)
  refine⟨⟨k-1,by omega,fun j G h=>?_⟩,(show k-1<k by omega),aD ?_⟩
  ·by_cases e:j=k-1
   ·subst e;exact hc
   exact K j G (by omega)
  repeat' first|apply And.intro|exact aJ|fail
  all_goals try (conv=>whnf)
  rw[bF (by omega) (by omega)];omega
 repeat' first|apply And.intro|exact aJ|fail
 all_goals try (conv=>whnf)
 rw[vT _ (fun x S=>?_)];obtain⟨j,G,rfl⟩:=List.getElem_of_mem S;exact K j G (by simp at hc;omega)
theorem JW:bM prog 73 f73:=fO func73
theorem Oe (l:List Fr)(w n:Int)(h:aY l)(hn:0≤n∧n≤18446744073709551615):dF prog 73 [cB l,ii w,uu n] (av (setOf l w n)):=by
 refine PC.le (pU JW fun hb=>?_);have hb:l.length≤9223372036854775807:=by simpa[IX,DU,cB] using hb
 refine dQ JW ?_;rcases Ae (fun f:Fr=>decide (f.first≤n)) l with ⟨e1,e2⟩|⟨k,hk,e1,e2⟩
 ·have hF:dF prog 126 [cB l,uu n] (ii (-1)):=e1▸JV l n;repeat' ((conv=>whnf);first|(with_reducible first|apply aM|apply fk<;>intro hc<;>try exact aV)|(apply bX;refine⟨_,hF,?_⟩)|refine aK ?_|fail)
  repeat' first|apply And.intro|exact aJ|fail
  all_goals try (conv=>whnf)
  simp[setOf,eH,e2]
 have hF:dF prog 126 [cB l,uu n] (ii (k:Nat)):=e1▸JV l n;have hf:eH l n=some l[k]:=e2;obtain⟨⟨f1,f2,f3⟩,f4⟩:=wX h hf;repeat' ((conv=>whnf);first|(with_reducible first|apply aM|apply fk<;>intro hc<;>try exact aV)|(apply bX;refine⟨_,hF,?_⟩)|((refine⟨_,dR _ _ _ hk,?_⟩))|refine aK ?_|fail)
 all_goals try (exfalso;grind)
 ·repeat' first|apply And.intro|exact aJ|fail
  all_goals try (conv=>whnf)
  simp only[iG,uS,fG] at *;simp only[setOf,hf];rw[if_neg (by omega)];rfl
 ·repeat' first|apply And.intro|exact aJ|fail
  all_goals try (conv=>whnf)
  simp only[iG,uS,fG] at *;simp only[setOf,hf];rw[if_neg (by omega)];rfl
 have hw:1≤w∧w≤l[k].ah.length:=by simp only[iG,uS,fG] at *;omega
 have K:0<l[k].ah.length:=by omega
 have af:=Int.emod_nonneg (n-l[k].first) (b:=(l[k].ah.length:Int)) (by omega);have ai:=Int.emod_lt_of_pos (n-l[k].first) (b:=(l[k].ah.length:Int)) (by omega);have eI:IntKind.i64.wrap ((IntKind.u64.wrap (n-l[k].first)).tmod (IntKind.u64.wrap ((l[k].ah.map Pl.c).length:Int)))=(n-l[k].first)%(l[k].ah.length:Int):=by
  rw[gX (by omega) (by omega),List.length_map,gX (by omega) (by omega),Int.tmod_eq_emod_of_nonneg (by omega)];exact bF (by omega) (by omega)
 obtain⟨c,ad⟩:∃c:Nat,c=((n-l[k].first)%(l[k].ah.length:Int)).toNat:=⟨_,rfl⟩;have ae:c<l[k].ah.length:=by omega
 have aa:setOf l w n=eP l[k].ah c w.toNat:=by simp only[setOf,hf];rw[if_pos hw,ad]
 have X:∀i,eP l[k].ah c (i+1)=eP l[k].ah c i++[l[k].ah[(c+i)%l[k].ah.length]!]:=fun i=>by simp[eP,List.range_succ]
 have S:∀i,(eP l[k].ah c i).length=i:=fun i=>by simp[eP]
 rw[aa];generalize ag:l[k].ah=bk at *;repeat' ((conv=>whnf);first|(with_reducible first|apply aM|apply fk<;>intro hc<;>try exact aV)|(((with_reducible apply And.intro);focus (rw[List.length_map,gX (by omega) (by omega)];omega)))|refine aK ?_|fail)
 refine⟨{i:Nat // i≤w.toNat},fun⟨i,_⟩=>⟨[(1,.pv (ii w)),(8,.aO 1008 0),(9,.pv (av bk)),(10,.pv (ii (((c+i)%bk.length:Nat):Int)))],1000000000,[(1008,.arr 27 0 2 ((eP bk c i).map Pl.c))]⟩,fun⟨i,_⟩=>w.toNat-i,⟨⟨0,Nat.zero_le _⟩,aD ?_⟩,?_⟩
 ·repeat' first|apply And.intro|exact aJ|fail
  all_goals try (conv=>whnf)
  rw[eI,Nat.add_zero,Nat.mod_eq_of_lt ae];omega
 rintro⟨i,hi⟩
 have hm:(c+i)%bk.length<bk.length:=Nat.mod_lt _ K;have V:IntKind.i64.wrap ((((c+i)%bk.length:Nat):Int)+1)=(((c+i)%bk.length+1:Nat):Int):=by rw[bF (by omega) (by omega)];omega
 have Q:[(bk[(c+i)%bk.length]).c]=[bk[(c+i)%bk.length]!].map Pl.c:=by rw[getElem!_pos bk _ hm];rfl
 have J:=mod_succ (c+i) bk.length K;repeat' ((conv=>whnf);first|(with_reducible first|apply aM|apply fk<;>intro hc<;>try exact aV)|refine aK ?_|fail)
 ·have G:i<w.toNat:=by simp[S] at hc;omega
  refine⟨_,dR _ _ _ hm,?_⟩;repeat' ((conv=>whnf);first|(with_reducible first|apply aM|apply fk<;>intro hc<;>try exact aV)|(((with_reducible apply And.intro);focus (simp[S];omega)))|refine aK ?_|fail)
  ·rw[V] at hc;rw[beq_iff_eq,List.length_map,Int.ofNat_inj] at hc;rw[if_pos hc] at J;refine⟨⟨i+1,G⟩,dec_lt G,aD ?_⟩;repeat' first|apply And.intro|exact aJ|fail
   all_goals try (conv=>whnf)
   all_goals first
    |(refine gJ ?_;rw[X,List.map_append,←Q];rfl)
    |(rw[←Nat.add_assoc,J];rfl)
  rw[V] at hc;rw[beq_eq_false_iff_ne,ne_eq,List.length_map,Int.ofNat_inj] at hc;rw[if_neg hc] at J;refine⟨⟨i+1,G⟩,dec_lt G,aD ?_⟩;repeat' first|apply And.intro|exact aJ|fail
  all_goals try (conv=>whnf)
  all_goals first
   |(refine gJ ?_;rw[X,List.map_append,←Q];rfl)
   |(rw[←Nat.add_assoc,J];exact V)
 have:i=w.toNat:=by simp[S] at hc;omega
 subst this;all_goals exact aJ
theorem OM:bM prog 127 f127:=fO func127
theorem OP:bM prog 74 f74:=fO func74
theorem OQ (l:List Pl)(k:Nat)(h:k<l.length)(p:Pl):(l.take (k+1)).any (· == p)=((l.take k).any (· == p)||(l[k]==p)):=by
 rw[List.take_succ_eq_append_getElem h,List.any_append];simp
theorem Et (x y:Pl):((x.node==y.node)&&(x.aH==y.aH))=(x==y):=by
 rw[Bool.eq_iff_iff];obtain⟨_,_⟩:=x;obtain⟨_,_⟩:=y;simp
theorem Sm (set K:List Pl)(h1:set.length≤1000000)(h2:K.length≤1000000):dF prog 127 [av set,av K] (ii (yF set K)):=by
 refine PC.le ?_;refine dQ OM ?_;repeat' ((conv=>whnf);first|(with_reducible first|apply aM|apply fk<;>intro hc<;>try exact aV)|refine aK ?_|fail)
 refine⟨{i:Nat // i≤set.length},fun⟨i,_⟩=>⟨[(0,.pv (av set)),(1,.pv (av K)),(5,.pv (ii (lJ set K i))),(6,.pv (ii i))],1000000000,[]⟩,fun⟨i,_⟩=>set.length-i,⟨⟨0,Nat.zero_le _⟩,aD ?_⟩,?_⟩
 ·all_goals exact aJ
 rintro⟨i,hi⟩
 dsimp only
 have ai:=Tx set K i;by_cases ae:i<set.length
 ·have d0:decide ((i:Int)<((set.map Pl.c).length:Int))=true:=by simp only[fG,iG];omega
  have eW:IntKind.i64.wrap ((i:Int)+1)=((i+1:Nat):Int):=by rw[bF (by omega) (by omega)];omega
  have X:=dR Pl.c set i ae;have ah:=wS set K i ae;replace ah:=Hd.mk ah;obtain⟨c,ad⟩:∃c,c=lJ set K i:=⟨_,rfl⟩;rw[←ad];replace ad:=Hd.mk ad;have am:c≤i:=by rw[ad.out];exact ai
  have eC:IntKind.i64.wrap ((c:Int)+1)=((c+1:Nat):Int):=by rw[bF (by omega) (by omega)];omega
  clear ai;repeat' ((conv=>whnf);first|(with_reducible first|apply aM|apply fk<;>intro hc<;>try exact aV)|refine aK ?_|fail)
  refine⟨{k:Nat // k≤i},fun⟨k,_⟩=>⟨[(0,.pv (av set)),(1,.pv (av K)),(5,.pv (ii c)),(6,.pv (ii i)),(7,.pv (bl (!(set.take k).any (· == set[i])))),(8,.pv (ii k))],1000000000,[]⟩,fun⟨k,_⟩=>i-k,⟨⟨0,Nat.zero_le _⟩,aD ?_⟩,?_⟩
  ·all_goals exact aJ
  rintro⟨k,hk⟩
  dsimp only
  by_cases aa:k<i
  ·have d1:decide ((k:Int)<(i:Int))=true:=by simp only[iG];omega
   have eV:IntKind.i64.wrap ((k:Int)+1)=((k+1:Nat):Int):=by rw[bF (by omega) (by omega)];omega
   have BA:=dR Pl.c set k (by omega);have Q:=OQ set k (by omega) set[i];have S:=Et (set[k]'(by omega)) set[i];simp only[Pl.c] at X BA;cases hF:(set.take k).any (· == set[i]) with
   | true=>
     have J:(!(set.take (k+1)).any (· == set[i]))=false:=by rw[Q,hF];rfl
     replace J:=Hd.mk J;clear Q S hF;repeat' ((conv=>whnf);first|(with_reducible first|apply aM|apply fk<;>intro hc<;>try exact aV)|((refine⟨_,X,?_⟩))|((refine⟨_,BA,?_⟩))|(refine zxb ?_)|refine aK ?_|fail)
     refine⟨⟨k+1,aa⟩,dec_lt aa,aD ?_⟩;dsimp only
     rw[J.out];repeat' first|apply And.intro|exact aJ|fail
     all_goals try (conv=>whnf)
     all_goals exact eV
   | false=>
     cases he:(set[k]'(by omega)==set[i]) with
     | true=>
       have J:(!(set.take (k+1)).any (· == set[i]))=false:=by rw[Q,hF,he];rfl
       rw[he] at S;replace J:=Hd.mk J;clear Q hF he;repeat' ((conv=>whnf);first|(with_reducible first|apply aM|apply fk<;>intro hc<;>try exact iA)|((refine⟨_,X,?_⟩))|((refine⟨_,BA,?_⟩))|(refine zxb ?_)|refine aK ?_|fail)
       all_goals
        refine⟨⟨k+1,aa⟩,dec_lt aa,aD ?_⟩;dsimp only
        rw[J.out];try simp only[S,Bool.not_true]
        repeat' first|apply And.intro|exact aJ|fail
        all_goals try (conv=>whnf)
        all_goals exact eV
     | false=>
       have J:(!(set.take (k+1)).any (· == set[i]))=true:=by rw[Q,hF,he];rfl
       rw[he] at S;replace J:=Hd.mk J;clear Q hF he;repeat' ((conv=>whnf);first|(with_reducible first|apply aM|apply fk<;>intro hc<;>try exact iA)|((refine⟨_,X,?_⟩))|((refine⟨_,BA,?_⟩))|(refine zxb ?_)|refine aK ?_|fail)
       all_goals
        refine⟨⟨k+1,aa⟩,dec_lt aa,aD ?_⟩;dsimp only
        rw[J.out];try simp only[S,Bool.not_false]
        repeat' first|apply And.intro|exact aJ|fail
        all_goals try (conv=>whnf)
        all_goals exact eV
  have ak:k=i:=by omega
  subst ak;have d1:decide ((k:Int)<(k:Int))=false:=by simp
  obtain⟨F,hF⟩:∃F,(!(set.take k).any (· == set[k]))=F:=⟨_,rfl⟩;rw[hF];replace hF:=Hd.mk hF;repeat' ((conv=>whnf);first|(with_reducible first|apply aM|apply fk<;>intro hc<;>try exact iA)|refine aK ?_|fail)
  refine⟨{m:Nat // m≤K.length},fun⟨m,_⟩=>⟨[(0,.pv (av set)),(1,.pv (av K)),(5,.pv (ii c)),(6,.pv (ii k)),(7,.pv (bl F)),(9,.pv (bl ((K.take m).any (· == set[k])))),(10,.pv (ii m))],1000000000,[]⟩,fun⟨m,_⟩=>K.length-m,⟨⟨0,Nat.zero_le _⟩,aD ?_⟩,?_⟩
  ·all_goals exact aJ
  rintro⟨m,hm⟩
  dsimp only
  by_cases V:m<K.length
  ·have d2:decide ((m:Int)<((K.map Pl.c).length:Int))=true:=by simp only[fG,iG];omega
   have eV:IntKind.i64.wrap ((m:Int)+1)=((m+1:Nat):Int):=by rw[bF (by omega) (by omega)];omega
   have af:=dR Pl.c K m V;have Q:=OQ K m V set[k];have S:=Et (K[m]) set[k];simp only[Pl.c] at X af;cases hG:(K.take m).any (· == set[k]) with
   | true=>
     have J:(K.take (m+1)).any (· == set[k])=true:=by rw[Q,hG];rfl
     replace J:=Hd.mk J;clear Q S hG;repeat' ((conv=>whnf);first|(with_reducible first|apply aM|apply fk<;>intro hc<;>try exact iA)|((refine⟨_,X,?_⟩))|((refine⟨_,af,?_⟩))|refine aK ?_|fail)
     refine⟨⟨m+1,V⟩,dec_lt V,aD ?_⟩;dsimp only
     rw[J.out];repeat' first|apply And.intro|exact aJ|fail
     all_goals try (conv=>whnf)
     all_goals exact eV
   | false=>
     cases he:(K[m]==set[k]) with
     | true=>
       have J:(K.take (m+1)).any (· == set[k])=true:=by rw[Q,hG,he];rfl
       rw[he] at S;replace J:=Hd.mk J;clear Q hG he;repeat' ((conv=>whnf);first|(with_reducible first|apply aM|apply fk<;>intro hc<;>try exact iA)|((refine⟨_,X,?_⟩))|((refine⟨_,af,?_⟩))|(refine zxb ?_)|refine aK ?_|fail)
       all_goals
        refine⟨⟨m+1,V⟩,dec_lt V,aD ?_⟩;dsimp only
        rw[J.out];try simp only[S]
        repeat' first|apply And.intro|exact aJ|fail
        all_goals try (conv=>whnf)
        all_goals exact eV
     | false=>
       have J:(K.take (m+1)).any (· == set[k])=false:=by rw[Q,hG,he];rfl
       rw[he] at S;replace J:=Hd.mk J;clear Q hG he;repeat' ((conv=>whnf);first|(with_reducible first|apply aM|apply fk<;>intro hc<;>try exact iA)|((refine⟨_,X,?_⟩))|((refine⟨_,af,?_⟩))|(refine zxb ?_)|refine aK ?_|fail)
       all_goals
        refine⟨⟨m+1,V⟩,dec_lt V,aD ?_⟩;dsimp only
        rw[J.out];try simp only[S]
        repeat' first|apply And.intro|exact aJ|fail
        all_goals try (conv=>whnf)
        all_goals exact eV
  have al:m=K.length:=by omega
  subst al;have d2:decide ((K.length:Int)<((K.map Pl.c).length:Int))=false:=by simp
  rw[List.take_length];obtain⟨G,hG⟩:∃G,K.any (· == set[k])=G:=⟨_,rfl⟩;rw[hG];have ag:lJ set K (k+1)=c+(if G&&F then 1 else 0):=by rw[ah.out,←hG,←hF.out,ad.out]
  clear hG;cases F<;>cases G
  all_goals
   simp only[Bool.and_true,Bool.and_false,Bool.true_and,Bool.false_and,Bool.false_eq_true,↓reduceIte,Nat.add_zero] at ag;replace ag:=Hd.mk ag;repeat' ((conv=>whnf);first|(with_reducible first|apply aM|apply fk<;>intro hc<;>try exact iA)|refine aK ?_|fail)
   refine⟨⟨k+1,ae⟩,dec_lt ae,aD ?_⟩;dsimp only
   rw[ag.out];repeat' first|apply And.intro|exact aJ|fail
   all_goals try (conv=>whnf)
   all_goals first
    |exact eW
    |exact eC
 have ak:i=set.length:=by omega
 subst ak;have d0:decide ((set.length:Int)<((set.map Pl.c).length:Int))=false:=by simp
 clear ae hi ai;repeat' ((conv=>whnf);first|(with_reducible first|apply aM|apply fk<;>intro hc<;>try exact aV)|refine aK ?_|fail)
 all_goals exact aJ
theorem Gz (set:List Pl)(a:Int)(G:List Pl)(J:set.length≤1000000)(K:G.length≤1000000):dF prog 74 [av set,ii a,av G] (bl (bE set a G)):=by
 have Q:=Sm set G J K;refine PC.le ?_;unfold bE;generalize yF set G=n at *;cases S:decide (a>0)<;>cases V:decide ((n:Int)≥a)
 all_goals
  refine dQ OP ?_;repeat' ((conv=>whnf);first|(with_reducible first|apply aM|apply fk<;>intro hc<;>try exact iA)|(apply bX;refine⟨_,Q,?_⟩)|refine aK ?_|fail)
  repeat' first|apply And.intro|exact aJ|fail
  all_goals try (conv=>whnf)
 all_goals simp_all
 all_goals omega
theorem Rl:bM prog 174 f174:=fO func174
theorem VX (s:Sk)(p:Pl)(hb:s.aF.length≤100000):dX prog 174 [.ptr 1 0,.pv (.agg p.c)] (zi s) (.eY 1004 0 (iW s.aF p) 0) (Lr { s with aF:=iD s.aF p }):=by
 refine l7 ?_ rfl;refine fw Rl ?_;repeat' ((conv=>whnf);first|(with_reducible first|apply aM|apply fk<;>intro hc<;>try exact aV)|refine aK ?_|fail)
 refine⟨{k:Nat // k≤s.aF.length∧∀j (X:j<s.aF.length),j<k→(s.aF[j].x==p)=false},fun⟨k,_⟩=>⟨[(0,.ptr 1 0),(3,.ptr 1003 0),(5,.pv (ii k))],1000000000,(1003,.var [.pv (ii p.node),.pv (uu p.aH)])::skM s⟩,fun⟨k,_⟩=>s.aF.length-k,⟨⟨0,Nat.zero_le _,fun j X h=>absurd h (by omega)⟩,aD ?_⟩,?_⟩
 ·all_goals exact aJ
 rintro⟨k,hk,V⟩
 dsimp only
 by_cases G:k<s.aF.length
 rotate_left
 ·have aa:k=s.aF.length:=by omega
  subst aa;have d0:decide ((s.aF.length:Int)<((s.aF.map Fk.c).length:Int))=false:=by simp
  obtain⟨J,K⟩:=adV (l:=s.aF) (p:=p) fun j X=>V j X X
  rw[J,K];have eL:IntKind.i64.wrap ((((s.aF.map Fk.c)++[[ii p.node,uu p.aH,uu 0,uu 0]]).length:Int)-1)=(s.aF.length:Int):=by
   simp only[rP,fG,List.length_singleton];rw[bF (by omega) (by omega)];omega
  clear V hk J K;repeat' ((conv=>whnf);first|(with_reducible first|apply aM|apply fk<;>intro hc<;>try exact iA)|rewrite[eL]|(((with_reducible apply And.intro);focus (simp only[fG,jo,jq,rP,Int.toNat_natCast];omega)))|refine aK ?_|fail)
  refine⟨_,_,⟨rfl,rfl⟩,?_⟩;repeat' first|apply And.intro|exact aJ|fail
  all_goals try (conv=>whnf)
  all_goals first
   |(rw[List.map_append];refine bW (ay _) ?_;(repeat' first|apply And.intro|exact aJ|fail);(all_goals try (conv=>whnf)))
   |trace_state
 have d0:decide ((k:Int)<((s.aF.map Fk.c).length:Int))=true:=by simp only[fG,iG];omega
 have eW:IntKind.i64.wrap ((k:Int)+1)=((k+1:Nat):Int):=by rw[bF (by omega) (by omega)];omega
 have hr:=dR Fk.c s.aF k G;have S:k<(s.aF.map Fk.c).length:=by rw[List.length_map];exact G
 have Q:=Et s.aF[k].x p;simp only[Fk.c] at hr;cases J:(s.aF[k].x==p) with
 | true=>
   rw[J] at Q;obtain⟨K,e3⟩:=Vy G (by simpa using J) V;rw[K,e3];clear V J K e3;repeat' ((conv=>whnf);first|(with_reducible first|apply aM|apply fk<;>intro hc<;>try exact iA)|((refine⟨_,hr,?_⟩))|(((with_reducible apply And.intro);focus (rw[Int.toNat_natCast];exact S)))|refine aK ?_|fail)
   refine⟨_,_,⟨rfl,rfl⟩,?_⟩;repeat' first|apply And.intro|exact aJ|fail
   all_goals try (conv=>whnf)
   all_goals trace_state
 | false=>
   rw[J] at Q;repeat' ((conv=>whnf);first|(with_reducible first|apply aM|apply fk<;>intro hc<;>try exact iA)|((refine⟨_,hr,?_⟩))|(((with_reducible apply And.intro);focus (rw[Int.toNat_natCast];exact S)))|refine aK ?_|fail)
   refine⟨⟨k+1,G,lF V fun _=>J⟩,dec_lt G,aD ?_⟩;repeat' first|apply And.intro|exact aJ|fail
   all_goals try (conv=>whnf)
   all_goals exact eW
theorem Oa:bM prog 146 f146:=fO func146
theorem Rm (s:Sk)(q:Rq)(oI:Bool)(hb:s.aF.length≤100000)(hh:s.has.length≤100000)(ht:s.told.length≤100000)(ai:∀h∈s.has,h.body.length≤100000) :
  dX prog 146 [.ptr 1 0,.pv (.agg q.c),.pv (bl oI)] (zi s) (.agg (rsA (bQ s q oI).2)) (Lr (bQ s q oI).1):=by
 refine l7 ?_ rfl;have hf:=VX s q.to hb;obtain⟨⟨t,r⟩,K⟩:∃y,bQ s q oI=y:=⟨_,rfl⟩;rw[K];rw[QV] at K;obtain⟨hi,ae⟩:=TV s.aF q.to;have hG:=Np s.aF q.to;have Q:=dR Fk.c (iD s.aF q.to) (iW s.aF q.to) hi;rw[ae] at Q;have J:iW s.aF q.to<((iD s.aF q.to).map Fk.c).length:=by rw[List.length_map];exact hi
 clear ae hi;generalize iD s.aF q.to=G at *;generalize iW s.aF q.to=i at *;generalize eO s.aF q.to=f at *;simp only[Fk.c] at Q;change (G.map Fk.c)[i]? = some [ii f.x.node,uu f.x.aH,uu f.ak,uu f.sure] at Q
 refine fw Oa ?_;repeat' ((conv=>whnf);first|(with_reducible first|apply aM|apply fk<;>intro hc<;>try exact iA)|rewrite[nE]|rewrite[nG]|refine eF hf ?_|refine aK ?_|fail)
 clear hf;refine⟨{x:Nat×Int // x.1≤s.has.length∧ZX s.has q.to q.n x.1 x.2},fun⟨(k,ad),_⟩=>⟨[(0,.ptr 1 0),(2,.pv (bl oI)),(4,.ptr 1004 0),(6,.ptr 1006 0),(7,.ptr 1007 0),(8,.eY 1780 0 i 0),(9,.pv (ii ad)),(10,.pv (ii k))],1000000000,(1004,.var (rqA q))::(1006,.var rsZ)::(1007,.var (rsA (BJ q)))::skM { s with aF:=G }⟩,fun⟨(k,_),_⟩=>s.has.length-k,⟨⟨(0,-1),Nat.zero_le _,agU _ _ _⟩,aD ?_⟩,?_⟩
 ·all_goals exact aJ
 rintro⟨⟨k,ad⟩,hk,S⟩
 simp only at hk S;dsimp only
 by_cases V:k<s.has.length
 ·have d0:decide ((k:Int)<((s.has.map Hp.c).length:Int))=true:=by simp only[fG,iG];omega
  have eW:IntKind.i64.wrap ((k:Int)+1)=((k+1:Nat):Int):=by rw[bF (by omega) (by omega)];omega
  have hr:=dR Hp.c s.has k V;have X:=Vz S V;have af:=Et s.has[k].x q.to;clear S K Q J;generalize s.has[k]=h at *;simp only[Hp.c] at hr;cases e1:(h.x==q.to) with
  | true=>
    cases e2:(h.n==q.n) with
    | true=>
      rw[e1] at af;rw[e1,e2] at X;simp only[Bool.and_self,↓reduceIte] at X;clear e1;repeat' ((conv=>whnf);first|(with_reducible first|apply aM|apply fk<;>intro hc<;>try exact oG)|((refine⟨_,hr,?_⟩))|refine aK ?_|fail)
      refine⟨⟨(k+1,(k:Int)),V,X⟩,dec_lt V,aD ?_⟩;repeat' first|apply And.intro|exact aJ|fail
      all_goals try (conv=>whnf)
      all_goals exact eW
    | false=>
      rw[e1] at af;rw[e1,e2] at X;simp only[Bool.and_false,Bool.false_eq_true,↓reduceIte] at X;clear e1;repeat' ((conv=>whnf);first|(with_reducible first|apply aM|apply fk<;>intro hc<;>try exact oG)|((refine⟨_,hr,?_⟩))|refine aK ?_|fail)
      refine⟨⟨(k+1,ad),V,X⟩,dec_lt V,aD ?_⟩;repeat' first|apply And.intro|exact aJ|fail
      all_goals try (conv=>whnf)
      all_goals exact eW
  | false=>
    rw[e1] at af;rw[e1] at X;simp only[Bool.false_and,Bool.false_eq_true,↓reduceIte] at X;clear e1;repeat' ((conv=>whnf);first|(with_reducible first|apply aM|apply fk<;>intro hc<;>try exact oG)|((refine⟨_,hr,?_⟩))|refine aK ?_|fail)
    refine⟨⟨(k+1,ad),V,X⟩,dec_lt V,aD ?_⟩;repeat' first|apply And.intro|exact aJ|fail
    all_goals try (conv=>whnf)
    all_goals exact eW
 have al:k=s.has.length:=by omega
 subst al;have d0:decide ((s.has.length:Int)<((s.has.map Hp.c).length:Int))=false:=by simp
 unfold ZX at S;rw[List.take_length] at S;clear hk V;unfold KO at K;cases k1:(q.kind==1) with
 | true=>
   have aa:q.kind=1:=by simpa using k1
   rw[if_pos aa] at K;clear aa;cases lt:decide (q.ak<f.ak) with
   | true=>
     rw[if_pos (by simpa using lt)] at K;obtain⟨rfl,rfl⟩:=Prod.mk.inj K;clear K S;repeat' ((conv=>whnf);first|(with_reducible first|apply aM|apply fk<;>intro hc<;>try exact oG)|rewrite[nE]|rewrite[nG]|((refine⟨_,Q,?_⟩))|((refine⟨_,List.getElem?_set_self J,?_⟩))|(((with_reducible apply And.intro);focus exact J))|(((with_reducible apply And.intro);focus (rw[Int.toNat_natCast];exact J)))|((refine⟨_,rfl,?_⟩))|(((with_reducible apply And.intro);focus (simp only[fG,jo,jq];omega)))|refine aK ?_|fail)
     refine⟨_,_,⟨rfl,rfl⟩,?_⟩;repeat' first|apply And.intro|exact aJ|fail
     all_goals try (conv=>whnf)
     all_goals first
      |(rw[List.map_append];refine bW (ay _) ?_;(repeat' first|apply And.intro|exact aJ|fail);(all_goals try (conv=>whnf)))
      |(rw[List.map_set];exact ay _)
      |trace_state
   | false=>
     rw[if_neg (by simpa using lt)] at K;rcases S with ⟨rfl,hn⟩|⟨j,hj,rfl,_,hs⟩
     ·rw[hn] at K;simp only[Option.isNone_none,↓reduceIte] at K;clear hn;cases oI;all_goals
       simp only[Bool.false_eq_true,↓reduceIte] at K;obtain⟨rfl,rfl⟩:=Prod.mk.inj K;clear K;repeat' ((conv=>whnf);first|(with_reducible first|apply aM|apply fk<;>intro hc<;>try exact oG)|rewrite[nE]|rewrite[nG]|((refine⟨_,Q,?_⟩))|((refine⟨_,List.getElem?_set_self J,?_⟩))|(((with_reducible apply And.intro);focus exact J))|(((with_reducible apply And.intro);focus (rw[Int.toNat_natCast];exact J)))|((refine⟨_,rfl,?_⟩))|(((with_reducible apply And.intro);focus (simp only[fG,jo,jq];omega)))|refine aK ?_|fail)
       refine⟨_,_,⟨rfl,rfl⟩,?_⟩;repeat' first|apply And.intro|exact aJ|fail
       all_goals try (conv=>whnf)
       all_goals first
        |(rw[List.map_append];refine bW (ay _) ?_;(repeat' first|apply And.intro|exact aJ|fail);(all_goals try (conv=>whnf)))
        |(rw[List.map_set];exact ay _)
        |trace_state
     rw[hs] at K;simp only[Option.isNone_some,Bool.false_eq_true,↓reduceIte] at K;have g0:decide ((j:Int)<0)=false:=by simp only[uS];omega
     clear hs;cases oI;all_goals
      simp only[Bool.false_eq_true,↓reduceIte] at K;obtain⟨rfl,rfl⟩:=Prod.mk.inj K;clear K;repeat' ((conv=>whnf);first|(with_reducible first|apply aM|apply fk<;>intro hc<;>try exact oG)|rewrite[nE]|rewrite[nG]|((refine⟨_,Q,?_⟩))|((refine⟨_,List.getElem?_set_self J,?_⟩))|(((with_reducible apply And.intro);focus exact J))|(((with_reducible apply And.intro);focus (rw[Int.toNat_natCast];exact J)))|((refine⟨_,rfl,?_⟩))|(((with_reducible apply And.intro);focus (simp only[fG,jo,jq];omega)))|refine aK ?_|fail)
      refine⟨_,_,⟨rfl,rfl⟩,?_⟩;repeat' first|apply And.intro|exact aJ|fail
      all_goals try (conv=>whnf)
      all_goals first
       |(rw[List.map_append];refine bW (ay _) ?_;(repeat' first|apply And.intro|exact aJ|fail);(all_goals try (conv=>whnf)))
       |(rw[List.map_set];exact ay _)
       |trace_state
 |false=>
 have aa:¬q.kind=1:=by simpa using k1
 rw[if_neg aa] at K;clear aa;cases k2:(q.kind==2) with
 | true=>
   have GZ:q.kind=2:=by simpa using k2
   rw[if_pos GZ] at K;obtain⟨rfl,rfl⟩:=Prod.mk.inj K;clear K S GZ;repeat' ((conv=>whnf);first|(with_reducible first|apply aM|apply fk<;>intro hc<;>try exact oG)|rewrite[nE]|rewrite[nG]|((refine⟨_,Q,?_⟩))|((refine⟨_,List.getElem?_set_self J,?_⟩))|(((with_reducible apply And.intro);focus exact J))|(((with_reducible apply And.intro);focus (rw[Int.toNat_natCast];exact J)))|((refine⟨_,rfl,?_⟩))|(((with_reducible apply And.intro);focus (simp only[fG,jo,jq];omega)))|refine aK ?_|fail)
   refine⟨_,_,⟨rfl,rfl⟩,?_⟩;repeat' first|apply And.intro|exact aJ|fail
   all_goals try (conv=>whnf)
   all_goals first
    |(rw[List.map_append];refine bW (ay _) ?_;(repeat' first|apply And.intro|exact aJ|fail);(all_goals try (conv=>whnf)))
    |(rw[List.map_set];exact ay _)
    |trace_state
 |false=>
 have GZ:¬q.kind=2:=by simpa using k2
 rw[if_neg GZ] at K;clear GZ;cases k3:(q.kind==3) with
 | true=>
   have QJ:q.kind=3:=by simpa using k3
   rw[if_pos QJ] at K;clear QJ;rcases S with ⟨rfl,hn⟩|⟨j,hj,rfl,_,hs⟩
   ·rw[hn] at K;simp only at K;obtain⟨rfl,rfl⟩:=Prod.mk.inj K;clear K hn;repeat' ((conv=>whnf);first|(with_reducible first|apply aM|apply fk<;>intro hc<;>try exact oG)|rewrite[nE]|rewrite[nG]|((refine⟨_,Q,?_⟩))|((refine⟨_,List.getElem?_set_self J,?_⟩))|(((with_reducible apply And.intro);focus exact J))|(((with_reducible apply And.intro);focus (rw[Int.toNat_natCast];exact J)))|((refine⟨_,rfl,?_⟩))|(((with_reducible apply And.intro);focus (simp only[fG,jo,jq];omega)))|refine aK ?_|fail)
    refine⟨_,_,⟨rfl,rfl⟩,?_⟩;repeat' first|apply And.intro|exact aJ|fail
    all_goals try (conv=>whnf)
    all_goals first
     |(rw[List.map_append];refine bW (ay _) ?_;(repeat' first|apply And.intro|exact aJ|fail);(all_goals try (conv=>whnf)))
     |(rw[List.map_set];exact ay _)
     |trace_state
   rw[hs] at K;simp only at K;obtain⟨rfl,rfl⟩:=Prod.mk.inj K;clear K hs;have g0:decide ((j:Int)≥0)=true:=by simp only[iG];omega
   have ag:j<(s.has.map Hp.c).length:=by rw[List.length_map];exact hj
   have ah:=dR Hp.c s.has j hj;have wJ:=ai _ (List.getElem_mem hj);generalize s.has[j]=h at *;simp only[Hp.c] at ah;have am:(⟨h.body.toArray⟩:ByteArray).size≤140737488355328:=by show h.body.toArray.size≤_;simp;omega
   repeat' ((conv=>whnf);first|(with_reducible first|apply aM|apply fk<;>intro hc<;>try exact oG)|rewrite[nE]|rewrite[nG]|((refine⟨_,Q,?_⟩))|((refine⟨_,ah,?_⟩))|(((with_reducible apply And.intro);focus exact ag))|(((with_reducible apply And.intro);focus (rw[Int.toNat_natCast];exact ag)))|(((with_reducible apply And.intro);focus exact am))|((refine⟨_,List.getElem?_set_self J,?_⟩))|(((with_reducible apply And.intro);focus exact J))|(((with_reducible apply And.intro);focus (rw[Int.toNat_natCast];exact J)))|((refine⟨_,rfl,?_⟩))|(((with_reducible apply And.intro);focus (simp only[fG,jo,jq];omega)))|refine aK ?_|fail)
   refine⟨_,_,⟨rfl,rfl⟩,?_⟩;repeat' first|apply And.intro|exact aJ|fail
   all_goals try (conv=>whnf)
   all_goals first
    |(rw[List.map_append];refine bW (ay _) ?_;(repeat' first|apply And.intro|exact aJ|fail);(all_goals try (conv=>whnf)))
    |(rw[List.map_set];exact ay _)
    |trace_state
 | false=>
   have QJ:¬q.kind=3:=by simpa using k3
   rw[if_neg QJ] at K;obtain⟨rfl,rfl⟩:=Prod.mk.inj K;clear K S QJ;repeat' ((conv=>whnf);first|(with_reducible first|apply aM|apply fk<;>intro hc<;>try exact oG)|rewrite[nE]|rewrite[nG]|((refine⟨_,Q,?_⟩))|((refine⟨_,List.getElem?_set_self J,?_⟩))|(((with_reducible apply And.intro);focus exact J))|(((with_reducible apply And.intro);focus (rw[Int.toNat_natCast];exact J)))|((refine⟨_,rfl,?_⟩))|(((with_reducible apply And.intro);focus (simp only[fG,jo,jq];omega)))|refine aK ?_|fail)
   refine⟨_,_,⟨rfl,rfl⟩,?_⟩;repeat' first|apply And.intro|exact aJ|fail
   all_goals try (conv=>whnf)
   all_goals first
    |(rw[List.map_append];refine bW (ay _) ?_;(repeat' first|apply And.intro|exact aJ|fail);(all_goals try (conv=>whnf)))
    |(rw[List.map_set];exact ay _)
    |trace_state
theorem l9:bM prog 167 f167:=fO func167
theorem kr:bM prog 141 f141:=fO func141
theorem OD:bM prog 164 f164:=fO func164
theorem AA:bM prog 168 f168:=fO func168
theorem qR:bM prog 144 f144:=fO func144
theorem Uj (x:Rv)(now:Int)(hp:x.phase=2)(X:aY x.l.af)(hn:0≤x.n∧x.n≤18446744073709551615)(hs:(aC x).length≤1000000) :
  dX prog 144 [.ptr 1 0,.pv (uu now)] [(1,.var (x.v (.pv (av x.heard)) (.pv (av x.none)) (.pv (av x.has)) (.pv (cB x.af)) (.pv (av x.bad)) (.pv (.sc (.slice none 0 0)))))] (.pv (.cK []))
   [(1,.var (({ x with since:=now }:Rv).v (.pv (av x.heard)) (.pv (av x.none)) (.pv (av x.has)) (.pv (cB x.af)) (.pv (av x.bad)) (.aO 1001 0))),(1001,.arr 93 0 10 ((gF x (aC x)).map Rq.c))]:=by
 have b1:(x.phase==1)=false:=by simp[hp]
 have b2:(x.phase==2)=true:=by simp[hp]
 clear hp;refine fw qR ?_;repeat' ((conv=>whnf);first|(with_reducible first|apply aM|apply fk<;>intro hc<;>try exact aV)|(refine Or.inr ?_;(conv=>whnf);refine⟨_,bY bV (bZ mixed bV) l9 rfl ?_,fun _ _ h=>h⟩)|(apply bX;refine⟨_,jg _ _ _ X hn,?_⟩)|refine aK ?_|fail)
 refine⟨{k:Nat // k≤(aC x).length},fun⟨k,_⟩=>⟨[(0,.ptr 1 0),(64,.pv (av (aC x))),(65,.pv (ii (aC x).length)),(66,.pv (ii k))],1000000000,[(1,.var (({ x with since:=now }:Rv).v (.pv (av x.heard)) (.pv (av x.none)) (.pv (av x.has)) (.pv (cB x.af)) (.pv (av x.bad)) (.aO 1001 0))),(1001,.arr 93 0 10 ((gF x ((aC x).take k)).map Rq.c))]⟩,fun⟨k,_⟩=>(aC x).length-k,⟨⟨0,Nat.zero_le _⟩,aD ?_⟩,?_⟩
 ·repeat' first|apply And.intro|exact aJ|fail
  all_goals try (conv=>whnf)
  rw[List.length_map];rfl
 rintro⟨k,hk⟩
 by_cases G:k<(aC x).length
 ·have S:decide ((k:Int)<((aC x).length:Int))=true:=by simp only[iG];omega
  have V:IntKind.i64.wrap ((k:Int)+1)=((k+1:Nat):Int):=by rw[bF (by omega) (by omega)];omega
  have Q:=gq (fun p=>x.heard.any (· == p) && !x.none.any (· == p)) (jB x) (aC x) k G;have hl:=gT (fun p=>x.heard.any (· == p) && !x.none.any (· == p)) (jB x) (aC x) k;repeat' ((conv=>whnf);first|(with_reducible first|apply aM|apply fk<;>intro hc<;>try exact aV)|((refine⟨_,dR _ _ _ G,?_⟩))|(apply bX;refine⟨_,aA _ _ _,?_⟩)|(refine Or.inr ?_;(conv=>whnf);refine⟨_,bY bV (bZ mixed bV) AA rfl ?_,fun _ _ h=>h⟩)|(((with_reducible apply And.intro);focus (simp only[gF,fG,jo,jq] at *;omega)))|refine aK ?_|fail)
  all_goals
   refine⟨⟨k+1,G⟩,dec_lt G,aD ?_⟩;repeat' first|apply And.intro|exact aJ|fail
   all_goals try (conv=>whnf)
   all_goals first
    |exact V
    | (simp only[gF]
       rw[Q,if_pos (by simp only[Bool.and_eq_true];exact⟨by assumption,by assumption⟩),List.map_append];refine bW (ay _) ?_
       (repeat' first|apply And.intro|exact aJ|fail);(all_goals try (conv=>whnf)))
    | (simp only[gF]
       rw[Q,if_neg (by
        intro J;simp only[Bool.and_eq_true] at J;first
         |exact absurd J.1 (by rw[show (x.heard.any fun y=>y==(aC x)[k])=false from by assumption];simp)
         |exact absurd J.2 (by rw[show (!x.none.any fun y=>y==(aC x)[k])=false from by assumption];simp))]
       exact ay _)
 have K:k=(aC x).length:=by omega
 subst K;have S:decide (((aC x).length:Int)<((aC x).length:Int))=false:=by simp
 repeat' ((conv=>whnf);first|(with_reducible first|apply aM|apply fk<;>intro hc<;>try exact aV)|refine aK ?_|fail)
 refine⟨_,_,⟨rfl,rfl⟩,?_⟩;repeat' first|apply And.intro|exact aJ|fail
 all_goals try (conv=>whnf)
 rw[List.take_length];exact ay _
theorem aew (x:Rv)(now:Int)(hp:x.phase=2)(X:aY x.l.af)(hn:0≤x.n∧x.n≤18446744073709551615)(hs:(aC x).length≤1000000) :
  dX prog 144 [.ptr 1 0,.pv (uu now)] [(1,.var (x.v (.aO 2 0) (.pv (av x.none)) (.pv (av x.has)) (.pv (cB x.af)) (.pv (av x.bad)) (.pv (.sc (.slice none 0 0))))),(2,.arr 27 0 2 (x.heard.map Pl.c))] (.pv (.cK []))
   [(1,.var (({ x with since:=now }:Rv).v (.aO 2 0) (.pv (av x.none)) (.pv (av x.has)) (.pv (cB x.af)) (.pv (av x.bad)) (.aO 1001 0))),(2,.arr 27 0 2 (x.heard.map Pl.c)),(1001,.arr 93 0 10 ((gF x (aC x)).map Rq.c))]:=by
 have b1:(x.phase==1)=false:=by simp[hp]
 have b2:(x.phase==2)=true:=by simp[hp]
 clear hp;refine fw qR ?_;repeat' ((conv=>whnf);first|(with_reducible first|apply aM|apply fk<;>intro hc<;>try exact aV)|(refine Or.inr ?_;(conv=>whnf);refine⟨_,bY bV (bZ mixed bV) l9 rfl ?_,fun _ _ h=>h⟩)|(apply bX;refine⟨_,jg _ _ _ X hn,?_⟩)|refine aK ?_|fail)
 refine⟨{k:Nat // k≤(aC x).length},fun⟨k,_⟩=>⟨[(0,.ptr 1 0),(64,.pv (av (aC x))),(65,.pv (ii (aC x).length)),(66,.pv (ii k))],1000000000,[(1,.var (({ x with since:=now }:Rv).v (.aO 2 0) (.pv (av x.none)) (.pv (av x.has)) (.pv (cB x.af)) (.pv (av x.bad)) (.aO 1001 0))),(2,.arr 27 0 2 (x.heard.map Pl.c)),(1001,.arr 93 0 10 ((gF x ((aC x).take k)).map Rq.c))]⟩,fun⟨k,_⟩=>(aC x).length-k,⟨⟨0,Nat.zero_le _⟩,aD ?_⟩,?_⟩
 ·repeat' first|apply And.intro|exact aJ|fail
  all_goals try (conv=>whnf)
  rw[List.length_map];rfl
 rintro⟨k,hk⟩
 by_cases G:k<(aC x).length
 ·have S:decide ((k:Int)<((aC x).length:Int))=true:=by simp only[iG];omega
  have V:IntKind.i64.wrap ((k:Int)+1)=((k+1:Nat):Int):=by rw[bF (by omega) (by omega)];omega
  have Q:=gq (fun p=>x.heard.any (· == p) && !x.none.any (· == p)) (jB x) (aC x) k G;have hl:=gT (fun p=>x.heard.any (· == p) && !x.none.any (· == p)) (jB x) (aC x) k;repeat' ((conv=>whnf);first|(with_reducible first|apply aM|apply fk<;>intro hc<;>try exact aV)|((refine⟨_,dR _ _ _ G,?_⟩))|(apply bX;refine⟨_,aA _ _ _,?_⟩)|(refine Or.inr ?_;(conv=>whnf);refine⟨_,bY bV (bZ mixed bV) AA rfl ?_,fun _ _ h=>h⟩)|(((with_reducible apply And.intro);focus (simp only[gF,fG,jo,jq] at *;omega)))|refine aK ?_|fail)
  all_goals
   refine⟨⟨k+1,G⟩,dec_lt G,aD ?_⟩;repeat' first|apply And.intro|exact aJ|fail
   all_goals try (conv=>whnf)
   all_goals first
    |exact V
    | (simp only[gF]
       rw[Q,if_pos (by simp only[Bool.and_eq_true];exact⟨by assumption,by assumption⟩),List.map_append];refine bW (ay _) ?_
       (repeat' first|apply And.intro|exact aJ|fail);(all_goals try (conv=>whnf)))
    | (simp only[gF]
       rw[Q,if_neg (by
        intro J;simp only[Bool.and_eq_true] at J;first
         |exact absurd J.1 (by rw[show (x.heard.any fun y=>y==(aC x)[k])=false from by assumption];simp)
         |exact absurd J.2 (by rw[show (!x.none.any fun y=>y==(aC x)[k])=false from by assumption];simp))]
       exact ay _)
 have K:k=(aC x).length:=by omega
 subst K;have S:decide (((aC x).length:Int)<((aC x).length:Int))=false:=by simp
 repeat' ((conv=>whnf);first|(with_reducible first|apply aM|apply fk<;>intro hc<;>try exact aV)|refine aK ?_|fail)
 refine⟨_,_,⟨rfl,rfl⟩,?_⟩;repeat' first|apply And.intro|exact aJ|fail
 all_goals try (conv=>whnf)
 rw[List.take_length];exact ay _
theorem abp (x:Rv)(now:Int)(out:List Rq)(Qa:out.length≤1000)(hp:x.phase=2)(X:aY x.l.af)(hn:0≤x.n∧x.n≤18446744073709551615)(hs:(aC x).length≤1000000) :
  dX prog 144 [.ptr 1 0,.pv (uu now)] [(1,.var (x.v (.pv (av x.heard)) (.pv (av x.none)) (.pv (av x.has)) (.pv (cB x.af)) (.pv (av x.bad)) (.aO 2 0))),(2,.arr 93 0 10 (out.map Rq.c))] (.pv (.cK []))
   [(1,.var (({ x with since:=now }:Rv).v (.pv (av x.heard)) (.pv (av x.none)) (.pv (av x.has)) (.pv (cB x.af)) (.pv (av x.bad)) (.aO 1001 0))),(2,.d9 1 10 []),(1001,.arr 93 0 10 ((out++gF x (aC x)).map Rq.c))]:=by
 have b1:(x.phase==1)=false:=by simp[hp]
 have b2:(x.phase==2)=true:=by simp[hp]
 clear hp;refine nV 2 1777 rfl ?_;show GC _ _ [.ptr 1 0,.pv (uu now)] [(1777,.arr 93 0 10 (out.map Rq.c)),(1,.var (x.v (.pv (av x.heard)) (.pv (av x.none)) (.pv (av x.has)) (.pv (cB x.af)) (.pv (av x.bad)) (.aO 1777 0))),(2,.d9 1 10 [])] _
 refine fw qR ?_;repeat' ((conv=>whnf);first|(with_reducible first|apply aM|apply fk<;>intro hc<;>try exact aV)|(refine Or.inr ?_;(conv=>whnf);refine⟨_,bY bV (bZ mixed bV) l9 rfl ?_,fun _ _ h=>h⟩)|(apply bX;refine⟨_,jg _ _ _ X hn,?_⟩)|refine aK ?_|fail)
 refine⟨{k:Nat // k≤(aC x).length},fun⟨k,_⟩=>⟨[(0,.ptr 1 0),(64,.pv (av (aC x))),(65,.pv (ii (aC x).length)),(66,.pv (ii k))],1000000000,[(1,.var (({ x with since:=now }:Rv).v (.pv (av x.heard)) (.pv (av x.none)) (.pv (av x.has)) (.pv (cB x.af)) (.pv (av x.bad)) (.aO 1001 0))),(2,.d9 1 10 []),(1001,.arr 93 0 10 ((out++gF x ((aC x).take k)).map Rq.c))]⟩,fun⟨k,_⟩=>(aC x).length-k,⟨⟨0,Nat.zero_le _⟩,aD ?_⟩,?_⟩
 ·repeat' first|apply And.intro|exact aJ|fail
  all_goals try (conv=>whnf)
  ·refine gJ ?_;simp[gF]
  ·rw[List.length_map];rfl
 rintro⟨k,hk⟩
 by_cases G:k<(aC x).length
 ·have S:decide ((k:Int)<((aC x).length:Int))=true:=by simp only[iG];omega
  have V:IntKind.i64.wrap ((k:Int)+1)=((k+1:Nat):Int):=by rw[bF (by omega) (by omega)];omega
  have Q:=gq (fun p=>x.heard.any (· == p) && !x.none.any (· == p)) (jB x) (aC x) k G;have hl:=gT (fun p=>x.heard.any (· == p) && !x.none.any (· == p)) (jB x) (aC x) k;repeat' ((conv=>whnf);first|(with_reducible first|apply aM|apply fk<;>intro hc<;>try exact aV)|((refine⟨_,dR _ _ _ G,?_⟩))|(apply bX;refine⟨_,aA _ _ _,?_⟩)|(refine Or.inr ?_;(conv=>whnf);refine⟨_,bY bV (bZ mixed bV) AA rfl ?_,fun _ _ h=>h⟩)|(((with_reducible apply And.intro);focus (simp only[gF,fG,rP,jo,jq] at *;omega)))|refine aK ?_|fail)
  all_goals
   refine⟨⟨k+1,G⟩,dec_lt G,aD ?_⟩;repeat' first|apply And.intro|exact aJ|fail
   all_goals try (conv=>whnf)
   all_goals first
    |exact V
    | (simp only[gF]
       rw[Q,if_pos (by simp only[Bool.and_eq_true];exact⟨by assumption,by assumption⟩),←List.append_assoc,List.map_append];refine bW (ay _) ?_
       (repeat' first|apply And.intro|exact aJ|fail);(all_goals try (conv=>whnf)))
    | (simp only[gF]
       rw[Q,if_neg (by
        intro J;simp only[Bool.and_eq_true] at J;first
         |exact absurd J.1 (by rw[show (x.heard.any fun y=>y==(aC x)[k])=false from by assumption];simp)
         |exact absurd J.2 (by rw[show (!x.none.any fun y=>y==(aC x)[k])=false from by assumption];simp))]
       exact ay _)
 have K:k=(aC x).length:=by omega
 subst K;have S:decide (((aC x).length:Int)<((aC x).length:Int))=false:=by simp
 repeat' ((conv=>whnf);first|(with_reducible first|apply aM|apply fk<;>intro hc<;>try exact aV)|refine aK ?_|fail)
 refine⟨_,_,⟨rfl,rfl⟩,?_⟩;repeat' first|apply And.intro|exact aJ|fail
 all_goals try (conv=>whnf)
 rw[List.take_length];exact ay _
theorem aaZ (x:Rv)(now:Int)(out:List Rq)(Qa:out.length≤1000)(hp:x.phase=2)(X:aY x.l.af)(hn:0≤x.n∧x.n≤18446744073709551615)(hs:(aC x).length≤1000000) :
  dX prog 144 [.ptr 1 0,.pv (uu now)] [(1,.var (x.v (.pv (av x.heard)) (.pv (av x.none)) (.pv (av x.has)) (.aO 2 0) (.pv (av x.bad)) (.aO 3 0))),(2,.d9 0 2 (x.af.map Fr.c)),(3,.arr 93 0 10 (out.map Rq.c))] (.pv (.cK []))
   [(1,.var (({ x with since:=now }:Rv).v (.pv (av x.heard)) (.pv (av x.none)) (.pv (av x.has)) (.aO 2 0) (.pv (av x.bad)) (.aO 1001 0))),(2,.d9 0 2 (x.af.map Fr.c)),(3,.d9 1 10 []),(1001,.arr 93 0 10 ((out++gF x (aC x)).map Rq.c))]:=by
 have b1:(x.phase==1)=false:=by simp[hp]
 have b2:(x.phase==2)=true:=by simp[hp]
 clear hp;refine nV 3 1777 rfl ?_;show GC _ _ [.ptr 1 0,.pv (uu now)] [(1777,.arr 93 0 10 (out.map Rq.c)),(1,.var (x.v (.pv (av x.heard)) (.pv (av x.none)) (.pv (av x.has)) (.aO 2 0) (.pv (av x.bad)) (.aO 1777 0))),(2,.d9 0 2 (x.af.map Fr.c)),(3,.d9 1 10 [])] _
 refine fw qR ?_;repeat' ((conv=>whnf);first|(with_reducible first|apply aM|apply fk<;>intro hc<;>try exact aV)|(refine Or.inr ?_;(conv=>whnf);refine⟨_,bY bV (bZ mixed bV) l9 rfl ?_,fun _ _ h=>h⟩)|(apply bX;refine⟨_,jg _ _ _ X hn,?_⟩)|refine aK ?_|fail)
 refine⟨{k:Nat // k≤(aC x).length},fun⟨k,_⟩=>⟨[(0,.ptr 1 0),(64,.pv (av (aC x))),(65,.pv (ii (aC x).length)),(66,.pv (ii k))],1000000000,[(1,.var (({ x with since:=now }:Rv).v (.pv (av x.heard)) (.pv (av x.none)) (.pv (av x.has)) (.aO 2 0) (.pv (av x.bad)) (.aO 1001 0))),(2,.d9 0 2 (x.af.map Fr.c)),(3,.d9 1 10 []),(1001,.arr 93 0 10 ((out++gF x ((aC x).take k)).map Rq.c))]⟩,fun⟨k,_⟩=>(aC x).length-k,⟨⟨0,Nat.zero_le _⟩,aD ?_⟩,?_⟩
 ·repeat' first|apply And.intro|exact aJ|fail
  all_goals try (conv=>whnf)
  ·refine gJ ?_;simp[gF]
  ·rw[List.length_map];rfl
 rintro⟨k,hk⟩
 by_cases G:k<(aC x).length
 ·have S:decide ((k:Int)<((aC x).length:Int))=true:=by simp only[iG];omega
  have V:IntKind.i64.wrap ((k:Int)+1)=((k+1:Nat):Int):=by rw[bF (by omega) (by omega)];omega
  have Q:=gq (fun p=>x.heard.any (· == p) && !x.none.any (· == p)) (jB x) (aC x) k G;have hl:=gT (fun p=>x.heard.any (· == p) && !x.none.any (· == p)) (jB x) (aC x) k;repeat' ((conv=>whnf);first|(with_reducible first|apply aM|apply fk<;>intro hc<;>try exact aV)|((refine⟨_,dR _ _ _ G,?_⟩))|(apply bX;refine⟨_,aA _ _ _,?_⟩)|(refine Or.inr ?_;(conv=>whnf);refine⟨_,bY bV (bZ mixed bV) AA rfl ?_,fun _ _ h=>h⟩)|(((with_reducible apply And.intro);focus (simp only[gF,fG,rP,jo,jq] at *;omega)))|refine aK ?_|fail)
  all_goals
   refine⟨⟨k+1,G⟩,dec_lt G,aD ?_⟩;repeat' first|apply And.intro|exact aJ|fail
   all_goals try (conv=>whnf)
   all_goals first
    |exact V
    | (simp only[gF]
       rw[Q,if_pos (by simp only[Bool.and_eq_true];exact⟨by assumption,by assumption⟩),←List.append_assoc,List.map_append];refine bW (ay _) ?_
       (repeat' first|apply And.intro|exact aJ|fail);(all_goals try (conv=>whnf)))
    | (simp only[gF]
       rw[Q,if_neg (by
        intro J;simp only[Bool.and_eq_true] at J;first
         |exact absurd J.1 (by rw[show (x.heard.any fun y=>y==(aC x)[k])=false from by assumption];simp)
         |exact absurd J.2 (by rw[show (!x.none.any fun y=>y==(aC x)[k])=false from by assumption];simp))]
       exact ay _)
 have K:k=(aC x).length:=by omega
 subst K;have S:decide (((aC x).length:Int)<((aC x).length:Int))=false:=by simp
 repeat' ((conv=>whnf);first|(with_reducible first|apply aM|apply fk<;>intro hc<;>try exact aV)|refine aK ?_|fail)
 refine⟨_,_,⟨rfl,rfl⟩,?_⟩;repeat' first|apply And.intro|exact aJ|fail
 all_goals try (conv=>whnf)
 rw[List.take_length];exact ay _
theorem Cj (x:Rv)(now:Int)(hp:x.phase=3)(V:aY x.af)(X:0≤x.n∧x.n≤18446744073709551615)(hs:(aj x).length≤1000000)(hb:x.body.length≤1000000) :
  dX prog 144 [.ptr 1 0,.pv (uu now)] [(1,.var (x.v (.pv (av x.heard)) (.pv (av x.none)) (.aO 2 0) (.pv (cB x.af)) (.pv (av x.bad)) (.pv (.sc (.slice none 0 0))))),(2,.arr 27 0 2 (x.has.map Pl.c))] (.pv (.cK []))
   [(1,.var (({ x with since:=now }:Rv).v (.pv (av x.heard)) (.pv (av x.none)) (.aO 2 0) (.pv (cB x.af)) (.pv (av x.bad)) (.aO 1001 0))),(2,.arr 27 0 2 (x.has.map Pl.c)),(1001,.arr 93 0 10 ((aU x (aj x)).map Rq.c))]:=by
 have b1:(x.phase==1)=false:=by simp[hp]
 have b2:(x.phase==2)=false:=by simp[hp]
 have b3:(x.phase==3)=true:=by simp[hp]
 clear hp;refine fw qR ?_;repeat' ((conv=>whnf);first|(with_reducible first|apply aM|apply fk<;>intro hc<;>try exact aV)|(refine Or.inr ?_;(conv=>whnf);refine⟨_,bY bV (bZ mixed bV) kr rfl ?_,fun _ _ h=>h⟩)|(apply bX;refine⟨_,jg _ _ _ V X,?_⟩)|refine aK ?_|fail)
 refine⟨{k:Nat // k≤(aj x).length},fun⟨k,_⟩=>⟨[(0,.ptr 1 0),(94,.pv (av (aj x))),(95,.pv (ii (aj x).length)),(96,.pv (ii k))],1000000000,[(1,.var (({ x with since:=now }:Rv).v (.pv (av x.heard)) (.pv (av x.none)) (.aO 2 0) (.pv (cB x.af)) (.pv (av x.bad)) (.aO 1001 0))),(2,.arr 27 0 2 (x.has.map Pl.c)),(1001,.arr 93 0 10 ((aU x ((aj x).take k)).map Rq.c))]⟩,fun⟨k,_⟩=>(aj x).length-k,⟨⟨0,Nat.zero_le _⟩,aD ?_⟩,?_⟩
 ·repeat' first|apply And.intro|exact aJ|fail
  all_goals try (conv=>whnf)
  rw[List.length_map];rfl
 rintro⟨k,hk⟩
 by_cases G:k<(aj x).length
 ·have Q:decide ((k:Int)<((aj x).length:Int))=true:=by simp only[iG];omega
  have S:IntKind.i64.wrap ((k:Int)+1)=((k+1:Nat):Int):=by rw[bF (by omega) (by omega)];omega
  have K:=gq (fun p=>!x.has.any (· == p)) (xP x) (aj x) k G;have hl:=gT (fun p=>!x.has.any (· == p)) (xP x) (aj x) k;repeat' ((conv=>whnf);first|(with_reducible first|apply aM|apply fk<;>intro hc<;>try exact aV)|((refine⟨_,dR _ _ _ G,?_⟩))|(apply bX;refine⟨_,aA _ _ _,?_⟩)|(apply bX;refine⟨_,fM x.body (by omega),?_⟩)|(((with_reducible apply And.intro);focus (simp only[aU,fG,jo,jq] at *;omega)))|refine aK ?_|fail)
  all_goals
   refine⟨⟨k+1,G⟩,dec_lt G,aD ?_⟩;repeat' first|apply And.intro|exact aJ|fail
   all_goals try (conv=>whnf)
   all_goals first
    |exact S
    | (simp only[aU]
       rw[K,if_pos (by assumption),List.map_append];refine bW (ay _) ?_
       (repeat' first|apply And.intro|exact aJ|fail);(all_goals try (conv=>whnf)))
    | (simp only[aU]
       rw[K,if_neg (by rw[show (!x.has.any fun y=>y==(aj x)[k])=false from by assumption];simp)];exact ay _)
 have J:k=(aj x).length:=by omega
 subst J;have Q:decide (((aj x).length:Int)<((aj x).length:Int))=false:=by simp
 repeat' ((conv=>whnf);first|(with_reducible first|apply aM|apply fk<;>intro hc<;>try exact aV)|refine aK ?_|fail)
 refine⟨_,_,⟨rfl,rfl⟩,?_⟩;repeat' first|apply And.intro|exact aJ|fail
 all_goals try (conv=>whnf)
 rw[List.take_length];exact ay _
theorem xq (x:Rv)(now:Int)(hp:x.phase=3)(V:aY x.af)(X:0≤x.n∧x.n≤18446744073709551615)(hs:(aj x).length≤1000000)(hb:x.body.length≤1000000) :
  dX prog 144 [.ptr 1 0,.pv (uu now)] [(1,.var (x.v (.pv (av x.heard)) (.pv (av x.none)) (.pv (av x.has)) (.aO 2 0) (.pv (av x.bad)) (.pv (.sc (.slice none 0 0))))),(2,.arr 48 0 2 (x.af.map Fr.c))] (.pv (.cK []))
   [(1,.var (({ x with since:=now }:Rv).v (.pv (av x.heard)) (.pv (av x.none)) (.pv (av x.has)) (.aO 2 0) (.pv (av x.bad)) (.aO 1001 0))),(2,.d9 0 2 (x.af.map Fr.c)),(1001,.arr 93 0 10 ((aU x (aj x)).map Rq.c))]:=by
 have b1:(x.phase==1)=false:=by simp[hp]
 have b2:(x.phase==2)=false:=by simp[hp]
 have b3:(x.phase==3)=true:=by simp[hp]
 clear hp;refine fw qR ?_;repeat' ((conv=>whnf);first|(with_reducible first|apply aM|apply fk<;>intro hc<;>try exact aV)|(refine Or.inr ?_;(conv=>whnf);refine⟨_,bY bV (bZ mixed bV) kr rfl ?_,fun _ _ h=>h⟩)|(apply bX;refine⟨_,jg _ _ _ V X,?_⟩)|refine aK ?_|fail)
 refine⟨{k:Nat // k≤(aj x).length},fun⟨k,_⟩=>⟨[(0,.ptr 1 0),(94,.pv (av (aj x))),(95,.pv (ii (aj x).length)),(96,.pv (ii k))],1000000000,[(1,.var (({ x with since:=now }:Rv).v (.pv (av x.heard)) (.pv (av x.none)) (.pv (av x.has)) (.aO 2 0) (.pv (av x.bad)) (.aO 1001 0))),(2,.d9 0 2 (x.af.map Fr.c)),(1001,.arr 93 0 10 ((aU x ((aj x).take k)).map Rq.c))]⟩,fun⟨k,_⟩=>(aj x).length-k,⟨⟨0,Nat.zero_le _⟩,aD ?_⟩,?_⟩
 ·repeat' first|apply And.intro|exact aJ|fail
  all_goals try (conv=>whnf)
  rw[List.length_map];rfl
 rintro⟨k,hk⟩
 by_cases G:k<(aj x).length
 ·have Q:decide ((k:Int)<((aj x).length:Int))=true:=by simp only[iG];omega
  have S:IntKind.i64.wrap ((k:Int)+1)=((k+1:Nat):Int):=by rw[bF (by omega) (by omega)];omega
  have K:=gq (fun p=>!x.has.any (· == p)) (xP x) (aj x) k G;have hl:=gT (fun p=>!x.has.any (· == p)) (xP x) (aj x) k;repeat' ((conv=>whnf);first|(with_reducible first|apply aM|apply fk<;>intro hc<;>try exact aV)|((refine⟨_,dR _ _ _ G,?_⟩))|(apply bX;refine⟨_,aA _ _ _,?_⟩)|(apply bX;refine⟨_,fM x.body (by omega),?_⟩)|(((with_reducible apply And.intro);focus (simp only[aU,fG,jo,jq] at *;omega)))|refine aK ?_|fail)
  all_goals
   refine⟨⟨k+1,G⟩,dec_lt G,aD ?_⟩;repeat' first|apply And.intro|exact aJ|fail
   all_goals try (conv=>whnf)
   all_goals first
    |exact S
    | (simp only[aU]
       rw[K,if_pos (by assumption),List.map_append];refine bW (ay _) ?_
       (repeat' first|apply And.intro|exact aJ|fail);(all_goals try (conv=>whnf)))
    | (simp only[aU]
       rw[K,if_neg (by rw[show (!x.has.any fun y=>y==(aj x)[k])=false from by assumption];simp)];exact ay _)
 have J:k=(aj x).length:=by omega
 subst J;have Q:decide (((aj x).length:Int)<((aj x).length:Int))=false:=by simp
 repeat' ((conv=>whnf);first|(with_reducible first|apply aM|apply fk<;>intro hc<;>try exact aV)|refine aK ?_|fail)
 refine⟨_,_,⟨rfl,rfl⟩,?_⟩;repeat' first|apply And.intro|exact aJ|fail
 all_goals try (conv=>whnf)
 rw[List.take_length];exact ay _
theorem JP (x:Rv)(now:Int)(hp:x.phase=1)(h0:0<x.l.af.length)(aa:x.l.af.length≤1000)(hl:(aS x).ah.length≤1000000) :
  dX prog 144 [.ptr 1 0,.pv (uu now)] [(1,.var (x.v (.pv (av x.heard)) (.pv (av x.none)) (.pv (av x.has)) (.pv (cB x.af)) (.pv (av x.bad)) (.pv (.sc (.slice none 0 0)))))] (.pv (.cK []))
   [(1,.var (({ x with since:=now }:Rv).v (.pv (av x.heard)) (.pv (av x.none)) (.pv (av x.has)) (.pv (cB x.af)) (.pv (av x.bad)) (.aO 1001 0))),(1001,.arr 93 0 10 ((ic x (aS x).ah).map Rq.c))]:=by
 have b1:(x.phase==1)=true:=by simp[hp]
 clear hp;have c1:decide (((List.map Fr.c x.l.af).length:Int)>0)=true:=by rw[List.length_map];simp only[iG];omega
 have S:IntKind.i64.wrap (((List.map Fr.c x.l.af).length:Int)-1)=((x.l.af.length-1:Nat):Int):=by rw[List.length_map,bF (by omega) (by omega)];omega
 have J:x.l.af.length-1<x.l.af.length:=by omega
 have Q:aS x=x.l.af[x.l.af.length-1]:=getElem!_pos x.l.af _ J;rw[Q] at hl ⊢;clear Q;obtain⟨lf,X⟩:∃lf,x.l.af[x.l.af.length-1]=lf:=⟨_,rfl⟩;rw[X] at hl ⊢;have K:(List.map Fr.c x.l.af)[(IntKind.i64.wrap (((List.map Fr.c x.l.af).length:Int)-1)).toNat]? = some (Fr.c lf):=(Qg Fr.c _ S J).trans (by rw[X]);refine fw qR ?_;repeat' ((conv=>whnf);first|(with_reducible first|apply aM|apply fk<;>intro hc<;>try exact aV)|(refine Or.inr ?_;(conv=>whnf);refine⟨_,bY bV (bZ mixed bV) OD rfl ?_,fun _ _ h=>h⟩)|((refine⟨_,K,?_⟩))|(((with_reducible apply And.intro);focus (rw[S,List.length_map];omega)))|(((with_reducible apply And.intro);focus (rw[S];omega)))|refine aK ?_|fail)
 refine⟨{k:Nat // k≤lf.ah.length},fun⟨k,_⟩=>⟨[(0,.ptr 1 0),(24,.pv (av lf.ah)),(25,.pv (ii lf.ah.length)),(26,.pv (ii k))],1000000000,[(1,.var (({ x with since:=now }:Rv).v (.pv (av x.heard)) (.pv (av x.none)) (.pv (av x.has)) (.pv (cB x.af)) (.pv (av x.bad)) (.aO 1001 0))),(1001,.arr 93 0 10 ((ic x (lf.ah.take k)).map Rq.c))]⟩,fun⟨k,_⟩=>lf.ah.length-k,⟨⟨0,Nat.zero_le _⟩,aD ?_⟩,?_⟩
 ·repeat' first|apply And.intro|exact aJ|fail
  all_goals try (conv=>whnf)
  rw[List.length_map]
 rintro⟨k,hk⟩
 by_cases G:k<lf.ah.length
 ·have d0:decide ((k:Int)<(lf.ah.length:Int))=true:=by simp only[iG];omega
  have eW:IntKind.i64.wrap ((k:Int)+1)=((k+1:Nat):Int):=by rw[bF (by omega) (by omega)];omega
  have hq:=gq (fun p=>!x.heard.any (· == p)) (FM x) lf.ah k G;have ad:=gT (fun p=>!x.heard.any (· == p)) (FM x) lf.ah k;clear K S c1;repeat' ((conv=>whnf);first|(with_reducible first|apply aM|apply fk<;>intro hc<;>try exact aV)|((refine⟨_,dR _ _ _ G,?_⟩))|(apply bX;refine⟨_,aA _ _ _,?_⟩)|(((with_reducible apply And.intro);focus (simp only[ic,fG,jo,jq] at *;omega)))|refine aK ?_|fail)
  all_goals
   refine⟨⟨k+1,G⟩,dec_lt G,aD ?_⟩;repeat' first|apply And.intro|exact aJ|fail
   all_goals try (conv=>whnf)
   all_goals first
    |exact eW
    | (simp only[ic]
       rw[hq,if_pos (by assumption),List.map_append];refine bW (ay _) ?_
       (repeat' first|apply And.intro|exact aJ|fail);(all_goals try (conv=>whnf)))
    | (simp only[ic]
       rw[hq,if_neg (by rw[show (!x.heard.any fun y=>y==lf.ah[k])=false from by assumption];simp)];exact ay _)
 have V:k=lf.ah.length:=by omega
 subst V;have d0:decide ((lf.ah.length:Int)<(lf.ah.length:Int))=false:=by simp
 repeat' ((conv=>whnf);first|(with_reducible first|apply aM|apply fk<;>intro hc<;>try exact aV)|refine aK ?_|fail)
 refine⟨_,_,⟨rfl,rfl⟩,?_⟩;repeat' first|apply And.intro|exact aJ|fail
 all_goals try (conv=>whnf)
 rw[List.take_length];exact ay _
theorem OE:bM prog 95 f95:=fO func95
theorem uw (l:List Fr)(hl:l.length≤1000000)(S:∀f∈l,f.ah.length≤1000000):dX prog 95 [.pv (cB l)] [] (.aO 1001 0) [(1001,.arr 48 0 2 (l.map Fr.c))]:=by
 refine fw OE ?_;repeat' ((conv=>whnf);first|(with_reducible first|apply aM|apply fk<;>intro hc<;>try exact aV)|refine aK ?_|fail)
 refine⟨{k:Nat // k≤l.length},fun⟨k,_⟩=>⟨[(3,.aO 1003 0),(6,.pv (cB l)),(7,.pv (ii l.length)),(8,.pv (ii k))],1000000000,[(1003,.arr 48 0 2 ((l.take k).map Fr.c))]⟩,fun⟨k,_⟩=>l.length-k,⟨⟨0,Nat.zero_le _⟩,aD ?_⟩,?_⟩
 ·repeat' first|apply And.intro|exact aJ|fail
  all_goals try (conv=>whnf)
  all_goals simp
 rintro⟨k,X⟩
 by_cases G:k<l.length
 ·have K:decide ((k:Int)<(l.length:Int))=true:=by simp only[iG];omega
  have Q:IntKind.i64.wrap ((k:Int)+1)=((k+1:Nat):Int):=by rw[bF (by omega) (by omega)];omega
  have V:=S _ (List.getElem_mem G);repeat' ((conv=>whnf);first|(with_reducible first|apply aM|apply fk<;>intro hc<;>try exact aV)|((refine⟨_,dR _ _ _ G,?_⟩))|(apply bX;refine⟨_,mO _ (by omega),?_⟩)|(((with_reducible apply And.intro);focus (simp only[fG,List.length_take,jo,jq] at *;omega)))|refine aK ?_|fail)
  all_goals
   refine⟨⟨k+1,G⟩,dec_lt G,aD ?_⟩;repeat' first|apply And.intro|exact aJ|fail
   all_goals try (conv=>whnf)
   ·rw[List.take_succ_eq_append_getElem G,List.map_append];refine bW (ay _) ?_;all_goals exact aJ
   exact Q
 have J:k=l.length:=by omega
 subst J;have K:decide ((l.length:Int)<(l.length:Int))=false:=by simp
 repeat' ((conv=>whnf);first|(with_reducible first|apply aM|apply fk<;>intro hc<;>try exact aV)|refine aK ?_|fail)
 refine⟨_,_,⟨rfl,rfl⟩,?_⟩;repeat' first|apply And.intro|exact aJ|fail
 all_goals try (conv=>whnf)
 rw[List.take_length];exact ay _
theorem abq:bM prog 135 f135:=fO func135
theorem Cg (x:Rv)(h:x.sm):dX prog 135 [.pv (.agg x.c)] [] (.ptr 1001 0) [(1001,.var (x.w (.aO 1002 0) (.aO 1003 0) (.aO 1004 0) (.aO 1005 0) (.aO 1006 0) (.aO 1007 0) (.pv (.sc (.slice none 0 0))))),(1002,.arr 48 0 2 (x.l.af.map Fr.c)),(1003,.arr 27 0 2 (x.heard.map Pl.c)),(1004,.arr 27 0 2 (x.none.map Pl.c)),(1005,.arr 27 0 2 (x.has.map Pl.c)),(1006,.arr 48 0 2 (x.af.map Fr.c)),(1007,.arr 27 0 2 (x.bad.map Pl.c))]:=by
 obtain⟨⟨V,J⟩,⟨X,K⟩,a5,a6,a7,a8,a9⟩:=h;have Q:=uw x.l.af (by omega) (fun f G=>by have:=J f G;omega);have S:=uw x.af (by omega) (fun f G=>by have:=K f G;omega);refine fw abq ?_;repeat' ((conv=>whnf);first|(with_reducible first|apply aM|apply fk<;>intro hc<;>try exact aV)|(apply mq;refine⟨_,_,Q,?_⟩)|(apply mq;refine⟨_,_,S,?_⟩)|(apply mq;refine⟨_,_,fU x.heard (by omega),?_⟩)|(apply mq;refine⟨_,_,fU x.none (by omega),?_⟩)|(apply mq;refine⟨_,_,fU x.has (by omega),?_⟩)|(apply mq;refine⟨_,_,fU x.bad (by omega),?_⟩)|(apply bX;refine⟨_,fM x.body (by omega),?_⟩)|refine aK ?_|fail)
 refine⟨_,_,⟨rfl,rfl⟩,?_⟩;all_goals exact aJ
theorem jR (x:Rv)(h:x.sm):dX prog 135 [.pv (.agg x.c)] [] (.ptr 1001 0) [(1001,.var (x.v (.pv (av x.heard)) (.pv (av x.none)) (.pv (av x.has)) (.pv (cB x.af)) (.pv (av x.bad)) (.pv (.sc (.slice none 0 0)))))]:=by
 refine gL (Cg x h) [1002,1003,1004,1005,1006,1007] ?_
 (conv=>whnf)
 refine⟨_,_,⟨rfl,rfl⟩,?_⟩;all_goals exact aJ
theorem wB (x:Rv)(h:x.sm):dX prog 135 [.pv (.agg x.c)] [] (.ptr 1001 0) [(1001,.var (x.v (.aO 1002 0) (.pv (av x.none)) (.pv (av x.has)) (.pv (cB x.af)) (.pv (av x.bad)) (.pv (.sc (.slice none 0 0))))),(1002,.arr 27 0 2 (x.heard.map Pl.c))]:=by
 refine gL (Cg x h) [1002,1004,1005,1006,1007] ?_
 (conv=>whnf)
 refine⟨_,_,⟨rfl,rfl⟩,?_⟩;all_goals exact aJ
theorem abr (x:Rv)(h:x.sm):dX prog 135 [.pv (.agg x.c)] [] (.ptr 1001 0) [(1001,.var (x.v (.pv (av x.heard)) (.aO 1002 0) (.pv (av x.has)) (.pv (cB x.af)) (.pv (av x.bad)) (.pv (.sc (.slice none 0 0))))),(1002,.arr 27 0 2 (x.none.map Pl.c))]:=by
 refine gL (Cg x h) [1002,1003,1005,1006,1007] ?_
 (conv=>whnf)
 refine⟨_,_,⟨rfl,rfl⟩,?_⟩;all_goals exact aJ
theorem wC (x:Rv)(h:x.sm):dX prog 135 [.pv (.agg x.c)] [] (.ptr 1001 0) [(1001,.var (x.v (.pv (av x.heard)) (.pv (av x.none)) (.aO 1002 0) (.pv (cB x.af)) (.pv (av x.bad)) (.pv (.sc (.slice none 0 0))))),(1002,.arr 27 0 2 (x.has.map Pl.c))]:=by
 refine gL (Cg x h) [1002,1003,1004,1006,1007] ?_
 (conv=>whnf)
 refine⟨_,_,⟨rfl,rfl⟩,?_⟩;all_goals exact aJ
theorem abt (x:Rv)(h:x.sm):dX prog 135 [.pv (.agg x.c)] [] (.ptr 1001 0) [(1001,.var (x.v (.pv (av x.heard)) (.pv (av x.none)) (.pv (av x.has)) (.pv (cB x.af)) (.aO 1002 0) (.pv (.sc (.slice none 0 0))))),(1002,.arr 27 0 2 (x.bad.map Pl.c))]:=by
 refine gL (Cg x h) [1002,1003,1004,1005,1006] ?_
 (conv=>whnf)
 refine⟨_,_,⟨rfl,rfl⟩,?_⟩;all_goals exact aJ
theorem jN:bM prog 136 f136:=fO func136
theorem nZ:bM prog 166 f166:=fO func166
theorem jC:bM prog 143 f143:=fO func143
theorem Ev:bM prog 170 f170:=fO func170
theorem kz:bM prog 137 f137:=fO func137
theorem iO:bM prog 138 f138:=fO func138
theorem nK:bM prog 139 f139:=fO func139
theorem AB (x:Rv)(out:List Rq)(G:aY x.l.af)(J:0≤x.n∧x.n≤18446744073709551615) :
  dX prog 167 [.ptr 1 0] [(1,.var (x.v (.pv (av x.heard)) (.pv (av x.none)) (.pv (av x.has)) (.pv (cB x.af)) (.pv (av x.bad)) (.pv (.sc (.slice none 0 0)))))] (.pv (av (aC x))) [(1,.var (x.v (.pv (av x.heard)) (.pv (av x.none)) (.pv (av x.has)) (.pv (cB x.af)) (.pv (av x.bad)) (.pv (.sc (.slice none 0 0)))))]:=by
 refine fw l9 ?_;repeat' ((conv=>whnf);first|(with_reducible first|apply aM|apply fk<;>intro hc<;>try exact aV)|(apply bX;refine⟨_,jg _ _ _ G J,?_⟩)|refine aK ?_|fail)
 refine⟨_,_,⟨rfl,rfl⟩,?_⟩;all_goals exact aJ
theorem OG (x:Rv)(out:List Rq)(G:aY x.l.af)(J:0≤x.n∧x.n≤18446744073709551615) :
  dX prog 167 [.ptr 1 0] [(1,.var (x.v (.aO 2 0) (.pv (av x.none)) (.pv (av x.has)) (.pv (cB x.af)) (.pv (av x.bad)) (.pv (.sc (.slice none 0 0))))),(2,.arr 27 0 2 (x.heard.map Pl.c))] (.pv (av (aC x))) [(1,.var (x.v (.aO 2 0) (.pv (av x.none)) (.pv (av x.has)) (.pv (cB x.af)) (.pv (av x.bad)) (.pv (.sc (.slice none 0 0))))),(2,.arr 27 0 2 (x.heard.map Pl.c))]:=by
 refine fw l9 ?_;repeat' ((conv=>whnf);first|(with_reducible first|apply aM|apply fk<;>intro hc<;>try exact aV)|(apply bX;refine⟨_,jg _ _ _ G J,?_⟩)|refine aK ?_|fail)
 refine⟨_,_,⟨rfl,rfl⟩,?_⟩;all_goals exact aJ
theorem AJ (x:Rv)(out:List Rq)(G:aY x.l.af)(J:0≤x.n∧x.n≤18446744073709551615) :
  dX prog 167 [.ptr 1 0] [(1,.var (x.v (.pv (av x.heard)) (.aO 2 0) (.pv (av x.has)) (.pv (cB x.af)) (.pv (av x.bad)) (.pv (.sc (.slice none 0 0))))),(2,.arr 27 0 2 (x.none.map Pl.c))] (.pv (av (aC x))) [(1,.var (x.v (.pv (av x.heard)) (.aO 2 0) (.pv (av x.has)) (.pv (cB x.af)) (.pv (av x.bad)) (.pv (.sc (.slice none 0 0))))),(2,.arr 27 0 2 (x.none.map Pl.c))]:=by
 refine fw l9 ?_;repeat' ((conv=>whnf);first|(with_reducible first|apply aM|apply fk<;>intro hc<;>try exact aV)|(apply bX;refine⟨_,jg _ _ _ G J,?_⟩)|refine aK ?_|fail)
 refine⟨_,_,⟨rfl,rfl⟩,?_⟩;all_goals exact aJ
theorem AL (x:Rv)(out:List Rq)(G:aY x.l.af)(J:0≤x.n∧x.n≤18446744073709551615) :
  dX prog 167 [.ptr 1 0] [(1,.var (x.v (.pv (av x.heard)) (.pv (av x.none)) (.aO 2 0) (.pv (cB x.af)) (.pv (av x.bad)) (.pv (.sc (.slice none 0 0))))),(2,.arr 27 0 2 (x.has.map Pl.c))] (.pv (av (aC x))) [(1,.var (x.v (.pv (av x.heard)) (.pv (av x.none)) (.aO 2 0) (.pv (cB x.af)) (.pv (av x.bad)) (.pv (.sc (.slice none 0 0))))),(2,.arr 27 0 2 (x.has.map Pl.c))]:=by
 refine fw l9 ?_;repeat' ((conv=>whnf);first|(with_reducible first|apply aM|apply fk<;>intro hc<;>try exact aV)|(apply bX;refine⟨_,jg _ _ _ G J,?_⟩)|refine aK ?_|fail)
 refine⟨_,_,⟨rfl,rfl⟩,?_⟩;all_goals exact aJ
theorem Ck (x:Rv)(out:List Rq)(G:aY x.af)(J:0≤x.n∧x.n≤18446744073709551615) :
  dX prog 141 [.ptr 1 0] [(1,.var (x.v (.pv (av x.heard)) (.pv (av x.none)) (.aO 2 0) (.pv (cB x.af)) (.pv (av x.bad)) (.pv (.sc (.slice none 0 0))))),(2,.arr 27 0 2 (x.has.map Pl.c))] (.pv (av (aj x))) [(1,.var (x.v (.pv (av x.heard)) (.pv (av x.none)) (.aO 2 0) (.pv (cB x.af)) (.pv (av x.bad)) (.pv (.sc (.slice none 0 0))))),(2,.arr 27 0 2 (x.has.map Pl.c))]:=by
 refine fw kr ?_;repeat' ((conv=>whnf);first|(with_reducible first|apply aM|apply fk<;>intro hc<;>try exact aV)|(apply bX;refine⟨_,jg _ _ _ G J,?_⟩)|refine aK ?_|fail)
 refine⟨_,_,⟨rfl,rfl⟩,?_⟩;all_goals exact aJ
theorem y9 (x:Rv)(out:List Rq)(G:aY x.af)(J:0≤x.n∧x.n≤18446744073709551615) :
  dX prog 141 [.ptr 1 0] [(1,.var (x.v (.pv (av x.heard)) (.pv (av x.none)) (.aO 2 0) (.pv (cB x.af)) (.pv (av x.bad)) (.aO 3 0))),(2,.arr 27 0 2 (x.has.map Pl.c)),(3,.arr 93 0 10 (out.map Rq.c))] (.pv (av (aj x))) [(1,.var (x.v (.pv (av x.heard)) (.pv (av x.none)) (.aO 2 0) (.pv (cB x.af)) (.pv (av x.bad)) (.aO 3 0))),(2,.arr 27 0 2 (x.has.map Pl.c)),(3,.arr 93 0 10 (out.map Rq.c))]:=by
 refine fw kr ?_;repeat' ((conv=>whnf);first|(with_reducible first|apply aM|apply fk<;>intro hc<;>try exact aV)|(apply bX;refine⟨_,jg _ _ _ G J,?_⟩)|refine aK ?_|fail)
 refine⟨_,_,⟨rfl,rfl⟩,?_⟩;all_goals exact aJ
theorem mQ (x:Rv)(h0:0<x.l.af.length)(V:x.l.af.length≤1000) :
  dX prog 164 [.ptr 1 0] [(1,.var (x.v (.aO 2 0) (.pv (av x.none)) (.pv (av x.has)) (.pv (cB x.af)) (.pv (av x.bad)) (.pv (.sc (.slice none 0 0))))),(2,.arr 27 0 2 (x.heard.map Pl.c))] (.pv (.agg (aS x).c)) [(1,.var (x.v (.aO 2 0) (.pv (av x.none)) (.pv (av x.has)) (.pv (cB x.af)) (.pv (av x.bad)) (.pv (.sc (.slice none 0 0))))),(2,.arr 27 0 2 (x.heard.map Pl.c))]:=by
 have X:decide (((List.map Fr.c x.l.af).length:Int)>0)=true:=by rw[List.length_map];simp only[iG];omega
 have Q:IntKind.i64.wrap (((List.map Fr.c x.l.af).length:Int)-1)=((x.l.af.length-1:Nat):Int):=by rw[List.length_map,bF (by omega) (by omega)];omega
 have G:x.l.af.length-1<x.l.af.length:=by omega
 have J:aS x=x.l.af[x.l.af.length-1]:=getElem!_pos x.l.af _ G;rw[J];clear J;obtain⟨lf,S⟩:∃lf,x.l.af[x.l.af.length-1]=lf:=⟨_,rfl⟩;rw[S];have K:(List.map Fr.c x.l.af)[(IntKind.i64.wrap (((List.map Fr.c x.l.af).length:Int)-1)).toNat]? = some (Fr.c lf):=(Qg Fr.c _ Q G).trans (by rw[S]);refine fw OD ?_;repeat' ((conv=>whnf);first|(with_reducible first|apply aM|apply fk<;>intro hc<;>try exact aV)|((refine⟨_,K,?_⟩))|(((with_reducible apply And.intro);focus (rw[Q,List.length_map];omega)))|(((with_reducible apply And.intro);focus (rw[Q];omega)))|refine aK ?_|fail)
 refine⟨_,_,⟨rfl,rfl⟩,?_⟩;all_goals exact aJ
end Go.Proofs.YtfoiekbkkbnpkaaGreat.Tb
end
