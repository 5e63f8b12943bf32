/-
  Contracts of functions of the program and of the document, each for every input that its premises name.
-/
import Derived.Test.YtfoiekbkkbnpkaaGreatBf
import Derived.Test.YtfoiekbkkbnpkaaGreatAg
import Derived.Test.YtfoiekbkkbnpkaaGreatProg
set_option linter.unusedSectionVars false
set_option linter.unusedVariables false
set_option linter.unusedSimpArgs false
set_option maxRecDepth 100000
set_option maxHeartbeats 4000000
section
open Go Go.Proofs.Tryz Go.AX
namespace Go.Proofs.YtfoiekbkkbnpkaaGreat.Tb
def qJ (s:Sk)(n:Int):Nat:=(if n.tmod (s.eG.length:Int)<0 then n.tmod (s.eG.length:Int)+s.eG.length else n.tmod (s.eG.length:Int)).toNat
def qK (s:Sk)(x:wQ):Sk:=if ((fB x.what==6)||decide (x.zI≤0))=true then tu s (qJ s x.which) else s
def Kt (s:Sk)(x:wQ):Sk:=if s.eG=[] then s else if (fB x.what==6)=true then qK s x else pE (qK s x) s.eG[qJ s x.which]!
theorem IZ (s:Sk)(n:Int)(h:0<s.eG.length):qJ s n<s.eG.length∧(if n.tmod (s.eG.length:Int)<0 then n.tmod (s.eG.length:Int)+s.eG.length else n.tmod (s.eG.length:Int))=((qJ s n:Nat):Int) ∧ -(s.eG.length:Int)<n.tmod (s.eG.length:Int)∧n.tmod (s.eG.length:Int)<s.eG.length:=by
 have hlo : -(s.eG.length:Int)<n.tmod (s.eG.length:Int):=by
  rcases Int.lt_or_le n 0 with hn|hn
  ·have:=Int.tmod_lt_of_pos (-n) (b:=(s.eG.length:Int)) (by omega);rw[Int.neg_tmod] at this;omega
  have:=Int.tmod_nonneg (s.eG.length:Int) hn;omega
 have hhi:n.tmod (s.eG.length:Int)<s.eG.length:=Int.tmod_lt_of_pos _ (by omega);unfold qJ;refine⟨?_,?_,hlo,hhi⟩;all_goals split<;>omega
theorem FT (s:Sk)(k:Nat):iR (List.map Lk.c (tu s k).eG) ([]++jF (List.map Lk.c s.eG) 0 ((k:Nat):Int).toNat++jF (List.map Lk.c s.eG) (((k+1:Nat):Int)).toNat (List.map Lk.c s.eG).length):=by
 refine fZ ?_;simp only[tu,jF,zna,List.drop_zero,Nat.sub_zero,Int.toNat_natCast,zma,List.map_take,List.map_drop];rw[List.take_of_length_le (l:=List.drop (k+1) (List.map Lk.c s.eG)) (by rw[List.length_drop];omega)]
theorem M9 (s:Sk)(x:wQ)(h:Sv s)(hbr:∀m∈s.eG,m.r.body.length≤1000000)(hm:(fB x.what==0)=false∧(fB x.what==1)=false∧(fB x.what==7)=false∧(fB x.what==8)=false∧(fB x.what==9)=false∧(fB x.what==10)=false∧(fB x.what==11)=false) :
  dU prog 33 [.ptr 1 0,.pv (.agg x.c)] (Ar s) (.pv (.cO [])) (NV (Kt s x)):=by
 refine lG ?_ rfl;obtain⟨f0,f1,f7,f8,f9,f10,f11⟩:=hm;have hbl:=h.eG;cases d0:(((s.eG.map Lk.c).length:Int)==0) with
 | true=>
   have e:Kt s x=s:=by
    unfold Kt;rw[if_pos (List.eq_nil_of_length_eq_zero (by rw[List.length_map] at d0;simpa using d0))]
   rw[e];unfold fB at f0 f1 f7 f8 f9 f10 f11;clear e h hbl hbr;refine eO iV ?_;repeat' ((conv=>whnf);first|with_reducible apply aP|((with_reducible apply fk)<;>intro hc<;>try exact gK)|((refine⟨by decide,?_⟩))|refine aN ?_|fail)
   refine⟨_,_,⟨rfl,rfl⟩,?_⟩;all_goals exact aM
 |false=>
 have hne:0<s.eG.length:=by rw[List.length_map,beq_eq_false_iff_ne] at d0;omega
 have e:Kt s x=if (fB x.what==6)=true then qK s x else pE (qK s x) s.eG[qJ s x.which]! :=by
  unfold Kt;rw[if_neg (by intro e;rw[e] at hne;exact absurd hne (by decide))]
 rw[e];clear e;obtain⟨hk,hkw,hlo,hhi⟩:=IZ s x.which hne;unfold qK;obtain⟨k,hk0⟩:∃k,qJ s x.which=k:=⟨_,rfl⟩;rw[hk0] at hk hkw ⊢;clear hk0;have hr:=dR Lk.c s.eG k hk;have hyb:=hbr _ (List.getElem_mem hk);obtain⟨y,hy⟩:∃y,s.eG[k]=y:=⟨_,rfl⟩;rw[getElem!_pos s.eG k hk,hy];rw[hy] at hr hyb;clear hy;obtain⟨s1,hs1⟩:∃s1,(if ((fB x.what==6)||decide (x.zI≤0))=true then tu s k else s)=s1:=⟨_,rfl⟩;rw[hs1];have hB:Sv s1:=by
  rw[←hs1];split
  ·refine⟨h.w,h.lf,h.ww,h.ch,?_,h.has,h.told,h.FN,h.bT,h.hb,h.now,h.nx,h.su,h.ep,h.rv,h.pl⟩;simp only[tu,rq,List.length_take,List.length_drop];omega
  exact h
 have hcm:=U0 s1 y hB hyb;clear hB h hbr hyb;have hkm:k<(s.eG.map Lk.c).length:=by rw[List.length_map];exact hk
 have eK:IntKind.i64.wrap (((k:Nat):Int)+1)=((k+1:Nat):Int):=by rw[bN (by omega) (by omega)];omega
 obtain⟨b5,h5⟩:∃b,(fB x.what==6)=b:=⟨_,rfl⟩;obtain⟨tw,htw⟩:∃b,decide (x.zI≤0)=b:=⟨_,rfl⟩;rw[h5,htw] at hs1;rw[h5];unfold fB at f0 f1 f7 f8 f9 f10 f11 h5;have eL:((s.eG.map Lk.c).length:Int)=(s.eG.length:Int):=by rw[List.length_map]
 have hn0:((s.eG.map Lk.c).length:Int)≠0:=by rw[eL];omega
 rw[←eL] at hlo hhi hkw;cases d1:decide (x.which.tmod ((s.eG.map Lk.c).length:Int)<0);case' true=>
  have eQ:IntKind.i64.wrap (x.which.tmod ((s.eG.map Lk.c).length:Int)+((s.eG.map Lk.c).length:Int))=((k:Nat):Int):=by
   rw[if_pos (by simpa using d1)] at hkw;rw[bN (by omega) (by omega)];exact hkw
 case' false=>
  have eQ:x.which.tmod ((s.eG.map Lk.c).length:Int)=((k:Nat):Int):=by
   rw[if_neg (by simpa using d1)] at hkw;exact hkw
  rw[eQ] at d1
 all_goals
  clear hlo hhi hkw eL;refine y9 vL (cZ mixed vL) iV rfl ?_;repeat' ((conv=>whnf);first|fail|((with_reducible refine fk (fun hc=>?_) fun hc=>?_)<;>first|exact absurd hc (by decide)|(exfalso;simp only[*,reduceCtorEq,Bool.not_true,Bool.not_false,Bool.true_and,Bool.and_true,Bool.false_and,Bool.and_false] at hc;done)|skip)|((refine⟨by decide,?_⟩))|((refine⟨hn0,?_⟩))|rewrite[eQ]|(((with_reducible apply And.intro);focus (rw[Int.toNat_natCast];exact hkm)))|((refine⟨_,hr,?_⟩))|refine aN ?_|fail)
  refine Or.inl ?_;repeat' ((conv=>whnf);first|fail|((with_reducible refine fk (fun hc=>?_) fun hc=>?_)<;>first|exact absurd hc (by decide)|(exfalso;simp only[*,reduceCtorEq,Bool.not_true,Bool.not_false,Bool.true_and,Bool.and_true,Bool.false_and,Bool.and_false] at hc;done)|skip)|((refine⟨by decide,?_⟩))|((refine⟨hn0,?_⟩))|rewrite[eQ]|(((with_reducible apply And.intro);focus (rw[Int.toNat_natCast];exact hkm)))|((refine⟨_,hr,?_⟩))|refine aN ?_|fail)
  refine Or.inl ?_;repeat' ((conv=>whnf);first|fail|((with_reducible refine fk (fun hc=>?_) fun hc=>?_)<;>first|exact absurd hc (by decide)|(exfalso;simp only[*,reduceCtorEq,Bool.not_true,Bool.not_false,Bool.true_and,Bool.and_true,Bool.false_and,Bool.and_false] at hc;done)|skip)|((refine⟨by decide,?_⟩))|((refine⟨hn0,?_⟩))|rewrite[eQ]|(((with_reducible apply And.intro);focus (rw[Int.toNat_natCast];exact hkm)))|((refine⟨_,hr,?_⟩))|refine aN ?_|fail)
  refine Or.inl ?_;repeat' ((conv=>whnf);first|fail|((with_reducible refine fk (fun hc=>?_) fun hc=>?_)<;>first|exact absurd hc (by decide)|(exfalso;simp only[*,reduceCtorEq,Bool.not_true,Bool.not_false,Bool.true_and,Bool.and_true,Bool.false_and,Bool.and_false] at hc;done)|skip)|((refine⟨by decide,?_⟩))|((refine⟨hn0,?_⟩))|rewrite[eQ]|(((with_reducible apply And.intro);focus (rw[Int.toNat_natCast];exact hkm)))|((refine⟨_,hr,?_⟩))|refine aN ?_|fail)
  refine Or.inl ?_;repeat' ((conv=>whnf);first|fail|((with_reducible refine fk (fun hc=>?_) fun hc=>?_)<;>first|exact absurd hc (by decide)|(exfalso;simp only[*,reduceCtorEq,Bool.not_true,Bool.not_false,Bool.true_and,Bool.and_true,Bool.false_and,Bool.and_false] at hc;done)|skip)|((refine⟨by decide,?_⟩))|((refine⟨hn0,?_⟩))|rewrite[eQ]|(((with_reducible apply And.intro);focus (rw[Int.toNat_natCast];exact hkm)))|((refine⟨_,hr,?_⟩))|refine aN ?_|fail)
  refine Or.inr ⟨Unit,fun _=>⟨[(0,.ptr 1 0),(3,.ptr 1003 0),(4,.pv (ii ((IntKind.i64.wrap (x.what.tmod 12+12)).tmod 12))),(15,.ptr 1015 0)],1000000000,(1003,.var (x.c.map .pv))::(1015,.var (y.c.map .pv))::skM s1⟩,?_,fun _=>?_⟩
  ·clear hcm;have e5:b5=true∨(b5=false∧tw=true)→tu s k=s1:=fun h=>by
    rw[←hs1];rcases h with h|⟨h,h'⟩
    ·rw[h];rfl
    rw[h,h'];rfl
   have e6:b5=false→tw=false→s=s1:=fun h h'=>by rw[←hs1,h,h'];rfl
   clear hs1;cases b5
   ·cases tw
    ·have e6:=e6 rfl rfl;subst e6;repeat' ((conv=>whnf);first|with_reducible apply aP|((with_reducible refine fk (fun hc=>?_) fun hc=>?_)<;>first|exact absurd hc (by decide)|(exfalso;simp only[*,reduceCtorEq,Bool.not_true,Bool.not_false,Bool.true_and,Bool.and_true,Bool.false_and,Bool.and_false] at hc;done)|skip)|refine aN ?_|fail)
     refine⟨(),aH ?_⟩;all_goals exact aM
    have e5:=e5 (.inr ⟨rfl,rfl⟩);subst e5;repeat' ((conv=>whnf);first|with_reducible apply aP|((with_reducible refine fk (fun hc=>?_) fun hc=>?_)<;>first|exact absurd hc (by decide)|(exfalso;simp only[*,reduceCtorEq,Bool.not_true,Bool.not_false,Bool.true_and,Bool.and_true,Bool.false_and,Bool.and_false] at hc;done)|skip)|rewrite[eK]|(((with_reducible apply And.intro);focus (simp only[jF,rq,List.length_take,List.length_drop,fE,jQ,jR,Int.toNat_natCast];omega)))|refine aN ?_|fail)
    refine⟨(),aH ?_⟩;repeat' first|apply And.intro|exact aM|fail
    all_goals try (conv=>whnf)
    all_goals exact FT s k
   have e5:=e5 (.inl rfl);subst e5;repeat' ((conv=>whnf);first|with_reducible apply aP|((with_reducible refine fk (fun hc=>?_) fun hc=>?_)<;>first|exact absurd hc (by decide)|(exfalso;simp only[*,reduceCtorEq,Bool.not_true,Bool.not_false,Bool.true_and,Bool.and_true,Bool.false_and,Bool.and_false] at hc;done)|skip)|rewrite[eK]|(((with_reducible apply And.intro);focus (simp only[jF,rq,List.length_take,List.length_drop,fE,jQ,jR,Int.toNat_natCast];omega)))|refine aN ?_|fail)
   refine⟨(),aH ?_⟩;repeat' first|apply And.intro|exact aM|fail
   all_goals try (conv=>whnf)
   all_goals exact FT s k
  clear hs1;have h5n:((IntKind.i64.wrap (x.what.tmod 12+12)).tmod 12 != 6) = !b5:=by rw[bne,h5]
  cases b5;all_goals simp only[Bool.not_true,Bool.not_false] at h5n
  ·repeat' ((conv=>whnf);first|with_reducible apply aP|((with_reducible apply fk)<;>intro hc<;>try exact gK)|rewrite[pY]|rewrite[p8]|(apply dn;refine⟨_,_,av (hcm) ?_,?_⟩;exact bD)|refine aN ?_|fail)
   refine⟨_,_,⟨rfl,rfl⟩,?_⟩;repeat' first|apply And.intro|exact aM|fail
   all_goals try (conv=>whnf)
  repeat' ((conv=>whnf);first|with_reducible apply aP|((with_reducible apply fk)<;>intro hc<;>try exact gK)|refine aN ?_|fail)
  refine⟨_,_,⟨rfl,rfl⟩,?_⟩;all_goals exact aM
theorem Sw:bR prog 94 f94:=fC func94
theorem acy (s:Sk)(n:Int)(hn:1≤n∧n≤8)(hs:s.bT.length≤8)(hh:s.told.length≤100000)(hall:∀h∈s.told,jd s.bT h.n h.body) :
  dU prog 94 [.ptr 1 0,.aO 4 0,.pv (uu n)] (Ar s) (.cO [.aO 1001 0,.pv (bl true)]) (Ar s++[(1001,.arr 27 0 2 ((bB s.told n).map Pl.c))]):=by
 refine eO Sw ?_;repeat' ((conv=>whnf);first|with_reducible apply aP|((with_reducible apply fk)<;>intro hc<;>try exact aZ)|refine aN ?_|fail)
 refine⟨{k:Nat // k≤s.told.length},fun⟨k,_⟩=>⟨[(0,.ptr 1 0),(1,.aO 4 0),(2,.pv (uu n)),(8,.aO 1008 0),(9,.pv (ii k))],1000000000,Ar s++[(1008,.arr 27 0 2 ((Sy s.told n k).map Pl.c))]⟩,fun⟨k,_⟩=>s.told.length-k,⟨⟨0,Nat.zero_le _⟩,aH ?_⟩,?_⟩
 ·all_goals exact aM
 rintro⟨k,hk⟩
 dsimp only
 have hpl:(Sy s.told n k).length≤k:=by
  unfold Sy bB;rw[List.length_map];refine Nat.le_trans (List.length_filter_le _ _) ?_;rw[List.length_take];omega
 by_cases hlt:k<s.told.length
 rotate_left
 ·have hke:k=s.told.length:=by omega
  subst hke;have d0:decide ((s.told.length:Int)<((s.told.map Hp.c).length:Int))=false:=by simp
  have hpe:Sy s.told n s.told.length=bB s.told n:=by unfold Sy;rw[List.take_length]
  rw[hpe] at hpl ⊢;clear hpe hpl hall;repeat' ((conv=>whnf);first|with_reducible apply aP|((with_reducible apply fk)<;>intro hc<;>try exact gK)|refine aN ?_|fail)
  refine⟨_,_,⟨rfl,rfl⟩,?_⟩;all_goals exact aM
 have d0:decide ((k:Int)<((s.told.map Hp.c).length:Int))=true:=by simp only[fE,iO];omega
 have eW:IntKind.i64.wrap ((k:Int)+1)=((k+1:Nat):Int):=by rw[bN (by omega) (by omega)];omega
 have hr:=dR Hp.c s.told k hlt;have tq:=Na s.told n k hlt;have hg:=hall _ (List.getElem_mem hlt);obtain⟨h,hh0⟩:∃h,s.told[k]=h:=⟨_,rfl⟩;rw[hh0] at hr tq hg;clear hh0 hall;cases e1:(h.n==n) with
 | false=>
   rw[e1] at tq;simp only[Bool.false_eq_true,↓reduceIte] at tq;replace tq:=Hd.mk tq;clear hg;repeat' ((conv=>whnf);first|with_reducible apply aP|((with_reducible apply fk)<;>intro hc<;>try exact gK)|((refine⟨_,hr,?_⟩))|refine aN ?_|fail)
   refine⟨⟨k+1,hlt⟩,dec_lt hlt,aH ?_⟩;dsimp only
   rw[tq.out];repeat' first|apply And.intro|exact aM|fail
   all_goals try (conv=>whnf)
   all_goals exact eW
 | true=>
   rw[e1] at tq;simp only[↓reduceIte] at tq;have hnn:h.n=n:=by simpa using e1
   rw[hnn] at hg;obtain⟨hg1,hg2,hg3⟩:=hg;have hi:(n-1).toNat<s.bT.length:=by omega
   have hbd:h.body=s.bT[(n-1).toNat]:=by rw[hg3,getElem!_pos s.bT _ hi]
   have hrs:=dR zW s.bT (n-1).toNat hi;rw[←hbd] at hrs;have eS:IntKind.u64.wrap (n-1)=(((n-1).toNat:Nat):Int):=by rw[gX (by omega) (by omega)];omega
   have d1:decide (n<1)=false:=by simp only[w9];omega
   have eU:IntKind.u64.wrap (((s.bT.map zW).length:Int))=(s.bT.length:Int):=by rw[List.length_map,gX (by omega) (by omega)]
   have d2:decide (n>(s.bT.length:Int))=false:=by simp only[w9];omega
   have hsl2:(n-1).toNat<(s.bT.map zW).length:=by rw[List.length_map];exact hi
   replace tq:=Hd.mk tq;have d3:((⟨h.body.toArray⟩:ByteArray).toList==(⟨h.body.toArray⟩:ByteArray).toList)=true:=by simp
   clear hg1 hg2 hg3 hbd hnn;repeat' ((conv=>whnf);first|with_reducible apply aP|((with_reducible apply fk)<;>intro hc<;>try exact gK)|rewrite[eS]|rewrite[eU]|((refine⟨_,hr,?_⟩))|((refine⟨_,hrs,?_⟩))|(((with_reducible apply And.intro);focus (simp only[fE,jQ,jR];omega)))|refine aN ?_|fail)
   refine⟨⟨k+1,hlt⟩,dec_lt hlt,aH ?_⟩;dsimp only
   rw[tq.out,List.map_append];repeat' first|apply And.intro|exact aM|fail
   all_goals try (conv=>whnf)
   all_goals first
    |exact eW
    |(refine bW (aB _) ?_;(repeat' first|apply And.intro|exact aM|fail);(all_goals try (conv=>whnf)))
theorem acz (s:Sk)(n:Int)(hn:1≤n∧n≤8)(hs:s.bT.length≤8)(hh:s.has.length≤100000)(hall:∀h∈s.has,jd s.bT h.n h.body) :
  dU prog 94 [.ptr 1 0,.aO 3 0,.pv (uu n)] (Ar s) (.cO [.aO 1001 0,.pv (bl true)]) (Ar s++[(1001,.arr 27 0 2 ((bB s.has n).map Pl.c))]):=by
 refine eO Sw ?_;repeat' ((conv=>whnf);first|with_reducible apply aP|((with_reducible apply fk)<;>intro hc<;>try exact aZ)|refine aN ?_|fail)
 refine⟨{k:Nat // k≤s.has.length},fun⟨k,_⟩=>⟨[(0,.ptr 1 0),(1,.aO 3 0),(2,.pv (uu n)),(8,.aO 1008 0),(9,.pv (ii k))],1000000000,Ar s++[(1008,.arr 27 0 2 ((Sy s.has n k).map Pl.c))]⟩,fun⟨k,_⟩=>s.has.length-k,⟨⟨0,Nat.zero_le _⟩,aH ?_⟩,?_⟩
 ·all_goals exact aM
 rintro⟨k,hk⟩
 dsimp only
 have hpl:(Sy s.has n k).length≤k:=by
  unfold Sy bB;rw[List.length_map];refine Nat.le_trans (List.length_filter_le _ _) ?_;rw[List.length_take];omega
 by_cases hlt:k<s.has.length
 rotate_left
 ·have hke:k=s.has.length:=by omega
  subst hke;have d0:decide ((s.has.length:Int)<((s.has.map Hp.c).length:Int))=false:=by simp
  have hpe:Sy s.has n s.has.length=bB s.has n:=by unfold Sy;rw[List.take_length]
  rw[hpe] at hpl ⊢;clear hpe hpl hall;repeat' ((conv=>whnf);first|with_reducible apply aP|((with_reducible apply fk)<;>intro hc<;>try exact gK)|refine aN ?_|fail)
  refine⟨_,_,⟨rfl,rfl⟩,?_⟩;all_goals exact aM
 have d0:decide ((k:Int)<((s.has.map Hp.c).length:Int))=true:=by simp only[fE,iO];omega
 have eW:IntKind.i64.wrap ((k:Int)+1)=((k+1:Nat):Int):=by rw[bN (by omega) (by omega)];omega
 have hr:=dR Hp.c s.has k hlt;have tq:=Na s.has n k hlt;have hg:=hall _ (List.getElem_mem hlt);obtain⟨h,hh0⟩:∃h,s.has[k]=h:=⟨_,rfl⟩;rw[hh0] at hr tq hg;clear hh0 hall;cases e1:(h.n==n) with
 | false=>
   rw[e1] at tq;simp only[Bool.false_eq_true,↓reduceIte] at tq;replace tq:=Hd.mk tq;clear hg;repeat' ((conv=>whnf);first|with_reducible apply aP|((with_reducible apply fk)<;>intro hc<;>try exact gK)|((refine⟨_,hr,?_⟩))|refine aN ?_|fail)
   refine⟨⟨k+1,hlt⟩,dec_lt hlt,aH ?_⟩;dsimp only
   rw[tq.out];repeat' first|apply And.intro|exact aM|fail
   all_goals try (conv=>whnf)
   all_goals exact eW
 | true=>
   rw[e1] at tq;simp only[↓reduceIte] at tq;have hnn:h.n=n:=by simpa using e1
   rw[hnn] at hg;obtain⟨hg1,hg2,hg3⟩:=hg;have hi:(n-1).toNat<s.bT.length:=by omega
   have hbd:h.body=s.bT[(n-1).toNat]:=by rw[hg3,getElem!_pos s.bT _ hi]
   have hrs:=dR zW s.bT (n-1).toNat hi;rw[←hbd] at hrs;have eS:IntKind.u64.wrap (n-1)=(((n-1).toNat:Nat):Int):=by rw[gX (by omega) (by omega)];omega
   have d1:decide (n<1)=false:=by simp only[w9];omega
   have eU:IntKind.u64.wrap (((s.bT.map zW).length:Int))=(s.bT.length:Int):=by rw[List.length_map,gX (by omega) (by omega)]
   have d2:decide (n>(s.bT.length:Int))=false:=by simp only[w9];omega
   have hsl2:(n-1).toNat<(s.bT.map zW).length:=by rw[List.length_map];exact hi
   replace tq:=Hd.mk tq;have d3:((⟨h.body.toArray⟩:ByteArray).toList==(⟨h.body.toArray⟩:ByteArray).toList)=true:=by simp
   clear hg1 hg2 hg3 hbd hnn;repeat' ((conv=>whnf);first|with_reducible apply aP|((with_reducible apply fk)<;>intro hc<;>try exact gK)|rewrite[eS]|rewrite[eU]|((refine⟨_,hr,?_⟩))|((refine⟨_,hrs,?_⟩))|(((with_reducible apply And.intro);focus (simp only[fE,jQ,jR];omega)))|refine aN ?_|fail)
   refine⟨⟨k+1,hlt⟩,dec_lt hlt,aH ?_⟩;dsimp only
   rw[tq.out,List.map_append];repeat' first|apply And.intro|exact aM|fail
   all_goals try (conv=>whnf)
   all_goals first
    |exact eW
    |(refine bW (aB _) ?_;(repeat' first|apply And.intro|exact aM|fail);(all_goals try (conv=>whnf)))
theorem U2 (x:Rv)(h1:x.af.length≤1000)(h2:∀f∈x.af,f.ah.length≤1000)(hn:x.phase=4→1≤x.n∧x.n≤1000) :
  dB prog 37 [.agg x.c] (if x.phase=4 then .cO [uu (x.n-1),cB x.af,bl true] else .cO [uu 0,cB [],bl false]):=by
 have ho:=tQ x.af (by omega) (fun f hf=>by have:=h2 f hf;omega);refine PC.le ?_;cases p:(x.phase != 4) with
 | true=>
   rw[if_neg (by simpa using p)];clear ho;refine dP yF ?_;repeat' ((conv=>whnf);first|with_reducible apply aP|((with_reducible apply fk)<;>intro hc<;>try exact gK)|refine aN ?_|fail)
   all_goals exact aM
 | false=>
   have hp:x.phase=4:=by simpa using p
   rw[if_pos hp];have hn:=hn hp;have eW:IntKind.u64.wrap (x.n-1)=x.n-1:=gX (by omega) (by omega);clear hp;refine dP yF ?_;repeat' ((conv=>whnf);first|with_reducible apply aP|((with_reducible apply fk)<;>intro hc<;>try exact gK)|rewrite[eW]|(apply dn;refine⟨_,_,av (ho) ?_,?_⟩;exact bD)|refine aN ?_|fail)
   all_goals
    all_goals exact aM
theorem BH:bR prog 34 f34:=fC func34
theorem U3 (s:Sk)(i:Nat):Me s (i+1)=(Me s i&&Ui s ((i:Int)+1)):=by
 unfold Me;rw[List.range_succ,List.all_append];simp
theorem Y8 (s:Sk)(h:Sv s)(H:fK s)(hr0:s.au=s.first→s.r.phase=0)(hrf:s.r.af.length≤1000)(hrb:∀f∈s.r.af,f.ah.length≤1000) :
  dU prog 34 [.ptr 1 0] (Ar s) (.pv (bl true)) (Ar s):=by
 have hR:s.r.phase=4→s.first<s.au:=fun e=>by
  have:=H.ep;rcases Int.lt_or_eq_of_le this with g|g
  ·exact g
  rw[hr0 g.symm] at e;cases e
 have hend:=U2 s.r hrf hrb (fun e=>by have:=(H.rv (hR e)).n1 (by rw[e];decide);omega);cases d0:(s.au==s.first) with
 | true=>
   have hp:¬s.r.phase=4:=fun e=>by have:=hR e;rw[beq_iff_eq] at d0;omega
   rw[if_neg hp] at hend;clear h H hR hr0 hp;refine eO BH ?_;repeat' ((conv=>whnf);first|with_reducible apply aP|((with_reducible apply fk)<;>intro hc<;>try exact gK)|(apply bA;refine⟨_,aG (hend) ?_,?_⟩;exact bD)|refine aN ?_|fail)
   refine⟨_,_,⟨rfl,rfl⟩,?_⟩;all_goals exact aM
 |false=>
 by_cases hp:s.r.phase=4
 rotate_left
 ·rw[if_neg hp] at hend;clear h H hR hr0 hp;refine eO BH ?_;repeat' ((conv=>whnf);first|with_reducible apply aP|((with_reducible apply fk)<;>intro hc<;>try exact gK)|(apply bA;refine⟨_,aG (hend) ?_,?_⟩;exact bD)|refine aN ?_|fail)
  refine⟨_,_,⟨rfl,rfl⟩,?_⟩;all_goals exact aM
 rw[if_pos hp] at hend;have R:=H.rv (hR hp);have hk:=ab3 H;unfold X6 at hk;rw[if_neg (by
  rintro (e|e)
  ·rw[beq_eq_false_iff_ne] at d0;exact d0 e
  exact e hp),Bool.and_eq_true,Bool.not_eq_true',Bool.or_eq_false_iff,Bool.or_eq_false_iff] at hk
 obtain⟨⟨k1,k2,k3⟩,k4⟩:=hk;have hn1:=R.n1 (by rw[hp];decide);rw[List.all_eq_true] at k4;have k5:∀i:Nat,i<8→(decide ((i:Int)+1>s.r.n-1)&&Me s (i+1))=false∧(decide ((i:Int)+1≤s.r.n-1)=true→bI (setOf s.r.af s.x.w ((i:Int)+1)) s.x.a (bB s.has ((i:Int)+1))=true):=fun i hi=>by
  have:=k4 i (List.mem_range.2 hi);simp only[Bool.and_eq_true,Bool.not_eq_true',Bool.or_eq_true] at this;refine⟨this.2.2.1,fun e=>this.2.2.2.resolve_left (by rw[e];decide)⟩
 have Iy:=tN s.x.w s.r.af;have hmt:dA s.x.w s.r.af=true:=by simpa using k3
 rw[hmt] at Iy;have eU:IntKind.u64.wrap (((s.bT.map zW).length:Int))=(s.bT.length:Int):=by rw[List.length_map];have:=h.bT;rw[gX (by omega) (by omega)]
 have hfr:=BI hmt;have hfp:=BI h.pl;have RD:s.x.w≤5:=by rw[←H.wl.1];exact h.ww
 have ahr:=fun n hn=>acy s n hn h.bT (by have:=h.told;omega) H.S.hd
 have ahs:=fun n hn=>acz s n hn h.bT (by have:=h.has;omega) H.hb
 have hpt:∀n,(bB s.told n).length≤1000000:=fun n=>by
  unfold bB;rw[List.length_map];have:=List.length_filter_le (fun h:Hp=>h.n==n) s.told;have:=h.told;omega
 have hph:∀n,(bB s.has n).length≤1000000:=fun n=>by
  unfold bB;rw[List.length_map];have:=List.length_filter_le (fun h:Hp=>h.n==n) s.has;have:=h.has;omega
 clear k3 k4 hmt H hR hr0 R h hp;refine eO BH ?_;repeat' ((conv=>whnf);first|with_reducible apply aP|((with_reducible refine fk (fun hc=>?_) fun hc=>?_)<;>first|exact absurd hc (by decide)|(exfalso;simp only[*,reduceCtorEq,Bool.not_true,Bool.not_false,Bool.true_and,Bool.and_true,Bool.false_and,Bool.and_false] at hc;done)|skip)|rewrite[eU]|(apply bA;refine⟨_,aG (hend) ?_,?_⟩;exact bD)|(apply bA;refine⟨_,aG (Iy) ?_,?_⟩;exact bD)|refine aN ?_|fail)
 clear hend Iy k1 k2 d0;refine⟨{i:Nat // i≤8},fun⟨i,_⟩=>⟨[(0,.ptr 1 0),(3,.pv (uu (s.r.n-1))),(4,.pv (cB s.r.af)),(6,.pv (bl (Me s i))),(7,.pv (uu (((i+1:Nat)):Int)))],1000000000,Ar s⟩,fun⟨i,_⟩=>8-i,⟨⟨0,Nat.zero_le _⟩,aH ?_⟩,?_⟩
 ·repeat' first|apply And.intro|exact aM|fail
  all_goals try (conv=>whnf)
  all_goals rfl
 rintro⟨i,hi⟩
 dsimp only
 by_cases hlt:i<8
 rotate_left
 ·have hie:i=8:=by omega
  subst hie;have d1:decide ((((8+1:Nat)):Int)≤8)=false:=by decide
  repeat' ((conv=>whnf);first|with_reducible apply aP|((with_reducible apply fk)<;>intro hc<;>try exact gK)|refine aN ?_|fail)
  refine⟨_,_,⟨rfl,rfl⟩,?_⟩;all_goals exact aM
 have d1:decide ((((i+1:Nat)):Int)≤8)=true:=by simp only[iO];omega
 have eW:IntKind.u64.wrap ((((i+1:Nat)):Int)+1)=(((i+1+1:Nat)):Int):=by rw[gX (by omega) (by omega)];omega
 obtain⟨k5a,k5b⟩:=k5 i hlt;rw[show ((i:Int)+1)=(((i+1:Nat)):Int) by omega] at k5a k5b;have hall:=U3 s i;rw[show ((i:Int)+1)=(((i+1:Nat)):Int) by omega] at hall;have ho1:=ahr (((i+1:Nat)):Int) (by omega);have ho2:=ahs (((i+1:Nat)):Int) (by omega);have hs1:=Nb s.x.af s.x.w (((i+1:Nat)):Int) hfp (by omega);have hs2:=Nb s.r.af s.x.w (((i+1:Nat)):Int) hfr (by omega);have ha1:=FU (setOf s.x.af s.x.w (((i+1:Nat)):Int)) s.x.a (bB s.told (((i+1:Nat)):Int)) (by have:=pR (l:=s.x.af) (n:=(((i+1:Nat)):Int)) RD;omega) (hpt _);have xS:=FU (setOf s.r.af s.x.w (((i+1:Nat)):Int)) s.x.a (bB s.has (((i+1:Nat)):Int)) (by have:=pR (l:=s.r.af) (n:=(((i+1:Nat)):Int)) RD;omega) (hph _);rw[show bI (setOf s.x.af s.x.w (((i+1:Nat)):Int)) s.x.a (bB s.told (((i+1:Nat)):Int))=Ui s (((i+1:Nat)):Int) from rfl] at ha1;rw[hall] at k5a;replace hall:=Hd.mk hall;clear k5 ahr ahs hpt hph;generalize setOf s.x.af s.x.w (((i+1:Nat)):Int)=S1 at *;generalize setOf s.r.af s.x.w (((i+1:Nat)):Int)=S2 at *;generalize Me s i=A at *;generalize Ui s (((i+1:Nat)):Int)=A2 at *;cases g:decide ((((i+1:Nat)):Int)>s.r.n-1);case' true=>
  have g2:decide ((((i+1:Nat)):Int)≤s.r.n-1)=false:=by simp only[iO,w9] at g ⊢;omega
  rw[g,Bool.true_and] at k5a;clear k5b
 case' false=>
  have g2:decide ((((i+1:Nat)):Int)≤s.r.n-1)=true:=by simp only[iO,w9] at g ⊢;omega
  have k5b:=k5b g2;rw[k5b] at xS;clear k5a
 all_goals cases A<;>cases A2
 all_goals first
  |exact absurd k5a (by decide)
  |skip
 all_goals
  repeat' ((conv=>whnf);first|with_reducible apply aP|((with_reducible refine fk (fun hc=>?_) fun hc=>?_)<;>first|exact absurd hc (by decide)|(exfalso;simp only[*,reduceCtorEq,Bool.not_true,Bool.not_false,Bool.true_and,Bool.and_true,Bool.false_and,Bool.and_false] at hc;done)|skip)|rewrite[eU]|rewrite[pY]|rewrite[p8]|(apply dn;refine⟨_,_,ho1,?_⟩)|(apply dn;refine⟨_,_,ho2,?_⟩)|(apply bA;refine⟨_,aG (hs1) ?_,?_⟩;exact bD)|(apply bA;refine⟨_,aG (hs2) ?_,?_⟩;exact bD)|(apply bA;refine⟨_,aG (ha1) ?_,?_⟩;exact bD)|(apply bA;refine⟨_,aG (xS) ?_,?_⟩;exact bD)|refine aN ?_|fail)
  refine⟨⟨i+1,hlt⟩,by simp only;omega,aH ?_⟩;repeat' first|apply And.intro|exact aM|fail
  all_goals try (conv=>whnf)
  all_goals first
   |exact eW
   |rfl
   |exact (hall.out.trans rfl).symm
   |trace_state
theorem I4 {l:Lg}{x:Rv}{k:Nat}(h:RInv l k x):∀{k':Nat},k≤k'→RInv l k' x:=by
 intro k' hk;induction k' with
 | zero=>
   have:k=0:=by omega
   subst this;exact h
 | succ k' ih=>
   rcases Nat.lt_or_ge k (k'+1) with g|g
   ·exact (ih (by omega)).up
   have:k=k'+1:=by omega
   subst this;exact h
structure uF (s:Sk)(i:Nat):Prop where
 ws:yG s.w i (200*i)
 eG:s.eG.length≤90
 br:∀m∈s.eG,m.r.body.length≤3000∧0≤m.r.sure
 st:∀b∈s.bT,b.length≤3000
 has:s.has.length≤i
 told:s.told.length≤i
 FN:s.aQ.length≤i∧∀f∈s.aQ,0≤f.sure
 now:gF s.now
 ep:s.au≤s.first+i∧s.first≤1152921504606846976
 rv:s.first<s.au→RInv s.x i s.r
 r0:s.au=s.first→s.r.phase=0∧s.r.af=[]
 pl:dA s.x.w s.x.af=true
theorem Nc {bT:List (List UInt8)}{n:Int}{b:List UInt8}(h:jd bT n b)(hs:∀b∈bT,b.length≤3000):b.length≤3000:=by
 obtain⟨h1,h2,h3⟩:=h;have hi:(n-1).toNat<bT.length:=by omega
 rw[h3,getElem!_pos bT _ hi];exact hs _ (List.getElem_mem hi)
theorem uF.skB {s:Sk}{i:Nat}(h:uF s i)(H:fK s)(hi:i≤400):Sv s:=by
 have h1:s.w.next=s.bT.length+1:=H.S.nx;have h2:=h.ws.nx;have h3:=h.ws.su;have h4:=h.ep;have h5:=H.f0;have h6:=H.ep;have h7:=h.eG;have h8:=h.has;have h9:=h.told;have ha:=h.FN.1;exact⟨h.ws.wrB (by omega) (by omega),h.ws.lf,h.ws.U4,h.ws.ajF,h7,by omega,by omega,by omega,H.ln,fun y hy=>Nc (H.hb y hy) h.st,h.now,⟨by omega,by omega⟩,by omega,⟨h5,h6,by omega⟩,fun hlt=>(h.rv hlt).big (H.rv hlt).may (by omega),h.pl⟩
theorem uF.mono {s:Sk}{i j:Nat}(h:uF s i)(hij:i≤j):uF s j:=
 ⟨h.ws.mono hij (by omega),h.eG,h.br,h.st,by have:=h.has;omega,by have:=h.told;omega,⟨by have:=h.FN.1;omega,h.FN.2⟩,h.now,⟨by have:=h.ep.1;omega,h.ep.2⟩,fun hlt=>I4 (h.rv hlt) hij,h.r0,h.pl⟩
theorem oF {s:Sk}{i:Nat}(h:uF s i)(to:Int)(l:List Rq):uF (jJ s to l) i:=by
 refine⟨h.ws,?_,fun m hm=>?_,h.st,h.has,h.told,h.FN,h.now,h.ep,h.rv,h.r0,h.pl⟩
 ·have:=h.eG;unfold jJ;simp only[rq,fE,List.length_take];omega
 rcases List.mem_append.1 hm with hm|hm
 ·exact h.br m hm
 obtain⟨q,hq,rfl⟩:=List.mem_map.1 hm;exact⟨Nat.zero_le _,Int.le_refl _⟩
theorem Nf (s:Sk)(q:Rq)(o:Bool):(eB s q o).1.w=s.w∧(eB s q o).1.x=s.x∧(eB s q o).1.r=s.r∧(eB s q o).1.au=s.au∧(eB s q o).1.first=s.first∧(eB s q o).1.eG=s.eG∧(eB s q o).1.bT=s.bT∧(eB s q o).1.now=s.now:=by
 unfold eB;dsimp only
 split
 ·split<;>exact⟨rfl,rfl,rfl,rfl,rfl,rfl,rfl,rfl⟩
 split
 ·exact⟨rfl,rfl,rfl,rfl,rfl,rfl,rfl,rfl⟩
 split<;>exact⟨rfl,rfl,rfl,rfl,rfl,rfl,rfl,rfl⟩
theorem Ku {s:Sk}{i:Nat}(h:uF s i)(p:Pl):∀f∈iN s.aQ p,0≤f.sure:=fun f hf=>by
 rcases Mh hf with hf|hf
 ·exact h.FN.2 f hf
 rw[hf];exact Int.le_refl _
theorem Y9 {s:Sk}{i:Nat}(h:uF s i)(p:Pl):0≤(iL s.aQ p).sure:=by
 obtain⟨hi,e⟩:=Si s.aQ p;rw[←e];exact Ku h p _ (List.getElem_mem hi)
theorem Qn {s:Sk}{i:Nat}(h:uF s i)(H:fK s)(q:Rq)(o:Bool):uF (eB s q o).1 (i+1)∧((eB s q o).2.body.length≤3000∧0≤(eB s q o).2.sure):=by
 obtain⟨e1,e2,e3,e4,e5,e6,e7,e8⟩:=Nf s q o;have hm:=h.mono (Nat.le_succ i);have hF:=Mt s.aQ q.to;have hfl:=h.FN.1;have hfg:=Y9 h q.to;have hset:∀(k:Nat) (g:Fk),0≤g.sure→((iN s.aQ q.to).set k g).length≤i+1∧∀f∈(iN s.aQ q.to).set k g,0≤f.sure:=fun k g hg=>by
  refine⟨by rw[List.length_set];omega,fun f hf=>?_⟩;rcases RQ hf with hf|hf
  ·exact Ku h q.to f hf
  rw[hf];exact hg
 have key:((eB s q o).1.has.length≤i+1∧(eB s q o).1.told.length≤i+1∧((eB s q o).1.aQ.length≤i+1∧∀f∈(eB s q o).1.aQ,0≤f.sure))∧((eB s q o).2.body.length≤3000∧0≤(eB s q o).2.sure):=by
  have hh:=h.has;have ht:=h.told;have hK:(iN s.aQ q.to).length≤i+1∧∀f∈iN s.aQ q.to,0≤f.sure:=⟨by omega,Ku h q.to⟩;unfold eB;dsimp only
  split
  ·split
   ·exact⟨⟨by show s.has.length≤i+1;omega,by show s.told.length≤i+1;omega,hK⟩,Nat.zero_le _,Int.le_refl _⟩
   refine⟨⟨?_,?_,hset _ _ (by show 0≤max _ _;omega)⟩,Nat.zero_le _,Int.le_refl _⟩
   ·show (if (nA s.has q.to q.n).isNone=true then s.has++[⟨q.to,q.n,q.body⟩] else s.has).length≤i+1
    split
    ·simp only[rq,List.length_singleton];omega
    omega
   show (if o=true then s.told++[⟨q.to,q.n,q.body⟩] else s.told).length≤i+1
   split
   ·simp only[rq,List.length_singleton];omega
   omega
  split
  ·exact⟨⟨by show s.has.length≤i+1;omega,by show s.told.length≤i+1;omega,hset _ _ hfg⟩,Nat.zero_le _,hfg⟩
  split
  ·refine⟨⟨by show s.has.length≤i+1;omega,by show s.told.length≤i+1;omega,hK⟩,?_⟩;cases hx:nA s.has q.to q.n with
   | some e=>
     obtain⟨g1,g2,g3⟩:=yc hx;exact⟨Nc (H.hb e g1) h.st,hfg⟩
   |none=>exact⟨Nat.zero_le _,hfg⟩
  exact⟨⟨by show s.has.length≤i+1;omega,by show s.told.length≤i+1;omega,hK⟩,Nat.zero_le _,Int.le_refl _⟩
 obtain⟨⟨k1,k2,k3⟩,k4⟩:=key;exact⟨⟨by rw[e1];exact hm.ws,by rw[e6];exact h.eG,by rw[e6];exact h.br,by rw[e7];exact h.st,k1,k2,k3,by rw[e8];exact h.now,by rw[e4,e5];exact hm.ep,by rw[e2,e3,e4,e5];exact hm.rv,by rw[e3,e4,e5];exact h.r0,by rw[e2];exact h.pl⟩,k4⟩
theorem U5 {s:Sk}{i:Nat}(h:uF s i)(H:fK s)(to:Int){r:Rs}(hb:r.body.length≤3000)(hs:0≤r.sure):uF (kN s to r) (i+1):=by
 have hm:=h.mono (Nat.le_succ i);unfold kN;split
 ·exact⟨(Za h.ws r).mono (Nat.le_refl _) (by omega),hm.eG,hm.br,hm.st,hm.has,hm.told,hm.FN,hm.now,hm.ep,hm.rv,hm.r0,hm.pl⟩
 split
 ·rename_i h1 h2;refine oF (s:={ s with r:=(bX s.r s.now r).1 }) ?_ _ _;have hk:=abQ (H.rv h2.2).may (h.rv h2.2) h.now hs (by omega:r.body.length≤5000);exact⟨hm.ws,hm.eG,hm.br,hm.st,hm.has,hm.told,hm.FN,hm.now,hm.ep,fun _=>hk.inv,fun e=>absurd e (by have:=h2.2;show ¬s.au=s.first;omega),hm.pl⟩
 exact hm
theorem U6 {s:Sk}{i:Nat}(h:uF s i)(H:fK s){x:Lk}(hx:x.r.body.length≤3000∧0≤x.r.sure):uF (pE s x) (i+1):=by
 unfold pE;split
 ·exact U5 h H _ hx.1 hx.2
 obtain⟨a,b⟩:=Qn h H x.q (x.to==0);dsimp only
 split
 ·rename_i hl;refine⟨a.ws,?_,fun m hm=>?_,a.st,a.has,a.told,a.FN,a.now,a.ep,a.rv,a.r0,a.pl⟩
  ·simp only[rq,List.length_singleton];omega
  rcases List.mem_append.1 hm with hm|hm
  ·exact a.br m hm
  rw[List.mem_singleton] at hm;subst hm;exact b
 exact a
theorem Zb {s:Sk}{i:Nat}(h:uF s i)(k:Nat):uF (tu s k) i:=by
 refine⟨h.ws,?_,fun m hm=>h.br m ?_,h.st,h.has,h.told,h.FN,h.now,h.ep,h.rv,h.r0,h.pl⟩
 ·have:=h.eG;unfold tu;simp only[rq,List.length_take,List.length_drop];omega
 rcases List.mem_append.1 hm with hm|hm
 ·exact List.mem_of_mem_take hm
 exact List.mem_of_mem_drop hm
theorem Zc {s:Sk}{i:Nat}(h:uF s i){b:List UInt8}(hb:b.length≤3000):uF (Fb s b) i:=by
 unfold Fb;dsimp only
 split
 ·refine oF (s:={ s with w:=(gP s.w s.now b).1,bT:=s.bT++[b] }) ⟨Zd h.ws h.now hb,h.eG,h.br,fun c hc=>?_,h.has,h.told,h.FN,h.now,h.ep,h.rv,h.r0,h.pl⟩ _ _;rcases List.mem_append.1 hc with hc|hc
  ·exact h.st c hc
  rw[List.mem_singleton] at hc;subst hc;exact hb
 exact h
theorem Ze {s:Sk}{i:Nat}(h:uF s i){now:Int}(hn:gF now):uF (Ir s now) (i+1):=by
 have hm:=h.mono (Nat.le_succ i);exact oF (s:={ s with now:=now,w:=(jv s.w now).1 }) ⟨(Zf h.ws hn).mono (Nat.le_succ i) (by omega),hm.eG,hm.br,hm.st,hm.has,hm.told,hm.FN,hn,hm.ep,hm.rv,hm.r0,hm.pl⟩ _ _
theorem Zg {s:Sk}{i:Nat}(h:uF s i)(H:fK s):uF (Fe s) i:=by
 unfold Fe;split
 ·rename_i h0;have hch:=Ng h.ws h.now s.taken (fun ht hne=>by
   have hp:s.x.af=if s.ask.first≠0∧(if s.taken then (1:Int) else 2)=1 then dX s.w.l.af s.ask else s.w.l.af:=H.S.pl
   have ha:s.ask=s.w.change:=H.S.ask;rw[←ha] at hne ⊢;rw[if_pos ⟨hne,by rw[ht];rfl⟩] at hp;rw[←hp,H.wl.1];exact h.pl)
  exact oF (s:={ s with w:=(dK s.w s.now s.taken).1,ask:=kQ }) ⟨hch,h.eG,h.br,h.st,h.has,h.told,h.FN,h.now,h.ep,h.rv,h.r0,h.pl⟩ _ _
 exact h
theorem Qo {s:Sk}{i:Nat}(h:uF s i)(H:fK s)(e:Int)(known:List Pl):uF (nV s e known) i:=by
 have ha:=acA h.ws e known;unfold nV;dsimp only
 split
 ·exact⟨ha,h.eG,h.br,h.st,h.has,h.told,h.FN,h.now,h.ep,h.rv,h.r0,h.pl⟩
 split
 ·rename_i h1 h2;exact⟨ha,h.eG,h.br,h.st,h.has,h.told,h.FN,h.now,h.ep,fun hlt=>absurd hlt (by have:=h2.1;show ¬s.first<s.au;omega),h.r0,h2.2⟩
 exact⟨ha,h.eG,h.br,h.st,h.has,h.told,h.FN,h.now,h.ep,h.rv,h.r0,h.pl⟩
theorem Zh {s:Sk}{i:Nat}(h:uF s i)(H:fK s):uF (zM s) (i+1):=by
 have hm:=h.mono (Nat.le_succ i);unfold zM;dsimp only
 split
 ·rename_i hc;obtain⟨a,b⟩:=aeD h.now hc;have hep:=H.ep;have he:=h.ep;exact oF (s:={ s with au:=s.au+1,r:=(pu s.x (s.au+1) s.now).1 }) ⟨hm.ws,hm.eG,hm.br,hm.st,hm.has,hm.told,hm.FN,hm.now,⟨by show s.au+1≤s.first+((i+1:Nat):Int);omega,he.2⟩,fun _=>I4 b (Nat.zero_le _),fun e=>absurd e (by show ¬s.au+1=s.first;omega),hm.pl⟩ _ _
 exact hm
theorem U7 {s:Sk}{i:Nat}(h:uF s i)(H:fK s){now:Int}(hn:gF now)(known:List Pl):uF (x9 s now known) (i+1):=by
 have hm:=h.mono (Nat.le_succ i);unfold x9;split
 ·rename_i hgt;have ht:=abR (H.rv hgt).may (h.rv hgt) hn known;exact oF (s:={ s with now:=now,r:=(dO s.r now known).1 }) ⟨hm.ws,hm.eG,hm.br,hm.st,hm.has,hm.told,hm.FN,hn,hm.ep,fun _=>ht.inv,fun e=>absurd e (by show ¬s.au=s.first;omega),hm.pl⟩ _ _
 exact⟨hm.ws,hm.eG,hm.br,hm.st,hm.has,hm.told,hm.FN,hn,hm.ep,hm.rv,hm.r0,hm.pl⟩
def I5 (s:Sk)(x:wQ):Sk:=
 if fB x.what=0∨fB x.what=1 then Fb s x.body
 else if fB x.what=7 then Ir s (vK s x.Gw)
 else if fB x.what=8 then nV s x.e x.known
 else if fB x.what=9 then Fe s
 else if fB x.what=10 then zM s
 else if fB x.what=11 then x9 s (vK s x.Gw) x.known
 else Kt s x
theorem acB {s:Sk}{i:Nat}(h:uF s i)(H:fK s)(x:wQ):uF (Kt s x) (i+1)∧fK (Kt s x):=by
 unfold Kt;split
 ·exact⟨h.mono (Nat.le_succ i),H⟩
 rename_i hne;have hpos:0<s.eG.length:=List.length_pos_iff.2 hne;have hd:uF (qK s x) i∧fK (qK s x)∧Bn s (qK s x)∧(qK s x).told=s.told:=by
  unfold qK;split
  ·exact⟨Zb h _,Uk H _,Bn.rfl' rfl rfl (Int.le_refl _) rfl rfl rfl rfl,rfl⟩
  exact⟨h,H,Bn.rfl' rfl rfl (Int.le_refl _) rfl rfl rfl rfl,rfl⟩
 obtain⟨d1,d2,d3,d4⟩:=hd;split
 ·exact⟨d1.mono (Nat.le_succ i),d2⟩
 have hk:=(IZ s x.which hpos).1;rw[getElem!_pos s.eG _ hk];have hm:=List.getElem_mem hk;refine⟨U6 d1 d2 (h.br _ hm),Uu d2 (l7 d3 (H.lt _ hm)) fun ha h0 hc=>?_⟩;rw[d4];exact H.S.br ⟨s.eG[qJ s x.which].ask,s.eG[qJ s x.which].q,s.eG[qJ s x.which].r⟩ (List.mem_map.2 ⟨_,List.mem_filter.2 ⟨hm,by simp[h0]⟩,rfl⟩) ha hc
theorem Zi {s:Sk}{i:Nat}(h:uF s i)(H:fK s)(x:wQ)(hb:x.body.length≤3000)(hk:Bo x.known):uF (I5 s x) (i+1)∧fK (I5 s x):=by
 unfold I5;split
 ·exact⟨(Zc h hb).mono (Nat.le_succ i),Yj H _⟩
 split
 ·exact⟨Ze h (DX _),Yl H _⟩
 split
 ·exact⟨(Qo h H _ _).mono (Nat.le_succ i),PI H _ _⟩
 split
 ·exact⟨(Zg h H).mono (Nat.le_succ i),Ym H⟩
 split
 ·exact⟨Zh h H,Yp H⟩
 split
 ·exact⟨U7 h H (DX _) _,Uv H _ hk⟩
 exact acB h H x
theorem U8 {l:Lg}{k:Nat}{x:Rv}(hmay:AX.d9 l=true)(h:RInv l k x)(now:Int)(known:List Pl):(dO x now known).2.length≤100:=by
 obtain⟨m1,m2,m3,m4,m5,m6⟩:=lZ hmay;have hw:x.l.w≤5:=by rw[h.hl];exact m6
 have s5:∀(f:List Fr) (n:Int),(setOf f x.l.w n).length≤5:=fun f n=>pR hw
 have gT:(aW x).ah.length≤5:=by
  have hm:=rD (x:=x) (by rw[h.hl];exact m1);rw[h.hl] at hm;exact (m3 _ hm).2.2
 have t0:(jM x now).l=x.l∧(jM x now).af=x.af:=by unfold jM;split<;>exact⟨rfl,rfl⟩
 have r0:∀y:Rv,(dW y known).1.l=y.l:=fun y=>by unfold dW;split<;>rfl
 have uG:∀y:Rv,y.l=x.l→(vz y now).2.length≤100:=fun y e=>by
  unfold vz;dsimp only
  have hy:aW y=aW x:=by unfold aW;rw[e]
  split
  ·have:=CR y (aW y).ah;rw[hy] at this ⊢;omega
  split
  ·have:=IA y (aJ y);unfold aJ at this ⊢;rw[e] at this ⊢;have:=s5 x.l.af y.n;omega
  split
  ·have:=vE y (aj y);unfold aj at this ⊢;rw[e] at this ⊢;have:=s5 y.af y.n;omega
  exact Nat.zero_le _
 unfold dO;dsimp only
 split
 ·split
  ·rw[List.length_append];have e1:(dW (jM x now) known).1.l=x.l:=by rw[r0];exact t0.1
   obtain⟨z,hz⟩:∃z:Rv,z={ (dW (jM x now) known).1 with phase:=3,born:=now,since:=now }:=⟨_,rfl⟩;have ez:z.l=x.l:=by rw[hz];exact e1
   rw[←hz];have a1:=vE z (aj z);have a2:(aj z).length≤5:=by unfold aj;rw[ez];exact s5 _ _
   have a3:=yh (y:=z) (k:=5) (fun n=>by rw[ez];exact s5 _ _) now;omega
  split
  ·exact uG _ (by rw[r0];exact t0.1)
  exact Nat.zero_le _
 split
 ·exact uG _ t0.1
 exact Nat.zero_le _
theorem Zj (s:Sk)(x:wQ){i:Nat}(h:uF s i)(H:fK s)(hi:i≤400)(hb:x.body.length≤3000)(hk:x.known.length≤1000) :
  dU prog 33 [.ptr 1 0,.pv (.agg x.c)] (Ar s) (.pv (.cO [])) (NV (I5 s x)):=by
 have hB:=h.skB H hi;unfold I5;split
 ·exact Km s x hB hb (by assumption)
 split
 ·exact Kn s x hB (by assumption)
 split
 ·exact FR s x hB hk (by assumption)
 split
 ·exact Kq s x hB (by assumption)
 split
 ·exact Ko s x hB (by assumption)
 split
 ·refine U1 s x hB (k:=i) (fun hlt=>⟨(H.rv hlt).may,h.rv hlt⟩) (by omega) hk (fun now=>?_) (by assumption);by_cases hlt:s.first<s.au
  ·exact .inl (U8 (H.rv hlt).may (h.rv hlt) now x.known)
  exact .inr hlt
 rename_i n0 n7 n8 n9 na nb;refine M9 s x hB (fun m hm=>by have:=(h.br m hm).1;omega) ⟨?_,?_,?_,?_,?_,?_,?_⟩<;>rw[beq_eq_false_iff_ne]
 ·exact fun e=>n0 (.inl e)
 ·exact fun e=>n0 (.inr e)
 ·exact n7
 ·exact n8
 ·exact n9
 ·exact na
 exact nb
theorem FV:bR prog 30 f30:=fC func30
def um (x:wQ):Bool:=decide (((List.map kX x.body).length:Int)>3000)||(decide (((List.map Pl.c x.known).length:Int)>30) || !dA 0 [⟨1,x.known⟩])
def FW (l:List wQ):Bool:=decide (((List.map wQ.c l).length:Int)>300)||l.any um
theorem U9 (l:List wQ):dB prog 30 [Ms l] (bl (FW l)):=by
 refine PC.le ?_;unfold FW;cases h0:decide (((List.map wQ.c l).length:Int)>300) with
 | true=>
   refine dP FV ?_;repeat' ((conv=>whnf);first|with_reducible apply aP|((with_reducible apply fk)<;>intro hc<;>try exact gK)|refine aN ?_|fail)
   all_goals exact aM
 |false=>
 rw[Bool.false_or];have hl:l.length≤300:=by simp only[w9,fE] at h0;omega
 refine dP FV ?_;repeat' ((conv=>whnf);first|with_reducible apply aP|((with_reducible apply fk)<;>intro hc<;>try exact gK)|refine aN ?_|fail)
 refine⟨{k:Nat // k≤l.length∧∀j (hj:j<l.length),j<k→um l[j]=false},fun⟨k,_⟩=>⟨[(0,.pv (Ms l)),(3,.pv (ii k))],1000000000,[]⟩,fun⟨k,_⟩=>l.length-k,⟨⟨0,Nat.zero_le _,fun j hj h=>absurd h (by omega)⟩,aH ?_⟩,?_⟩
 ·all_goals exact aM
 rintro⟨k,hk,hn⟩
 dsimp only
 by_cases hlt:k<l.length
 rotate_left
 ·have hke:k=l.length:=by omega
  subst hke;have d0:decide ((l.length:Int)<((List.map wQ.c l).length:Int))=false:=by rw[List.length_map];simp
  have e:l.any um=false:=List.any_eq_false.2 fun x hx=>by
   obtain⟨j,hj,rfl⟩:=List.getElem_of_mem hx;rw[hn j hj hj];decide
  rw[e];clear hn e;repeat' ((conv=>whnf);first|with_reducible apply aP|((with_reducible apply fk)<;>intro hc<;>try exact gK)|refine aN ?_|fail)
  all_goals exact aM
 have d0:decide ((k:Int)<((List.map wQ.c l).length:Int))=true:=by rw[List.length_map];simp only[iO];omega
 have eW:IntKind.i64.wrap ((k:Int)+1)=((k+1:Nat):Int):=by rw[bN (by omega) (by omega)];omega
 have hrow:=dR wQ.c l k hlt;have hany:um l[k]=true→l.any um=true:=fun e=>List.any_eq_true.2 ⟨_,List.getElem_mem hlt,e⟩
 have hstep:um l[k]=false→∀j (hj:j<l.length),j<k+1→um l[j]=false:=fun e=>lX hn fun _=>e
 clear hn;generalize l[k]=x at *;have Iy:=tN 0 [⟨1,x.known⟩];cases e1:decide (((List.map kX x.body).length:Int)>3000) with
 | true=>
   rw[hany (by unfold um;rw[e1];rfl)];clear hany hstep Iy;repeat' ((conv=>whnf);first|with_reducible apply aP|((with_reducible apply fk)<;>intro hc<;>try exact gK)|((refine⟨_,hrow,?_⟩))|refine aN ?_|fail)
   all_goals exact aM
 |false=>
 cases e2:decide (((List.map Pl.c x.known).length:Int)>30) with
 | true=>
   rw[hany (by unfold um;rw[e1,e2];rfl)];clear hany hstep Iy;repeat' ((conv=>whnf);first|with_reducible apply aP|((with_reducible apply fk)<;>intro hc<;>try exact gK)|((refine⟨_,hrow,?_⟩))|refine aN ?_|fail)
   all_goals exact aM
 |false=>
 cases e3:dA 0 [⟨1,x.known⟩] with
 | false=>
   rw[hany (by unfold um;rw[e1,e2,e3];rfl)];rw[e3] at Iy;clear hany hstep;repeat' ((conv=>whnf);first|with_reducible apply aP|((with_reducible apply fk)<;>intro hc<;>try exact gK)|((refine⟨_,hrow,?_⟩))|(apply bA;refine⟨_,aG (Iy) ?_,?_⟩;exact bD)|refine aN ?_|fail)
   all_goals exact aM
 | true=>
   have hstep:=hstep (by unfold um;rw[e1,e2,e3];rfl);rw[e3] at Iy;clear hany;replace hstep:=Hd.mk hstep;repeat' ((conv=>whnf);first|with_reducible apply aP|((with_reducible apply fk)<;>intro hc<;>try exact gK)|((refine⟨_,hrow,?_⟩))|(apply bA;refine⟨_,aG (Iy) ?_,?_⟩;exact bD)|refine aN ?_|fail)
   refine⟨⟨k+1,hlt,hstep.out⟩,dec_lt hlt,aH ?_⟩;repeat' first|apply And.intro|exact aM|fail
   all_goals try (conv=>whnf)
   all_goals exact eW
theorem lH:bR prog 32 f32:=fC func32
def yH (x:Lg)(au:Int):Option Sk:=
 if Cq x.af||(!AX.d9 x||(decide (((List.map Fr.c x.af).length:Int)>1)||decide (au>1152921504606846976))) then none
 else (Fp x au).map fun w=>JZ x w au
theorem Zk (x:Lg)(au:Int)(hx:lgR x)(h:yH x au=none):dB prog 32 [.agg x.c,uu au] (.sc (.pointer none)):=by
 refine PC.le ?_;have gT:=Db x.af;have Aq:=Df x ⟨hx.2.2.2.1.1,hx.2.2.2.1.2,hx.2.2.2.2.1.1⟩;unfold yH at h;cases e1:Cq x.af with
 | true=>
   rw[e1] at gT;clear h Aq;refine dP lH ?_;repeat' ((conv=>whnf);first|with_reducible apply aP|((with_reducible refine fk (fun hc=>?_) fun hc=>?_)<;>first|exact absurd hc (by decide)|(exfalso;simp only[*,reduceCtorEq,Bool.not_true,Bool.not_false,Bool.true_and,Bool.and_true,Bool.false_and,Bool.and_false] at hc;done)|skip)|(apply bA;refine⟨_,aG (gT) ?_,?_⟩;exact bD)|refine aN ?_|fail)
   all_goals exact aM
 |false=>
 obtain⟨hfr,hok⟩:=LW hx e1;rw[e1] at gT;cases e2:AX.d9 x with
 | false=>
   rw[e2] at Aq;clear h;refine dP lH ?_;repeat' ((conv=>whnf);first|with_reducible apply aP|((with_reducible refine fk (fun hc=>?_) fun hc=>?_)<;>first|exact absurd hc (by decide)|(exfalso;simp only[*,reduceCtorEq,Bool.not_true,Bool.not_false,Bool.true_and,Bool.and_true,Bool.false_and,Bool.and_false] at hc;done)|skip)|(apply bA;refine⟨_,aG (gT) ?_,?_⟩;exact bD)|(apply bA;refine⟨_,aG (Aq) ?_,?_⟩;exact bD)|refine aN ?_|fail)
   all_goals exact aM
 |true=>
 have hnew:=Zl x au hok (fun hm=>by
  obtain⟨m1,m2,m3,m4,m5,m6⟩:=lZ hm;exact⟨by omega,fun f hf=>by have:=m3 f hf;omega,hfr⟩)
 rw[e2] at Aq;cases e3:decide (((List.map Fr.c x.af).length:Int)>1) with
 | true=>
   clear h hnew;refine dP lH ?_;repeat' ((conv=>whnf);first|with_reducible apply aP|((with_reducible refine fk (fun hc=>?_) fun hc=>?_)<;>first|exact absurd hc (by decide)|(exfalso;simp only[*,reduceCtorEq,Bool.not_true,Bool.not_false,Bool.true_and,Bool.and_true,Bool.false_and,Bool.and_false] at hc;done)|skip)|(apply bA;refine⟨_,aG (gT) ?_,?_⟩;exact bD)|(apply bA;refine⟨_,aG (Aq) ?_,?_⟩;exact bD)|refine aN ?_|fail)
   all_goals exact aM
 |false=>
 cases e4:decide (au>1152921504606846976) with
 | true=>
   clear h hnew;refine dP lH ?_;repeat' ((conv=>whnf);first|with_reducible apply aP|((with_reducible refine fk (fun hc=>?_) fun hc=>?_)<;>first|exact absurd hc (by decide)|(exfalso;simp only[*,reduceCtorEq,Bool.not_true,Bool.not_false,Bool.true_and,Bool.and_true,Bool.false_and,Bool.and_false] at hc;done)|skip)|(apply bA;refine⟨_,aG (gT) ?_,?_⟩;exact bD)|(apply bA;refine⟨_,aG (Aq) ?_,?_⟩;exact bD)|refine aN ?_|fail)
   all_goals exact aM
 | false=>
   rw[e1,e2,e3,e4] at h;simp only[Bool.not_true,Bool.or_self,Bool.false_eq_true,↓reduceIte,Option.map_eq_none_iff] at h;rw[h] at hnew;simp only[Option.getD_none,Option.isSome_none,Bool.false_eq_true,↓reduceIte] at hnew;clear hok hfr hx h;refine dP lH ?_;repeat' ((conv=>whnf);first|with_reducible apply aP|((with_reducible refine fk (fun hc=>?_) fun hc=>?_)<;>first|exact absurd hc (by decide)|(exfalso;simp only[*,reduceCtorEq,Bool.not_true,Bool.not_false,Bool.true_and,Bool.and_true,Bool.false_and,Bool.and_false] at hc;done)|skip)|(apply bA;refine⟨_,aG (gT) ?_,?_⟩;exact bD)|(apply bA;refine⟨_,aG (Aq) ?_,?_⟩;exact bD)|(apply bA;refine⟨_,aG (hnew) ?_,?_⟩;exact bD)|refine aN ?_|fail)
   all_goals exact aM
def ajG (s:Sk):List (Nat×aF):=[(1001,.var (skA s (.aO 1002 0) (.aO 1003 0) (.aO 1004 0) (.aO 1005 0) (.aO 1006 0))),(1002,.arr 95 0 21 (s.eG.map Lk.c)),(1003,.arr 202 0 4 (s.has.map Hp.c)),(1004,.arr 202 0 4 (s.told.map Hp.c)),(1005,.arr 221 0 4 (s.aQ.map Fk.c)),(1006,.arr 9 0 1 (s.bT.map zW))]
theorem Zm (x:Lg)(au:Int)(hx:lgR x)(s:Sk)(h:yH x au=some s):dU prog 32 [.pv (.agg x.c),.pv (uu au)] [] (.ptr 1001 0) (ajG s):=by
 have gT:=Db x.af;have Aq:=Df x ⟨hx.2.2.2.1.1,hx.2.2.2.1.2,hx.2.2.2.2.1.1⟩;unfold yH at h;split at h
 ·cases h
 rename_i hc;simp only[Bool.or_eq_true,not_or,Bool.not_eq_true,Bool.not_eq_false'] at hc;obtain⟨e1,e2,e3,e4⟩:=hc;obtain⟨w,hw,rfl⟩:=Option.map_eq_some_iff.1 h;obtain⟨hfr,hok⟩:=LW hx e1;obtain⟨m1,m2,m3,m4,m5,m6⟩:=lZ e2;have hnew:=Zl x au hok (fun hm=>⟨by omega,fun f hf=>by have:=m3 f hf;omega,hfr⟩);rw[hw] at hnew;simp only[Option.getD_some,Option.isSome_some,↓reduceIte] at hnew;have hcp:=Dg x.af (by omega) (fun f hf=>by have:=m3 f hf;omega);rw[e1] at gT;rw[e2] at Aq;have hraw:dU prog 32 [.pv (.agg x.c),.pv (uu au)] [] (.ptr 1001 0) [(1001,.var ((skA (JZ x w au) (.aO 1002 0) (.aO 1003 0) (.aO 1004 0) (.aO 1005 0) (.aO 1006 0)).set 3 (.aO 1007 0))),(1002,.arr 95 0 21 ([])),(1003,.arr 202 0 4 ([])),(1004,.arr 202 0 4 ([])),(1005,.arr 221 0 4 ([])),(1006,.arr 9 0 1 ([])),(1007,.arr 48 0 2 (x.af.map Fr.c))]:=by
  clear hok hfr hx h m1 m2 m3 m4 m5 m6 hw e1 e2;refine eO lH ?_;repeat' ((conv=>whnf);first|with_reducible apply aP|((with_reducible refine fk (fun hc=>?_) fun hc=>?_)<;>first|exact absurd hc (by decide)|(exfalso;simp only[*,reduceCtorEq,Bool.not_true,Bool.not_false,Bool.true_and,Bool.and_true,Bool.false_and,Bool.and_false] at hc;done)|skip)|(apply bA;refine⟨_,aG (gT) ?_,?_⟩;exact bD)|(apply bA;refine⟨_,aG (Aq) ?_,?_⟩;exact bD)|(apply bA;refine⟨_,aG (hnew) ?_,?_⟩;exact bD)|(apply dn;refine⟨_,_,av (hcp) ?_,?_⟩;exact bD)|refine aN ?_|fail)
  refine⟨_,_,⟨rfl,rfl⟩,?_⟩;all_goals exact aM
 refine gu hraw [1007] ?_
 (conv=>whnf)
 refine⟨_,_,⟨rfl,rfl⟩,?_⟩;all_goals exact aM
theorem Va {x:Lg}{au:Int}{s:Sk}(h:yH x au=some s):uF s 0∧fK s:=by
 unfold yH at h;split at h
 ·cases h
 rename_i hc;simp only[Bool.or_eq_true,not_or,Bool.not_eq_true,Bool.not_eq_false',w9,fE] at hc;obtain⟨e1,e2,e3,e4⟩:=hc;obtain⟨w,hw,rfl⟩:=Option.map_eq_some_iff.1 h;have hI:=Yq (by omega) hw;have hf:=hI.f0;change 0≤au at hf
 refine⟨⟨acC hw,Nat.zero_le _,(fun m hm=>by cases hm),(fun b hb=>by cases hb),Nat.le_refl _,Nat.le_refl _,⟨Nat.le_refl _,fun f hf=>by cases hf⟩,⟨Int.le_refl _,by show (0:Int)≤18446744073709551615;omega⟩,⟨by show au≤au+((0:Nat):Int);omega,by show au≤1152921504606846976;omega⟩,(fun hlt=>absurd hlt (by show ¬au<au;omega)),(fun _=>⟨rfl,rfl⟩),(rG e2).1⟩,hI⟩
theorem vM:bR prog 6 f6:=fC func6
def skL (s:Sk):List (Nat×aF):=[(1020,.var (skA s (.aO 1021 0) (.aO 1022 0) (.aO 1023 0) (.aO 1024 0) (.aO 1025 0))),(1021,.arr 95 0 21 (s.eG.map Lk.c)),(1022,.arr 202 0 4 (s.has.map Hp.c)),(1023,.arr 202 0 4 (s.told.map Hp.c)),(1024,.arr 221 0 4 (s.aQ.map Fk.c)),(1025,.arr 9 0 1 (s.bT.map zW))]
theorem Zn {l:List wQ}(h:FW l=false):l.length≤300∧∀x∈l,x.body.length≤3000∧x.known.length≤30∧Bo x.known:=by
 simp only[FW,Bool.or_eq_false_iff,w9,fE,List.any_eq_false] at h;refine⟨by omega,fun x hx=>?_⟩;have:=h.2 x hx;simp only[um,Bool.not_eq_true,Bool.or_eq_false_iff,w9,fE,Bool.not_eq_false'] at this;obtain⟨a,b,c⟩:=this;refine⟨by omega,by omega,fun p hp=>?_⟩;have:=(j3 c).2 _ (List.mem_singleton.2 rfl);simp only[kW,Bool.and_eq_true,List.all_eq_true] at this;exact this.2.2.1 p hp
theorem Qp (x:Lg)(au:Int)(l:List wQ)(hx:lgR x) :
  dB prog 6 [.agg x.c,uu au,Ms l] (bl true):=by
 refine PC.le ?_;have hlo:=U9 l;cases e0:FW l with
 | true=>
   rw[e0] at hlo;refine dP vM ?_;repeat' ((conv=>whnf);first|with_reducible apply aP|((with_reducible apply fk)<;>intro hc<;>try exact gK)|(apply bA;refine⟨_,aG (hlo) ?_,?_⟩;exact bD)|(apply bA;refine⟨_,yI,?_⟩)|refine aN ?_|fail)
   all_goals exact aM
 |false=>
 rw[e0] at hlo;cases eb:yH x au with
 | none=>
   have hbn:=Zk x au hx eb;clear eb e0 hx;refine dP vM ?_;repeat' ((conv=>whnf);first|with_reducible apply aP|((with_reducible apply fk)<;>intro hc<;>try exact gK)|(apply bA;refine⟨_,aG (hlo) ?_,?_⟩;exact bD)|(apply bA;refine⟨_,aG (hbn) ?_,?_⟩;exact bD)|(apply bA;refine⟨_,yI,?_⟩)|refine aN ?_|fail)
   all_goals exact aM
 |some s0=>
 have hbs:=Zm x au hx s0 eb;obtain⟨t0,i0⟩:=Va eb;obtain⟨hlen,hst⟩:=Zn e0;clear eb e0 hx;refine dP vM ?_;repeat' ((conv=>whnf);first|with_reducible apply aP|((with_reducible apply fk)<;>intro hc<;>try exact gK)|rewrite[pY]|rewrite[p8]|(apply bA;refine⟨_,aG (hlo) ?_,?_⟩;exact bD)|(apply dn;refine⟨_,_,av (hbs) ?_,?_⟩;exact bD)|refine aN ?_|fail)
 clear hlo hbs;refine⟨{p:Nat×Sk // p.1≤l.length∧uF p.2 p.1∧fK p.2},fun⟨(k,s),_⟩=>⟨[(2,.pv (Ms l)),(7,.ptr 1020 0),(8,.pv (ii k))],1000000000,skL s⟩,fun⟨(k,_),_⟩=>l.length-k,⟨⟨(0,s0),Nat.zero_le _,t0,i0⟩,aH ?_⟩,?_⟩
 ·all_goals exact aM
 clear t0 i0;rintro⟨⟨k,s⟩,hk,hs,hi⟩
 simp only at hk hs hi;by_cases hlt:k<l.length
 rotate_left
 ·have hke:k=l.length:=by omega
  subst hke;have d0:decide ((l.length:Int)<((List.map wQ.c l).length:Int))=false:=by rw[List.length_map];simp
  clear hst;repeat' ((conv=>whnf);first|with_reducible apply aP|((with_reducible apply fk)<;>intro hc<;>try exact gK)|(apply bA;refine⟨_,yI,?_⟩)|refine aN ?_|fail)
  all_goals exact aM
 have d0:decide ((k:Int)<((List.map wQ.c l).length:Int))=true:=by rw[List.length_map];simp only[iO];omega
 have eW:IntKind.i64.wrap ((k:Int)+1)=((k+1:Nat):Int):=by rw[bN (by omega) (by omega)];omega
 have hrow:=dR wQ.c l k hlt;obtain⟨b3,b30,bk⟩:=hst _ (List.getElem_mem hlt);obtain⟨y,hc0⟩:∃y,l[k]=y:=⟨_,rfl⟩;rw[hc0] at hrow b3 b30 bk;clear hc0 hst;have hdo:=Zj s y hs hi (by omega) b3 (by omega);obtain⟨hs',hi'⟩:=Zi hs hi y b3 bk;obtain⟨s',he⟩:∃s',I5 s y=s':=⟨_,rfl⟩;rw[he] at hdo hs' hi';clear he;have J7:s'.r.af.length≤1000∧∀f∈s'.r.af,f.ah.length≤1000:=by
  rcases Int.lt_or_eq_of_le hi'.ep with g|g
  ·have:=hs'.rv g;exact⟨by have:=this.fl;omega,fun f hf=>by have:=(this.fr f hf).2.2;omega⟩
  rw[(hs'.r0 g.symm).2];exact⟨Nat.zero_le _,fun f hf=>by cases hf⟩
 have hke:=Y8 s' (hs'.skB hi' (by omega)) hi' (fun e=>(hs'.r0 e).1) J7.1 J7.2;clear J7 b3 b30 bk;replace hs':=Hd.mk hs';replace hi':=Hd.mk hi';repeat' ((conv=>whnf);first|with_reducible apply aP|((with_reducible apply fk)<;>intro hc<;>try exact gK)|rewrite[pY]|rewrite[p8]|((refine⟨_,hrow,?_⟩))|(apply dn;refine⟨_,_,av (hdo) ?_,?_⟩;exact bD)|(apply dn;refine⟨_,_,av (hke) ?_,?_⟩;exact bD)|refine aN ?_|fail)
 refine⟨⟨(k+1,s'),hlt,hs'.out,hi'.out⟩,dec_lt hlt,aH ?_⟩;repeat' first|apply And.intro|exact aM|fail
 all_goals try (conv=>whnf)
 all_goals exact eW
def plR (x:Pl):Prop:=LV x.node∧gF x.aI
def frR (x:Fr):Prop:=gF x.first∧∀p∈x.ah,plR p
def lgF (l:Lg):Prop:=gF l.id∧LV l.w∧LV l.a∧LV l.closed∧gF l.last∧∀f∈l.af,frR f
theorem lgF.r {l:Lg}(h:lgF l):lgR l:=⟨h.1,h.2.1,h.2.2.1,h.2.2.2.1,h.2.2.2.2.1,fun f hf=>(h.2.2.2.2.2 f hf).1⟩
section
variable (w:World)
theorem rdI:Rd prog w 3 1 (fun row=>∃i,row=[ii i]∧LV i):=
 (O7 underlying3 (by kernel_rfl)).imp fun row _ ⟨i,e,h⟩=>⟨i,e,wf_i64 h⟩
theorem rdU:Rd prog w 22 1 (fun row=>∃i,row=[uu i]∧gF i):=
 (O7 underlying22 (by kernel_rfl)).imp fun row _ ⟨i,e,h⟩=>⟨i,e,wf_u64 h⟩
theorem ahx:Rd prog w 29 1 (fun row=>∃l:List UInt8,row=[Cn l]):=
 (zu underlying29 (by kernel_rfl) (by decide) (O7 (k:=.u8) underlying5 (by kernel_rfl))).imp fun row _ ⟨rows,e,h⟩=>by
  obtain⟨l,rfl,_⟩:=zw (c:=kX) (R:=fun _=>True) (rows:=rows) fun r hr=>by
   obtain⟨_,i,rfl,hi⟩:=h r hr;have:=wf_u8 hi;refine⟨UInt8.ofNat i.toNat,?_,trivial⟩;simp only[kX,UInt8.toNat_ofNat'];rw[Nat.mod_eq_of_lt (by omega),Int.toNat_of_nonneg this.1]
  exact⟨l,e⟩
theorem ajM:Rd prog w 27 2 (fun row=>∃x:Pl,row=x.c∧plR x):=
 (wB (sp:=[(1,_),(1,_)]) underlying27 (by kernel_rfl) ⟨rfl,rdI w,rfl,rdU w,trivial⟩).imp fun row _ h=>by
  obtain⟨_,_,rfl,_,⟨i,rfl,hi⟩,_,_,rfl,_,⟨j,rfl,hj⟩,rfl⟩:=h;exact⟨⟨i,j⟩,rfl,hi,hj⟩
theorem adL:Rd prog w 28 1 (fun row=>∃l:List Pl,row=[ax l]∧∀x∈l,plR x):=
 (zu underlying28 (by kernel_rfl) (by decide) (ajM w)).imp fun row _ ⟨rows,e,h⟩=>by
  obtain⟨l,rfl,hl⟩:=zw fun r hr=>(h r hr).2
  exact⟨l,e,hl⟩
theorem ajN:Rd prog w 48 2 (fun row=>∃x:Fr,row=x.c∧frR x):=
 (wB (sp:=[(1,_),(1,_)]) underlying48 (by kernel_rfl) ⟨rfl,rdU w,rfl,adL w,trivial⟩).imp fun row _ h=>by
  obtain⟨_,_,rfl,_,⟨i,rfl,hi⟩,_,_,rfl,_,⟨l,rfl,hl⟩,rfl⟩:=h;exact⟨⟨i,l⟩,rfl,hi,hl⟩
theorem ahy:Rd prog w 23 1 (fun row=>∃l:List Fr,row=[cB l]∧∀x∈l,frR x):=
 (zu underlying23 (by kernel_rfl) (by decide) (ajN w)).imp fun row _ ⟨rows,e,h⟩=>by
  obtain⟨l,rfl,hl⟩:=zw fun r hr=>(h r hr).2
  exact⟨l,e,hl⟩
theorem ajH:Rd prog w 25 6 (fun row=>∃x:Lg,row=x.c∧lgF x):=
 (wB (sp:=[(1,_),(1,_),(1,_),(1,_),(1,_),(1,_)]) underlying25 (by kernel_rfl) ⟨rfl,rdU w,rfl,rdI w,rfl,rdI w,rfl,ahy w,rfl,rdI w,rfl,rdU w,trivial⟩).imp fun row _ h=>by
  obtain⟨_,_,rfl,_,⟨i1,rfl,h1⟩,_,_,rfl,_,⟨i2,rfl,h2⟩,_,_,rfl,_,⟨i3,rfl,h3⟩,_,_,rfl,_,⟨l,rfl,hl⟩,_,_,rfl,_,⟨i4,rfl,h4⟩,_,_,rfl,_,⟨i5,rfl,h5⟩,rfl⟩:=h;exact⟨⟨i1,i2,i3,l,i4,i5⟩,rfl,h1,h2,h3,h4,h5,hl⟩
theorem ahz:Rd prog w 81 7 (fun row=>∃x:wQ,row=x.c∧True):=
 (wB (sp:=[(1,_),(1,_),(1,_),(1,_),(1,_),(1,_),(1,_)]) underlying81 (by kernel_rfl) ⟨rfl,rdI w,rfl,rdI w,rfl,rdI w,rfl,rdI w,rfl,rdI w,rfl,ahx w,rfl,adL w,trivial⟩).imp fun row _ h=>by
  obtain⟨_,_,rfl,_,⟨i1,rfl,h1⟩,_,_,rfl,_,⟨i2,rfl,h2⟩,_,_,rfl,_,⟨i3,rfl,h3⟩,_,_,rfl,_,⟨i4,rfl,h4⟩,_,_,rfl,_,⟨i5,rfl,h5⟩,_,_,rfl,_,⟨b,rfl⟩,_,_,rfl,_,⟨g,rfl,hg⟩,rfl⟩:=h;exact⟨⟨i1,i2,i3,i4,i5,b,g⟩,rfl,trivial⟩
theorem afg:Rd prog w 75 1 (fun row=>∃l:List wQ,row=[Ms l]∧∀x∈l,True):=
 (zu underlying75 (by kernel_rfl) (by decide) (ahz w)).imp fun row _ ⟨rows,e,h⟩=>by
  obtain⟨l,rfl,hl⟩:=zw fun r hr=>(h r hr).2
  exact⟨l,e,hl⟩
end
end Go.Proofs.YtfoiekbkkbnpkaaGreat.Tb
end
