/-
  Contracts of functions of the program and of the document, each for every input that its premises name.
-/
import Derived.Test.YtfoiekbkkbnpkaaGreatBc
import Derived.Test.YtfoiekbkkbnpkaaGreatAg
import Derived.Test.YtfoiekbkkbnpkaaGreatAf
import Derived.Test.YtfoiekbkkbnpkaaGreatBb
import Derived.Test.YtfoiekbkkbnpkaaGreatProg
set_option linter.unusedSectionVars false
set_option linter.unusedVariables false
set_option linter.unusedSimpArgs false
set_option maxRecDepth 100000
set_option maxHeartbeats 4000000
section
open Go Go.Proofs.Tryz Go.AX
namespace Go.Proofs.YtfoiekbkkbnpkaaGreat.Tb
theorem uI (s:Sg)(x:Stp)(h:WB s)(lq:0<s.bZ.length)(hpl:s.bZ.length≤1000)(hpb:∀f∈s.bZ,f.ah.length≤1000)(hm:cZ x.what=8) :
  lg prog 23 [.ptr 1 0,.pv (.agg x.c)] (QB s) (.pv (.fM [])) (Ql (j5 s (!(jd x.code 1==0)))):=by
 refine xP ?_ rfl;have hf:∀i:Int,(cZ x.what==i)=(8==i):=fun i=>by rw[hm]
 unfold cZ at hm hf;have f0:=hf 0;have f1:=hf 1;have f6:=hf 6;have f7:=hf 7;have f8:=hf 8;simp only[Int.reduceBEq] at f0 f1 f6 f7 f8;clear hm hf h;cases a1:(s.ask.first==0) with
 | true=>
   have e:j5 s (!(jd x.code 1==0))=s:=by unfold j5;rw[if_pos (.inl (by simpa using a1))]
   rw[e];refine nD eP ?_;repeat' ((conv=>whnf);first|with_reducible apply aQ|((with_reducible apply fk)<;>intro hc<;>try exact dK)|((refine⟨by decide,?_⟩))|refine aM ?_|fail)
   refine⟨_,_,⟨rfl,rfl⟩,?_⟩;all_goals exact aK
 |false=>
 cases a2:decide (s.taken>0) with
 | true=>
   have e:j5 s (!(jd x.code 1==0))=s:=by unfold j5;rw[if_pos (.inr (by simpa using a2))]
   rw[e];refine nD eP ?_;repeat' ((conv=>whnf);first|with_reducible apply aQ|((with_reducible apply fk)<;>intro hc<;>try exact dK)|((refine⟨by decide,?_⟩))|refine aM ?_|fail)
   refine⟨_,_,⟨rfl,rfl⟩,?_⟩;all_goals exact aK
 |false=>
 have GU:=sV s.bZ (by omega) (fun f hf=>Nat.le_trans (hpb f hf) (by omega));have NA:=vG s.w.l.w (bn s.bZ s.ask);have e:j5 s (!(jd x.code 1==0))=if (((jd x.code 1==0)&&decide (s.ask.first≥(aO s.bZ).first))&&bL s.w.l.w (bn s.bZ s.ask))=true then { s with bZ:=bn s.bZ s.ask,taken:=1 } else { s with taken:=2 }:=by
  unfold j5;rw[if_neg (by
   simp only[beq_eq_false_iff_ne,ne_eq,Au] at a1 a2;omega),Bool.not_not,Bool.and_assoc]
 rw[e];clear e hpb;obtain⟨k,hk,eI,hr⟩:=mY s.bZ lq (by omega);have hk1:s.bZ.length=k+1:=by
  rw[List.length_map,bE (by omega) (by omega)] at eI;omega
 have hkm:k<(s.bZ.map Fr.c).length:=by rw[List.length_map];exact hk
 obtain⟨Zj,Ml⟩:∃p,bn s.bZ s.ask=p:=⟨_,rfl⟩;rw[Ml] at NA ⊢;obtain⟨lf,iH⟩:∃f,aO s.bZ=f:=⟨_,rfl⟩;unfold bn at Ml;rw[iH] at Ml hr ⊢;clear iH;unfold jd;obtain⟨cd,hcd⟩:∃c,(IntKind.i64.wrap ((BitVec.toNat (BitVec.ofInt IntKind.i64.bits x.code &&& BitVec.ofInt IntKind.i64.bits 1):Nat):Int)==0)=c:=⟨_,rfl⟩;rw[hcd];obtain⟨mf,UO⟩:∃m,bL s.w.l.w Zj=m:=⟨_,rfl⟩;rw[UO] at NA ⊢;obtain⟨ge,hge⟩:∃g,decide (s.ask.first≥lf.first)=g:=⟨_,rfl⟩;rw[hge];have hkl:k=s.bZ.length-1:=by omega
 obtain⟨z,hz⟩:∃z,((cd&&ge)&&mf)=z:=⟨_,rfl⟩;rw[hz];cases e1:(lf.first==s.ask.first)
 ·have hle:Zj.map Fr.c=s.bZ.map Fr.c++[[uu s.ask.first,dO s.ask.ah]]:=by
   rw[←Ml,e1];simp only[Bool.false_eq_true,↓reduceIte,zma,zmc,Yk];rfl
  rw[eT,hle] at NA;have Ah:=NA;clear NA Ml;cases cd<;>cases ge<;>cases mf
  all_goals
   subst hz;refine nD eP ?_;repeat' ((conv=>whnf);first|fail|((with_reducible apply fk)<;>intro hc<;>try exact dK)|rewrite[eI]|rewrite[qO]|rewrite[qP]|((refine⟨by decide,?_⟩))|(apply iC;refine⟨_,_,aN (GU) ?_,?_⟩;exact dx)|((refine⟨_,hr,?_⟩))|(((with_reducible apply And.intro);focus (simp only[fe,mH,mI,Int.toNat_natCast,mZ,List.length_take,List.length_drop];omega)))|refine aM ?_|fail)
   refine Or.inl ?_;repeat' ((conv=>whnf);first|fail|((with_reducible apply fk)<;>intro hc<;>try exact dK)|rewrite[eI]|rewrite[qO]|rewrite[qP]|((refine⟨by decide,?_⟩))|(apply iC;refine⟨_,_,aN (GU) ?_,?_⟩;exact dx)|((refine⟨_,hr,?_⟩))|(((with_reducible apply And.intro);focus (simp only[fe,mH,mI,Int.toNat_natCast,mZ,List.length_take,List.length_drop];omega)))|refine aM ?_|fail)
   refine Or.inl ?_;repeat' ((conv=>whnf);first|fail|((with_reducible apply fk)<;>intro hc<;>try exact dK)|rewrite[eI]|rewrite[qO]|rewrite[qP]|((refine⟨by decide,?_⟩))|(apply iC;refine⟨_,_,aN (GU) ?_,?_⟩;exact dx)|((refine⟨_,hr,?_⟩))|(((with_reducible apply And.intro);focus (simp only[fe,mH,mI,Int.toNat_natCast,mZ,List.length_take,List.length_drop];omega)))|refine aM ?_|fail)
   refine Or.inl ?_;repeat' ((conv=>whnf);first|fail|((with_reducible apply fk)<;>intro hc<;>try exact dK)|rewrite[eI]|rewrite[qO]|rewrite[qP]|((refine⟨by decide,?_⟩))|(apply iC;refine⟨_,_,aN (GU) ?_,?_⟩;exact dx)|((refine⟨_,hr,?_⟩))|(((with_reducible apply And.intro);focus (simp only[fe,mH,mI,Int.toNat_natCast,mZ,List.length_take,List.length_drop];omega)))|refine aM ?_|fail)
   refine Or.inl ?_;repeat' ((conv=>whnf);first|fail|((with_reducible apply fk)<;>intro hc<;>try exact dK)|rewrite[eI]|rewrite[qO]|rewrite[qP]|((refine⟨by decide,?_⟩))|(apply iC;refine⟨_,_,aN (GU) ?_,?_⟩;exact dx)|((refine⟨_,hr,?_⟩))|(((with_reducible apply And.intro);focus (simp only[fe,mH,mI,Int.toNat_natCast,mZ,List.length_take,List.length_drop];omega)))|refine aM ?_|fail)
   refine Or.inl ?_;repeat' ((conv=>whnf);first|fail|((with_reducible apply fk)<;>intro hc<;>try exact dK)|rewrite[eI]|rewrite[qO]|rewrite[qP]|((refine⟨by decide,?_⟩))|(apply iC;refine⟨_,_,aN (GU) ?_,?_⟩;exact dx)|((refine⟨_,hr,?_⟩))|(((with_reducible apply And.intro);focus (simp only[fe,mH,mI,Int.toNat_natCast,mZ,List.length_take,List.length_drop];omega)))|refine aM ?_|fail)
   refine Or.inr ⟨Unit,fun _=>⟨[(0,.ptr 1 0),(13,.pv (eT Zj)),(255,.pv (bl ((((IntKind.i64.wrap ((BitVec.toNat (BitVec.ofInt IntKind.i64.bits x.code &&& BitVec.ofInt IntKind.i64.bits 1):Nat):Int)==0))&&decide (s.ask.first≥lf.first))&&bL s.w.l.w Zj)))],1000000000,stM { s with taken:=2 }⟩,?_,fun _=>?_⟩
   ·repeat' ((conv=>whnf);first|with_reducible apply aQ|((with_reducible apply fk)<;>intro hc<;>try exact dK)|rewrite[eI]|rewrite[qO]|rewrite[qP]|(apply bC;refine⟨_,aL (Ah) ?_,?_⟩;exact dx)|((refine⟨_,hr,?_⟩))|(((with_reducible apply And.intro);focus (simp only[fe,mH,mI,Int.toNat_natCast,mZ,List.length_take,List.length_drop];omega)))|refine aM ?_|fail)
    refine⟨(),EW [1001032004] ?_⟩;repeat' first|apply And.intro|exact aK|fail
    all_goals try (conv=>whnf)
    all_goals first
     |(rw[hcd,hge,UO];rfl)
     |(rw[hle];exact aC _)
     |skip
   rw[hcd,hge,UO];repeat' ((conv=>whnf);first|with_reducible apply aQ|((with_reducible apply fk)<;>intro hc<;>try exact dK)|refine aM ?_|fail)
   refine⟨_,_,⟨rfl,rfl⟩,?_⟩;all_goals exact aK
 have hle:Zj.map Fr.c=jM (List.take ((k:Nat):Int).toNat (s.bZ.map Fr.c)++([[uu s.ask.first,dO s.ask.ah]]++List.drop (((k:Nat):Int).toNat+[[uu s.ask.first,dO s.ask.ah]].length) (s.bZ.map Fr.c))) 0 (((k:Nat):Int).toNat+[[uu s.ask.first,dO s.ask.ah]].length):=by
  rw[←Ml,e1];simp only[↓reduceIte,jM,List.drop_zero,Int.toNat_natCast,List.length_singleton,Nat.sub_zero];rw[List.drop_eq_nil_of_le (by rw[List.length_map];omega),List.append_nil,List.take_of_length_le (by simp only[mZ,List.length_take,fe,List.length_singleton];omega),List.map_append,List.dropLast_eq_take,←hkl,List.map_take];rfl
 rw[eT,hle] at NA;have Ah:=NA;clear NA Ml;cases cd<;>cases ge<;>cases mf
 all_goals
  subst hz;refine nD eP ?_;repeat' ((conv=>whnf);first|fail|((with_reducible apply fk)<;>intro hc<;>try exact dK)|rewrite[eI]|rewrite[qO]|rewrite[qP]|((refine⟨by decide,?_⟩))|(apply iC;refine⟨_,_,aN (GU) ?_,?_⟩;exact dx)|((refine⟨_,hr,?_⟩))|(((with_reducible apply And.intro);focus (simp only[fe,mH,mI,Int.toNat_natCast,mZ,List.length_take,List.length_drop];omega)))|refine aM ?_|fail)
  refine Or.inl ?_;repeat' ((conv=>whnf);first|fail|((with_reducible apply fk)<;>intro hc<;>try exact dK)|rewrite[eI]|rewrite[qO]|rewrite[qP]|((refine⟨by decide,?_⟩))|(apply iC;refine⟨_,_,aN (GU) ?_,?_⟩;exact dx)|((refine⟨_,hr,?_⟩))|(((with_reducible apply And.intro);focus (simp only[fe,mH,mI,Int.toNat_natCast,mZ,List.length_take,List.length_drop];omega)))|refine aM ?_|fail)
  refine Or.inl ?_;repeat' ((conv=>whnf);first|fail|((with_reducible apply fk)<;>intro hc<;>try exact dK)|rewrite[eI]|rewrite[qO]|rewrite[qP]|((refine⟨by decide,?_⟩))|(apply iC;refine⟨_,_,aN (GU) ?_,?_⟩;exact dx)|((refine⟨_,hr,?_⟩))|(((with_reducible apply And.intro);focus (simp only[fe,mH,mI,Int.toNat_natCast,mZ,List.length_take,List.length_drop];omega)))|refine aM ?_|fail)
  refine Or.inl ?_;repeat' ((conv=>whnf);first|fail|((with_reducible apply fk)<;>intro hc<;>try exact dK)|rewrite[eI]|rewrite[qO]|rewrite[qP]|((refine⟨by decide,?_⟩))|(apply iC;refine⟨_,_,aN (GU) ?_,?_⟩;exact dx)|((refine⟨_,hr,?_⟩))|(((with_reducible apply And.intro);focus (simp only[fe,mH,mI,Int.toNat_natCast,mZ,List.length_take,List.length_drop];omega)))|refine aM ?_|fail)
  refine Or.inl ?_;repeat' ((conv=>whnf);first|fail|((with_reducible apply fk)<;>intro hc<;>try exact dK)|rewrite[eI]|rewrite[qO]|rewrite[qP]|((refine⟨by decide,?_⟩))|(apply iC;refine⟨_,_,aN (GU) ?_,?_⟩;exact dx)|((refine⟨_,hr,?_⟩))|(((with_reducible apply And.intro);focus (simp only[fe,mH,mI,Int.toNat_natCast,mZ,List.length_take,List.length_drop];omega)))|refine aM ?_|fail)
  refine Or.inl ?_;repeat' ((conv=>whnf);first|fail|((with_reducible apply fk)<;>intro hc<;>try exact dK)|rewrite[eI]|rewrite[qO]|rewrite[qP]|((refine⟨by decide,?_⟩))|(apply iC;refine⟨_,_,aN (GU) ?_,?_⟩;exact dx)|((refine⟨_,hr,?_⟩))|(((with_reducible apply And.intro);focus (simp only[fe,mH,mI,Int.toNat_natCast,mZ,List.length_take,List.length_drop];omega)))|refine aM ?_|fail)
  refine Or.inr ⟨Unit,fun _=>⟨[(0,.ptr 1 0),(13,.pv (eT Zj)),(255,.pv (bl ((((IntKind.i64.wrap ((BitVec.toNat (BitVec.ofInt IntKind.i64.bits x.code &&& BitVec.ofInt IntKind.i64.bits 1):Nat):Int)==0))&&decide (s.ask.first≥lf.first))&&bL s.w.l.w Zj)))],1000000000,stM { s with taken:=2 }⟩,?_,fun _=>?_⟩
  ·repeat' ((conv=>whnf);first|with_reducible apply aQ|((with_reducible apply fk)<;>intro hc<;>try exact dK)|rewrite[eI]|rewrite[qO]|rewrite[qP]|(apply bC;refine⟨_,aL (Ah) ?_,?_⟩;exact dx)|((refine⟨_,hr,?_⟩))|(((with_reducible apply And.intro);focus (simp only[fe,mH,mI,Int.toNat_natCast,mZ,List.length_take,List.length_drop];omega)))|refine aM ?_|fail)
   refine⟨(),EW [1001032004] ?_⟩;repeat' first|apply And.intro|exact aK|fail
   all_goals try (conv=>whnf)
   all_goals first
    |(rw[hcd,hge,UO];rfl)
    |(rw[hle];exact aC _)
    |skip
  rw[hcd,hge,UO];repeat' ((conv=>whnf);first|with_reducible apply aQ|((with_reducible apply fk)<;>intro hc<;>try exact dK)|refine aM ?_|fail)
  refine⟨_,_,⟨rfl,rfl⟩,?_⟩;all_goals exact aK
def tq (s:Sg)(n:Int):Nat:=(if n.tmod (s.cO.length:Int)<0 then n.tmod (s.cO.length:Int)+s.cO.length else n.tmod (s.cO.length:Int)).toNat
def uL (s:Sg)(x:Stp):Sg:=if ((cZ x.what==5)||decide (x.BV≤0))=true then uF s (tq s x.which) else s
def Mq (s:Sg)(x:Stp):Sg:=if s.cO=[] then s else if (cZ x.what==5)=true then uL s x else eZ (uL s x) s.cO[tq s x.which]! (jd x.code 7)
theorem Fu (s:Sg)(n:Int)(h:0<s.cO.length):tq s n<s.cO.length∧(if n.tmod (s.cO.length:Int)<0 then n.tmod (s.cO.length:Int)+s.cO.length else n.tmod (s.cO.length:Int))=((tq s n:Nat):Int):=by
 have hlo : -(s.cO.length:Int)<n.tmod (s.cO.length:Int):=by
  rcases Int.lt_or_le n 0 with hn|hn
  ·have:=Int.tmod_lt_of_pos (-n) (b:=(s.cO.length:Int)) (by omega);rw[Int.neg_tmod] at this;omega
  have:=Int.tmod_nonneg (s.cO.length:Int) hn;omega
 have hhi:n.tmod (s.cO.length:Int)<s.cO.length:=Int.tmod_lt_of_pos _ (by omega);unfold tq;split<;>omega
theorem Fv (s:Sg)(k:Nat):gu (List.map Lt.c (uF s k).cO) ([]++jM (List.map Lt.c s.cO) 0 ((k:Nat):Int).toNat++jM (List.map Lt.c s.cO) (((k+1:Nat):Int)).toNat (List.map Lt.c s.cO).length):=by
 refine gN ?_;simp only[uF,jM,zna,List.drop_zero,Nat.sub_zero,Int.toNat_natCast,zma,List.map_take,List.map_drop];rw[List.take_of_length_le (l:=List.drop (k+1) (List.map Lt.c s.cO)) (by rw[List.length_drop];omega)]
theorem JU (s:Sg)(x:Stp)(h:WB s)(hm:(cZ x.what==0)=false∧(cZ x.what==1)=false∧(cZ x.what==6)=false∧(cZ x.what==7)=false∧(cZ x.what==8)=false∧(cZ x.what==9)=false) :
  lg prog 23 [.ptr 1 0,.pv (.agg x.c)] (QB s) (.pv (.fM [])) (Ql (Mq s x)):=by
 refine xP ?_ rfl;obtain⟨f0,f1,f6,f7,f8,f9⟩:=hm;have hbl:=h.cO;cases d0:(((s.cO.map Lt.c).length:Int)==0) with
 | true=>
   have e:Mq s x=s:=by
    unfold Mq;rw[if_pos (List.eq_nil_of_length_eq_zero (by rw[List.length_map] at d0;simpa using d0))]
   rw[e];unfold cZ at f0 f1 f6 f7 f8 f9;clear e h hbl;refine nD eP ?_;repeat' ((conv=>whnf);first|with_reducible apply aQ|((with_reducible apply fk)<;>intro hc<;>try exact dK)|((refine⟨by decide,?_⟩))|refine aM ?_|fail)
   refine⟨_,_,⟨rfl,rfl⟩,?_⟩;all_goals exact aK
 |false=>
 have hne:0<s.cO.length:=by rw[List.length_map,beq_eq_false_iff_ne] at d0;omega
 have e:Mq s x=if (cZ x.what==5)=true then uL s x else eZ (uL s x) s.cO[tq s x.which]! (jd x.code 7):=by
  unfold Mq;rw[if_neg (by intro e;rw[e] at hne;exact absurd hne (by decide))]
 rw[e];clear e;obtain⟨hk,Tw⟩:=Fu s x.which hne;have hwh:=Qm s x.which hne (by omega);rw[Tw] at hwh;unfold uL;obtain⟨k,hk0⟩:∃k,tq s x.which=k:=⟨_,rfl⟩;rw[hk0] at hk hwh ⊢;clear Tw hk0;have hr:=dJ Lt.c s.cO k hk;obtain⟨y,hy⟩:∃y,s.cO[k]=y:=⟨_,rfl⟩;rw[getElem!_pos s.cO k hk,hy];rw[hy] at hr;clear hy;obtain⟨s1,hs1⟩:∃s1,(if ((cZ x.what==5)||decide (x.BV≤0))=true then uF s k else s)=s1:=⟨_,rfl⟩;rw[hs1];have hB:WB s1:=by
  rw[←hs1];split
  ·refine⟨h.w,h.lf,h.ww,h.ch,?_,h.had,h.bK,h.now,h.nx,h.su⟩;simp only[uF,mZ,List.length_take,List.length_drop];omega
  exact h
 have hcm:=Qn s1 y x.code hB.w (Nat.le_trans hB.lf (by omega)) (Nat.le_trans hB.cO (by omega)) (Nat.le_trans hB.had (by omega));clear hB h;have hkm:k<(s.cO.map Lt.c).length:=by rw[List.length_map];exact hk
 have eK:IntKind.i64.wrap (((k:Nat):Int)+1)=((k+1:Nat):Int):=by rw[bE (by omega) (by omega)];omega
 obtain⟨b5,h5⟩:∃b,(cZ x.what==5)=b:=⟨_,rfl⟩;obtain⟨tw,htw⟩:∃b,decide (x.BV≤0)=b:=⟨_,rfl⟩;rw[h5,htw] at hs1;rw[h5];unfold cZ at f0 f1 f6 f7 f8 f9 h5;refine wm sU (jU mixed sU) eP rfl ?_;repeat' ((conv=>whnf);first|fail|((with_reducible apply fk)<;>intro hc<;>try exact dK)|((refine⟨by decide,?_⟩))|(apply bC;refine⟨_,aL (hwh) ?_,?_⟩;exact dx)|(((with_reducible apply And.intro);focus (rw[Int.toNat_natCast];exact hkm)))|((refine⟨_,hr,?_⟩))|refine aM ?_|fail)
 refine Or.inl ?_;repeat' ((conv=>whnf);first|fail|((with_reducible apply fk)<;>intro hc<;>try exact dK)|((refine⟨by decide,?_⟩))|(apply bC;refine⟨_,aL (hwh) ?_,?_⟩;exact dx)|(((with_reducible apply And.intro);focus (rw[Int.toNat_natCast];exact hkm)))|((refine⟨_,hr,?_⟩))|refine aM ?_|fail)
 refine Or.inl ?_;repeat' ((conv=>whnf);first|fail|((with_reducible apply fk)<;>intro hc<;>try exact dK)|((refine⟨by decide,?_⟩))|(apply bC;refine⟨_,aL (hwh) ?_,?_⟩;exact dx)|(((with_reducible apply And.intro);focus (rw[Int.toNat_natCast];exact hkm)))|((refine⟨_,hr,?_⟩))|refine aM ?_|fail)
 refine Or.inr ⟨Unit,fun _=>⟨[(0,.ptr 1 0),(3,.ptr 1003 0),(4,.pv (ii ((IntKind.i64.wrap (x.what.tmod 10+10)).tmod 10))),(17,.ptr 1017 0)],1000000000,(1003,.var (x.c.map .pv))::(1017,.var (y.c.map .pv))::stM s1⟩,?_,fun _=>?_⟩
 ·clear hcm;have e5:b5=true∨(b5=false∧tw=true)→uF s k=s1:=fun h=>by
   rw[←hs1];rcases h with h|⟨h,h'⟩
   ·rw[h];rfl
   rw[h,h'];rfl
  have e6:b5=false→tw=false→s=s1:=fun h h'=>by rw[←hs1,h,h'];rfl
  clear hs1;cases b5
  ·cases tw
   ·have e6:=e6 rfl rfl;subst e6;repeat' ((conv=>whnf);first|with_reducible apply aQ|((with_reducible apply fk)<;>intro hc<;>try exact dK)|refine aM ?_|fail)
    refine⟨(),ay ?_⟩;all_goals exact aK
   have e5:=e5 (.inr ⟨rfl,rfl⟩);subst e5;repeat' ((conv=>whnf);first|with_reducible apply aQ|((with_reducible apply fk)<;>intro hc<;>try exact dK)|rewrite[eK]|(((with_reducible apply And.intro);focus (simp only[jM,mZ,List.length_take,List.length_drop,fe,mH,mI,Int.toNat_natCast];omega)))|refine aM ?_|fail)
   refine⟨(),ay ?_⟩;repeat' first|apply And.intro|exact aK|fail
   all_goals try (conv=>whnf)
   all_goals exact Fv s k
  have e5:=e5 (.inl rfl);subst e5;repeat' ((conv=>whnf);first|with_reducible apply aQ|((with_reducible apply fk)<;>intro hc<;>try exact dK)|rewrite[eK]|(((with_reducible apply And.intro);focus (simp only[jM,mZ,List.length_take,List.length_drop,fe,mH,mI,Int.toNat_natCast];omega)))|refine aM ?_|fail)
  refine⟨(),ay ?_⟩;repeat' first|apply And.intro|exact aK|fail
  all_goals try (conv=>whnf)
  all_goals exact Fv s k
 clear hs1;have h5n:((IntKind.i64.wrap (x.what.tmod 10+10)).tmod 10 != 5) = !b5:=by rw[bne,h5]
 cases b5;all_goals simp only[Bool.not_true,Bool.not_false] at h5n
 ·repeat' ((conv=>whnf);first|with_reducible apply aQ|((with_reducible apply fk)<;>intro hc<;>try exact dK)|rewrite[qO]|rewrite[qP]|(apply iC;refine⟨_,_,aN (hcm) ?_,?_⟩;exact dx)|refine aM ?_|fail)
  refine⟨_,_,⟨rfl,rfl⟩,?_⟩;repeat' first|apply And.intro|exact aK|fail
  all_goals try (conv=>whnf)
 repeat' ((conv=>whnf);first|with_reducible apply aQ|((with_reducible apply fk)<;>intro hc<;>try exact dK)|refine aM ?_|fail)
 refine⟨_,_,⟨rfl,rfl⟩,?_⟩;all_goals exact aK
structure WxS (c:Nat)(x:Wt):Prop where
 n:1≤x.n∧x.n≤8
 body:x.body.length≤3000
 from_:x.from_.length≤c
 born:eD x.born
 since:eD x.since
structure qX (w:Wr)(c d:Nat):Prop where
 CQ:w.l.w≤5
 mf:bL w.l.w w.l.aj=true
 wl:(w.waits.length:Int)+1≤w.next
 nx:1≤w.next∧w.next≤9
 wx:∀x∈w.waits,WxS c x
 bl:w.bad.length≤d
 ch:0≤w.change.first∧w.change.first≤9∧w.change.ah.length≤5
 su:0≤w.sure∧w.sure≤8
theorem pO {w:Int}{l:List Fr}(h:bL w l=true):0<l.length∧l.length≤6∧∀f∈l,1≤f.first∧f.first≤9∧f.ah.length≤5:=by
 simp only[bL,Bool.and_eq_true,bR,kU,List.all_eq_true] at h;obtain⟨⟨h1,h2⟩,h3,h4,h5⟩:=h;refine⟨by omega,by omega,fun f hf=>?_⟩;have:=h4 f hf;simp only[jY,Bool.and_eq_true,bR,kU] at this;omega
theorem yX {w:Int}{l:List Fr}(h:bL w l=true):iN l:=by
 obtain⟨_,_,h3⟩:=pO h;intro f hf;have:=h3 f hf;exact⟨by omega,by omega,by omega⟩
theorem Qp {w:Int}{l:List Fr}(h:bL w l=true):(aO l).ah.length≤5:=by
 obtain⟨h1,_,h3⟩:=pO h;obtain⟨k,hk,_,e⟩:=CV l h1;rw[e];exact (h3 _ (List.getElem_mem hk)).2.2
theorem WxS.mono {c c':Nat}{x:Wt}(h:WxS c x)(hc:c≤c'):WxS c' x:=⟨h.n,h.body,Nat.le_trans h.from_ hc,h.born,h.since⟩
theorem qX.mono {w:Wr}{c c' d d':Nat}(h:qX w c d)(hc:c≤c')(hd:d≤d'):qX w c' d':=⟨h.CQ,h.mf,h.wl,h.nx,fun x hx=>(h.wx x hx).mono hc,Nat.le_trans h.bl hd,h.ch,h.su⟩
theorem qX.wl8 {w:Wr}{c d:Nat}(h:qX w c d):w.waits.length≤8:=by have:=h.wl;have:=h.nx;omega
theorem qX.JJ {w:Wr}{c d:Nat}(h:qX w c d)(hc:c≤100000)(hd:d≤100000):U8 w:=by
 obtain⟨h1,h2,h3⟩:=pO h.mf;refine⟨by omega,fun f hf=>by have:=h3 f hf;omega,yX h.mf,by have:=h.wl8;omega,fun x hx=>?_,by have:=h.bl;omega,by have:=h.ch;omega⟩;have:=h.wx x hx;exact⟨⟨by have:=this.n;omega,by have:=this.n;omega⟩,by have:=this.body;omega,by have:=this.from_;omega,this.born,this.since⟩
theorem qX.lf {w:Wr}{c d:Nat}(h:qX w c d):(aO w.l.aj).ah.length≤5:=Qp h.mf
theorem qX.WC {w:Wr}{c d:Nat}(h:qX w c d):w.change.ok:=by have:=h.ch;exact⟨by omega,by omega,by omega⟩
theorem NY {l:Lg}{e:Int}{w:Wr}(h:sJ l e=some w):qX w 0 0:=by
 unfold sJ at h;split at h
 ·rename_i hm;simp only[Option.some.injEq] at h;subst h;rw[Bool.and_eq_true] at hm;obtain⟨hm,_⟩:=hm;simp only[eH,Bool.and_eq_true,bR,kU] at hm;obtain⟨_,_,a5,a6,_⟩:=hm;exact⟨a5,a6,by simp,by simp,by simp,by simp,by simp[jI],by simp⟩
 cases h
theorem C8 {w:Wr}{c d:Nat}(h:qX w c d){now:Int}{b:List UInt8}(hn:eD now)(hb:b.length≤3000):qX (fV w now b).1 c d:=by
 unfold fV;split
 ·exact h
 split
 ·exact h
 split
 ·exact h
 rename_i _ _ h8;have hwl:=h.wl;have hnx:=h.nx;refine⟨h.CQ,h.mf,?_,?_,?_,h.bl,h.ch,h.su⟩
 ·simp only[mZ,List.length_singleton];omega
 ·simp only;omega
 intro x hx;simp only[List.mem_append,List.mem_singleton] at hx;rcases hx with hx|rfl
 ·exact h.wx x hx
 exact⟨⟨by simp only;omega,by simp only;omega⟩,hb,by simp,hn,hn⟩
theorem JV {w:Wr}{c d:Nat}(h:qX w c d):qX (dR w) c d:=by
 have hsub:∀x∈(dR w).waits,x∈w.waits:=fun x hx=>(List.dropWhile_sublist _).subset hx
 refine⟨h.CQ,h.mf,?_,h.nx,fun x hx=>h.wx x (hsub x hx),h.bl,h.ch,?_⟩
 ·have:(dR w).waits.length≤w.waits.length:=(List.dropWhile_sublist _).length_le;have:=h.wl;show ((dR w).waits.length:Int)+1≤w.next
  omega
 unfold dR;simp only;cases hl:(w.waits.takeWhile (bX w)).getLast? with
 |none=>exact h.su
 | some x=>
   have hx:x∈w.waits:=(List.takeWhile_sublist _).subset (List.mem_of_getLast? hl);have:=(h.wx x hx).n;simp only[Option.map_some,Option.getD_some];omega
theorem UQ (w:Wr)(is:Pl→Bool)(h:(aO w.l.aj).ah.length≤5):(nk w is).bad.length≤w.bad.length+5:=by
 rw[xL];have:=qy is (aO w.l.aj).ah w.bad;omega
theorem NZ {w:Wr}{c d:Nat}(h:qX w c d)(is:Pl→Bool):qX (nk w is) c (d+5):=by
 have:=UQ w is h.lf;have:=h.bl;exact⟨h.CQ,h.mf,h.wl,h.nx,h.wx,by omega,h.ch,h.su⟩
theorem Fw {w:Wr}{c d:Nat}(h:qX w c d)(r:Rs)(hr:r.code=0):qX (fw w r) (c+1) d:=by
 have h1:=h.mono (Nat.le_succ c) (Nat.le_refl d);unfold fw;split
 ·exact h1
 try rw[if_pos hr]
 split
 ·exact h1
 rename_i k hk;split
 ·refine JV ?_;refine⟨h.CQ,h.mf,?_,h.nx,?_,h.bl,h.ch,h.su⟩
  ·simp only[fE,List.length_modify];exact h.wl
  intro x hx;unfold fE at hx;simp only at hx;obtain⟨i,hi,e⟩:=List.getElem_of_mem hx;rw[List.getElem_modify] at e;have hi':i<w.waits.length:=by simpa using hi
  have hg:=h.wx _ (List.getElem_mem hi');split at e
  ·rw[←e];exact⟨hg.n,hg.body,by have:=hg.from_;simp only[mZ,List.length_singleton];omega,hg.born,hg.since⟩
  rw[←e];exact hg.mono (Nat.le_succ c)
 exact h1
theorem pV {w:Wr}{c d:Nat}(h:qX w c d)(r:Rs):qX (fw w r) (c+1) (d+5):=by
 by_cases hr:r.code=0
 ·exact (Fw h r hr).mono (Nat.le_refl _) (by omega)
 have h1:=h.mono (Nat.le_succ c) (show d≤d+5 by omega);have h2:=h.mono (Nat.le_succ c) (Nat.le_refl d);unfold fw;split
 ·exact h1
 try rw[if_neg hr]
 split
 ·split
  ·exact⟨h1.CQ,h1.mf,h1.wl,h1.nx,h1.wx,h1.bl,h1.ch,h1.su⟩
  exact h1
 split
 ·exact NZ h2 _
 split
 ·exact NZ h2 _
 exact h1
theorem sW {w:Wr}{c d:Nat}(h:qX w c d){now:Int}(hn:eD now):qX (dw w now).1 c (d+200):=by
 have hall:∀i,(∀x∈(ja w now i).1,WxS c x)∧(ja w now i).1.length=w.waits.length∧(ja w now i).2.1.length≤w.bad.length+25*i:=by
  intro i;induction i with
  |zero=>exact⟨h.wx,rfl,by simp[ja]⟩
  | succ i ih=>
    obtain⟨ih1,ih2,ih3⟩:=ih;rw[qH];obtain⟨D,hD⟩:∃D,ja w now i=D:=⟨_,rfl⟩;rw[hD] at ih1 ih2 ih3 ⊢;have hb:(if eF now (D.1[i]!).born 9 then nU w (D.1[i]!) (bJ w (D.1[i]!).n) D.2.1 else D.2.1).length≤w.bad.length+25*(i+1):=by
     have h1:=uj w (D.1[i]!) h.lf (bJ w (D.1[i]!).n) D.2.1;have h2:(bJ w (D.1[i]!).n).length≤5:=kg h.CQ;split<;>omega
    unfold CX;simp only;split
    ·refine⟨fun y hy=>?_,by rw[List.length_set];exact ih2,hb⟩;by_cases hi:i<D.1.length
     ·rcases List.mem_or_eq_of_mem_set hy with hy|rfl
      ·exact ih1 y hy
      have:=ih1 _ (List.getElem_mem hi);rw[getElem!_pos D.1 i hi];exact⟨this.n,this.body,this.from_,this.born,hn⟩
     rw[List.set_eq_of_length_le (by omega)] at hy;exact ih1 y hy
    exact⟨ih1,ih2,hb⟩
 unfold dw;split
 ·exact h.mono (Nat.le_refl c) (by omega)
 rw[pU];obtain⟨h1,h2,h3⟩:=hall w.waits.length;have:=h.wl8;have:=h.bl;exact⟨h.CQ,h.mf,by simp only[h2];exact h.wl,h.nx,h1,by simp only;omega,h.ch,h.su⟩
theorem AB {w:Wr}{c d:Nat}(h:qX w c d)(e:Int)(known:List Pl):qX (j4 w e known).1 c d:=by
 unfold j4;split
 ·exact h
 split
 ·exact⟨h.CQ,h.mf,h.wl,h.nx,h.wx,by simp,h.ch,h.su⟩
 have h5:=BX h.lf w.l.w e w.bad known;have:=h.su;exact⟨h.CQ,h.mf,h.wl,h.nx,h.wx,h.bl,⟨by simp only[mR];omega,by simp only[mR];omega,h5⟩,h.su⟩
theorem sZ {w:Wr}{c d:Nat}(h:qX w c d){now:Int}(hn:eD now)(ok:Bool)(hm:ok=true→w.change.first≠0→bL w.l.w (bn w.l.aj w.change)=true):qX (bM w now ok).1 c d:=by
 unfold bM;split
 ·exact h
 rename_i hne;have h0:qX { w with l:={ w.l with aj:=if ok then bn w.l.aj w.change else w.l.aj },change:=jI,bad:=[] } c d:=by
  refine⟨h.CQ,?_,h.wl,h.nx,h.wx,by simp,by simp[jI],h.su⟩;simp only;split
  ·exact hm (by assumption) hne
  exact h.mf
 have h1:qX (jr w ok) c d:=JV h0;refine⟨h1.CQ,h1.mf,by simp only[fe];exact h1.wl,h1.nx,?_,h1.bl,h1.ch,h1.su⟩;intro x hx;simp only[List.mem_map] at hx;obtain⟨y,hy,rfl⟩:=hx;have:=h1.wx y hy;exact⟨this.n,this.body,this.from_,hn,hn⟩
theorem JW:bG prog 65 f65:=fF func65
theorem JX:bG prog 63 f63:=fF func63
theorem UR:bG prog 67 f67:=fF func67
theorem JY:bG prog 19 f19:=fF func19
def Zk:Lg:=⟨1,2,2,[⟨1,[⟨7,1⟩,⟨8,1⟩,⟨9,1⟩]⟩],0,0⟩
def DU (n node:Int):Rs:=⟨⟨node,1⟩,1,0,1,n,4,0,[]⟩
def XI:Wr:=⟨Zk,4,1,0,[],[],jI,0⟩
theorem vL (n:Int):dP prog 65 [ii n] (.agg [ii n,uu 1]):=by
 refine PC.le ?_;refine dW JW ?_;repeat' ((conv=>whnf);first|with_reducible apply aQ|((with_reducible apply fk)<;>intro hc<;>try exact bF)|refine aM ?_|fail)
 all_goals exact aK
theorem Mr:dP prog 63 [] (.agg Zk.c):=by
 refine PC.le ?_;refine dW JX ?_;repeat' ((conv=>whnf);first|with_reducible apply aQ|((with_reducible apply fk)<;>intro hc<;>try exact bF)|(apply bC;refine⟨_,vL _,?_⟩)|refine aM ?_|fail)
 all_goals exact aK
theorem WY (n node:Int):dP prog 67 [uu n,ii node] (.agg (DU n node).c):=by
 refine PC.le ?_;refine dW UR ?_;repeat' ((conv=>whnf);first|with_reducible apply aQ|((with_reducible apply fk)<;>intro hc<;>try exact bF)|(apply bC;refine⟨_,vL _,?_⟩)|refine aM ?_|fail)
 all_goals exact aK
def QC (n s:Int)(b:UInt8)(node:Int):Rq:=⟨⟨node,1⟩,1,1,n,4,s,0,[b],[]⟩
theorem UU:sJ Zk 4=some XI:=by decide
theorem acv:Zk.ok:=by
 intro x hx;simp only[Zk,List.mem_singleton] at hx;subst hx;decide
theorem Zl:∃w1 w2 w3 w4 w5 w6 w7 w8 w9 w10:Wr,
  dP prog 20 [.agg Zk.c,uu 4] (.fM [.agg XI.c,ii 0]) ∧
  dP prog 64 [.agg XI.c,uu 5,Db [120]] (.fM [.agg w1.c,Qz [QC 1 0 120 7,QC 1 0 120 8],ii 0]) ∧
  dP prog 66 [.agg w1.c,uu 5,.agg (DU 1 7).c] (.agg w2.c) ∧
  dP prog 66 [.agg w2.c,uu 5,.agg (DU 1 9).c] (.agg w3.c)∧w3.sure=0 ∧
  dP prog 66 [.agg w3.c,uu 5,.agg (DU 1 8).c] (.agg w4.c)∧w4.sure=1 ∧
  (∃q,dP prog 64 [.agg w4.c,uu 5,Db [121]] (.fM [.agg w5.c,Qz q,ii 0])) ∧
  dP prog 26 [.agg w5.c,uu 14] (.fM [.agg w6.c,Qz [QC 2 1 121 8,QC 2 1 121 9]]) ∧
  dP prog 66 [.agg w6.c,uu 14,.agg (DU 2 9).c] (.agg w7.c) ∧
  dP prog 28 [.agg w7.c,ii 3,dO [⟨6,1⟩]] (.fM [.agg w8.c,.agg (⟨2,[⟨7,1⟩,⟨6,1⟩]⟩:Fr).c,bl true]) ∧
  dP prog 66 [.agg w8.c,uu 14,.agg (DU 2 8).c] (.agg w9.c)∧w9.sure=1 ∧
  dP prog 29 [.agg w9.c,uu 15,bl true] (.fM [.agg w10.c,Qz [QC 2 1 121 7,QC 2 1 121 6]]):=by
 have u:∀n:Int,0≤n→n≤100→eD n:=fun n h1 h2=>⟨h1,by omega⟩
 have s0:qX XI 0 0:=NY UU;have s1:qX (fV XI 5 [120]).1 0 0:=C8 s0 (u 5 (by omega) (by omega)) (by decide);obtain⟨w1,h1⟩:∃w,(fV XI 5 [120]).1=w:=⟨_,rfl⟩;obtain⟨w2,h2⟩:∃w,fw w1 (DU 1 7)=w:=⟨_,rfl⟩;obtain⟨w3,h3⟩:∃w,fw w2 (DU 1 9)=w:=⟨_,rfl⟩;obtain⟨w4,h4⟩:∃w,fw w3 (DU 1 8)=w:=⟨_,rfl⟩;obtain⟨w5,h5⟩:∃w,(fV w4 5 [121]).1=w:=⟨_,rfl⟩;obtain⟨w6,h6⟩:∃w,(dw w5 14).1=w:=⟨_,rfl⟩;obtain⟨w7,h7⟩:∃w,fw w6 (DU 2 9)=w:=⟨_,rfl⟩;obtain⟨w8,h8⟩:∃w,(j4 w7 3 [⟨6,1⟩]).1=w:=⟨_,rfl⟩;obtain⟨w9,h9⟩:∃w,fw w8 (DU 2 8)=w:=⟨_,rfl⟩;obtain⟨w10,h10⟩:∃w,(bM w9 15 true).1=w:=⟨_,rfl⟩;have q1:(fV XI 5 [120]).2=([QC 1 0 120 7,QC 1 0 120 8],0):=by decide
 have q3:w3.sure=0:=by rw[←h3,←h2,←h1];decide
 have q4:w4.sure=1:=by rw[←h4,←h3,←h2,←h1];decide
 have q5:(fV w4 5 [121]).2.2=0:=by rw[←h4,←h3,←h2,←h1];decide
 have q6:(dw w5 14).2=[QC 2 1 121 8,QC 2 1 121 9]:=by rw[←h5,←h4,←h3,←h2,←h1];decide
 have q8:(j4 w7 3 [⟨6,1⟩]).2=(⟨2,[⟨7,1⟩,⟨6,1⟩]⟩,true):=by rw[←h7,←h6,←h5,←h4,←h3,←h2,←h1];decide
 have q9:w9.sure=1:=by rw[←h9,←h8,←h7,←h6,←h5,←h4,←h3,←h2,←h1];decide
 have q10:(bM w9 15 true).2=[QC 2 1 121 7,QC 2 1 121 6]:=by rw[←h9,←h8,←h7,←h6,←h5,←h4,←h3,←h2,←h1];decide
 rw[h1] at s1;have s2:=pV s1 (DU 1 7);rw[h2] at s2;have s3:=pV s2 (DU 1 9);rw[h3] at s3;have s4:=pV s3 (DU 1 8);rw[h4] at s4;have s5:=C8 s4 (now:=5) (b:=[121]) (u 5 (by omega) (by omega)) (by decide);rw[h5] at s5;have s6:=sW s5 (now:=14) (u 14 (by omega) (by omega));rw[h6] at s6;have s7:=pV s6 (DU 2 9);rw[h7] at s7;have s8:=AB s7 3 [⟨6,1⟩];rw[h8] at s8;have s9:=pV s8 (DU 2 8);rw[h9] at s9;refine⟨w1,w2,w3,w4,w5,w6,w7,w8,w9,w10,?_,?_,?_,?_,q3,?_,q4,?_,?_,?_,?_,?_,q9,?_⟩
 ·have:=Mc Zk 4 acv (fun _=>⟨by decide,fun f hf=>by have:=(pO s0.mf).2.2 f hf;omega,yX s0.mf⟩);rw[UU] at this;exact this
 ·have:=GD XI 5 [120] (s0.JJ (by omega) (by omega)) (u 5 (by omega) (by omega)) (u 1 (by omega) (by omega)) (by decide) (Nat.le_trans (kg s0.CQ) (by omega));rw[h1,q1] at this;exact this
 ·have:=qG w1 5 (DU 1 7) (s1.JJ (by omega) (by omega)) (Nat.le_trans s1.lf (by omega));rw[h2] at this;exact this
 ·have:=qG w2 5 (DU 1 9) (s2.JJ (by omega) (by omega)) (Nat.le_trans s2.lf (by omega));rw[h3] at this;exact this
 ·have:=qG w3 5 (DU 1 8) (s3.JJ (by omega) (by omega)) (Nat.le_trans s3.lf (by omega));rw[h4] at this;exact this
 ·have:=GD w4 5 [121] (s4.JJ (by omega) (by omega)) (u 5 (by omega) (by omega)) (by have:=s4.nx;exact u _ (by omega) (by omega)) (by decide) (Nat.le_trans (kg s4.CQ) (by omega));rw[h5,q5] at this;exact⟨_,this⟩
 ·have:=Gx w5 14 (s5.JJ (by omega) (by omega)) (u 14 (by omega) (by omega)) (fun x _=>kg s5.CQ) s5.lf;rw[h6,q6] at this;exact this
 ·have:=qG w6 14 (DU 2 9) (s6.JJ (by omega) (by omega)) (Nat.le_trans s6.lf (by omega));rw[h7] at this;exact this
 ·have:=Md w7 3 [⟨6,1⟩] (s7.JJ (by omega) (by omega)) (by decide) s7.lf (by have:=s7.su;omega);rw[h8,q8] at this;exact this
 ·have:=qG w8 14 (DU 2 8) (s8.JJ (by omega) (by omega)) (Nat.le_trans s8.lf (by omega));rw[h9] at this;exact this
 have:=vH w9 15 true (s9.JJ (by omega) (by omega)) (u 15 (by omega) (by omega)) s9.CQ s9.WC;rw[h10,q10] at this;exact this
theorem dA:dP prog 19 [] (bl true):=by
 refine PC.le ?_;obtain⟨w1,w2,w3,w4,w5,w6,w7,w8,w9,w10,c0,c1,c2,c3,q3,c4,q4,⟨q,c5⟩,c6,c7,c8,c9,q9,c10⟩:=Zl;have f3:(w3.sure==0)=true:=by rw[q3];rfl
 have f4:(w4.sure==1)=true:=by rw[q4];rfl
 have f9:(w9.sure==1)=true:=by rw[q9];rfl
 clear q3 q4 q9;refine dW JY ?_;repeat' ((conv=>whnf);first|with_reducible apply aQ|((with_reducible apply fk)<;>intro hc<;>try exact dK)|((refine⟨_,rfl,?_⟩))|(apply bC;refine⟨_,Mr,?_⟩)|(apply bC;refine⟨_,vL _,?_⟩)|(apply bC;refine⟨_,WY _ _,?_⟩)|(apply bC;refine⟨_,aL (c0) ?_,?_⟩;exact dx)|(apply bC;refine⟨_,aL (c1) ?_,?_⟩;exact dx)|(apply bC;refine⟨_,aL (c2) ?_,?_⟩;exact dx)|(apply bC;refine⟨_,aL (c3) ?_,?_⟩;exact dx)|(apply bC;refine⟨_,aL (c4) ?_,?_⟩;exact dx)|(apply bC;refine⟨_,aL (c5) ?_,?_⟩;exact dx)|(apply bC;refine⟨_,aL (c6) ?_,?_⟩;exact dx)|(apply bC;refine⟨_,aL (c7) ?_,?_⟩;exact dx)|(apply bC;refine⟨_,aL (c8) ?_,?_⟩;exact dx)|(apply bC;refine⟨_,aL (c9) ?_,?_⟩;exact dx)|(apply bC;refine⟨_,aL (c10) ?_,?_⟩;exact dx)|refine aM ?_|fail)
 all_goals exact aK
def zX (s:Sg)(x:Stp):Sg:=
 if cZ x.what=0∨cZ x.what=1 then sK s x.body
 else if cZ x.what=6 then Ct s (DT s x.M4)
 else if cZ x.what=7 then LA s x.e x.known
 else if cZ x.what=8 then j5 s (!(jd x.code 1==0))
 else if cZ x.what=9 then qN s
 else Mq s x
structure Ms (s:Sg)(i:Nat):Prop where
 inv:jA s
 ws:qX s.w i (200*i)
 pl:bL s.w.l.w s.bZ=true
 cO:s.cO.length≤80
 had:s.had.length≤i
 now:eD s.now
theorem Ms.Vp {s:Sg}{i:Nat}(h:Ms s i)(hi:i≤300):WB s:=by
 have h1:=h.inv.nx;have h2:=h.ws.nx;have h3:=h.ws.su;exact⟨h.ws.JJ (by omega) (by omega),h.ws.lf,h.ws.CQ,h.ws.WC,by have:=h.cO;omega,by have:=h.had;omega,by omega,h.now,⟨by omega,by omega⟩,by omega,by omega⟩
theorem UW (s:Sg)(x:Stp){i:Nat}(h:Ms s i)(hi:i≤300)(hb:x.body.length≤3000)(hk:x.known.length≤1000) :
  lg prog 23 [.ptr 1 0,.pv (.agg x.c)] (QB s) (.pv (.fM [])) (Ql (zX s x)):=by
 have hB:=h.Vp hi;obtain⟨p1,p2,p3⟩:=pO h.pl;unfold zX;split
 ·exact xH s x hB hb (by assumption)
 split
 ·exact GL s x hB (by assumption)
 split
 ·exact JS s x hB hk (by assumption)
 split
 ·exact uI s x hB p1 (by omega) (fun f hf=>by have:=p3 f hf;omega) (by assumption)
 split
 ·exact GN s x hB (by assumption)
 rename_i n0 n6 n7 n8 n9;refine JU s x hB ⟨?_,?_,?_,?_,?_,?_⟩<;>rw[beq_eq_false_iff_ne]
 ·exact fun e=>n0 (.inl e)
 ·exact fun e=>n0 (.inr e)
 ·exact n6
 ·exact n7
 ·exact n8
 exact n9
theorem yY {s:Sg}{l:List Rq}(h:s.cO.length≤80):(jc s l).cO.length≤80:=by
 unfold jc;simp only[mZ,fe,List.length_take];omega
theorem C9 {s:Sg}{r:Rs}(h:s.cO.length≤80):(iP s r).cO.length≤80:=by
 unfold iP;split
 ·simp only[mZ,List.length_singleton];omega
 exact h
theorem jD {s:Sg}{r:Rs}:(iP s r).w=s.w∧(iP s r).bZ=s.bZ∧(iP s r).had=s.had∧(iP s r).now=s.now:=by
 unfold iP;split<;>exact⟨rfl,rfl,rfl,rfl⟩
theorem UX (w:Wr)(r:Rs):(fw w r).l=w.l:=by
 unfold fw;repeat' split
 all_goals rfl
theorem UY (w:Wr)(now:Int):(dw w now).1.l=w.l:=by
 unfold dw;split
 ·rfl
 rw[pU]
theorem Qq {s:Sg}{i:Nat}(h:Ms s i){x:Lt}(hq:x.ask=true→sM s.bK x.q.n x.q.body)(hr:x.ask=false→x.r.code=0→x.r.from_∈dL s.had x.r.n)(c:Int):Ms (eZ s x c) (i+1)∧s.w.sure≤(eZ s x c).w.sure:=by
 obtain⟨h1,h2⟩:=Po h.inv hq hr c;refine⟨⟨h1,?_,?_,?_,?_,?_⟩,h2⟩;all_goals
  unfold eZ;split
 ·exact (pV h.ws x.r).mono (Nat.le_refl _) (by omega)
 ·have hm:=h.ws.mono (Nat.le_succ i) (show 200*i≤200*(i+1) by omega);split
  ·rw[jD.1];exact hm
  split
  ·rw[jD.1];exact hm
  rw[jD.1];exact hm
 ·simp only[UX];exact h.pl
 ·split
  ·rw[jD.1,jD.2.1];exact h.pl
  split
  ·rw[jD.1,jD.2.1];exact h.pl
  rw[jD.1,jD.2.1];exact h.pl
 ·exact h.cO
 ·split
  ·exact C9 h.cO
  split
  ·exact C9 h.cO
  exact C9 h.cO
 ·exact Nat.le_succ_of_le h.had
 ·have:=h.had;split
  ·rw[jD.2.2.1];omega
  split
  ·rw[jD.2.2.1];omega
  rw[jD.2.2.1];simp only[mZ,List.length_singleton];omega
 ·exact h.now
 split
 ·rw[jD.2.2.2];exact h.now
 split
 ·rw[jD.2.2.2];exact h.now
 rw[jD.2.2.2];exact h.now
theorem Da {s:Sg}{i:Nat}(h:Ms s i):Ms s (i+1):=⟨h.inv,h.ws.mono (by omega) (by omega),h.pl,h.cO,by have:=h.had;omega,h.now⟩
theorem UZ {s:Sg}{i:Nat}(h:Ms s i)(k:Nat):Ms (uF s k) i:=by
 refine⟨Tp h.inv k,h.ws,h.pl,?_,h.had,h.now⟩;have:=h.cO;simp only[uF,mZ,List.length_take,List.length_drop];omega
theorem JZ {s:Sg}{i:Nat}(h:Ms s i)(x:Stp)(hb:x.body.length≤3000):Ms (zX s x) (i+1)∧s.w.sure≤(zX s x).w.sure:=by
 unfold zX;split
 ·obtain⟨h1,h2⟩:=Tk h.inv x.body;have hs:=C8 h.ws h.now hb;have hl:(fV s.w s.now x.body).1.l=s.w.l:=by
   unfold fV;repeat' split
   all_goals rfl
  refine⟨⟨h1,?_,?_,?_,?_,?_⟩,h2⟩;all_goals
   unfold sK;simp only;split
  ·exact hs.mono (by omega) (by omega)
  ·exact h.ws.mono (by omega) (by omega)
  ·simp only[jc,hl];exact h.pl
  ·exact h.pl
  ·exact yY h.cO
  ·exact h.cO
  ·exact Nat.le_succ_of_le h.had
  ·exact Nat.le_succ_of_le h.had
  ·exact h.now
  exact h.now
 split
 ·obtain⟨h1,h2⟩:=Tm h.inv (DT s x.M4);have hn:eD (DT s x.M4):=NV _;have ht:=sW h.ws hn;refine⟨⟨h1,?_,?_,yY h.cO,Nat.le_succ_of_le h.had,hn⟩,h2⟩
  ·exact ht.mono (by omega) (by omega)
  simp only[Ct,jc,UY];exact h.pl
 split
 ·obtain⟨h1,h2⟩:=V9 h.inv x.e x.known;have ha:=AB h.ws x.e x.known;have hl:(j4 s.w x.e x.known).1.l=s.w.l:=by
   unfold j4;repeat' split
   all_goals rfl
  refine⟨⟨h1,?_,?_,?_,?_,?_⟩,h2⟩;all_goals
   unfold LA;simp only;split
  ·exact ha.mono (by omega) (by omega)
  ·exact ha.mono (by omega) (by omega)
  ·simp only[hl];exact h.pl
  ·simp only[hl];exact h.pl
  ·exact h.cO
  ·exact h.cO
  ·exact Nat.le_succ_of_le h.had
  ·exact Nat.le_succ_of_le h.had
  ·exact h.now
  exact h.now
 split
 ·obtain⟨h1,h2⟩:=Ps h.inv (!(jd x.code 1==0));refine⟨⟨h1,?_,?_,?_,?_,?_⟩,h2⟩;all_goals
   unfold j5;split
  ·exact h.ws.mono (by omega) (by omega)
  ·split
   ·exact h.ws.mono (by omega) (by omega)
   exact h.ws.mono (by omega) (by omega)
  ·exact h.pl
  ·split
   ·rename_i hh;simp only[Bool.and_eq_true] at hh;exact hh.2.2
   exact h.pl
  ·exact h.cO
  ·split<;>exact h.cO
  ·exact Nat.le_succ_of_le h.had
  ·split<;>exact Nat.le_succ_of_le h.had
  ·exact h.now
  split<;>exact h.now
 split
 ·obtain⟨h1,h2⟩:=Tn h.inv;have hch:=sZ h.ws h.now (s.taken==1) (fun ht hne=>by
   have hp:=h.inv.pl;have ha:=h.inv.ask;rw[←ha] at hne ⊢;rw[if_pos ⟨hne,by simpa using ht⟩] at hp;rw[←hp];exact h.pl)
  have hl:(bM s.w s.now (s.taken==1)).1.l.w=s.w.l.w:=by
   unfold bM;split<;>rfl
  refine⟨⟨h1,?_,?_,?_,?_,?_⟩,h2⟩;all_goals
   unfold qN;split
  ·exact h.ws.mono (by omega) (by omega)
  ·exact hch.mono (by omega) (by omega)
  ·exact h.pl
  ·simp only[jc,hl];exact h.pl
  ·exact h.cO
  ·exact yY h.cO
  ·exact Nat.le_succ_of_le h.had
  ·exact Nat.le_succ_of_le h.had
  ·exact h.now
  exact h.now
 unfold Mq;split
 ·exact⟨Da h,Int.le_refl _⟩
 rename_i hne;have hne':0<s.cO.length:=List.length_pos_iff.2 hne;obtain⟨hk,_⟩:=Fu s x.which hne';have hd:Ms (uL s x) i∧(uL s x).w=s.w∧(uL s x).bK=s.bK∧(uL s x).had=s.had:=by
  unfold uL;split
  ·exact⟨UZ h _,rfl,rfl,rfl⟩
  exact⟨h,rfl,rfl,rfl⟩
 obtain⟨d1,d2,d3,d4⟩:=hd;split
 ·exact⟨Da d1,by rw[d2];exact Int.le_refl _⟩
 rw[getElem!_pos s.cO _ hk];have hm:=List.getElem_mem hk;obtain⟨c1,c2⟩:=Qq d1 (x:=s.cO[tq s x.which]) (fun e=>by rw[d3];exact h.inv.bq _ hm e) (fun e e0=>by rw[d4];exact h.inv.br _ hm e e0) (jd x.code 7);rw[d2] at c2;exact⟨c1,c2⟩
theorem N7 {l:Lg}{e:Int}{w:Wr}(h:sJ l e=some w):Ms (pG w) 0:=by
 have hs:=NY h;exact⟨Wd h,hs,hs.mf,by simp[pG],by simp[pG],by simp[pG,eD]⟩
theorem qI:bG prog 4 f4:=fF func4
def Ff (l:List Stp):PV:=.sl false 8 (l.map Stp.c)
def stL (s:Sg):List (Nat×au):=[(1009,.var (stA s (.aZ 1010 0) (.aZ 1011 0) (.aZ 1012 0))),(1010,.arr 136 0 20 (s.cO.map Lt.c)),(1011,.arr 140 0 4 (s.had.map Hp.c)),(1012,.arr 9 0 1 (s.bK.map Ai))]
theorem CP {l:Lg}{e:Int}{w:Wr}(h:sJ l e=some w):eH l=true∧w=⟨l,e,1,0,[],[],jI,0⟩:=by
 unfold sJ at h;split at h
 ·rename_i hm;simp only[Option.some.injEq] at h;rw[Bool.and_eq_true] at hm;exact⟨hm.1,h.symm⟩
 cases h
theorem Qr (x:Lg)(aX:Int)(l:List Stp)(hx:lgR x) :
  dP prog 4 [.agg x.c,uu aX,Ff l] (bl true):=by
 refine PC.le ?_;cases acw:decide (((List.map Stp.c l).length:Int)>250) with
 | true=>
   refine dW qI ?_;repeat' ((conv=>whnf);first|with_reducible apply aQ|((with_reducible apply fk)<;>intro hc<;>try exact dK)|(apply bC;refine⟨_,dA,?_⟩)|refine aM ?_|fail)
   all_goals exact aK
 |false=>
 have iH:=zQ x.aj;cases hh:zy x.aj with
 | true=>
   rw[hh] at iH;refine dW qI ?_;repeat' ((conv=>whnf);first|with_reducible apply aQ|((with_reducible apply fk)<;>intro hc<;>try exact dK)|(apply bC;refine⟨_,iH,?_⟩)|(apply bC;refine⟨_,dA,?_⟩)|refine aM ?_|fail)
   all_goals exact aK
 |false=>
 rw[hh] at iH;obtain⟨hfr,hok⟩:=IY hx hh;have hnew:=Mc x aX hok (fun hm=>by
  obtain⟨m1,m2,m3,m4,m5,m6⟩:=sF hm;exact⟨by omega,fun f hf=>by have:=m3 f hf;omega,hfr⟩)
 cases hn:sJ x aX with
 | none=>
   rw[hn] at hnew;simp only[Option.getD_none,Option.isSome_none,Bool.false_eq_true,↓reduceIte] at hnew;clear hok hfr hx hh hn;refine dW qI ?_;repeat' ((conv=>whnf);first|with_reducible apply aQ|((with_reducible apply fk)<;>intro hc<;>try exact dK)|(apply bC;refine⟨_,iH,?_⟩)|(apply bC;refine⟨_,aL (hnew) ?_,?_⟩;exact dx)|(apply bC;refine⟨_,dA,?_⟩)|refine aM ?_|fail)
   all_goals exact aK
 |some w=>
 rw[hn] at hnew;simp only[Option.getD_some,Option.isSome_some,↓reduceIte] at hnew;obtain⟨hmay,hw⟩:=CP hn;have EG:=zS x ⟨hx.2.2.2.1.1,hx.2.2.2.1.2,hx.2.2.2.2.1.1⟩;rw[hmay] at EG;have hst:=N7 hn;obtain⟨m1,m2,m3,_⟩:=sF hmay;have GU:=sV x.aj (by omega) (fun f hf=>by have:=m3 f hf;omega);have hsw:(pG w).bZ=x.aj:=by rw[hw];rfl
 have hs0:w.sure=0:=by rw[hw]
 have hlen:l.length≤250:=by simp only[Au,fe] at acw;omega
 clear hok hfr hx hh hn m1 m2 m3 hmay;refine dW qI ?_;repeat' ((conv=>whnf);first|with_reducible apply aQ|((with_reducible apply fk)<;>intro hc<;>try exact dK)|(apply bC;refine⟨_,iH,?_⟩)|(apply bC;refine⟨_,aL (hnew) ?_,?_⟩;exact dx)|(apply bC;refine⟨_,EG,?_⟩)|(apply iC;refine⟨_,_,aN (GU) ?_,?_⟩;exact dx)|refine aM ?_|fail)
 clear iH hnew EG GU acw;refine⟨{p:Nat×Sg // p.1≤l.length∧Ms p.2 p.1},fun⟨(k,s),_⟩=>⟨[(2,.pv (Ff l)),(9,.ptr 1009 0),(10,.pv (uu s.w.sure)),(11,.pv (ii k))],1000000000,stL s⟩,fun⟨(k,_),_⟩=>l.length-k,⟨⟨(0,pG w),Nat.zero_le _,hst⟩,pu [1001008003] ?_⟩,?_⟩
 ·repeat' first|apply And.intro|exact aK|fail
  all_goals try (conv=>whnf)
  all_goals first
   |exact hs0.symm
   |(rw[hsw];exact aC _)
   |skip
 clear hst hsw hs0 hw;rintro⟨⟨k,s⟩,hk,hs⟩
 simp only at hk hs;by_cases hlt:k<l.length
 rotate_left
 ·have hke:k=l.length:=by omega
  subst hke;have d0:decide ((l.length:Int)<((List.map Stp.c l).length:Int))=false:=by rw[List.length_map];simp
  repeat' ((conv=>whnf);first|with_reducible apply aQ|((with_reducible apply fk)<;>intro hc<;>try exact dK)|(apply bC;refine⟨_,dA,?_⟩)|refine aM ?_|fail)
  all_goals exact aK
 have d0:decide ((k:Int)<((List.map Stp.c l).length:Int))=true:=by rw[List.length_map];simp only[kU];omega
 have eW:IntKind.i64.wrap ((k:Int)+1)=((k+1:Nat):Int):=by rw[bE (by omega) (by omega)];omega
 have hrow:=dJ Stp.c l k hlt;obtain⟨x,hc0⟩:∃x,l[k]=x:=⟨_,rfl⟩;rw[hc0] at hrow;clear hc0;cases h3k:decide (((List.map jq x.body).length:Int)>3000) with
 | true=>
   repeat' ((conv=>whnf);first|with_reducible apply aQ|((with_reducible apply fk)<;>intro hc<;>try exact dK)|((refine⟨_,hrow,?_⟩))|(apply bC;refine⟨_,dA,?_⟩)|refine aM ?_|fail)
   all_goals exact aK
 |false=>
 cases h30:decide (((List.map Pl.c x.known).length:Int)>30) with
 | true=>
   repeat' ((conv=>whnf);first|with_reducible apply aQ|((with_reducible apply fk)<;>intro hc<;>try exact dK)|((refine⟨_,hrow,?_⟩))|(apply bC;refine⟨_,dA,?_⟩)|refine aM ?_|fail)
   all_goals exact aK
 |false=>
 have hb3:x.body.length≤3000:=by rw[List.length_map,decide_eq_false_iff_not] at h3k;omega
 have hk3:x.known.length≤1000:=by rw[List.length_map,decide_eq_false_iff_not] at h30;omega
 have ZL:=UW s x hs (by omega) hb3 hk3;obtain⟨hs',Ak⟩:=JZ hs x hb3;obtain⟨s',he⟩:∃s',zX s x=s':=⟨_,rfl⟩;rw[he] at ZL hs' Ak;clear he;obtain⟨su0,su1⟩:=Tt hs'.inv;have hnx:=hs'.inv.nx;have ae9:=hs'.ws.nx;have hsl:s'.bK.length≤8:=by omega
 have d1:decide (s'.w.sure<s.w.sure)=false:=by simp only[Au];omega
 have eU:IntKind.u64.wrap ((s'.bK.map Ai).length:Int)=(s'.bK.length:Int):=by rw[List.length_map,kT (by omega) (by omega)]
 have d2:decide (s'.w.sure>(s'.bK.length:Int))=false:=by simp only[Au];omega
 have hgo:=fun (n:Int) (h1:1≤n) (h2:n≤s'.w.sure)=>UN s' s'.bZ n (yX hs'.pl) ⟨h1,by omega⟩ (by omega) (by have:=hs'.had;omega) hs'.ws.CQ (fun h hh=>by
  have hb:=hs'.inv.hd h hh;unfold gdH;obtain⟨b1,b2,b3⟩:=hb;cases e:(h.n==n) with
  |false=>rfl
  | true=>
    have e:h.n=n:=by simpa using e
    rw[←e,←b3];simp[b1,b2])
 have hgd:=fun (n:Int) (h1:1≤n) (h2:n≤s'.w.sure)=>Tq hs'.inv h1 h2
 replace hnx:=Hd.mk hnx;clear Ak su1 ae9;repeat' ((conv=>whnf);first|with_reducible apply aQ|((with_reducible apply fk)<;>intro hc<;>try exact dK)|rewrite[eU]|rewrite[qO]|rewrite[qP]|((refine⟨_,hrow,?_⟩))|(apply iC;refine⟨_,_,aN (ZL) ?_,?_⟩;exact dx)|refine aM ?_|fail)
 clear ZL d1 d2;refine⟨{n:Nat // (n:Int)≤s'.w.sure},fun⟨n,_⟩=>⟨[(2,.pv (Ff l)),(9,.ptr 1009 0),(10,.pv (uu s'.w.sure)),(11,.pv (ii k)),(12,.pv (uu ((n+1:Nat):Int)))],1000000000,stL s'⟩,fun⟨n,_⟩=>s'.w.sure.toNat-n,⟨⟨0,su0⟩,ay ?_⟩,?_⟩
 ·all_goals exact aK
 rintro⟨n,hn⟩
 dsimp only
 by_cases hnt:(n:Int)<s'.w.sure
 rotate_left
 ·have d3:decide (((n+1:Nat):Int)≤s'.w.sure)=false:=by simp only[Au];omega
  clear hgo hgd;repeat' ((conv=>whnf);first|with_reducible apply aQ|((with_reducible apply fk)<;>intro hc<;>try exact dK)|refine aM ?_|fail)
  refine⟨⟨(k+1,s'),hlt,hs'⟩,dec_lt hlt,ay ?_⟩;repeat' first|apply And.intro|exact aK|fail
  all_goals try (conv=>whnf)
  all_goals exact eW
 have d3:decide (((n+1:Nat):Int)≤s'.w.sure)=true:=by simp only[kU];omega
 have ahP:=hs'.ws.su;have eN:IntKind.u64.wrap (((n+1:Nat):Int)+1)=((n+1+1:Nat):Int):=by rw[kT (by omega) (by omega)];omega
 have hgo:=hgo ((n+1:Nat):Int) (by omega) (by omega);rw[hgd ((n+1:Nat):Int) (by omega) (by omega)] at hgo;clear hgd;repeat' ((conv=>whnf);first|with_reducible apply aQ|((with_reducible apply fk)<;>intro hc<;>try exact dK)|(apply bC;refine⟨_,aL (hgo) ?_,?_⟩;exact dx)|refine aM ?_|fail)
 refine⟨⟨n+1,by omega⟩,by simp only;omega,ay ?_⟩;repeat' first|apply And.intro|exact aK|fail
 all_goals try (conv=>whnf)
 all_goals exact eN
def plR (x:Pl):Prop:=wV x.node∧eD x.bf
def frR (x:Fr):Prop:=eD x.first∧∀p∈x.ah,plR p
def lgF (l:Lg):Prop:=eD l.id∧wV l.w∧wV l.a∧wV l.closed∧eD l.last∧∀f∈l.aj,frR f
theorem lgF.r {l:Lg}(h:lgF l):lgR l:=⟨h.1,h.2.1,h.2.2.1,h.2.2.2.1,h.2.2.2.2.1,fun f hf=>(h.2.2.2.2.2 f hf).1⟩
section
variable (w:World)
theorem Va:Rd prog w 3 1 (fun row=>∃i,row=[ii i]∧wV i):=
 (KV underlying3 (by kernel_rfl)).imp fun row _ ⟨i,e,h⟩=>⟨i,e,wf_i64 h⟩
theorem ZJ:Rd prog w 22 1 (fun row=>∃i,row=[uu i]∧eD i):=
 (KV underlying22 (by kernel_rfl)).imp fun row _ ⟨i,e,h⟩=>⟨i,e,wf_u64 h⟩
theorem abA:Rd prog w 29 1 (fun row=>∃l:List UInt8,row=[Db l]):=
 (wM underlying29 (by kernel_rfl) (by decide) (KV (k:=.u8) underlying5 (by kernel_rfl))).imp fun row _ ⟨rows,e,h⟩=>by
  obtain⟨l,rfl,_⟩:=wO (c:=jq) (R:=fun _=>True) (rows:=rows) fun r hr=>by
   obtain⟨_,i,rfl,hi⟩:=h r hr;have:=wf_u8 hi;refine⟨UInt8.ofNat i.toNat,?_,trivial⟩;simp only[jq,UInt8.toNat_ofNat'];rw[Nat.mod_eq_of_lt (by omega),Int.toNat_of_nonneg this.1]
  exact⟨l,e⟩
theorem aed:Rd prog w 27 2 (fun row=>∃x:Pl,row=x.c∧plR x):=
 (tV (sp:=[(1,_),(1,_)]) underlying27 (by kernel_rfl) ⟨rfl,Va w,rfl,ZJ w,trivial⟩).imp fun row _ h=>by
  obtain⟨_,_,rfl,_,⟨i,rfl,hi⟩,_,_,rfl,_,⟨j,rfl,hj⟩,rfl⟩:=h;exact⟨⟨i,j⟩,rfl,hi,hj⟩
theorem TW:Rd prog w 28 1 (fun row=>∃l:List Pl,row=[dO l]∧∀x∈l,plR x):=
 (wM underlying28 (by kernel_rfl) (by decide) (aed w)).imp fun row _ ⟨rows,e,h⟩=>by
  obtain⟨l,rfl,hl⟩:=wO fun r hr=>(h r hr).2
  exact⟨l,e,hl⟩
theorem aee:Rd prog w 48 2 (fun row=>∃x:Fr,row=x.c∧frR x):=
 (tV (sp:=[(1,_),(1,_)]) underlying48 (by kernel_rfl) ⟨rfl,ZJ w,rfl,TW w,trivial⟩).imp fun row _ h=>by
  obtain⟨_,_,rfl,_,⟨i,rfl,hi⟩,_,_,rfl,_,⟨l,rfl,hl⟩,rfl⟩:=h;exact⟨⟨i,l⟩,rfl,hi,hl⟩
theorem abB:Rd prog w 23 1 (fun row=>∃l:List Fr,row=[eT l]∧∀x∈l,frR x):=
 (wM underlying23 (by kernel_rfl) (by decide) (aee w)).imp fun row _ ⟨rows,e,h⟩=>by
  obtain⟨l,rfl,hl⟩:=wO fun r hr=>(h r hr).2
  exact⟨l,e,hl⟩
theorem abC:Rd prog w 25 6 (fun row=>∃x:Lg,row=x.c∧lgF x):=
 (tV (sp:=[(1,_),(1,_),(1,_),(1,_),(1,_),(1,_)]) underlying25 (by kernel_rfl) ⟨rfl,ZJ w,rfl,Va w,rfl,Va w,rfl,abB w,rfl,Va w,rfl,ZJ w,trivial⟩).imp fun row _ h=>by
  obtain⟨_,_,rfl,_,⟨i1,rfl,h1⟩,_,_,rfl,_,⟨i2,rfl,h2⟩,_,_,rfl,_,⟨i3,rfl,h3⟩,_,_,rfl,_,⟨l,rfl,hl⟩,_,_,rfl,_,⟨i4,rfl,h4⟩,_,_,rfl,_,⟨i5,rfl,h5⟩,rfl⟩:=h;exact⟨⟨i1,i2,i3,l,i4,i5⟩,rfl,h1,h2,h3,h4,h5,hl⟩
def abD (x:Stp):Prop:=wV x.what∧wV x.which∧wV x.BV∧wV x.code∧wV x.M4∧wV x.e
theorem abE:Rd prog w 63 8 (fun row=>∃x:Stp,row=x.c∧abD x):=
 (tV (sp:=[(1,_),(1,_),(1,_),(1,_),(1,_),(1,_),(1,_),(1,_)]) underlying63 (by kernel_rfl) ⟨rfl,Va w,rfl,Va w,rfl,Va w,rfl,Va w,rfl,Va w,rfl,Va w,rfl,abA w,rfl,TW w,trivial⟩).imp fun row _ h=>by
  obtain⟨_,_,rfl,_,⟨i1,rfl,h1⟩,_,_,rfl,_,⟨i2,rfl,h2⟩,_,_,rfl,_,⟨i3,rfl,h3⟩,_,_,rfl,_,⟨i4,rfl,h4⟩,_,_,rfl,_,⟨i5,rfl,h5⟩,_,_,rfl,_,⟨i6,rfl,h6⟩,_,_,rfl,_,⟨b,rfl⟩,_,_,rfl,_,⟨g,rfl,hg⟩,rfl⟩:=h;exact⟨⟨i1,i2,i3,i4,i5,i6,b,g⟩,rfl,h1,h2,h3,h4,h5,h6⟩
theorem TY:Rd prog w 44 1 (fun row=>∃l:List Stp,row=[Ff l]∧∀x∈l,abD x):=
 (wM underlying44 (by kernel_rfl) (by decide) (abE w)).imp fun row _ ⟨rows,e,h⟩=>by
  obtain⟨l,rfl,hl⟩:=wO fun r hr=>(h r hr).2
  exact⟨l,e,hl⟩
end
end Go.Proofs.YtfoiekbkkbnpkaaGreat.Tb
end
