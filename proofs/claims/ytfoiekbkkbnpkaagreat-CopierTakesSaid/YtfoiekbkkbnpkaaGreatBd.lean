/-
  Contracts of functions of the program and of the document, each for every input that its premises name.
-/
import Derived.Test.YtfoiekbkkbnpkaaGreatBc
import Derived.Test.YtfoiekbkkbnpkaaGreatAf
import Derived.Test.YtfoiekbkkbnpkaaGreatBb
import Derived.Test.YtfoiekbkkbnpkaaGreatProg
set_option linter.unusedSectionVars false
set_option linter.unusedVariables false
set_option linter.unusedSimpArgs false
set_option maxRecDepth 100000
set_option maxHeartbeats 4000000
section
open Go Go.Proofs.Tryz Go.AX
namespace Go.Proofs.YtfoiekbkkbnpkaaGreat.Tb
theorem Pv:bE prog 62 f62:=eZ func62
theorem Kj (a b:Int)(ha:0≤a∧a≤18446744073709551615)(hb:0≤b∧b≤18446744073709551615):dH prog 62 [uu a,uu b] (uu (iD a b)):=by
 refine PC.le ?_;refine dA Pv ?_;repeat' ((conv=>whnf);first|with_reducible apply aO|((with_reducible apply fk)<;>intro hc<;>try exact bQ)|refine aP ?_|fail)
 ·repeat' first|apply And.intro|exact aL|fail
  all_goals try (conv=>whnf)
  simp at hc;simp[iD,hc]
 repeat' first|apply And.intro|exact aL|fail
 all_goals try (conv=>whnf)
 simp at hc;rw[lU (by omega) (by omega),iD,if_neg (by omega)]
theorem jT:bE prog 16 f16:=eZ func16
theorem QU (c:Cp)(now:Int)(h:wL c)(vB:gL now)(h1:gL c.born)(h2:gL c.since) :
  Uk 16 [.pv (.agg c.c),.pv (uu now)] (dB c now).1 (dB c now).2∨XB 16 [.pv (.agg c.c),.pv (uu now)] (dB c now).1 (dB c now).2:=by
 have hO:=Jc c h;have qZ:∀n,(setOf c.l.au c.l.w n).length≤1000000:=fun n=>Nat.le_trans (lH h.fb _ n) (by decide)
 have hf:=h.fr;have hn:0≤c.n∧c.n≤18446744073709551615:=h.n;have ha:=Kj now c.born vB h1;have hs:=Kj now c.since vB h2;cases p1:(c.phase != 1) with
 | true=>
   cases p2:(c.phase != 2) with
   | true=>
     have e:dB c now=(c,[]):=by unfold dB;rw[p1,p2];rfl
     rw[e];clear e;refine Or.inl ⟨fun x hx=>(List.not_mem_nil hx).elim,?_⟩;refine jY jT ?_;repeat' ((conv=>whnf);first|with_reducible apply aO|((with_reducible apply fk)<;>intro hc<;>try exact cu)|(apply dV;refine⟨_,_,aW (hO) ?_,?_⟩;exact aZ)|refine aP ?_|fail)
     refine⟨_,_,⟨rfl,rfl⟩,?_⟩;all_goals exact aL
   | false=>
     cases e1:decide (iD now c.born≥9) with
     | true=>
       have e:dB c now=({ c with phase:=4 },[]):=by unfold dB;rw[p1,p2,e1];rfl
       rw[e];clear e;refine Or.inl ⟨fun x hx=>(List.not_mem_nil hx).elim,?_⟩;refine jY jT ?_;repeat' ((conv=>whnf);first|with_reducible apply aO|((with_reducible apply fk)<;>intro hc<;>try exact cu)|(apply dV;refine⟨_,_,aW (hO) ?_,?_⟩;exact aZ)|(apply aX;refine⟨_,ai (ha) ?_,?_⟩;exact aZ)|refine aP ?_|fail)
       refine⟨_,_,⟨rfl,rfl⟩,?_⟩;all_goals exact aL
     |false=>
     cases e2:decide (iD now c.since≥3) with
     | false=>
       have e:dB c now=(c,[]):=by unfold dB;rw[p1,p2,e1,e2];rfl
       rw[e];clear e;refine Or.inl ⟨fun x hx=>(List.not_mem_nil hx).elim,?_⟩;refine jY jT ?_;repeat' ((conv=>whnf);first|with_reducible apply aO|((with_reducible apply fk)<;>intro hc<;>try exact cu)|(apply dV;refine⟨_,_,aW (hO) ?_,?_⟩;exact aZ)|(apply aX;refine⟨_,ai (ha) ?_,?_⟩;exact aZ)|(apply aX;refine⟨_,ai (hs) ?_,?_⟩;exact aZ)|refine aP ?_|fail)
       refine⟨_,_,⟨rfl,rfl⟩,?_⟩;all_goals exact aL
     |true=>
     have e:dB c now=iC c now:=by unfold dB;rw[p1,p2,e1,e2];rfl
     rw[e];clear e;have hp:c.phase=2:=by rw[bne_eq_false_iff_eq] at p2;exact p2
     have e:iC c now=({ c with since:=now },[⟨c.to,1,c.l.id,c.n,0,c.l.last,1,c.body,[]⟩]):=by unfold iC;rw[if_pos hp]
     rw[e];clear e;refine Or.inr ⟨_,rfl,rfl,by simp only;have:=h.bo;omega,?_⟩;have fI:=Kh c now hp (by have:=h.bo;omega);clear hp;refine jY jT ?_;repeat' ((conv=>whnf);first|with_reducible apply aO|((with_reducible apply fk)<;>intro hc<;>try exact cu)|(apply dV;refine⟨_,_,aW (hO) ?_,?_⟩;exact aZ)|(apply aX;refine⟨_,ai (ha) ?_,?_⟩;exact aZ)|(apply aX;refine⟨_,ai (hs) ?_,?_⟩;exact aZ)|(apply dV;refine⟨_,_,fI,?_⟩)|refine aP ?_|fail)
     refine⟨_,_,⟨rfl,rfl⟩,?_⟩;all_goals exact aL
 | false=>
   have p2:(c.phase != 2)=true:=by rw[bne_iff_ne];rw[bne_eq_false_iff_eq] at p1;omega
   cases e1:decide (iD now c.born≥9) with
   | true=>
     have e:dB c now=({ c with phase:=4 },[]):=by unfold dB;rw[p1,p2,e1];rfl
     rw[e];clear e;refine Or.inl ⟨fun x hx=>(List.not_mem_nil hx).elim,?_⟩;refine jY jT ?_;repeat' ((conv=>whnf);first|with_reducible apply aO|((with_reducible apply fk)<;>intro hc<;>try exact cu)|(apply dV;refine⟨_,_,aW (hO) ?_,?_⟩;exact aZ)|(apply aX;refine⟨_,ai (ha) ?_,?_⟩;exact aZ)|refine aP ?_|fail)
     refine⟨_,_,⟨rfl,rfl⟩,?_⟩;all_goals exact aL
   |false=>
   cases e2:decide (iD now c.since≥3) with
   | false=>
     have e:dB c now=(c,[]):=by unfold dB;rw[p1,p2,e1,e2];rfl
     rw[e];clear e;refine Or.inl ⟨fun x hx=>(List.not_mem_nil hx).elim,?_⟩;refine jY jT ?_;repeat' ((conv=>whnf);first|with_reducible apply aO|((with_reducible apply fk)<;>intro hc<;>try exact cu)|(apply dV;refine⟨_,_,aW (hO) ?_,?_⟩;exact aZ)|(apply aX;refine⟨_,ai (ha) ?_,?_⟩;exact aZ)|(apply aX;refine⟨_,ai (hs) ?_,?_⟩;exact aZ)|refine aP ?_|fail)
     refine⟨_,_,⟨rfl,rfl⟩,?_⟩;all_goals exact aL
   |true=>
   have e:dB c now=iC c now:=by unfold dB;rw[p1,p2,e1,e2];rfl
   rw[e];clear e;have hp:c.phase≠2:=by rw[bne_iff_ne] at p2;exact p2
   refine Or.inl ?_;cases hall:((others c).all fun p=>c.none.any (· == p)) with
   | true=>
     have e:iC c now=({ c with since:=now,none:=([]:List Pl) },((others c).filter fun p=>!(([]:List Pl)).any (· == p)).map fun p=>⟨p,3,c.l.id,c.n,0,0,0,[],[]⟩):=by
      unfold iC;rw[if_neg hp,hall];rfl
     rw[e];clear e;refine⟨DY c _,?_⟩;have fI:=Ra c now hp hall hf hn (qZ _);have hle:=DF c ((others c).filter fun p=>!(([]:List Pl)).any (· == p));clear hall hp;simp only at hle ⊢;generalize ((others c).filter fun p=>!(([]:List Pl)).any (· == p)).map (Au c)=rows at *;have h1:gY prog 16 [.pv (.agg c.c),.pv (uu now)] [] (.fF [.agg (fA { c with since:=now,none:=([]:List Pl) } (.aG 1001 0) (.aG 1002 0) (.aG 1003 0)),.aG 1004 0]) [(1001,.bR 48 0 2 1 27 2 (own (c.l.au.map Fr.c)) [] []),(1002,.arr 27 0 2 ((([]:List Pl)).map Pl.c)),(1003,.arr 5 0 1 (c.body.map aB)),(1004,.arr 93 0 10 rows)]:=by
      clear hle;refine jY jT ?_;repeat' ((conv=>whnf);first|with_reducible apply aO|((with_reducible apply fk)<;>intro hc<;>try exact cu)|(apply dV;refine⟨_,_,aW (hO) ?_,?_⟩;exact aZ)|(apply aX;refine⟨_,ai (ha) ?_,?_⟩;exact aZ)|(apply aX;refine⟨_,ai (hs) ?_,?_⟩;exact aZ)|(apply dV;refine⟨_,_,fI,?_⟩)|refine aP ?_|fail)
      refine⟨_,_,⟨rfl,rfl⟩,?_⟩;all_goals exact aL
     refine kE h1 [1004] ?_
     (conv=>whnf)
     refine⟨_,_,⟨rfl,rfl⟩,?_⟩;repeat' first|apply And.intro|exact aL|fail
     all_goals try (conv=>whnf)
     all_goals exact hle
   | false=>
     have e:iC c now=({ c with since:=now,none:=c.none },((others c).filter fun p=>!(c.none).any (· == p)).map fun p=>⟨p,3,c.l.id,c.n,0,0,0,[],[]⟩):=by
      unfold iC;rw[if_neg hp,hall];rfl
     rw[e];clear e;refine⟨DY c _,?_⟩;have fI:=Rb c now hp hall hf hn (qZ _);have hle:=DF c ((others c).filter fun p=>!(c.none).any (· == p));clear hall hp;simp only at hle ⊢;generalize ((others c).filter fun p=>!(c.none).any (· == p)).map (Au c)=rows at *;have h1:gY prog 16 [.pv (.agg c.c),.pv (uu now)] [] (.fF [.agg (fA { c with since:=now,none:=c.none } (.aG 1001 0) (.aG 1002 0) (.aG 1003 0)),.aG 1004 0]) [(1001,.bR 48 0 2 1 27 2 (own (c.l.au.map Fr.c)) [] []),(1002,.arr 27 0 2 ((c.none).map Pl.c)),(1003,.arr 5 0 1 (c.body.map aB)),(1004,.arr 93 0 10 rows)]:=by
      clear hle;refine jY jT ?_;repeat' ((conv=>whnf);first|with_reducible apply aO|((with_reducible apply fk)<;>intro hc<;>try exact cu)|(apply dV;refine⟨_,_,aW (hO) ?_,?_⟩;exact aZ)|(apply aX;refine⟨_,ai (ha) ?_,?_⟩;exact aZ)|(apply aX;refine⟨_,ai (hs) ?_,?_⟩;exact aZ)|(apply dV;refine⟨_,_,fI,?_⟩)|refine aP ?_|fail)
      refine⟨_,_,⟨rfl,rfl⟩,?_⟩;all_goals exact aL
     refine kE h1 [1004] ?_
     (conv=>whnf)
     refine⟨_,_,⟨rfl,rfl⟩,?_⟩;repeat' first|apply And.intro|exact aL|fail
     all_goals try (conv=>whnf)
     all_goals exact hle
theorem F8:bE prog 41 f41:=eZ func41
theorem zB (a b:Int):dH prog 41 [ii a,uu b] (.agg [ii a,uu b]):=by
 refine PC.le ?_;refine dA F8 ?_;repeat' ((conv=>whnf);first|with_reducible apply aO|((with_reducible apply fk)<;>intro hc<;>try exact bQ)|refine aP ?_|fail)
 all_goals exact aL
theorem Ar:bE prog 39 f39:=eZ func39
def jS:Lg:=⟨1,2,2,[⟨1,[⟨7,1⟩,⟨8,1⟩,⟨9,1⟩]⟩],1,3⟩
theorem DC:dH prog 39 [] (.agg jS.c):=by
 refine PC.le ?_;refine dA Ar ?_;repeat' ((conv=>whnf);first|with_reducible apply aO|((with_reducible apply fk)<;>intro hc<;>try exact bQ)|(apply aX;refine⟨_,zB _ _,?_⟩)|refine aP ?_|fail)
 all_goals exact aL
theorem I8:bE prog 44 f44:=eZ func44
theorem vz (p:Pl)(k code n:Int)(s:ByteArray)(h:s.size≤140737488355328):dH prog 44 [.agg p.c,ii k,ii code,uu n,.sc (.string s)] (.agg (Rs.c ⟨p,k,code,1,n,0,0,s.data.toList⟩)):=by
 refine PC.le ?_;refine dA I8 ?_;repeat' ((conv=>whnf);first|with_reducible apply aO|((with_reducible apply fk)<;>intro hc<;>try exact bQ)|(((with_reducible apply And.intro);focus exact h))|refine aP ?_|fail)
 all_goals exact aL
theorem OW:bE prog 99 f99:=eZ func99
theorem J9 (known:List Pl)(l:Lg)(old q:Pl):dH prog 99 ([]++([.agg q.c]++[.bT [iX known] 0,.bT l.c 0,.bT old.c 0])) (bl (!Fj q known&&oH l old q)):=by
 refine PC.le ?_;refine dA OW ?_;repeat' ((conv=>whnf);first|with_reducible apply aO|((with_reducible apply fk)<;>intro hc<;>try exact bQ)|(apply aX;refine⟨_,I9 _ _,?_⟩)|(apply aX;refine⟨_,Ja _ _ _,?_⟩)|refine aP ?_|fail)
 all_goals
  repeat' first|apply And.intro|exact aL|fail
  all_goals try (conv=>whnf)
  simp_all
theorem wK:bE prog 38 f38:=eZ func38
def rW (l:Lg):Bool:=decide (l.au.length>50)||l.au.any fun f=>decide ((f.ak.length:Int)>50)
theorem Jb (l:Lg):dH prog 38 [.agg l.c] (bl (rW l)):=by
 refine PC.le (jN wK fun hb=>?_);have hb:l.au.length≤9223372036854775807:=by simp[Br,wV,Lg.c,gH] at hb;omega
 refine dA wK ?_;repeat' ((conv=>whnf);first|with_reducible apply aO|((with_reducible apply fk)<;>intro hc<;>try exact bQ)|refine aP ?_|fail)
 ·repeat' first|apply And.intro|exact aL|fail
  all_goals try (conv=>whnf)
  simp only[jg,l9] at hc;simp only[rW];grind
 have h0:decide (l.au.length>50)=false:=by simp at hc ⊢;omega
 refine⟨{k:Nat // k≤l.au.length∧∀j (hj:j<l.au.length),j<k→decide ((l.au[j].ak.length:Int)>50)=false},fun⟨k,_⟩=>⟨[(1,.ptr 1001 0),(3,.pv (ii k))],1000000000,[(1001,.var [.pv (uu l.id),.pv (ii l.w),.pv (ii l.a),.pv (gH l.au),.pv (ii l.closed),.pv (uu l.last)])]⟩,fun⟨k,_⟩=>l.au.length-k,⟨⟨0,by simp⟩,aA ?_⟩,?_⟩
 ·all_goals exact aL
 rintro⟨k,hk,hn⟩
 repeat' ((conv=>whnf);first|with_reducible apply aO|((with_reducible apply fk)<;>intro hc<;>try exact bQ)|refine aP ?_|fail)
 ·have hlt:k<l.au.length:=by simpa using hc
  refine⟨_,eD _ _ _ hlt,?_⟩;repeat' ((conv=>whnf);first|with_reducible apply aO|((with_reducible apply fk)<;>intro hc<;>try exact bQ)|refine aP ?_|fail)
  ·repeat' first|apply And.intro|exact aL|fail
   all_goals try (conv=>whnf)
   have hh:decide ((l.au[k].ak.length:Int)>50)=true:=by simpa using hc
   have:=List.any_eq_true.2 (⟨l.au[k],List.getElem_mem hlt,hh⟩:∃x∈l.au,decide ((x.ak.length:Int)>50)=true);simp only[rW,this,Bool.or_true]
  have hh:decide ((l.au[k].ak.length:Int)>50)=false:=by simpa using hc
  refine⟨⟨k+1,hlt,eX hn fun _=>hh⟩,dec_lt hlt,aA ?_⟩;repeat' first|apply And.intro|exact aL|fail
  all_goals try (conv=>whnf)
  exact bI (by omega) (by omega)
 repeat' first|apply And.intro|exact aL|fail
 all_goals try (conv=>whnf)
 have:k=l.au.length:=by simp at hc;omega
 subst this;have:=u7 (q:=fun f:Fr=>decide ((f.ak.length:Int)>50)=false) hn;have:(l.au.any fun f=>decide ((f.ak.length:Int)>50))=false:=List.any_eq_false.2 fun x hx=>by rw[this x hx];simp
 simp only[rW,h0,this,Bool.or_self]
theorem F9:bE prog 42 f42:=eZ func42
theorem OX (l:Lg)(f1:Int)(a b:Pl)(r known:List Pl)(k:Nat)(hk:k<known.length)(hcl:(l.closed != 1)=false)(hfr:l.au=[⟨f1,a::b::r⟩])(ha:Fj a known=false)(hg:Fj b known=true)
  (hix:BH (fun q=>!Fj q known&&oH l b q) known=(k:Int)) (hkl:known.length≤1000000) :
  dH prog 42 [.agg [uu 0,uu 0,bK,.sl false 6 [l.c],bK],iX known] (.fF [uu l.id,.agg b.c,.agg known[k].c,bl true]):=by
 obtain⟨Uj,lw,la,lf,lc,ll⟩:=l;simp only at hfr hcl;subst hfr;refine PC.le (jN F9 fun hb=>?_);have hb:True:=trivial;refine dA F9 ?_;repeat' ((conv=>whnf);first|with_reducible apply aO|((with_reducible apply fk)<;>intro hc<;>try exact bQ)|refine aP ?_|fail)
 refine⟨Unit,fun _=>⟨[(3,.ptr 1003 0),(4,.pv (uu 0)),(5,.ptr 1005 0),(6,.ptr 1006 0),(7,.pv (bl false)),(16,.pv (.sl false 6 [Lg.c ⟨Uj,lw,la,[⟨f1,a::b::r⟩],lc,ll⟩])),(17,.pv (ii 1)),(18,.pv (ii 0))],1000000000,[(1003,.var [.pv (iX known)]),(1005,.var [.pv (ii 0),.pv (uu 0)]),(1006,.var [.pv (ii 0),.pv (uu 0)])]⟩,fun _=>0,⟨(),aA ?_⟩,?_⟩
 ·all_goals exact aL
 rintro⟨⟩
 repeat' ((conv=>whnf);first|with_reducible apply aO|((with_reducible apply fk)<;>intro hc<;>try exact bQ)|((refine⟨_,rfl,?_⟩))|refine aP ?_|fail)
 refine⟨Unit,fun _=>⟨[(3,.ptr 1003 0),(4,.pv (uu 0)),(5,.ptr 1005 0),(6,.ptr 1006 0),(7,.pv (bl false)),(16,.pv (.sl false 6 [Lg.c ⟨Uj,lw,la,[⟨f1,a::b::r⟩],lc,ll⟩])),(17,.pv (ii 1)),(18,.pv (ii 0)),(9,.ptr 1009 0),(26,.pv (gH [⟨f1,a::b::r⟩])),(27,.pv (ii 1)),(28,.pv (ii 0))],1000000000,[(1003,.var [.pv (iX known)]),(1005,.var [.pv (ii 0),.pv (uu 0)]),(1006,.var [.pv (ii 0),.pv (uu 0)]),(1009,.var [.pv (uu Uj),.pv (ii lw),.pv (ii la),.pv (gH [⟨f1,a::b::r⟩]),.pv (ii lc),.pv (uu ll)])]⟩,fun _=>0,⟨(),aA ?_⟩,?_⟩
 ·all_goals exact aL
 rintro⟨⟩
 repeat' ((conv=>whnf);first|with_reducible apply aO|((with_reducible apply fk)<;>intro hc<;>try exact bQ)|((refine⟨_,rfl,?_⟩))|refine aP ?_|fail)
 refine⟨{j:Nat // j≤1},fun⟨j,_⟩=>⟨[(3,.ptr 1003 0),(4,.pv (uu 0)),(5,.ptr 1005 0),(6,.ptr 1006 0),(7,.pv (bl false)),(16,.pv (.sl false 6 [Lg.c ⟨Uj,lw,la,[⟨f1,a::b::r⟩],lc,ll⟩])),(17,.pv (ii 1)),(18,.pv (ii 0)),(9,.ptr 1009 0),(26,.pv (gH [⟨f1,a::b::r⟩])),(27,.pv (ii 1)),(28,.pv (ii 0)),(33,.pv (iX (a::b::r))),(34,.pv (ii ((a::b::r).length:Int))),(35,.pv (ii j))],1000000000,[(1003,.ny [iX known]),(1005,.var [.pv (ii 0),.pv (uu 0)]),(1006,.var [.pv (ii 0),.pv (uu 0)]),(1009,.ny [uu Uj,ii lw,ii la,gH [⟨f1,a::b::r⟩],ii lc,uu ll])]⟩,fun⟨j,_⟩=>1-j,⟨⟨0,by simp⟩,JS [1003,1009] ?_⟩,?_⟩
 ·repeat' first|apply And.intro|exact aL|fail
  all_goals try (conv=>whnf)
  all_goals simp
 rintro⟨j,hj⟩
 have hj2:j=0∨j=1:=by omega
 rcases hj2 with rfl|rfl
 ·repeat' ((conv=>whnf);first|with_reducible apply aO|((with_reducible apply fk)<;>intro hc<;>try exact bQ)|((refine⟨_,rfl,?_⟩))|(apply aX;refine⟨_,dK known _ _ _ _ fun q _=>J9 known ⟨Uj,lw,la,[⟨f1,a::b::r⟩],lc,ll⟩ a q,?_⟩)|(apply aX;refine⟨_,I9 a known,?_⟩)|refine aP ?_|fail)
  ·refine⟨⟨1,by omega⟩,(by show 1-1<1-0;decide),aA ?_⟩;all_goals exact aL
  ·exfalso;simp only[tF,Gu] at hc;omega
 repeat' ((conv=>whnf);first|with_reducible apply aO|((with_reducible apply fk)<;>intro hc<;>try exact bQ)|((refine⟨_,rfl,?_⟩))|(apply aX;refine⟨_,dK known _ _ _ _ fun q _=>J9 known ⟨Uj,lw,la,[⟨f1,a::b::r⟩],lc,ll⟩ b q,?_⟩)|(apply aX;refine⟨_,I9 b known,?_⟩)|(((with_reducible apply And.intro);focus (rw[hix];omega)))|(((with_reducible apply And.intro);focus (rw[hix,List.length_map];omega)))|((refine⟨_,La _ _ hix hk,?_⟩))|refine aP ?_|fail)
 all_goals try (exfalso;simp only[hix,tF,Gu] at hc;omega)
 all_goals
  repeat' first|apply And.intro|exact aL|fail
  all_goals try (conv=>whnf)
 all_goals trace_state
def Sb (d:Cp):List AV:=fA d (.pv (gH d.l.au)) (.pv (iX d.none)) (.pv (xC d.body))
theorem zC {f:FuncId}{args:List AV}{d:Cp}{q:List Rq}(h:Uk f args d q):gY prog f args [] (.fF [.agg (Sb d),.pv (BG q)]) []:=by
 have h1:gY prog f args [] (.fF [.agg (fA d (.aG 1001 0) (.aG 1002 0) (.aG 1003 0)),.pv (BG q)]) [(1001,.arr 48 0 2 (d.l.au.map Fr.c)),(1002,.arr 27 0 2 (d.none.map Pl.c)),(1003,.arr 5 0 1 (d.body.map aB))]:=by
  refine og h.2 1001 rfl ?_;rw[jJ]
  (conv=>whnf)
  refine⟨_,_,⟨rfl,rfl⟩,?_⟩;repeat' first|apply And.intro|exact aL|fail
  all_goals try (conv=>whnf)
  all_goals (rw[List.map_nil,List.append_nil];exact bH _)
 refine kE h1 [1001,1002,1003] ?_
 (conv=>whnf)
 refine⟨_,_,⟨rfl,rfl⟩,?_⟩;all_goals exact aL
theorem zD {f:FuncId}{args:List AV}{d:Cp}{x:Rq}(h:gY prog f args [] (.fF [.agg (fA d (.aG 1001 0) (.aG 1002 0) (.aG 1003 0)),.aG 1004 0]) [(1001,.bR 48 0 2 1 27 2 (own (d.l.au.map Fr.c)) [] []),(1002,.arr 27 0 2 (d.none.map Pl.c)),(1003,.arr 5 0 1 (d.body.map aB)),(1004,.dL 93 0 10 [] [.pv (ii x.to.node),.pv (uu x.to.aM),.pv (ii x.kind),.pv (uu x.bO),.pv (uu x.n),.pv (uu x.dz),.pv (uu x.sure),.pv (ii x.copy),.aG 1005 0,.pv (xD x.keep)] []),(1005,.arr 5 0 1 (x.body.map aB))]) :
  gY prog f args [] (.fF [.agg (Sb d),.aG 1001 0]) [(1001,.dL 93 0 10 [] [.pv (ii x.to.node),.pv (uu x.to.aM),.pv (ii x.kind),.pv (uu x.bO),.pv (uu x.n),.pv (uu x.dz),.pv (uu x.sure),.pv (ii x.copy),.aG 1002 0,.pv (xD x.keep)] []),(1002,.arr 5 0 1 (x.body.map aB))]:=by
 have h1:gY prog f args [] (.fF [.agg (fA d (.aG 1001 0) (.aG 1002 0) (.aG 1003 0)),.aG 1004 0]) [(1001,.arr 48 0 2 (d.l.au.map Fr.c)),(1002,.arr 27 0 2 (d.none.map Pl.c)),(1003,.arr 5 0 1 (d.body.map aB)),(1004,.dL 93 0 10 [] [.pv (ii x.to.node),.pv (uu x.to.aM),.pv (ii x.kind),.pv (uu x.bO),.pv (uu x.n),.pv (uu x.dz),.pv (uu x.sure),.pv (ii x.copy),.aG 1005 0,.pv (xD x.keep)] []),(1005,.arr 5 0 1 (x.body.map aB))]:=by
  refine og h 1001 rfl ?_;rw[jJ]
  (conv=>whnf)
  refine⟨_,_,⟨rfl,rfl⟩,?_⟩;repeat' first|apply And.intro|exact aL|fail
  all_goals try (conv=>whnf)
  all_goals (rw[List.map_nil,List.append_nil];exact bH _)
 refine kE h1 [1001,1002,1003] ?_
 (conv=>whnf)
 refine⟨_,_,⟨rfl,rfl⟩,?_⟩;all_goals exact aL
theorem QL:bE prog 43 f43:=eZ func43
theorem QM (l:Lg)(from_ to:Pl)(now:Int)(h:wL ⟨l,from_,to,0,0,[],[],now,now⟩)(hcl:gJ l=true)(hft:oH l from_ to=true)(n0:Int)(rs:List Int)(hL:dQ l from_ 0=n0::rs) :
  gY prog 43 [.pv (.agg l.c),.pv (.agg from_.c),.pv (.agg to.c),.pv (uu now)] []
   (.fF [.agg (Sb (⟨l,from_,to,1,n0,[],[],now,now⟩:Cp)),.pv (BG ((Me l from_ n0).map (rP l n0))),.pv (ii 0)]) []:=by
 have hok:l.ok:=fun x hx=>by have:=h.fb x hx;omega
 have hO:=Jc _ h;have hc1:=Ga l hok;have hf1:=Ja l from_ to;rw[hcl] at hc1;rw[hft] at hf1;have qZ:∀n,(setOf l.au l.w n).length≤1000000:=fun n=>Nat.le_trans (lH h.fb _ n) (by decide)
 have CS:=OY (⟨l,from_,to,0,0,[],[],now,now⟩:Cp) now hok h.fr (by simp) qZ n0 rs hL;have hle:=DF (⟨l,from_,to,0,n0,[],[],now,now⟩:Cp) ((others (⟨l,from_,to,0,n0,[],[],now,now⟩:Cp)).filter fun p=>!([]:List Pl).any (· == p));simp only at hle CS;generalize ((others (⟨l,from_,to,0,n0,[],[],now,now⟩:Cp)).filter fun p=>!([]:List Pl).any (· == p)).map (Au ⟨l,from_,to,0,n0,[],[],now,now⟩)=rows at *;rw[pW] at hle;change fC (((Me l from_ n0).map (rP l n0)).map Rq.c) rows at hle
 generalize (Me l from_ n0).map (rP l n0)=q at *;clear qZ hL hcl hft hok h;obtain⟨d,hd⟩:∃d:Cp,d=⟨l,from_,to,1,n0,[],[],now,now⟩:=⟨_,rfl⟩;have h1:gY prog 43 [.pv (.agg l.c),.pv (.agg from_.c),.pv (.agg to.c),.pv (uu now)] [] (.fF [.agg (fA ⟨l,from_,to,1,n0,[],[],now,now⟩ (.aG 1001 0) (.aG 1002 0) (.aG 1003 0)),.aG 1004 0,.pv (ii 0)]) [(1001,.bR 48 0 2 1 27 2 (own (l.au.map Fr.c)) [] []),(1002,.arr 27 0 2 []),(1003,.arr 5 0 1 []),(1004,.arr 93 0 10 rows)]:=by
  clear hle;refine jY QL ?_;repeat' ((conv=>whnf);first|with_reducible apply aO|((with_reducible apply fk)<;>intro hc<;>try exact cu)|(apply aX;refine⟨_,ai (hc1) ?_,?_⟩;exact aZ)|(apply aX;refine⟨_,ai (hf1) ?_,?_⟩;exact aZ)|(apply dV;refine⟨_,_,aW (hO) ?_,?_⟩;exact aZ)|(apply dV;refine⟨_,_,CS,?_⟩)|refine aP ?_|fail)
  refine⟨_,_,⟨rfl,rfl⟩,?_⟩;all_goals exact aL
 have h2:gY prog 43 [.pv (.agg l.c),.pv (.agg from_.c),.pv (.agg to.c),.pv (uu now)] [] (.fF [.agg (fA ⟨l,from_,to,1,n0,[],[],now,now⟩ (.aG 1001 0) (.aG 1002 0) (.aG 1003 0)),.aG 1004 0,.pv (ii 0)]) [(1001,.arr 48 0 2 (l.au.map Fr.c)),(1002,.arr 27 0 2 []),(1003,.arr 5 0 1 []),(1004,.arr 93 0 10 rows)]:=by
  refine og h1 1001 rfl ?_;rw[jJ]
  (conv=>whnf)
  refine⟨_,_,⟨rfl,rfl⟩,?_⟩;repeat' first|apply And.intro|exact aL|fail
  all_goals try (conv=>whnf)
  all_goals (rw[List.map_nil,List.append_nil];exact bH _)
 refine kE h2 [1001,1002,1003,1004] ?_
 (conv=>whnf)
 refine⟨_,_,⟨rfl,rfl⟩,?_⟩;repeat' first|apply And.intro|exact aL|fail
 all_goals try (conv=>whnf)
 all_goals exact hle
def k1:Cp:=⟨jS,⟨8,1⟩,⟨8,2⟩,1,1,[],[],5,5⟩
def k2:Cp:=⟨jS,⟨8,1⟩,⟨8,2⟩,2,1,[],[120],5,6⟩
def k3:Cp:=⟨jS,⟨8,1⟩,⟨8,2⟩,1,2,[],[],6,6⟩
def k4:Cp:=⟨jS,⟨8,1⟩,⟨8,2⟩,2,2,[],[121],6,6⟩
def k5:Cp:=⟨jS,⟨8,1⟩,⟨8,2⟩,3,0,[],[],6,6⟩
theorem WL:jS.ok:=by
 intro x hx;simp only[jS,List.mem_singleton] at hx;subst hx;simp
theorem OZ:fB jS.au:=by
 intro x hx;simp only[jS,List.mem_singleton] at hx;subst hx;exact⟨by decide,by decide,by simp⟩
theorem Ul:dH prog 40 [.agg jS.c,.agg [ii 8,uu 1]] (xD [1,2]):=by
 have h:=Um jS ⟨8,1⟩ WL OZ;have e:dQ jS ⟨8,1⟩ 0=[1,2]:=by decide +kernel
 rw[e] at h;exact h
theorem Gb (p n:Int)(b:List UInt8)(u v:Int)(h:b.length≤1)(hn:0≤n∧n≤10):wL ⟨jS,⟨8,1⟩,⟨8,2⟩,p,n,[],b,u,v⟩:=
 ⟨(by simp[jS]),(by intro x hx;simp only[jS,List.mem_singleton] at hx;subst hx;simp),OZ,(by simp),(by simp only;omega),⟨(by simp only;omega),(by simp only;omega)⟩,(by simp[jS])⟩
theorem Un:gY prog 43 [.pv (.agg jS.c),.pv (.agg [ii 8,uu 1]),.pv (.agg [ii 8,uu 2]),.pv (uu 5)] [] (.fF [.agg (Sb k1),.pv (BG [⟨⟨7,1⟩,3,1,1,0,0,0,[],[]⟩]),.pv (ii 0)]) []:=by
 have h:=QM jS ⟨8,1⟩ ⟨8,2⟩ 5 (Gb 0 0 [] 5 5 (by decide) (by decide)) (by decide +kernel) (by decide +kernel) 1 [2] (by decide +kernel);have e:(Me jS ⟨8,1⟩ 1).map (rP jS 1)=[⟨⟨7,1⟩,3,1,1,0,0,0,[],[]⟩]:=by decide +kernel
 rw[e] at h;exact h
theorem O0:gY prog 13 [.pv (.agg k2.c),.pv (uu 6),.pv (.agg (⟨⟨8,2⟩,1,0,1,1,0,0,[]⟩:Rs).c)] [] (.fF [.agg (Sb k3),.pv (BG [⟨⟨9,1⟩,3,1,2,0,0,0,[],[]⟩])]) []:=by
 have h:=uo k2 6 ⟨⟨8,2⟩,1,0,1,1,0,0,[]⟩ (Gb 2 1 [120] 5 6 (by decide) (by decide)) (by decide);have e:takeC k2 6 ⟨⟨8,2⟩,1,0,1,1,0,0,[]⟩=(k3,[⟨⟨9,1⟩,3,1,2,0,0,0,[],[]⟩]):=by decide +kernel
 rw[e] at h;rcases h with h|⟨x,h1,h2,_⟩
 ·exact zC h
 first
  |(simp only[List.cons.injEq,and_true] at h1;subst h1;exact absurd h2 (by decide))
  |cases h1
theorem O1:gY prog 13 [.pv (.agg k4.c),.pv (uu 6),.pv (.agg (⟨⟨8,2⟩,1,0,1,2,0,0,[]⟩:Rs).c)] [] (.fF [.agg (Sb k5),.pv (BG [])]) []:=by
 have h:=uo k4 6 ⟨⟨8,2⟩,1,0,1,2,0,0,[]⟩ (Gb 2 2 [121] 6 6 (by decide) (by decide)) (by decide);have e:takeC k4 6 ⟨⟨8,2⟩,1,0,1,2,0,0,[]⟩=(k5,[]):=by decide +kernel
 rw[e] at h;rcases h with h|⟨x,h1,h2,_⟩
 ·exact zC h
 first
  |(simp only[List.cons.injEq,and_true] at h1;subst h1;exact absurd h2 (by decide))
  |cases h1
theorem O3:gY prog 13 [.pv (.agg k1.c),.pv (uu 6),.pv (.agg (⟨⟨7,1⟩,3,0,1,1,0,0,[120]⟩:Rs).c)] [] (.fF [.agg (Sb k2),.aG 1001 0]) [(1001,.dL 93 0 10 [] [.pv (ii (⟨⟨8,2⟩,1,1,1,0,3,1,[120],[]⟩:Rq).to.node),.pv (uu (⟨⟨8,2⟩,1,1,1,0,3,1,[120],[]⟩:Rq).to.aM),.pv (ii (⟨⟨8,2⟩,1,1,1,0,3,1,[120],[]⟩:Rq).kind),.pv (uu (⟨⟨8,2⟩,1,1,1,0,3,1,[120],[]⟩:Rq).bO),.pv (uu (⟨⟨8,2⟩,1,1,1,0,3,1,[120],[]⟩:Rq).n),.pv (uu (⟨⟨8,2⟩,1,1,1,0,3,1,[120],[]⟩:Rq).dz),.pv (uu (⟨⟨8,2⟩,1,1,1,0,3,1,[120],[]⟩:Rq).sure),.pv (ii (⟨⟨8,2⟩,1,1,1,0,3,1,[120],[]⟩:Rq).copy),.aG 1002 0,.pv (xD (⟨⟨8,2⟩,1,1,1,0,3,1,[120],[]⟩:Rq).keep)] []),(1002,.arr 5 0 1 ((⟨⟨8,2⟩,1,1,1,0,3,1,[120],[]⟩:Rq).body.map aB))]:=by
 have h:=uo k1 6 ⟨⟨7,1⟩,3,0,1,1,0,0,[120]⟩ (Gb 1 1 [] 5 5 (by decide) (by decide)) (by decide);have e:takeC k1 6 ⟨⟨7,1⟩,3,0,1,1,0,0,[120]⟩=(k2,[⟨⟨8,2⟩,1,1,1,0,3,1,[120],[]⟩]):=by decide +kernel
 rw[e] at h;rcases h with h|⟨x,h1,_,_,h3⟩
 ·exact absurd (h.1 _ (List.mem_singleton.2 rfl)).2 (by decide)
 simp only[List.cons.injEq,and_true] at h1;subst h1;exact zD h3
theorem O4:gY prog 13 [.pv (.agg k3.c),.pv (uu 6),.pv (.agg (⟨⟨9,1⟩,3,0,1,2,0,0,[121]⟩:Rs).c)] [] (.fF [.agg (Sb k4),.aG 1001 0]) [(1001,.dL 93 0 10 [] [.pv (ii (⟨⟨8,2⟩,1,1,2,0,3,1,[121],[]⟩:Rq).to.node),.pv (uu (⟨⟨8,2⟩,1,1,2,0,3,1,[121],[]⟩:Rq).to.aM),.pv (ii (⟨⟨8,2⟩,1,1,2,0,3,1,[121],[]⟩:Rq).kind),.pv (uu (⟨⟨8,2⟩,1,1,2,0,3,1,[121],[]⟩:Rq).bO),.pv (uu (⟨⟨8,2⟩,1,1,2,0,3,1,[121],[]⟩:Rq).n),.pv (uu (⟨⟨8,2⟩,1,1,2,0,3,1,[121],[]⟩:Rq).dz),.pv (uu (⟨⟨8,2⟩,1,1,2,0,3,1,[121],[]⟩:Rq).sure),.pv (ii (⟨⟨8,2⟩,1,1,2,0,3,1,[121],[]⟩:Rq).copy),.aG 1002 0,.pv (xD (⟨⟨8,2⟩,1,1,2,0,3,1,[121],[]⟩:Rq).keep)] []),(1002,.arr 5 0 1 ((⟨⟨8,2⟩,1,1,2,0,3,1,[121],[]⟩:Rq).body.map aB))]:=by
 have h:=uo k3 6 ⟨⟨9,1⟩,3,0,1,2,0,0,[121]⟩ (Gb 1 2 [] 6 6 (by decide) (by decide)) (by decide);have e:takeC k3 6 ⟨⟨9,1⟩,3,0,1,2,0,0,[121]⟩=(k4,[⟨⟨8,2⟩,1,1,2,0,3,1,[121],[]⟩]):=by decide +kernel
 rw[e] at h;rcases h with h|⟨x,h1,_,_,h3⟩
 ·exact absurd (h.1 _ (List.mem_singleton.2 rfl)).2 (by decide)
 simp only[List.cons.injEq,and_true] at h1;subst h1;exact zD h3
theorem QN:dH prog 42 [.agg [uu 0,uu 0,bK,.sl false 6 [jS.c],bK],iX [⟨7,1⟩,⟨8,2⟩,⟨9,1⟩]] (.fF [uu 1,.agg [ii 8,uu 1],.agg [ii 8,uu 2],bl true]):=
 OX jS 1 ⟨7,1⟩ ⟨8,1⟩ [⟨9,1⟩] [⟨7,1⟩,⟨8,2⟩,⟨9,1⟩] 1 (by decide) (by decide) rfl (by decide) (by decide) (by decide +kernel) (by decide)
theorem QO:dH prog 45 [.agg jS.c,.agg [ii 8,uu 1],.agg [ii 9,uu 2]] (bl false):=by
 have h:=Ja jS ⟨8,1⟩ ⟨9,2⟩;have e:oH jS ⟨8,1⟩ ⟨9,2⟩=false:=by decide +kernel
 rw[e] at h;exact h
theorem Gc:bE prog 9 f9:=eZ func9
theorem eB:dH prog 9 [] (bl true):=by
 refine PC.le ?_;refine dA Gc ?_;repeat' ((conv=>whnf);first|with_reducible apply aO|((with_reducible apply fk)<;>intro hc<;>try exact bQ)|(apply aX;refine⟨_,DC,?_⟩)|(apply aX;refine⟨_,zB _ _,?_⟩)|(apply aX;refine⟨_,vz ⟨7,1⟩ _ _ _ _ (by decide),?_⟩)|(apply aX;refine⟨_,vz ⟨8,2⟩ _ _ _ _ (by decide),?_⟩)|(apply aX;refine⟨_,vz ⟨9,1⟩ _ _ _ _ (by decide),?_⟩)|(apply aX;refine⟨_,Ul,?_⟩)|(apply aX;refine⟨_,QN,?_⟩)|(apply dV;refine⟨_,_,aW (Un) ?_,?_⟩;exact aZ)|(apply dV;refine⟨_,_,aW (O3) ?_,?_⟩;exact aZ)|(apply dV;refine⟨_,_,aW (O0) ?_,?_⟩;exact aZ)|(apply dV;refine⟨_,_,aW (O4) ?_,?_⟩;exact aZ)|(apply dV;refine⟨_,_,aW (O1) ?_,?_⟩;exact aZ)|(apply aX;refine⟨_,QO,?_⟩)|((refine⟨_,rfl,?_⟩))|refine aP ?_|fail)
 all_goals
  repeat' first|apply And.intro|exact aL|fail
  all_goals try (conv=>whnf)
 all_goals (exfalso;simp only[ByteArray.toList_mk,BEq.rfl,reduceCtorEq] at *)
def wo (c:Cp):Bool:=rW c.l||(decide ((c.none.length:Int)>200)||decide ((c.body.length:Int)>5000))
theorem zF:bE prog 8 f8:=eZ func8
theorem BX (c:Cp):dH prog 8 [.agg c.c] (bl (wo c)):=by
 refine PC.le ?_;have hh:=Jb c.l;unfold wo;cases h1:rW c.l with
 | true=>
   rw[h1] at hh;refine dA zF ?_;repeat' ((conv=>whnf);first|with_reducible apply aO|((with_reducible apply fk)<;>intro hc<;>try exact cu)|(apply aX;refine⟨_,ai (hh) ?_,?_⟩;exact aZ)|refine aP ?_|fail)
   all_goals exact aL
 | false=>
   rw[h1] at hh;refine dA zF ?_;repeat' ((conv=>whnf);first|with_reducible apply aO|((with_reducible apply fk)<;>intro hc<;>try exact cu)|(apply aX;refine⟨_,ai (hh) ?_,?_⟩;exact aZ)|refine aP ?_|fail)
   all_goals
    repeat' first|apply And.intro|exact aL|fail
    all_goals try (conv=>whnf)
    all_goals first
     |(simp only[jg] at hc ⊢;rw[hc];simp;done)
     |trace_state
def X5 (c:Cp):Prop:=lgR c.l∧gL c.n∧gL c.born∧gL c.since
theorem Ka {c:Cp}(h:wo c=false)(hr:X5 c):wL c:=by
 simp only[wo,rW,Bool.or_eq_false_iff,List.any_eq_false,l9,Gu] at h;obtain⟨⟨h1,h2⟩,h3,h4⟩:=h;obtain⟨hl,hn,_,_⟩:=hr;refine⟨by omega,fun f hf=>by have:=h2 f hf;omega,fun f hf=>?_,by omega,by omega,hn,?_⟩
 ·have:=hl.2.2.2.2.2 f hf;have:=h2 f hf;exact⟨by simp only[gL] at *;omega,by simp only[gL] at *;omega,by omega⟩
 have h5:=hl.2.2.2.1;have h6:=hl.2.2.2.2.1;simp only[y7,gL] at h5 h6;omega
theorem DJ {c:Cp}(h:wL c)(now:Int):wL (iC c now).1:=by
 unfold iC;split
 ·exact⟨h.fl,h.fb,h.fr,h.no,h.bo,h.n,h.cl⟩
 refine⟨h.fl,h.fb,h.fr,?_,h.bo,h.n,h.cl⟩;dsimp only
 split
 ·simp
 exact h.no
theorem Uo {c:Cp}(h:wL c)(now:Int):wL (y8 c now).1:=by
 unfold y8;split
 ·rename_i n0 r hL;have hm:=jQ (l:=c.l) (from_:=c.from_) (behind:=c.n) (n:=n0) (by rw[hL];simp);have hn:=h.n;refine DJ (c:={ c with none:=[],body:=[],phase:=1,n:=n0,born:=now }) ⟨h.fl,h.fb,h.fr,Nat.zero_le _,Nat.zero_le _,?_,h.cl⟩ now;simp only[gL] at hn ⊢;omega
 exact⟨h.fl,h.fb,h.fr,Nat.zero_le _,Nat.zero_le _,⟨by show (0:Int)≤0;omega,by show (0:Int)≤18446744073709551615;omega⟩,h.cl⟩
theorem O5 {c:Cp}(h:wL c)(hl:c.none.length≤200)(now:Int)(r:Rs)(hb:r.body.length≤5000):wL (takeC c now r).1:=by
 unfold takeC;split
 ·exact h
 split
 ·split
  ·exact DJ (c:={ c with phase:=2,body:=r.body }) ⟨h.fl,h.fb,h.fr,h.no,Nat.le_trans hb (by decide),h.n,h.cl⟩ now
  split
  ·dsimp only
   split
   ·exact h
   exact⟨h.fl,h.fb,h.fr,by simp only[JL,tF,uX];omega,h.bo,h.n,h.cl⟩
  exact h
 split
 ·split
  ·exact Uo h now
  split
  ·exact⟨h.fl,h.fb,h.fr,h.no,h.bo,h.n,h.cl⟩
  exact h
 exact h
theorem O6 {c:Cp}(h:wL c)(now:Int):wL (dB c now).1:=by
 unfold dB;split
 ·exact h
 split
 ·exact⟨h.fl,h.fb,h.fr,h.no,h.bo,h.n,h.cl⟩
 split
 ·exact DJ h now
 exact h
theorem WM {c:Cp}(h:wL c)(n:Int)(p:Pl→Bool):((others { c with n:=n }).filter p).length≤1000:=
 Nat.le_trans (List.length_filter_le _ _) (Nat.le_trans (List.length_filter_le _ _) (Nat.le_trans (lH h.fb _ _) (by decide)))
theorem Jd {c:Cp}(h:wL c)(now:Int):(iC c now).2.length≤1000:=by
 unfold iC;split
 ·simp
 simp only[jg];exact WM h c.n _
theorem WN {c:Cp}(h:wL c)(now:Int):(y8 c now).2.length≤1000:=by
 unfold y8;split
 ·rename_i n0 r hL;have hm:=jQ (l:=c.l) (from_:=c.from_) (behind:=c.n) (n:=n0) (by rw[hL];simp);have hn:=h.n;refine Jd (c:={ c with none:=[],body:=[],phase:=1,n:=n0,born:=now }) ⟨h.fl,h.fb,h.fr,Nat.zero_le _,Nat.zero_le _,?_,h.cl⟩ now;simp only[gL] at hn ⊢;omega
 simp
theorem QR {c:Cp}(h:wL c)(now:Int)(r:Rs)(hb:r.body.length≤5000):(takeC c now r).2.length≤1000:=by
 unfold takeC;split
 ·simp
 split
 ·split
  ·exact Jd (c:={ c with phase:=2,body:=r.body }) ⟨h.fl,h.fb,h.fr,h.no,Nat.le_trans hb (by decide),h.n,h.cl⟩ now
  split<;>simp
 split
 ·split
  ·exact WN h now
  split<;>simp
 simp
theorem QS {c:Cp}(h:wL c)(now:Int):(dB c now).2.length≤1000:=by
 unfold dB;split
 ·simp
 split
 ·simp
 split
 ·exact Jd h now
 simp
theorem dP:bE prog 3 f3:=eZ func3
theorem Je (c other:Cp)(now:Int)(r:Rs)(hc:X5 c)(ho:X5 other)(vB:gL now) :
  dH prog 3 [.agg c.c,.agg other.c,uu now,.agg r.c] (bl true):=by
 refine PC.le ?_;have hl1:=BX c;have hl2:=BX other;cases e1:wo c with
 | true=>
   rw[e1] at hl1;refine dA dP ?_;repeat' ((conv=>whnf);first|with_reducible apply aO|((with_reducible apply fk)<;>intro hc<;>try exact cu)|(apply aX;refine⟨_,ai (hl1) ?_,?_⟩;exact aZ)|(apply aX;refine⟨_,ai (eB) ?_,?_⟩;exact aZ)|refine aP ?_|fail)
   all_goals exact aL
 |false=>
 rw[e1] at hl1;cases e2:wo other with
 | true=>
   rw[e2] at hl2;refine dA dP ?_;repeat' ((conv=>whnf);first|with_reducible apply aO|((with_reducible apply fk)<;>intro hc<;>try exact cu)|(apply aX;refine⟨_,ai (hl1) ?_,?_⟩;exact aZ)|(apply aX;refine⟨_,ai (hl2) ?_,?_⟩;exact aZ)|(apply aX;refine⟨_,ai (eB) ?_,?_⟩;exact aZ)|refine aP ?_|fail)
   all_goals exact aL
 |false=>
 rw[e2] at hl2;cases e3:decide (((List.map aB r.body).length:Int)>5000) with
 | true=>
   refine dA dP ?_;repeat' ((conv=>whnf);first|with_reducible apply aO|((with_reducible apply fk)<;>intro hc<;>try exact cu)|(apply aX;refine⟨_,ai (hl1) ?_,?_⟩;exact aZ)|(apply aX;refine⟨_,ai (hl2) ?_,?_⟩;exact aZ)|(apply aX;refine⟨_,ai (eB) ?_,?_⟩;exact aZ)|refine aP ?_|fail)
   all_goals exact aL
 |false=>
 have hb:r.body.length≤5000:=by simp only[jg,Gu] at e3;omega
 have hs:=Ka e1 hc;have QT:=Ka e2 ho;have uq:c.none.length≤200:=by
  simp only[wo,Bool.or_eq_false_iff,Gu] at e1;omega
 have hown:=zG c hs;have Av:=Kb c other;have DK:=Kb c c;rw[decide_eq_true (rfl:c=c)] at DK;have h1:=hs.no;have h2:=hs.bo;have h2o:=QT.bo;have h3:=hs.fl;have h4:=hs.fb;have Aw:=qB c other (by omega) (by omega) (by omega) (by omega) (fun x hx=>by have:=h4 x hx;omega);have DL:=qB c c (by omega) (by omega) (by omega) (by omega) (fun x hx=>by have:=h4 x hx;omega);rw[decide_eq_true (rfl:c=c)] at DL;have hrt:=LQ c now r hs hb;have Sc:=LU c now hs vB hc.2.2.1 hc.2.2.2;have htk:=uo c now r hs hb;have Gv:=QU c now hs vB hc.2.2.1 hc.2.2.2;have hd1:=O5 hs uq now r hb;have hd2:=O6 hs now;have hq1:=QR hs now r hb;have hq2:=QS hs now;generalize (takeC c now r).1=d1 at *;generalize (takeC c now r).2=q1 at *;generalize (dB c now).1=d2 at *;generalize (dB c now).2=q2 at *;cases e4:decide (c=other) with
 | true=>
   rw[e4] at Av Aw;clear h1 h2 h2o h3 h4;rcases htk with h1|h1
   ·have hA1:=h1.2;have hS1:=qC d1 q1 hd1 hq1 (fun x hx=>(h1.1 x hx).1);clear h1;rcases Gv with h2|h2
    ·have hA2:=h2.2;have hS2:=qC d2 q2 hd2 hq2 (fun x hx=>(h2.1 x hx).1);clear h2;clear hd1 hd2 hq1 hq2 hs QT uq hb hc ho vB e1 e2 e4;refine dA dP ?_;repeat' ((conv=>whnf);first|with_reducible apply aO|((with_reducible apply fk)<;>intro hc<;>try exact cu)|(apply aX;refine⟨_,ai (hl1) ?_,?_⟩;exact aZ)|(apply aX;refine⟨_,ai (hl2) ?_,?_⟩;exact aZ)|(apply aX;refine⟨_,ai (hown) ?_,?_⟩;exact aZ)|(apply aX;refine⟨_,ai (Av) ?_,?_⟩;exact aZ)|(apply aX;refine⟨_,ai (DK) ?_,?_⟩;exact aZ)|(apply aX;refine⟨_,ai (Aw) ?_,?_⟩;exact aZ)|(apply aX;refine⟨_,ai (DL) ?_,?_⟩;exact aZ)|(apply aX;refine⟨_,ai (hrt) ?_,?_⟩;exact aZ)|(apply aX;refine⟨_,ai (Sc) ?_,?_⟩;exact aZ)|(apply dV;refine⟨_,_,aW (hA1) ?_,?_⟩;exact aZ)|(apply dV;refine⟨_,_,aW (hA2) ?_,?_⟩;exact aZ)|(apply dV;refine⟨_,_,hS1,?_⟩)|(apply dV;refine⟨_,_,hS2,?_⟩)|(apply aX;refine⟨_,ai (eB) ?_,?_⟩;exact aZ)|((refine⟨r.body,rfl,?_⟩))|refine aP ?_|fail)
     repeat' first|apply And.intro|exact aL|fail
     all_goals try (conv=>whnf)
     all_goals (exfalso;simp only[BEq.rfl,Bool.not_true,Bool.false_eq_true] at hc)
    obtain⟨x2,rfl,_,hx2,hA2⟩:=h2;have hS2:=qD d2 x2 hd2 hx2;clear hx2;clear hd1 hd2 hq1 hq2 hs QT uq hb hc ho vB e1 e2 e4;refine dA dP ?_;repeat' ((conv=>whnf);first|with_reducible apply aO|((with_reducible apply fk)<;>intro hc<;>try exact cu)|(apply aX;refine⟨_,ai (hl1) ?_,?_⟩;exact aZ)|(apply aX;refine⟨_,ai (hl2) ?_,?_⟩;exact aZ)|(apply aX;refine⟨_,ai (hown) ?_,?_⟩;exact aZ)|(apply aX;refine⟨_,ai (Av) ?_,?_⟩;exact aZ)|(apply aX;refine⟨_,ai (DK) ?_,?_⟩;exact aZ)|(apply aX;refine⟨_,ai (Aw) ?_,?_⟩;exact aZ)|(apply aX;refine⟨_,ai (DL) ?_,?_⟩;exact aZ)|(apply aX;refine⟨_,ai (hrt) ?_,?_⟩;exact aZ)|(apply aX;refine⟨_,ai (Sc) ?_,?_⟩;exact aZ)|(apply dV;refine⟨_,_,aW (hA1) ?_,?_⟩;exact aZ)|(apply dV;refine⟨_,_,aW (hA2) ?_,?_⟩;exact aZ)|(apply dV;refine⟨_,_,hS1,?_⟩)|(apply dV;refine⟨_,_,hS2,?_⟩)|(apply aX;refine⟨_,ai (eB) ?_,?_⟩;exact aZ)|((refine⟨r.body,rfl,?_⟩))|refine aP ?_|fail)
    repeat' first|apply And.intro|exact aL|fail
    all_goals try (conv=>whnf)
    all_goals (exfalso;simp only[BEq.rfl,Bool.not_true,Bool.false_eq_true] at hc)
   obtain⟨x1,rfl,_,hx1,hA1⟩:=h1;have hS1:=qD d1 x1 hd1 hx1;clear hx1;rcases Gv with h2|h2
   ·have hA2:=h2.2;have hS2:=qC d2 q2 hd2 hq2 (fun x hx=>(h2.1 x hx).1);clear h2;clear hd1 hd2 hq1 hq2 hs QT uq hb hc ho vB e1 e2 e4;refine dA dP ?_;repeat' ((conv=>whnf);first|with_reducible apply aO|((with_reducible apply fk)<;>intro hc<;>try exact cu)|(apply aX;refine⟨_,ai (hl1) ?_,?_⟩;exact aZ)|(apply aX;refine⟨_,ai (hl2) ?_,?_⟩;exact aZ)|(apply aX;refine⟨_,ai (hown) ?_,?_⟩;exact aZ)|(apply aX;refine⟨_,ai (Av) ?_,?_⟩;exact aZ)|(apply aX;refine⟨_,ai (DK) ?_,?_⟩;exact aZ)|(apply aX;refine⟨_,ai (Aw) ?_,?_⟩;exact aZ)|(apply aX;refine⟨_,ai (DL) ?_,?_⟩;exact aZ)|(apply aX;refine⟨_,ai (hrt) ?_,?_⟩;exact aZ)|(apply aX;refine⟨_,ai (Sc) ?_,?_⟩;exact aZ)|(apply dV;refine⟨_,_,aW (hA1) ?_,?_⟩;exact aZ)|(apply dV;refine⟨_,_,aW (hA2) ?_,?_⟩;exact aZ)|(apply dV;refine⟨_,_,hS1,?_⟩)|(apply dV;refine⟨_,_,hS2,?_⟩)|(apply aX;refine⟨_,ai (eB) ?_,?_⟩;exact aZ)|((refine⟨r.body,rfl,?_⟩))|refine aP ?_|fail)
    repeat' first|apply And.intro|exact aL|fail
    all_goals try (conv=>whnf)
    all_goals (exfalso;simp only[BEq.rfl,Bool.not_true,Bool.false_eq_true] at hc)
   obtain⟨x2,rfl,_,hx2,hA2⟩:=h2;have hS2:=qD d2 x2 hd2 hx2;clear hx2;clear hd1 hd2 hq1 hq2 hs QT uq hb hc ho vB e1 e2 e4;refine dA dP ?_;repeat' ((conv=>whnf);first|with_reducible apply aO|((with_reducible apply fk)<;>intro hc<;>try exact cu)|(apply aX;refine⟨_,ai (hl1) ?_,?_⟩;exact aZ)|(apply aX;refine⟨_,ai (hl2) ?_,?_⟩;exact aZ)|(apply aX;refine⟨_,ai (hown) ?_,?_⟩;exact aZ)|(apply aX;refine⟨_,ai (Av) ?_,?_⟩;exact aZ)|(apply aX;refine⟨_,ai (DK) ?_,?_⟩;exact aZ)|(apply aX;refine⟨_,ai (Aw) ?_,?_⟩;exact aZ)|(apply aX;refine⟨_,ai (DL) ?_,?_⟩;exact aZ)|(apply aX;refine⟨_,ai (hrt) ?_,?_⟩;exact aZ)|(apply aX;refine⟨_,ai (Sc) ?_,?_⟩;exact aZ)|(apply dV;refine⟨_,_,aW (hA1) ?_,?_⟩;exact aZ)|(apply dV;refine⟨_,_,aW (hA2) ?_,?_⟩;exact aZ)|(apply dV;refine⟨_,_,hS1,?_⟩)|(apply dV;refine⟨_,_,hS2,?_⟩)|(apply aX;refine⟨_,ai (eB) ?_,?_⟩;exact aZ)|((refine⟨r.body,rfl,?_⟩))|refine aP ?_|fail)
   repeat' first|apply And.intro|exact aL|fail
   all_goals try (conv=>whnf)
   all_goals (exfalso;simp only[BEq.rfl,Bool.not_true,Bool.false_eq_true] at hc)
 | false=>
   rw[e4] at Av Aw;clear h1 h2 h2o h3 h4;rcases htk with h1|h1
   ·have hA1:=h1.2;have hS1:=qC d1 q1 hd1 hq1 (fun x hx=>(h1.1 x hx).1);clear h1;rcases Gv with h2|h2
    ·have hA2:=h2.2;have hS2:=qC d2 q2 hd2 hq2 (fun x hx=>(h2.1 x hx).1);clear h2;clear hd1 hd2 hq1 hq2 hs QT uq hb hc ho vB e1 e2 e4;refine dA dP ?_;repeat' ((conv=>whnf);first|with_reducible apply aO|((with_reducible apply fk)<;>intro hc<;>try exact cu)|(apply aX;refine⟨_,ai (hl1) ?_,?_⟩;exact aZ)|(apply aX;refine⟨_,ai (hl2) ?_,?_⟩;exact aZ)|(apply aX;refine⟨_,ai (hown) ?_,?_⟩;exact aZ)|(apply aX;refine⟨_,ai (Av) ?_,?_⟩;exact aZ)|(apply aX;refine⟨_,ai (DK) ?_,?_⟩;exact aZ)|(apply aX;refine⟨_,ai (Aw) ?_,?_⟩;exact aZ)|(apply aX;refine⟨_,ai (DL) ?_,?_⟩;exact aZ)|(apply aX;refine⟨_,ai (hrt) ?_,?_⟩;exact aZ)|(apply aX;refine⟨_,ai (Sc) ?_,?_⟩;exact aZ)|(apply dV;refine⟨_,_,aW (hA1) ?_,?_⟩;exact aZ)|(apply dV;refine⟨_,_,aW (hA2) ?_,?_⟩;exact aZ)|(apply dV;refine⟨_,_,hS1,?_⟩)|(apply dV;refine⟨_,_,hS2,?_⟩)|(apply aX;refine⟨_,ai (eB) ?_,?_⟩;exact aZ)|((refine⟨r.body,rfl,?_⟩))|refine aP ?_|fail)
     repeat' first|apply And.intro|exact aL|fail
     all_goals try (conv=>whnf)
     all_goals (exfalso;simp only[BEq.rfl,Bool.not_true,Bool.false_eq_true] at hc)
    obtain⟨x2,rfl,_,hx2,hA2⟩:=h2;have hS2:=qD d2 x2 hd2 hx2;clear hx2;clear hd1 hd2 hq1 hq2 hs QT uq hb hc ho vB e1 e2 e4;refine dA dP ?_;repeat' ((conv=>whnf);first|with_reducible apply aO|((with_reducible apply fk)<;>intro hc<;>try exact cu)|(apply aX;refine⟨_,ai (hl1) ?_,?_⟩;exact aZ)|(apply aX;refine⟨_,ai (hl2) ?_,?_⟩;exact aZ)|(apply aX;refine⟨_,ai (hown) ?_,?_⟩;exact aZ)|(apply aX;refine⟨_,ai (Av) ?_,?_⟩;exact aZ)|(apply aX;refine⟨_,ai (DK) ?_,?_⟩;exact aZ)|(apply aX;refine⟨_,ai (Aw) ?_,?_⟩;exact aZ)|(apply aX;refine⟨_,ai (DL) ?_,?_⟩;exact aZ)|(apply aX;refine⟨_,ai (hrt) ?_,?_⟩;exact aZ)|(apply aX;refine⟨_,ai (Sc) ?_,?_⟩;exact aZ)|(apply dV;refine⟨_,_,aW (hA1) ?_,?_⟩;exact aZ)|(apply dV;refine⟨_,_,aW (hA2) ?_,?_⟩;exact aZ)|(apply dV;refine⟨_,_,hS1,?_⟩)|(apply dV;refine⟨_,_,hS2,?_⟩)|(apply aX;refine⟨_,ai (eB) ?_,?_⟩;exact aZ)|((refine⟨r.body,rfl,?_⟩))|refine aP ?_|fail)
    repeat' first|apply And.intro|exact aL|fail
    all_goals try (conv=>whnf)
    all_goals (exfalso;simp only[BEq.rfl,Bool.not_true,Bool.false_eq_true] at hc)
   obtain⟨x1,rfl,_,hx1,hA1⟩:=h1;have hS1:=qD d1 x1 hd1 hx1;clear hx1;rcases Gv with h2|h2
   ·have hA2:=h2.2;have hS2:=qC d2 q2 hd2 hq2 (fun x hx=>(h2.1 x hx).1);clear h2;clear hd1 hd2 hq1 hq2 hs QT uq hb hc ho vB e1 e2 e4;refine dA dP ?_;repeat' ((conv=>whnf);first|with_reducible apply aO|((with_reducible apply fk)<;>intro hc<;>try exact cu)|(apply aX;refine⟨_,ai (hl1) ?_,?_⟩;exact aZ)|(apply aX;refine⟨_,ai (hl2) ?_,?_⟩;exact aZ)|(apply aX;refine⟨_,ai (hown) ?_,?_⟩;exact aZ)|(apply aX;refine⟨_,ai (Av) ?_,?_⟩;exact aZ)|(apply aX;refine⟨_,ai (DK) ?_,?_⟩;exact aZ)|(apply aX;refine⟨_,ai (Aw) ?_,?_⟩;exact aZ)|(apply aX;refine⟨_,ai (DL) ?_,?_⟩;exact aZ)|(apply aX;refine⟨_,ai (hrt) ?_,?_⟩;exact aZ)|(apply aX;refine⟨_,ai (Sc) ?_,?_⟩;exact aZ)|(apply dV;refine⟨_,_,aW (hA1) ?_,?_⟩;exact aZ)|(apply dV;refine⟨_,_,aW (hA2) ?_,?_⟩;exact aZ)|(apply dV;refine⟨_,_,hS1,?_⟩)|(apply dV;refine⟨_,_,hS2,?_⟩)|(apply aX;refine⟨_,ai (eB) ?_,?_⟩;exact aZ)|((refine⟨r.body,rfl,?_⟩))|refine aP ?_|fail)
    repeat' first|apply And.intro|exact aL|fail
    all_goals try (conv=>whnf)
    all_goals (exfalso;simp only[BEq.rfl,Bool.not_true,Bool.false_eq_true] at hc)
   obtain⟨x2,rfl,_,hx2,hA2⟩:=h2;have hS2:=qD d2 x2 hd2 hx2;clear hx2;clear hd1 hd2 hq1 hq2 hs QT uq hb hc ho vB e1 e2 e4;refine dA dP ?_;repeat' ((conv=>whnf);first|with_reducible apply aO|((with_reducible apply fk)<;>intro hc<;>try exact cu)|(apply aX;refine⟨_,ai (hl1) ?_,?_⟩;exact aZ)|(apply aX;refine⟨_,ai (hl2) ?_,?_⟩;exact aZ)|(apply aX;refine⟨_,ai (hown) ?_,?_⟩;exact aZ)|(apply aX;refine⟨_,ai (Av) ?_,?_⟩;exact aZ)|(apply aX;refine⟨_,ai (DK) ?_,?_⟩;exact aZ)|(apply aX;refine⟨_,ai (Aw) ?_,?_⟩;exact aZ)|(apply aX;refine⟨_,ai (DL) ?_,?_⟩;exact aZ)|(apply aX;refine⟨_,ai (hrt) ?_,?_⟩;exact aZ)|(apply aX;refine⟨_,ai (Sc) ?_,?_⟩;exact aZ)|(apply dV;refine⟨_,_,aW (hA1) ?_,?_⟩;exact aZ)|(apply dV;refine⟨_,_,aW (hA2) ?_,?_⟩;exact aZ)|(apply dV;refine⟨_,_,hS1,?_⟩)|(apply dV;refine⟨_,_,hS2,?_⟩)|(apply aX;refine⟨_,ai (eB) ?_,?_⟩;exact aZ)|((refine⟨r.body,rfl,?_⟩))|refine aP ?_|fail)
   repeat' first|apply And.intro|exact aL|fail
   all_goals try (conv=>whnf)
   all_goals (exfalso;simp only[BEq.rfl,Bool.not_true,Bool.false_eq_true] at hc)
def X6 (x:Pl):Prop:=y7 x.node∧gL x.aM
def Za (x:Fr):Prop:=gL x.first∧∀p∈x.ak,X6 p
def Zb (l:Lg):Prop:=gL l.id∧y7 l.w∧y7 l.a∧y7 l.closed∧gL l.last∧∀f∈l.au,Za f
theorem Zb.r {l:Lg}(h:Zb l):lgR l:=⟨h.1,h.2.1,h.2.2.1,h.2.2.2.1,h.2.2.2.2.1,fun f hf=>(h.2.2.2.2.2 f hf).1⟩
def rsF (x:Rs):Prop:=X6 x.from_∧y7 x.kind∧y7 x.code∧gL x.bO∧gL x.n∧gL x.dz∧gL x.sure
section
variable (w:World)
theorem Ur:Rd prog w 3 1 (fun row=>∃i,row=[ii i]∧y7 i):=
 (Ij underlying3 (by kernel_rfl)).imp fun row _ ⟨i,e,h⟩=>⟨i,e,wf_i64 h⟩
theorem Mi:Rd prog w 22 1 (fun row=>∃i,row=[uu i]∧gL i):=
 (Ij underlying22 (by kernel_rfl)).imp fun row _ ⟨i,e,h⟩=>⟨i,e,wf_u64 h⟩
theorem Sd:Rd prog w 29 1 (fun row=>∃l:List UInt8,row=[xC l]):=
 (yS underlying29 (by kernel_rfl) (by decide) (Ij (k:=.u8) underlying5 (by kernel_rfl))).imp fun row _ ⟨rows,e,h⟩=>by
  obtain⟨l,rfl,_⟩:=xB (c:=aB) (R:=fun _=>True) (rows:=rows) fun r hr=>by
   obtain⟨_,i,rfl,hi⟩:=h r hr;have:=wf_u8 hi;refine⟨UInt8.ofNat i.toNat,?_,trivial⟩;simp only[aB,UInt8.toNat_ofNat'];rw[Nat.mod_eq_of_lt (by omega),Int.toNat_of_nonneg this.1]
  exact⟨l,e⟩
theorem QV:Rd prog w 27 2 (fun row=>∃x:Pl,row=x.c∧X6 x):=
 (mW (sp:=[(1,_),(1,_)]) underlying27 (by kernel_rfl) ⟨rfl,Ur w,rfl,Mi w,trivial⟩).imp fun row _ h=>by
  obtain⟨_,_,rfl,_,⟨i,rfl,hi⟩,_,_,rfl,_,⟨j,rfl,hj⟩,rfl⟩:=h;exact⟨⟨i,j⟩,rfl,hi,hj⟩
theorem Sg:Rd prog w 28 1 (fun row=>∃l:List Pl,row=[iX l]∧∀x∈l,X6 x):=
 (yS underlying28 (by kernel_rfl) (by decide) (QV w)).imp fun row _ ⟨rows,e,h⟩=>by
  obtain⟨l,rfl,hl⟩:=xB fun r hr=>(h r hr).2
  exact⟨l,e,hl⟩
theorem Zc:Rd prog w 48 2 (fun row=>∃x:Fr,row=x.c∧Za x):=
 (mW (sp:=[(1,_),(1,_)]) underlying48 (by kernel_rfl) ⟨rfl,Mi w,rfl,Sg w,trivial⟩).imp fun row _ h=>by
  obtain⟨_,_,rfl,_,⟨i,rfl,hi⟩,_,_,rfl,_,⟨l,rfl,hl⟩,rfl⟩:=h;exact⟨⟨i,l⟩,rfl,hi,hl⟩
theorem WS:Rd prog w 23 1 (fun row=>∃l:List Fr,row=[gH l]∧∀x∈l,Za x):=
 (yS underlying23 (by kernel_rfl) (by decide) (Zc w)).imp fun row _ ⟨rows,e,h⟩=>by
  obtain⟨l,rfl,hl⟩:=xB fun r hr=>(h r hr).2
  exact⟨l,e,hl⟩
theorem Zd:Rd prog w 25 6 (fun row=>∃x:Lg,row=x.c∧Zb x):=
 (mW (sp:=[(1,_),(1,_),(1,_),(1,_),(1,_),(1,_)]) underlying25 (by kernel_rfl) ⟨rfl,Mi w,rfl,Ur w,rfl,Ur w,rfl,WS w,rfl,Ur w,rfl,Mi w,trivial⟩).imp fun row _ h=>by
  obtain⟨_,_,rfl,_,⟨i1,rfl,h1⟩,_,_,rfl,_,⟨i2,rfl,h2⟩,_,_,rfl,_,⟨i3,rfl,h3⟩,_,_,rfl,_,⟨l,rfl,hl⟩,_,_,rfl,_,⟨i4,rfl,h4⟩,_,_,rfl,_,⟨i5,rfl,h5⟩,rfl⟩:=h;exact⟨⟨i1,i2,i3,l,i4,i5⟩,rfl,h1,h2,h3,h4,h5,hl⟩
theorem Y9:Rd prog w 33 9 (fun row=>∃x:Rs,row=x.c∧rsF x):=
 (mW (sp:=[(2,_),(1,_),(1,_),(1,_),(1,_),(1,_),(1,_),(1,_)]) underlying33 (by kernel_rfl) ⟨rfl,QV w,rfl,Ur w,rfl,Ur w,rfl,Mi w,rfl,Mi w,rfl,Mi w,rfl,Mi w,rfl,Sd w,trivial⟩).imp fun row _ h=>by
  obtain⟨_,_,rfl,_,⟨p,rfl,hp⟩,_,_,rfl,_,⟨i2,rfl,h2⟩,_,_,rfl,_,⟨i3,rfl,h3⟩,_,_,rfl,_,⟨i4,rfl,h4⟩,_,_,rfl,_,⟨i5,rfl,h5⟩,_,_,rfl,_,⟨i6,rfl,h6⟩,_,_,rfl,_,⟨i7,rfl,h7⟩,_,_,rfl,_,⟨b,rfl⟩,rfl⟩:=h;exact⟨⟨p,i2,i3,i4,i5,i6,i7,b⟩,rfl,hp,h2,h3,h4,h5,h6,h7⟩
theorem WR:Rd prog w 31 16 (fun row=>∃x:Cp,row=x.c∧X5 x):=
 (mW (sp:=[(6,_),(2,_),(2,_),(1,_),(1,_),(1,_),(1,_),(1,_),(1,_)]) underlying31 (by kernel_rfl) ⟨rfl,Zd w,rfl,QV w,rfl,QV w,rfl,Ur w,rfl,Mi w,rfl,Sg w,rfl,Sd w,rfl,Mi w,rfl,Mi w,trivial⟩).imp fun row _ h=>by
  obtain⟨_,_,rfl,_,⟨l,rfl,hl⟩,_,_,rfl,_,⟨p,rfl,hp⟩,_,_,rfl,_,⟨t,rfl,ht⟩,_,_,rfl,_,⟨i1,rfl,h1⟩,_,_,rfl,_,⟨i2,rfl,h2⟩,_,_,rfl,_,⟨no,rfl,hno⟩,_,_,rfl,_,⟨b,rfl⟩,_,_,rfl,_,⟨i3,rfl,h3⟩,_,_,rfl,_,⟨i4,rfl,h4⟩,rfl⟩:=h;exact⟨⟨l,p,t,i1,i2,no,b,i3,i4⟩,rfl,hl.r,h2,h3,h4⟩
end
end Go.Proofs.YtfoiekbkkbnpkaaGreat.Tb
end
