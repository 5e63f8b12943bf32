/-
  Contracts of functions of the program and of the document, each for every input that its premises name.
-/
import Derived.Test.YtiagceoepkaeoaaGreatBb
import Derived.Test.YtiagceoepkaeoaaGreatAf
set_option linter.unusedSectionVars false
set_option linter.unusedVariables false
set_option linter.unusedSimpArgs false
set_option maxRecDepth 100000
set_option maxHeartbeats 4000000
section
open Go Go.Proofs.Tryz Go.AX
namespace Go.Proofs.YtiagceoepkaeoaaGreat.Tb
theorem Y2:aQ prog 69 f69:=bU func69
theorem qF (n l m:Int):bC prog 69 [uu n,uu l,uu m] (bl (bS n l m)):=by
 refine PC.le ?_;refine bM Y2 ?_;repeat' ((conv=>whnf);first|with_reducible apply aG|((with_reducible apply fk)<;>intro hc<;>try exact aK)|refine aC ?_|fail)
 all_goals
  repeat' first|apply And.intro|exact ay|fail
  all_goals try (conv=>whnf)
  simp_all [bS]
 omega
theorem Y3:aQ prog 60 f60:=bU func60
theorem jC (n l m:Int):bC prog 60 [ii n,ii l,ii m] (bl (bS n l m)):=by
 refine PC.le ?_;refine bM Y3 ?_;repeat' ((conv=>whnf);first|with_reducible apply aG|((with_reducible apply fk)<;>intro hc<;>try exact aK)|refine aC ?_|fail)
 all_goals
  repeat' first|apply And.intro|exact ay|fail
  all_goals try (conv=>whnf)
  simp_all [bS]
 omega
theorem Y4:aQ prog 122 f122:=bU func122
theorem abX (n l m:Int):bC prog 122 [ii n,ii l,ii m] (bl (bS n l m)):=by
 refine PC.le ?_;refine bM Y4 ?_;repeat' ((conv=>whnf);first|with_reducible apply aG|((with_reducible apply fk)<;>intro hc<;>try exact aK)|refine aC ?_|fail)
 all_goals
  repeat' first|apply And.intro|exact ay|fail
  all_goals try (conv=>whnf)
  simp_all [bS]
 omega
theorem Y5:aQ prog 193 f193:=bU func193
theorem abY (a b:Int):bC prog 193 [.agg [ii a,uu b]] (bl (Fz ⟨a,b⟩)):=by
 refine PC.le ?_;refine bM Y5 ?_;repeat' ((conv=>whnf);first|with_reducible apply aG|((with_reducible apply fk)<;>intro hc<;>try exact aK)|(apply aH;refine⟨_,jC _ _ _,?_⟩)|(apply aH;refine⟨_,qF _ _ _,?_⟩)|refine aC ?_|fail)
 all_goals
  repeat' first|apply And.intro|exact ay|fail
  all_goals try (conv=>whnf)
  simp_all [Fz]
theorem Lh:aQ prog 216 f216:=bU func216
theorem OD (x:Pl)(f:FuncId)(first aM:List PV)(p:Pl→Bool)(hp:bC prog f (first++([.agg x.c]++aM)) (bl (p x))) :
  bC prog 216 ([]++([.agg x.c]++[.bJ [.fn (.func f) first aM] 0])) (bl (!p x)):=by
 refine PC.le ?_;refine bM Lh ?_;repeat' ((conv=>whnf);first|with_reducible apply aG|((with_reducible apply fk)<;>intro hc<;>try exact aK)|(apply aH;refine⟨_,hp,?_⟩)|refine aC ?_|fail)
 all_goals exact ay
theorem OE:aQ prog 192 f192:=bU func192
theorem RB (l:List Pl)(f:FuncId)(first aM:List PV)(p:Pl→Bool)(hp:∀x∈l,bC prog f (first++([.agg x.c]++aM)) (bl (p x))) :
  bC prog 192 [xD l,.fn (.func f) first aM] (bl (l.all p)):=by
 refine PC.le ?_;refine bM OE ?_;repeat' ((conv=>whnf);first|with_reducible apply aG|((with_reducible apply fk)<;>intro hc<;>try exact aK)|(apply aH;refine⟨_,nZ _ _ _ _ _ fun x hx=>OD x _ _ _ p (hp x hx),?_⟩)|refine aC ?_|fail)
 repeat' first|apply And.intro|exact ay|fail
 all_goals try (conv=>whnf)
 rw[List.not_any_eq_all_not];simp
theorem OG:aQ prog 189 f189:=bU func189
theorem RD (x:Fr)(f:FuncId)(first aM:List PV)(p:Fr→Bool)(hp:bC prog f (first++([.agg x.c]++aM)) (bl (p x))) :
  bC prog 189 ([]++([.agg x.c]++[.bJ [.fn (.func f) first aM] 0])) (bl (!p x)):=by
 refine PC.le ?_;refine bM OG ?_;repeat' ((conv=>whnf);first|with_reducible apply aG|((with_reducible apply fk)<;>intro hc<;>try exact aK)|(apply aH;refine⟨_,hp,?_⟩)|refine aC ?_|fail)
 all_goals exact ay
theorem RF:aQ prog 140 f140:=bU func140
theorem VG (l:List Fr)(f:FuncId)(first aM:List PV)(p:Fr→Bool)(hp:∀x∈l,bC prog f (first++([.agg x.c]++aM)) (bl (p x))) :
  bC prog 140 [uR l,.fn (.func f) first aM] (bl (l.all p)):=by
 refine PC.le ?_;refine bM RF ?_;repeat' ((conv=>whnf);first|with_reducible apply aG|((with_reducible apply fk)<;>intro hc<;>try exact aK)|(apply aH;refine⟨_,zy _ _ _ _ _ fun x hx=>RD x _ _ _ p (hp x hx),?_⟩)|refine aC ?_|fail)
 repeat' first|apply And.intro|exact ay|fail
 all_goals try (conv=>whnf)
 rw[List.not_any_eq_all_not];simp
theorem Iy:aQ prog 111 f111:=bU func111
theorem Li (x:Lg)(f:FuncId)(first aM:List PV)(p:Lg→Bool)(hp:bC prog f (first++([.agg x.c]++aM)) (bl (p x))) :
  bC prog 111 ([]++([.agg x.c]++[.bJ [.fn (.func f) first aM] 0])) (bl (!p x)):=by
 refine PC.le ?_;refine bM Iy ?_;repeat' ((conv=>whnf);first|with_reducible apply aG|((with_reducible apply fk)<;>intro hc<;>try exact aK)|(apply aH;refine⟨_,hp,?_⟩)|refine aC ?_|fail)
 all_goals exact ay
theorem Lj:aQ prog 70 f70:=bU func70
theorem OH (l:List Lg)(f:FuncId)(first aM:List PV)(p:Lg→Bool)(hp:∀x∈l,bC prog f (first++([.agg x.c]++aM)) (bl (p x))) :
  bC prog 70 [dO l,.fn (.func f) first aM] (bl (l.all p)):=by
 refine PC.le ?_;refine bM Lj ?_;repeat' ((conv=>whnf);first|with_reducible apply aG|((with_reducible apply fk)<;>intro hc<;>try exact aK)|(apply aH;refine⟨_,wM _ _ _ _ _ fun x hx=>Li x _ _ _ p (hp x hx),?_⟩)|refine aC ?_|fail)
 repeat' first|apply And.intro|exact ay|fail
 all_goals try (conv=>whnf)
 rw[List.not_any_eq_all_not];simp
theorem OI:aQ prog 202 f202:=bU func202
theorem RG (x:Mk)(f:FuncId)(first aM:List PV)(p:Mk→Bool)(hp:bC prog f (first++([.agg x.c]++aM)) (bl (p x))) :
  bC prog 202 ([]++([.agg x.c]++[.bJ [.fn (.func f) first aM] 0])) (bl (!p x)):=by
 refine PC.le ?_;refine bM OI ?_;repeat' ((conv=>whnf);first|with_reducible apply aG|((with_reducible apply fk)<;>intro hc<;>try exact aK)|(apply aH;refine⟨_,hp,?_⟩)|refine aC ?_|fail)
 all_goals exact ay
theorem RH:aQ prog 163 f163:=bU func163
theorem VH (l:List Mk)(f:FuncId)(first aM:List PV)(p:Mk→Bool)(hp:∀x∈l,bC prog f (first++([.agg x.c]++aM)) (bl (p x))) :
  bC prog 163 [rP l,.fn (.func f) first aM] (bl (l.all p)):=by
 refine PC.le ?_;refine bM RH ?_;repeat' ((conv=>whnf);first|with_reducible apply aG|((with_reducible apply fk)<;>intro hc<;>try exact aK)|(apply aH;refine⟨_,jc _ _ _ _ _ fun x hx=>RG x _ _ _ p (hp x hx),?_⟩)|refine aC ?_|fail)
 repeat' first|apply And.intro|exact ay|fail
 all_goals try (conv=>whnf)
 rw[List.not_any_eq_all_not];simp
theorem Iz:aQ prog 166 f166:=bU func166
theorem Ll (x:Cu)(f:FuncId)(first aM:List PV)(p:Cu→Bool)(hp:bC prog f (first++([.agg x.c]++aM)) (bl (p x))) :
  bC prog 166 ([]++([.agg x.c]++[.bJ [.fn (.func f) first aM] 0])) (bl (!p x)):=by
 refine PC.le ?_;refine bM Iz ?_;repeat' ((conv=>whnf);first|with_reducible apply aG|((with_reducible apply fk)<;>intro hc<;>try exact aK)|(apply aH;refine⟨_,hp,?_⟩)|refine aC ?_|fail)
 all_goals exact ay
theorem Lm:aQ prog 118 f118:=bU func118
theorem OJ (l:List Cu)(f:FuncId)(first aM:List PV)(p:Cu→Bool)(hp:∀x∈l,bC prog f (first++([.agg x.c]++aM)) (bl (p x))) :
  bC prog 118 [Hr l,.fn (.func f) first aM] (bl (l.all p)):=by
 refine PC.le ?_;refine bM Lm ?_;repeat' ((conv=>whnf);first|with_reducible apply aG|((with_reducible apply fk)<;>intro hc<;>try exact aK)|(apply aH;refine⟨_,wN _ _ _ _ _ fun x hx=>Ll x _ _ _ p (hp x hx),?_⟩)|refine aC ?_|fail)
 repeat' first|apply And.intro|exact ay|fail
 all_goals try (conv=>whnf)
 rw[List.not_any_eq_all_not];simp
theorem OL:aQ prog 121 f121:=bU func121
theorem RI (x:Pa)(f:FuncId)(first aM:List PV)(p:Pa→Bool)(hp:bC prog f (first++([.agg x.c]++aM)) (bl (p x))) :
  bC prog 121 ([]++([.agg x.c]++[.bJ [.fn (.func f) first aM] 0])) (bl (!p x)):=by
 refine PC.le ?_;refine bM OL ?_;repeat' ((conv=>whnf);first|with_reducible apply aG|((with_reducible apply fk)<;>intro hc<;>try exact aK)|(apply aH;refine⟨_,hp,?_⟩)|refine aC ?_|fail)
 all_goals exact ay
theorem RL:aQ prog 80 f80:=bU func80
theorem VI (l:List Pa)(f:FuncId)(first aM:List PV)(p:Pa→Bool)(hp:∀x∈l,bC prog f (first++([.agg x.c]++aM)) (bl (p x))) :
  bC prog 80 [uS l,.fn (.func f) first aM] (bl (l.all p)):=by
 refine PC.le ?_;refine bM RL ?_;repeat' ((conv=>whnf);first|with_reducible apply aG|((with_reducible apply fk)<;>intro hc<;>try exact aK)|(apply aH;refine⟨_,zA _ _ _ _ _ fun x hx=>RI x _ _ _ p (hp x hx),?_⟩)|refine aC ?_|fail)
 repeat' first|apply And.intro|exact ay|fail
 all_goals try (conv=>whnf)
 rw[List.not_any_eq_all_not];simp
theorem Bd:aQ prog 194 f194:=bU func194
theorem OM (l:List Pl)(f:FuncId)(first aM:List PV)(key:Pl→Int)(hp:∀x∈l,bC prog f (first++([.agg x.c]++aM)) (ii (key x))) :
  bC prog 194 [xD l,.fn (.func f) first aM] (bl (decide (l.Pairwise fun a b=>key a<key b))):=by
 refine PC.le (jK Bd fun hb=>?_);have hb:l.length≤9223372036854775807:=by simpa[DX,xY,xD] using hb
 refine bM Bd ?_;repeat' ((conv=>whnf);first|with_reducible apply aG|((with_reducible apply fk)<;>intro hc<;>try exact aK)|refine aC ?_|fail)
 refine⟨{k:Nat // (k+1≤l.length∨k=0)∧∀j (hj:j+1<l.length),j<k→key (l[j]'(by omega))<key l[j+1]},fun⟨k,_⟩=>⟨[(0,.pv (xD l)),(1,.pv (.fn (.func f) first aM)),(5,.pv (ii ((k+1:Nat):Int)))],1000000000,[]⟩,fun⟨k,_⟩=>l.length-k,⟨⟨0,by simp⟩,aj ?_⟩,?_⟩
 ·all_goals exact ay
 rintro⟨k,hk,hn⟩
 repeat' ((conv=>whnf);first|with_reducible apply aG|((with_reducible apply fk)<;>intro hc<;>try exact aK)|refine aC ?_|fail)
 ·have hlt:k+1<l.length:=by simp at hc;omega
  have e1:IntKind.i64.wrap (((k+1:Nat):Int)-1)=((k:Nat):Int):=by rw[aJ (by omega) (by omega)];omega
  repeat' ((conv=>whnf);first|with_reducible apply aG|((with_reducible apply fk)<;>intro hc<;>try exact aK)|((refine⟨by rw[e1];omega,_,Ns _ _ e1 (by omega),?_⟩))|refine aC ?_|fail)
  repeat' ((conv=>whnf);first|with_reducible apply aG|((with_reducible apply fk)<;>intro hc<;>try exact aK)|(apply aH;refine⟨_,hp _ (List.getElem_mem _),?_⟩)|refine aC ?_|fail)
  refine⟨_,dx _ _ _ hlt,?_⟩;repeat' ((conv=>whnf);first|with_reducible apply aG|((with_reducible apply fk)<;>intro hc<;>try exact aK)|(apply aH;refine⟨_,hp _ (List.getElem_mem _),?_⟩)|refine aC ?_|fail)
  ·repeat' first|apply And.intro|exact ay|fail
   all_goals try (conv=>whnf)
   simp at hc;simp;intro hp;have:=List.pairwise_iff_getElem.1 hp k (k+1) (by omega) hlt (by omega);omega
  repeat' ((conv=>whnf);first|with_reducible apply aG|((with_reducible apply fk)<;>intro hc<;>try exact aK)|refine aC ?_|fail)
  refine⟨⟨k+1,.inl hlt,?_⟩,dec_lt (by omega),aj ?_⟩
  ·intro j hj hjk;rcases Nat.lt_succ_iff_lt_or_eq.1 hjk with hj'|rfl
   ·exact hn j hj hj'
   simp at hc;exact hc
  repeat' first|apply And.intro|exact ay|fail
  all_goals try (conv=>whnf)
  rw[aJ (by omega) (by omega)];omega
 repeat' first|apply And.intro|exact ay|fail
 all_goals try (conv=>whnf)
 simp at hc;simp;exact iC fun j hj=>hn j hj (by omega)
theorem Dv:aQ prog 143 f143:=bU func143
theorem RN (l:List Fr)(f:FuncId)(first aM:List PV)(key:Fr→Int)(hp:∀x∈l,bC prog f (first++([.agg x.c]++aM)) (uu (key x))) :
  bC prog 143 [uR l,.fn (.func f) first aM] (bl (decide (l.Pairwise fun a b=>key a<key b))):=by
 refine PC.le (jK Dv fun hb=>?_);have hb:l.length≤9223372036854775807:=by simpa[DX,xY,uR] using hb
 refine bM Dv ?_;repeat' ((conv=>whnf);first|with_reducible apply aG|((with_reducible apply fk)<;>intro hc<;>try exact aK)|refine aC ?_|fail)
 refine⟨{k:Nat // (k+1≤l.length∨k=0)∧∀j (hj:j+1<l.length),j<k→key (l[j]'(by omega))<key l[j+1]},fun⟨k,_⟩=>⟨[(0,.pv (uR l)),(1,.pv (.fn (.func f) first aM)),(5,.pv (ii ((k+1:Nat):Int)))],1000000000,[]⟩,fun⟨k,_⟩=>l.length-k,⟨⟨0,by simp⟩,aj ?_⟩,?_⟩
 ·all_goals exact ay
 rintro⟨k,hk,hn⟩
 repeat' ((conv=>whnf);first|with_reducible apply aG|((with_reducible apply fk)<;>intro hc<;>try exact aK)|refine aC ?_|fail)
 ·have hlt:k+1<l.length:=by simp at hc;omega
  have e1:IntKind.i64.wrap (((k+1:Nat):Int)-1)=((k:Nat):Int):=by rw[aJ (by omega) (by omega)];omega
  repeat' ((conv=>whnf);first|with_reducible apply aG|((with_reducible apply fk)<;>intro hc<;>try exact aK)|((refine⟨by rw[e1];omega,_,Ns _ _ e1 (by omega),?_⟩))|refine aC ?_|fail)
  repeat' ((conv=>whnf);first|with_reducible apply aG|((with_reducible apply fk)<;>intro hc<;>try exact aK)|(apply aH;refine⟨_,hp _ (List.getElem_mem _),?_⟩)|refine aC ?_|fail)
  refine⟨_,dx _ _ _ hlt,?_⟩;repeat' ((conv=>whnf);first|with_reducible apply aG|((with_reducible apply fk)<;>intro hc<;>try exact aK)|(apply aH;refine⟨_,hp _ (List.getElem_mem _),?_⟩)|refine aC ?_|fail)
  ·repeat' first|apply And.intro|exact ay|fail
   all_goals try (conv=>whnf)
   simp at hc;simp;intro hp;have:=List.pairwise_iff_getElem.1 hp k (k+1) (by omega) hlt (by omega);omega
  repeat' ((conv=>whnf);first|with_reducible apply aG|((with_reducible apply fk)<;>intro hc<;>try exact aK)|refine aC ?_|fail)
  refine⟨⟨k+1,.inl hlt,?_⟩,dec_lt (by omega),aj ?_⟩
  ·intro j hj hjk;rcases Nat.lt_succ_iff_lt_or_eq.1 hjk with hj'|rfl
   ·exact hn j hj hj'
   simp at hc;exact hc
  repeat' first|apply And.intro|exact ay|fail
  all_goals try (conv=>whnf)
  rw[aJ (by omega) (by omega)];omega
 repeat' first|apply And.intro|exact ay|fail
 all_goals try (conv=>whnf)
 simp at hc;simp;exact iC fun j hj=>hn j hj (by omega)
theorem yI:aQ prog 73 f73:=bU func73
theorem Lp (l:List Lg)(f:FuncId)(first aM:List PV)(key:Lg→Int)(hp:∀x∈l,bC prog f (first++([.agg x.c]++aM)) (uu (key x))) :
  bC prog 73 [dO l,.fn (.func f) first aM] (bl (decide (l.Pairwise fun a b=>key a<key b))):=by
 refine PC.le (jK yI fun hb=>?_);have hb:l.length≤9223372036854775807:=by simpa[DX,xY,dO] using hb
 refine bM yI ?_;repeat' ((conv=>whnf);first|with_reducible apply aG|((with_reducible apply fk)<;>intro hc<;>try exact aK)|refine aC ?_|fail)
 refine⟨{k:Nat // (k+1≤l.length∨k=0)∧∀j (hj:j+1<l.length),j<k→key (l[j]'(by omega))<key l[j+1]},fun⟨k,_⟩=>⟨[(0,.pv (dO l)),(1,.pv (.fn (.func f) first aM)),(5,.pv (ii ((k+1:Nat):Int)))],1000000000,[]⟩,fun⟨k,_⟩=>l.length-k,⟨⟨0,by simp⟩,aj ?_⟩,?_⟩
 ·all_goals exact ay
 rintro⟨k,hk,hn⟩
 repeat' ((conv=>whnf);first|with_reducible apply aG|((with_reducible apply fk)<;>intro hc<;>try exact aK)|refine aC ?_|fail)
 ·have hlt:k+1<l.length:=by simp at hc;omega
  have e1:IntKind.i64.wrap (((k+1:Nat):Int)-1)=((k:Nat):Int):=by rw[aJ (by omega) (by omega)];omega
  repeat' ((conv=>whnf);first|with_reducible apply aG|((with_reducible apply fk)<;>intro hc<;>try exact aK)|((refine⟨by rw[e1];omega,_,Ns _ _ e1 (by omega),?_⟩))|refine aC ?_|fail)
  repeat' ((conv=>whnf);first|with_reducible apply aG|((with_reducible apply fk)<;>intro hc<;>try exact aK)|(apply aH;refine⟨_,hp _ (List.getElem_mem _),?_⟩)|refine aC ?_|fail)
  refine⟨_,dx _ _ _ hlt,?_⟩;repeat' ((conv=>whnf);first|with_reducible apply aG|((with_reducible apply fk)<;>intro hc<;>try exact aK)|(apply aH;refine⟨_,hp _ (List.getElem_mem _),?_⟩)|refine aC ?_|fail)
  ·repeat' first|apply And.intro|exact ay|fail
   all_goals try (conv=>whnf)
   simp at hc;simp;intro hp;have:=List.pairwise_iff_getElem.1 hp k (k+1) (by omega) hlt (by omega);omega
  repeat' ((conv=>whnf);first|with_reducible apply aG|((with_reducible apply fk)<;>intro hc<;>try exact aK)|refine aC ?_|fail)
  refine⟨⟨k+1,.inl hlt,?_⟩,dec_lt (by omega),aj ?_⟩
  ·intro j hj hjk;rcases Nat.lt_succ_iff_lt_or_eq.1 hjk with hj'|rfl
   ·exact hn j hj hj'
   simp at hc;exact hc
  repeat' first|apply And.intro|exact ay|fail
  all_goals try (conv=>whnf)
  rw[aJ (by omega) (by omega)];omega
 repeat' first|apply And.intro|exact ay|fail
 all_goals try (conv=>whnf)
 simp at hc;simp;exact iC fun j hj=>hn j hj (by omega)
theorem Dw:aQ prog 159 f159:=bU func159
theorem RO (l:List Mk)(f:FuncId)(first aM:List PV)(key:Mk→Int)(hp:∀x∈l,bC prog f (first++([.agg x.c]++aM)) (ii (key x))) :
  bC prog 159 [rP l,.fn (.func f) first aM] (bl (decide (l.Pairwise fun a b=>key a<key b))):=by
 refine PC.le (jK Dw fun hb=>?_);have hb:l.length≤9223372036854775807:=by simpa[DX,xY,rP] using hb
 refine bM Dw ?_;repeat' ((conv=>whnf);first|with_reducible apply aG|((with_reducible apply fk)<;>intro hc<;>try exact aK)|refine aC ?_|fail)
 refine⟨{k:Nat // (k+1≤l.length∨k=0)∧∀j (hj:j+1<l.length),j<k→key (l[j]'(by omega))<key l[j+1]},fun⟨k,_⟩=>⟨[(0,.pv (rP l)),(1,.pv (.fn (.func f) first aM)),(5,.pv (ii ((k+1:Nat):Int)))],1000000000,[]⟩,fun⟨k,_⟩=>l.length-k,⟨⟨0,by simp⟩,aj ?_⟩,?_⟩
 ·all_goals exact ay
 rintro⟨k,hk,hn⟩
 repeat' ((conv=>whnf);first|with_reducible apply aG|((with_reducible apply fk)<;>intro hc<;>try exact aK)|refine aC ?_|fail)
 ·have hlt:k+1<l.length:=by simp at hc;omega
  have e1:IntKind.i64.wrap (((k+1:Nat):Int)-1)=((k:Nat):Int):=by rw[aJ (by omega) (by omega)];omega
  repeat' ((conv=>whnf);first|with_reducible apply aG|((with_reducible apply fk)<;>intro hc<;>try exact aK)|((refine⟨by rw[e1];omega,_,Ns _ _ e1 (by omega),?_⟩))|refine aC ?_|fail)
  repeat' ((conv=>whnf);first|with_reducible apply aG|((with_reducible apply fk)<;>intro hc<;>try exact aK)|(apply aH;refine⟨_,hp _ (List.getElem_mem _),?_⟩)|refine aC ?_|fail)
  refine⟨_,dx _ _ _ hlt,?_⟩;repeat' ((conv=>whnf);first|with_reducible apply aG|((with_reducible apply fk)<;>intro hc<;>try exact aK)|(apply aH;refine⟨_,hp _ (List.getElem_mem _),?_⟩)|refine aC ?_|fail)
  ·repeat' first|apply And.intro|exact ay|fail
   all_goals try (conv=>whnf)
   simp at hc;simp;intro hp;have:=List.pairwise_iff_getElem.1 hp k (k+1) (by omega) hlt (by omega);omega
  repeat' ((conv=>whnf);first|with_reducible apply aG|((with_reducible apply fk)<;>intro hc<;>try exact aK)|refine aC ?_|fail)
  refine⟨⟨k+1,.inl hlt,?_⟩,dec_lt (by omega),aj ?_⟩
  ·intro j hj hjk;rcases Nat.lt_succ_iff_lt_or_eq.1 hjk with hj'|rfl
   ·exact hn j hj hj'
   simp at hc;exact hc
  repeat' first|apply And.intro|exact ay|fail
  all_goals try (conv=>whnf)
  rw[aJ (by omega) (by omega)];omega
 repeat' first|apply And.intro|exact ay|fail
 all_goals try (conv=>whnf)
 simp at hc;simp;exact iC fun j hj=>hn j hj (by omega)
theorem Be:aQ prog 161 f161:=bU func161
theorem OP (l:List Mk)(f:FuncId)(first aM:List PV)(key:Mk→Int)(hp:∀x∈l,bC prog f (first++([.agg x.c]++aM)) (uu (key x))) :
  bC prog 161 [rP l,.fn (.func f) first aM] (bl (decide (l.Pairwise fun a b=>key a<key b))):=by
 refine PC.le (jK Be fun hb=>?_);have hb:l.length≤9223372036854775807:=by simpa[DX,xY,rP] using hb
 refine bM Be ?_;repeat' ((conv=>whnf);first|with_reducible apply aG|((with_reducible apply fk)<;>intro hc<;>try exact aK)|refine aC ?_|fail)
 refine⟨{k:Nat // (k+1≤l.length∨k=0)∧∀j (hj:j+1<l.length),j<k→key (l[j]'(by omega))<key l[j+1]},fun⟨k,_⟩=>⟨[(0,.pv (rP l)),(1,.pv (.fn (.func f) first aM)),(5,.pv (ii ((k+1:Nat):Int)))],1000000000,[]⟩,fun⟨k,_⟩=>l.length-k,⟨⟨0,by simp⟩,aj ?_⟩,?_⟩
 ·all_goals exact ay
 rintro⟨k,hk,hn⟩
 repeat' ((conv=>whnf);first|with_reducible apply aG|((with_reducible apply fk)<;>intro hc<;>try exact aK)|refine aC ?_|fail)
 ·have hlt:k+1<l.length:=by simp at hc;omega
  have e1:IntKind.i64.wrap (((k+1:Nat):Int)-1)=((k:Nat):Int):=by rw[aJ (by omega) (by omega)];omega
  repeat' ((conv=>whnf);first|with_reducible apply aG|((with_reducible apply fk)<;>intro hc<;>try exact aK)|((refine⟨by rw[e1];omega,_,Ns _ _ e1 (by omega),?_⟩))|refine aC ?_|fail)
  repeat' ((conv=>whnf);first|with_reducible apply aG|((with_reducible apply fk)<;>intro hc<;>try exact aK)|(apply aH;refine⟨_,hp _ (List.getElem_mem _),?_⟩)|refine aC ?_|fail)
  refine⟨_,dx _ _ _ hlt,?_⟩;repeat' ((conv=>whnf);first|with_reducible apply aG|((with_reducible apply fk)<;>intro hc<;>try exact aK)|(apply aH;refine⟨_,hp _ (List.getElem_mem _),?_⟩)|refine aC ?_|fail)
  ·repeat' first|apply And.intro|exact ay|fail
   all_goals try (conv=>whnf)
   simp at hc;simp;intro hp;have:=List.pairwise_iff_getElem.1 hp k (k+1) (by omega) hlt (by omega);omega
  repeat' ((conv=>whnf);first|with_reducible apply aG|((with_reducible apply fk)<;>intro hc<;>try exact aK)|refine aC ?_|fail)
  refine⟨⟨k+1,.inl hlt,?_⟩,dec_lt (by omega),aj ?_⟩
  ·intro j hj hjk;rcases Nat.lt_succ_iff_lt_or_eq.1 hjk with hj'|rfl
   ·exact hn j hj hj'
   simp at hc;exact hc
  repeat' first|apply And.intro|exact ay|fail
  all_goals try (conv=>whnf)
  rw[aJ (by omega) (by omega)];omega
 repeat' first|apply And.intro|exact ay|fail
 all_goals try (conv=>whnf)
 simp at hc;simp;exact iC fun j hj=>hn j hj (by omega)
theorem yJ:aQ prog 116 f116:=bU func116
theorem Lr (l:List Cu)(f:FuncId)(first aM:List PV)(key:Cu→Int)(hp:∀x∈l,bC prog f (first++([.agg x.c]++aM)) (ii (key x))) :
  bC prog 116 [Hr l,.fn (.func f) first aM] (bl (decide (l.Pairwise fun a b=>key a<key b))):=by
 refine PC.le (jK yJ fun hb=>?_);have hb:l.length≤9223372036854775807:=by simpa[DX,xY,Hr] using hb
 refine bM yJ ?_;repeat' ((conv=>whnf);first|with_reducible apply aG|((with_reducible apply fk)<;>intro hc<;>try exact aK)|refine aC ?_|fail)
 refine⟨{k:Nat // (k+1≤l.length∨k=0)∧∀j (hj:j+1<l.length),j<k→key (l[j]'(by omega))<key l[j+1]},fun⟨k,_⟩=>⟨[(0,.pv (Hr l)),(1,.pv (.fn (.func f) first aM)),(5,.pv (ii ((k+1:Nat):Int)))],1000000000,[]⟩,fun⟨k,_⟩=>l.length-k,⟨⟨0,by simp⟩,aj ?_⟩,?_⟩
 ·all_goals exact ay
 rintro⟨k,hk,hn⟩
 repeat' ((conv=>whnf);first|with_reducible apply aG|((with_reducible apply fk)<;>intro hc<;>try exact aK)|refine aC ?_|fail)
 ·have hlt:k+1<l.length:=by simp at hc;omega
  have e1:IntKind.i64.wrap (((k+1:Nat):Int)-1)=((k:Nat):Int):=by rw[aJ (by omega) (by omega)];omega
  repeat' ((conv=>whnf);first|with_reducible apply aG|((with_reducible apply fk)<;>intro hc<;>try exact aK)|((refine⟨by rw[e1];omega,_,Ns _ _ e1 (by omega),?_⟩))|refine aC ?_|fail)
  repeat' ((conv=>whnf);first|with_reducible apply aG|((with_reducible apply fk)<;>intro hc<;>try exact aK)|(apply aH;refine⟨_,hp _ (List.getElem_mem _),?_⟩)|refine aC ?_|fail)
  refine⟨_,dx _ _ _ hlt,?_⟩;repeat' ((conv=>whnf);first|with_reducible apply aG|((with_reducible apply fk)<;>intro hc<;>try exact aK)|(apply aH;refine⟨_,hp _ (List.getElem_mem _),?_⟩)|refine aC ?_|fail)
  ·repeat' first|apply And.intro|exact ay|fail
   all_goals try (conv=>whnf)
   simp at hc;simp;intro hp;have:=List.pairwise_iff_getElem.1 hp k (k+1) (by omega) hlt (by omega);omega
  repeat' ((conv=>whnf);first|with_reducible apply aG|((with_reducible apply fk)<;>intro hc<;>try exact aK)|refine aC ?_|fail)
  refine⟨⟨k+1,.inl hlt,?_⟩,dec_lt (by omega),aj ?_⟩
  ·intro j hj hjk;rcases Nat.lt_succ_iff_lt_or_eq.1 hjk with hj'|rfl
   ·exact hn j hj hj'
   simp at hc;exact hc
  repeat' first|apply And.intro|exact ay|fail
  all_goals try (conv=>whnf)
  rw[aJ (by omega) (by omega)];omega
 repeat' first|apply And.intro|exact ay|fail
 all_goals try (conv=>whnf)
 simp at hc;simp;exact iC fun j hj=>hn j hj (by omega)
theorem Dx:aQ prog 78 f78:=bU func78
theorem RP (l:List Pa)(f:FuncId)(first aM:List PV)(key:Pa→Int)(hp:∀x∈l,bC prog f (first++([.agg x.c]++aM)) (ii (key x))) :
  bC prog 78 [uS l,.fn (.func f) first aM] (bl (decide (l.Pairwise fun a b=>key a<key b))):=by
 refine PC.le (jK Dx fun hb=>?_);have hb:l.length≤9223372036854775807:=by simpa[DX,xY,uS] using hb
 refine bM Dx ?_;repeat' ((conv=>whnf);first|with_reducible apply aG|((with_reducible apply fk)<;>intro hc<;>try exact aK)|refine aC ?_|fail)
 refine⟨{k:Nat // (k+1≤l.length∨k=0)∧∀j (hj:j+1<l.length),j<k→key (l[j]'(by omega))<key l[j+1]},fun⟨k,_⟩=>⟨[(0,.pv (uS l)),(1,.pv (.fn (.func f) first aM)),(5,.pv (ii ((k+1:Nat):Int)))],1000000000,[]⟩,fun⟨k,_⟩=>l.length-k,⟨⟨0,by simp⟩,aj ?_⟩,?_⟩
 ·all_goals exact ay
 rintro⟨k,hk,hn⟩
 repeat' ((conv=>whnf);first|with_reducible apply aG|((with_reducible apply fk)<;>intro hc<;>try exact aK)|refine aC ?_|fail)
 ·have hlt:k+1<l.length:=by simp at hc;omega
  have e1:IntKind.i64.wrap (((k+1:Nat):Int)-1)=((k:Nat):Int):=by rw[aJ (by omega) (by omega)];omega
  repeat' ((conv=>whnf);first|with_reducible apply aG|((with_reducible apply fk)<;>intro hc<;>try exact aK)|((refine⟨by rw[e1];omega,_,Ns _ _ e1 (by omega),?_⟩))|refine aC ?_|fail)
  repeat' ((conv=>whnf);first|with_reducible apply aG|((with_reducible apply fk)<;>intro hc<;>try exact aK)|(apply aH;refine⟨_,hp _ (List.getElem_mem _),?_⟩)|refine aC ?_|fail)
  refine⟨_,dx _ _ _ hlt,?_⟩;repeat' ((conv=>whnf);first|with_reducible apply aG|((with_reducible apply fk)<;>intro hc<;>try exact aK)|(apply aH;refine⟨_,hp _ (List.getElem_mem _),?_⟩)|refine aC ?_|fail)
  ·repeat' first|apply And.intro|exact ay|fail
   all_goals try (conv=>whnf)
   simp at hc;simp;intro hp;have:=List.pairwise_iff_getElem.1 hp k (k+1) (by omega) hlt (by omega);omega
  repeat' ((conv=>whnf);first|with_reducible apply aG|((with_reducible apply fk)<;>intro hc<;>try exact aK)|refine aC ?_|fail)
  refine⟨⟨k+1,.inl hlt,?_⟩,dec_lt (by omega),aj ?_⟩
  ·intro j hj hjk;rcases Nat.lt_succ_iff_lt_or_eq.1 hjk with hj'|rfl
   ·exact hn j hj hj'
   simp at hc;exact hc
  repeat' first|apply And.intro|exact ay|fail
  all_goals try (conv=>whnf)
  rw[aJ (by omega) (by omega)];omega
 repeat' first|apply And.intro|exact ay|fail
 all_goals try (conv=>whnf)
 simp at hc;simp;exact iC fun j hj=>hn j hj (by omega)
theorem OQ:aQ prog 113 f113:=bU func113
theorem abZ (l:List Int)(f:FuncId)(first aM:List PV)(key:Int→Int)(hp:∀x∈l,bC prog f (first++([uu x]++aM)) (uu (key x))) :
  bC prog 113 [l8 l,.fn (.func f) first aM] (bl (decide (l.Pairwise fun a b=>key a<key b))):=by
 refine PC.le (jK OQ fun hb=>?_);have hb:l.length≤9223372036854775807:=by simpa[DX,xY,l8] using hb
 refine bM OQ ?_;repeat' ((conv=>whnf);first|with_reducible apply aG|((with_reducible apply fk)<;>intro hc<;>try exact aK)|refine aC ?_|fail)
 refine⟨{k:Nat // (k+1≤l.length∨k=0)∧∀j (hj:j+1<l.length),j<k→key (l[j]'(by omega))<key l[j+1]},fun⟨k,_⟩=>⟨[(0,.pv (l8 l)),(1,.pv (.fn (.func f) first aM)),(5,.pv (ii ((k+1:Nat):Int)))],1000000000,[]⟩,fun⟨k,_⟩=>l.length-k,⟨⟨0,by simp⟩,aj ?_⟩,?_⟩
 ·all_goals exact ay
 rintro⟨k,hk,hn⟩
 repeat' ((conv=>whnf);first|with_reducible apply aG|((with_reducible apply fk)<;>intro hc<;>try exact aK)|refine aC ?_|fail)
 ·have hlt:k+1<l.length:=by simp at hc;omega
  have e1:IntKind.i64.wrap (((k+1:Nat):Int)-1)=((k:Nat):Int):=by rw[aJ (by omega) (by omega)];omega
  repeat' ((conv=>whnf);first|with_reducible apply aG|((with_reducible apply fk)<;>intro hc<;>try exact aK)|((refine⟨by rw[e1];omega,_,Ns _ _ e1 (by omega),?_⟩))|refine aC ?_|fail)
  repeat' ((conv=>whnf);first|with_reducible apply aG|((with_reducible apply fk)<;>intro hc<;>try exact aK)|(apply aH;refine⟨_,hp _ (List.getElem_mem _),?_⟩)|refine aC ?_|fail)
  refine⟨_,dx _ _ _ hlt,?_⟩;repeat' ((conv=>whnf);first|with_reducible apply aG|((with_reducible apply fk)<;>intro hc<;>try exact aK)|(apply aH;refine⟨_,hp _ (List.getElem_mem _),?_⟩)|refine aC ?_|fail)
  ·repeat' first|apply And.intro|exact ay|fail
   all_goals try (conv=>whnf)
   simp at hc;simp;intro hp;have:=List.pairwise_iff_getElem.1 hp k (k+1) (by omega) hlt (by omega);omega
  repeat' ((conv=>whnf);first|with_reducible apply aG|((with_reducible apply fk)<;>intro hc<;>try exact aK)|refine aC ?_|fail)
  refine⟨⟨k+1,.inl hlt,?_⟩,dec_lt (by omega),aj ?_⟩
  ·intro j hj hjk;rcases Nat.lt_succ_iff_lt_or_eq.1 hjk with hj'|rfl
   ·exact hn j hj hj'
   simp at hc;exact hc
  repeat' first|apply And.intro|exact ay|fail
  all_goals try (conv=>whnf)
  rw[aJ (by omega) (by omega)];omega
 repeat' first|apply And.intro|exact ay|fail
 all_goals try (conv=>whnf)
 simp at hc;simp;exact iC fun j hj=>hn j hj (by omega)
theorem Y6:aQ prog 195 f195:=bU func195
theorem ab0 (a b:Int):bC prog 195 ([]++([.agg [ii a,uu b]]++[])) (ii a):=by
 refine PC.le ?_;refine bM Y6 ?_;repeat' ((conv=>whnf);first|with_reducible apply aG|((with_reducible apply fk)<;>intro hc<;>try exact aK)|refine aC ?_|fail)
 all_goals exact ay
theorem Ls:aQ prog 144 f144:=bU func144
theorem OT (x:Fr):bC prog 144 ([]++([.agg x.c]++[])) (uu x.first):=by
 refine PC.le ?_;refine bM Ls ?_;repeat' ((conv=>whnf);first|with_reducible apply aG|((with_reducible apply fk)<;>intro hc<;>try exact aK)|refine aC ?_|fail)
 all_goals exact ay
theorem ab1:aQ prog 142 f142:=bU func142
theorem afm (w n:Int)(l:List Pl)(h:l.length≤8796093022208):bC prog 142 [ii w,.agg [uu n,xD l]] (bl (Al w ⟨n,l⟩)):=by
 refine PC.le ?_;refine bM ab1 ?_;repeat' ((conv=>whnf);first|with_reducible apply aG|((with_reducible apply fk)<;>intro hc<;>try exact aK)|(apply fB;refine⟨_,_,Ba _ (by omega),?_⟩)|(apply fB;refine⟨_,_,OU _ (by omega),?_⟩)|(apply aH;refine⟨_,qF _ _ _,?_⟩)|(apply aH;refine⟨_,jC _ _ _,?_⟩)|(apply aH;refine⟨_,RB _ _ _ _ Fz fun x _=>abY x.node x.dB,?_⟩)|(apply aH;refine⟨_,OM _ _ _ _ (·.node) fun x _=>ab0 _ _,?_⟩)|refine aC ?_|fail)
 all_goals
  repeat' first|apply And.intro|exact ay|fail
  all_goals try (conv=>whnf)
  simp_all only[Al,←NF,Bool.and_true,Bool.and_false,Bool.true_and,Bool.false_and,List.length_map];try rfl
theorem Lu:aQ prog 141 f141:=bU func141
theorem OV (w:Int)(x:Fr)(h:x.aN.length≤8796093022208):bC prog 141 ([]++([.agg x.c]++[.bJ [ii w] 0])) (bl (Al w x)):=by
 refine PC.le ?_;refine bM Lu ?_;repeat' ((conv=>whnf);first|with_reducible apply aG|((with_reducible apply fk)<;>intro hc<;>try exact aK)|(apply aH;refine⟨_,afm _ _ _ h,?_⟩)|refine aC ?_|fail)
 all_goals exact ay
theorem OW:aQ prog 98 f98:=bU func98
theorem mY (w:Int)(l:List Fr)(h:∀x∈l,x.aN.length≤8796093022208):bC prog 98 [ii w,uR l] (bl (fC w l)):=by
 refine PC.le ?_;refine bM OW ?_;cases l with
 | nil=>
   repeat' ((conv=>whnf);first|with_reducible apply aG|((with_reducible apply fk)<;>intro hc<;>try exact aK)|(apply aH;refine⟨_,jC _ _ _,?_⟩)|refine aC ?_|fail)
   all_goals
    repeat' first|apply And.intro|exact ay|fail
    all_goals try (conv=>whnf)
    all_goals simp[fC,bS]
 | cons x r=>
   repeat' ((conv=>whnf);first|with_reducible apply aG|((with_reducible apply fk)<;>intro hc<;>try exact aK)|(apply aH;refine⟨_,jC _ _ _,?_⟩)|(apply aH;refine⟨_,VG _ _ _ _ _ fun x hx=>OV w x (h x hx),?_⟩)|(apply aH;refine⟨_,RN _ _ _ _ (·.first) fun x _=>OT x,?_⟩)|((refine⟨_,rfl,?_⟩))|refine aC ?_|fail)
   all_goals
    repeat' first|apply And.intro|exact ay|fail
    all_goals try (conv=>whnf)
    simp_all only[fC,Q5,List.length_map,Bool.true_and,Bool.false_and,Bool.and_true]
theorem Lv:aQ prog 72 f72:=bU func72
theorem OX (l:Lg)(h:l.ok):bC prog 72 [.agg l.c] (bl (kL l)):=by
 refine PC.le ?_;refine bM Lv ?_;repeat' ((conv=>whnf);first|with_reducible apply aG|((with_reducible apply fk)<;>intro hc<;>try exact aK)|(apply aH;refine⟨_,jC _ _ _,?_⟩)|(apply aH;refine⟨_,qF _ _ _,?_⟩)|(apply aH;refine⟨_,mY _ _ h,?_⟩)|refine aC ?_|fail)
 all_goals
  repeat' first|apply And.intro|exact ay|fail
  all_goals try (conv=>whnf)
  try (simp only[kL, *,Bool.true_and,Bool.false_and];done)
 have hq:0≤l.closed∧l.closed≤1:=by simpa[bS] using hc
 simp only[kL, *,Bool.true_and];rw[vO hq.1 (by omega),vO (by omega) (by omega)]
theorem RQ:aQ prog 109 f109:=bU func109
theorem VJ (n:Int):bC prog 109 ([]++([uu n]++[])) (bl (decide (n>4611686018427387903))):=by
 refine PC.le ?_;refine bM RQ ?_;repeat' ((conv=>whnf);first|with_reducible apply aG|((with_reducible apply fk)<;>intro hc<;>try exact aK)|refine aC ?_|fail)
 all_goals exact ay
theorem VK:aQ prog 68 f68:=bU func68
theorem OY (l:List Int):bC prog 68 [l8 l] (bl (l.all cnt)):=by
 refine PC.le ?_;refine bM VK ?_;repeat' ((conv=>whnf);first|with_reducible apply aG|((with_reducible apply fk)<;>intro hc<;>try exact aK)|(apply aH;refine⟨_,D9 _ _ _ _ _ fun x _=>VJ x,?_⟩)|refine aC ?_|fail)
 repeat' first|apply And.intro|exact ay|fail
 all_goals try (conv=>whnf)
 rw[List.not_any_eq_all_not];rfl
theorem Y7:aQ prog 112 f112:=bU func112
theorem ab2 (c:Ch):bC prog 112 [.agg c.c] (bl (vR c)):=by
 refine PC.le ?_;obtain⟨X,hX⟩:∃X,X=vR c:=⟨_,rfl⟩;rw[←hX];unfold vR at hX;refine bM Y7 ?_;repeat' ((conv=>whnf);first|with_reducible apply aG|((with_reducible apply fk)<;>intro hc<;>try exact aK)|(apply aH;refine⟨_,jC _ _ _,?_⟩)|(apply aH;refine⟨_,qF _ _ _,?_⟩)|refine aC ?_|fail)
 all_goals
  simp only[*,Bool.true_and,Bool.false_and,Bool.and_true,Bool.false_eq_true,↓reduceIte] at hX;subst hX;repeat' first|apply And.intro|exact ay|fail
  all_goals try (conv=>whnf)
 all_goals first
  |rfl
  |(rw[Bool.eq_iff_iff];simp;done)
  |simp
theorem ab3:aQ prog 37 f37:=bU func37
theorem Lx (p:Pn)(n:Int):bC prog 37 [.agg p.c,ii n] (bl (dM p n)):=by
 refine PC.le ?_;refine bM ab3 ?_;repeat' ((conv=>whnf);first|with_reducible apply aG|((with_reducible apply fk)<;>intro hc<;>try exact aK)|refine aC ?_|fail)
 all_goals
  repeat' first|apply And.intro|exact ay|fail
  all_goals try (conv=>whnf)
 all_goals (simp_all [dM];try (intros;omega))
theorem ab4:aQ prog 76 f76:=bU func76
theorem afn (p:Pn)(h:p.af.length≤1000000):bC prog 76 [.agg p.c] (l8 (jY p)):=by
 refine PC.le ?_;refine bM ab4 ?_;repeat' ((conv=>whnf);first|with_reducible apply aG|((with_reducible apply fk)<;>intro hc<;>try exact aK)|refine aC ?_|fail)
 refine⟨{k:Nat // k≤p.af.length},fun⟨k,_⟩=>⟨[(3,.aB 1001 0),(7,.pv (dO p.af)),(8,.pv (ii p.af.length)),(9,.pv (ii k))],1000000000,[(1001,.arr 23 0 1 (((p.af.take k).map (·.id)).map bR))]⟩,fun⟨k,_⟩=>p.af.length-k,⟨⟨0,by simp⟩,aj ?_⟩,?_⟩
 ·repeat' first|apply And.intro|exact ay|fail
  all_goals try (conv=>whnf)
  all_goals simp
 rintro⟨k,hk⟩
 by_cases hlt:k<p.af.length
 ·have d0:decide ((k:Int)<(p.af.length:Int))=true:=by simp only[gQ];omega
  have eW:IntKind.i64.wrap ((k:Int)+1)=((k+1:Nat):Int):=by rw[aJ (by omega) (by omega)];omega
  repeat' ((conv=>whnf);first|with_reducible apply aG|((with_reducible apply fk)<;>intro hc<;>try exact aK)|((refine⟨_,dx _ _ _ hlt,?_⟩))|(((with_reducible apply And.intro);focus (simp only[jS,uF,xA,List.length_take] at *;omega)))|refine aC ?_|fail)
  refine⟨⟨k+1,hlt⟩,dec_lt hlt,aj ?_⟩;repeat' first|apply And.intro|exact ay|fail
  all_goals try (conv=>whnf)
  all_goals first
   |exact eW
   | (rw[List.take_succ_eq_append_getElem hlt,List.map_append,List.map_append]
      exact bP _)
 have hke:k=p.af.length:=by omega
 subst hke;have d0:decide ((p.af.length:Int)<(p.af.length:Int))=false:=by simp
 repeat' ((conv=>whnf);first|with_reducible apply aG|((with_reducible apply fk)<;>intro hc<;>try exact aK)|refine aC ?_|fail)
 repeat' first|apply And.intro|exact ay|fail
 all_goals try (conv=>whnf)
 all_goals (rw[List.take_length];exact bP _)
theorem yK:aQ prog 102 f102:=bU func102
theorem LC (f:Fr)(h:f.aN.length≤1000000):bC prog 102 ([]++([.agg f.c]++[])) (.agg f.c):=by
 refine PC.le ?_;refine bM yK ?_;repeat' ((conv=>whnf);first|with_reducible apply aG|((with_reducible apply fk)<;>intro hc<;>try exact aK)|(apply aH;refine⟨_,Bb _ (by omega),?_⟩)|refine aC ?_|fail)
 all_goals exact ay
theorem Gj:aQ prog 101 f101:=bU func101
theorem VL (l:List Fr)(f:FuncId)(h:l.length≤1000000)(hp:∀x∈l,bC prog f ([]++([.agg x.c]++[])) (.agg x.c)):bC prog 101 [uR l,.fn (.func f) [] []] (uR l):=by
 refine PC.le ?_;refine bM Gj ?_;repeat' ((conv=>whnf);first|with_reducible apply aG|((with_reducible apply fk)<;>intro hc<;>try exact aK)|refine aC ?_|fail)
 refine⟨{k:Nat // k≤l.length},fun⟨k,_⟩=>⟨[(1,.pv (.fn (.func f) [] [])),(5,.aB 1001 0),(8,.pv (uR l)),(9,.pv (ii l.length)),(10,.pv (ii k))],1000000000,[(1001,.arr 80 0 2 ((l.take k).map Fr.c))]⟩,fun⟨k,_⟩=>l.length-k,⟨⟨0,by simp⟩,aj ?_⟩,?_⟩
 ·repeat' first|apply And.intro|exact ay|fail
  all_goals try (conv=>whnf)
  all_goals simp
 rintro⟨k,hk⟩
 by_cases hlt:k<l.length
 ·have d0:decide ((k:Int)<(l.length:Int))=true:=by simp only[gQ];omega
  have eW:IntKind.i64.wrap ((k:Int)+1)=((k+1:Nat):Int):=by rw[aJ (by omega) (by omega)];omega
  repeat' ((conv=>whnf);first|with_reducible apply aG|((with_reducible apply fk)<;>intro hc<;>try exact aK)|((refine⟨_,dx _ _ _ hlt,?_⟩))|(apply aH;refine⟨_,hp _ (List.getElem_mem hlt),?_⟩)|(((with_reducible apply And.intro);focus (simp only[jS,uF,xA,List.length_take] at *;omega)))|refine aC ?_|fail)
  refine⟨⟨k+1,hlt⟩,dec_lt hlt,aj ?_⟩;repeat' first|apply And.intro|exact ay|fail
  all_goals try (conv=>whnf)
  all_goals first
   |exact eW
   | (rw[List.take_succ_eq_append_getElem hlt,List.map_append]
      refine nL (bP _) ?_
      (repeat' first|apply And.intro|exact ay|fail);(all_goals try (conv=>whnf)))
 have hke:k=l.length:=by omega
 subst hke;have d0:decide ((l.length:Int)<(l.length:Int))=false:=by simp
 repeat' ((conv=>whnf);first|with_reducible apply aG|((with_reducible apply fk)<;>intro hc<;>try exact aK)|refine aC ?_|fail)
 repeat' first|apply And.intro|exact ay|fail
 all_goals try (conv=>whnf)
 all_goals (rw[List.take_length];exact bP _)
theorem Bf:aQ prog 55 f55:=bU func55
theorem qG (l:Lg)(h:LgB l):bC prog 55 [.agg l.c] (.agg l.c):=by
 refine PC.le ?_;refine bM Bf ?_;repeat' ((conv=>whnf);first|with_reducible apply aG|((with_reducible apply fk)<;>intro hc<;>try exact aK)|(apply aH;refine⟨_,VL l.av _ h.av (fun x hx=>LC x (h.aN x hx)),?_⟩)|refine aC ?_|fail)
 all_goals exact ay
theorem VN:aQ prog 54 f54:=bU func54
theorem OZ (l:Lg)(id:Int):bC prog 54 ([]++([.agg l.c]++[.bJ [uu id] 0])) (bl (l.id==id)):=by
 refine PC.le ?_;refine bM VN ?_;repeat' ((conv=>whnf);first|with_reducible apply aG|((with_reducible apply fk)<;>intro hc<;>try exact aK)|refine aC ?_|fail)
 all_goals exact ay
theorem O0:aQ prog 24 f24:=bU func24
theorem xR (p:Pn)(id:Int)(h:rR p):bC prog 24 [.agg p.c,uu id] (.dn [.agg (aW p id).c,bl (aR p id).isSome]):=by
 refine PC.le ?_;rcases Yn p id with ⟨e1,e2⟩|⟨k,hk,e1,e2⟩
 ·have d0:decide ((-1:Int)<0)=true:=rfl;have c:=dW p.af 54 [] [.bJ [uu id] 0] (fun l=>l.id==id) fun x _=>OZ x id
  rw[e1] at c;simp only[aW,e2];clear e1 e2;refine bM O0 ?_;repeat' ((conv=>whnf);first|with_reducible apply aG|((with_reducible apply fk)<;>intro hc<;>try exact aK)|(apply aH;refine⟨_,c,?_⟩)|refine aC ?_|fail)
  all_goals exact ay
 have d0:decide ((k:Int)<0)=false:=by simp only[kQ];omega
 have c:=dW p.af 54 [] [.bJ [uu id] 0] (fun l=>l.id==id) fun x _=>OZ x id
 rw[e1] at c;simp only[aW,e2];clear e1 e2;have cO:=qG _ (h.lg _ (List.getElem_mem hk));refine bM O0 ?_;repeat' ((conv=>whnf);first|with_reducible apply aG|((with_reducible apply fk)<;>intro hc<;>try exact aK)|(apply aH;refine⟨_,c,?_⟩)|((refine⟨_,dx _ _ _ hk,?_⟩))|(apply aH;refine⟨_,cO,?_⟩)|refine aC ?_|fail)
 repeat' first|apply And.intro|exact ay|fail
 all_goals try (conv=>whnf)
 all_goals exact fun h=>h
theorem aj7 (a b c:Int):[a,b,c].all cnt=(cnt a&&(cnt b&&cnt c)):=by simp
theorem aj8 (a:Int):[a].all cnt=cnt a:=by simp
theorem zB (a:Int):bC prog 68 [.sl false 1 [[uu a]]] (bl (cnt a)):=by
 rw[←aj8];exact OY [a]
theorem Gl (a b c:Int):bC prog 68 [.sl false 1 [[uu a],[uu b],[uu c]]] (bl ((cnt a&&(cnt b&&cnt c)))):=by
 rw[←aj7];exact OY [a,b,c]
theorem RS {α β:Type}(f:β→α→β)(z:β)(l:List α)(k:Nat)(h:k<l.length):(l.take (k+1)).foldl f z=f ((l.take k).foldl f z) l[k]:=by
 rw[List.take_succ_eq_append_getElem h,List.foldl_append];rfl
theorem TW:aQ prog 14 f14:=bU func14
theorem Gm (p:Pn)(n:Int)(h:rR p):bC prog 14 [.agg p.c,ii n] (uu (pE p n)):=by
 refine PC.le ?_;unfold pE;cases hh:dM p n with
 | false=>
   rw[if_neg (by decide)];have c:=Lx p n;rw[hh] at c;refine bM TW ?_;repeat' ((conv=>whnf);first|with_reducible apply aG|((with_reducible apply fk)<;>intro hc<;>try exact aK)|(apply aH;refine⟨_,c,?_⟩)|refine aC ?_|fail)
   all_goals exact ay
 | true=>
   rw[if_pos rfl];have c:=Lx p n;rw[hh] at c;simp only[dM,Bool.and_eq_true,gQ] at hh;have hb:=h.channels;obtain⟨i,hi,rfl⟩:∃i:Nat,i<p.channels.length∧n=((i+1:Nat):Int):=⟨(n-1).toNat,by omega,by omega⟩;have eI:IntKind.i64.wrap (((i+1:Nat):Int)-1)=((i:Nat):Int):=by rw[aJ (by omega) (by omega)];omega
   have ec:aL p ((i+1:Nat):Int)=p.channels[i]:=by
    unfold aL;rw[show (((i+1:Nat):Int)-1).toNat=i from by omega,getElem!_pos p.channels i hi]
   rw[ec];clear ec hh;have hcb:=(h.ch _ (List.getElem_mem hi)).af;obtain⟨x,hx⟩:∃x,x=p.channels[i]:=⟨_,rfl⟩;rw[←hx] at hcb ⊢;refine bM TW ?_;repeat' ((conv=>whnf);first|with_reducible apply aG|((with_reducible apply fk)<;>intro hc<;>try exact aK)|(apply aH;refine⟨_,c,?_⟩)|((rewrite[eI]))|((refine⟨_,dx _ _ _ hi,?_⟩))|refine aC ?_|fail)
   refine⟨{k:Nat // k≤x.af.length},fun⟨k,_⟩=>⟨[(2,.ptr 1002 0),(6,.pv (uu ((x.af.take k).foldl (fun e id=>bV e (aW p id).last) x.first))),(24,.pv (l8 x.af)),(25,.pv (ii x.af.length)),(26,.pv (ii k))],1000000000,[(1002,.var (p.c.map .pv))]⟩,fun⟨k,_⟩=>x.af.length-k,⟨⟨0,by simp⟩,aj ?_⟩,?_⟩
   ·repeat' first|apply And.intro|exact ay|fail
    all_goals try (conv=>whnf)
    all_goals (rw[hx];first|rfl|exact bP _|exact ahP _|simp)
   rintro⟨k,hk⟩
   clear c eI hi hx;by_cases hlt:k<x.af.length
   ·have d0:decide ((k:Int)<(x.af.length:Int))=true:=by simp only[gQ];omega
    have eW:IntKind.i64.wrap ((k:Int)+1)=((k+1:Nat):Int):=by rw[aJ (by omega) (by omega)];omega
    repeat' ((conv=>whnf);first|with_reducible apply aG|((with_reducible apply fk)<;>intro hc<;>try exact aK)|((refine⟨_,dx _ _ _ hlt,?_⟩))|(apply aH;refine⟨_,xR p _ h,?_⟩)|refine aC ?_|fail)
    refine⟨⟨k+1,hlt⟩,dec_lt hlt,aj ?_⟩;repeat' first|apply And.intro|exact ay|fail
    all_goals try (conv=>whnf)
    all_goals first
     |exact eW
     |(rw[RS _ _ _ _ hlt];rfl)
   have hke:k=x.af.length:=by omega
   subst hke;have d0:decide ((x.af.length:Int)<(x.af.length:Int))=false:=by simp
   repeat' ((conv=>whnf);first|with_reducible apply aG|((with_reducible apply fk)<;>intro hc<;>try exact aK)|refine aC ?_|fail)
   repeat' first|apply And.intro|exact ay|fail
   all_goals try (conv=>whnf)
   all_goals (rw[List.take_length];rfl)
theorem wP:aQ prog 22 f22:=bU func22
theorem LD (p:Pn)(n:Int)(h:rR p):bC prog 22 [.agg p.c,ii n] (.dn [.agg ((fK p n).getD Ip).c,bl (fK p n).isSome]):=by
 refine PC.le ?_;unfold fK;cases hh:dM p n with
 | false=>
   rw[if_neg (by decide)];have c:=Lx p n;rw[hh] at c;refine bM wP ?_;repeat' ((conv=>whnf);first|with_reducible apply aG|((with_reducible apply fk)<;>intro hc<;>try exact aK)|(apply aH;refine⟨_,c,?_⟩)|refine aC ?_|fail)
   all_goals exact ay
 | true=>
   rw[if_pos rfl];have c:=Lx p n;rw[hh] at c;simp only[dM,Bool.and_eq_true,gQ] at hh;have hb:=h.channels;obtain⟨i,hi,rfl⟩:∃i:Nat,i<p.channels.length∧n=((i+1:Nat):Int):=⟨(n-1).toNat,by omega,by omega⟩;have eI:IntKind.i64.wrap (((i+1:Nat):Int)-1)=((i:Nat):Int):=by rw[aJ (by omega) (by omega)];omega
   have ec:aL p ((i+1:Nat):Int)=p.channels[i]:=by
    unfold aL;rw[show (((i+1:Nat):Int)-1).toNat=i from by omega,getElem!_pos p.channels i hi]
   rw[ec];clear ec hh;have hcb:=(h.ch _ (List.getElem_mem hi)).af;have hr:=dx Ch.c p.channels i hi;obtain⟨x,hx⟩:∃x,x=p.channels[i]:=⟨_,rfl⟩;rw[←hx] at hcb hr ⊢;clear hx;unfold gN;rcases Nat.eq_zero_or_pos x.af.length with h0|h0
   ·have e0:x.af=[]:=List.eq_nil_of_length_eq_zero h0;rw[e0];have d0:(((List.map bR x.af).length:Int)==0)=true:=by rw[List.length_map,h0];rfl
    clear h0 e0;refine bM wP ?_;repeat' ((conv=>whnf);first|with_reducible apply aG|((with_reducible apply fk)<;>intro hc<;>try exact aK)|(apply aH;refine⟨_,c,?_⟩)|((rewrite[eI]))|((refine⟨_,hr,?_⟩))|refine aC ?_|fail)
    all_goals exact ay
   rw[getLast?_get _ h0];have d0:(((List.map bR x.af).length:Int)==0)=false:=by rw[List.length_map];simp;intro e;rw[e] at h0;simp at h0
   have eL:IntKind.i64.wrap (((List.map bR x.af).length:Int)-1)=((x.af.length-1:Nat):Int):=by rw[List.length_map,aJ (by omega) (by omega)];omega
   have hlt:x.af.length-1<x.af.length:=by omega
   have hr2:=dx bR x.af _ hlt;obtain⟨id,hid⟩:∃id,id=x.af[x.af.length-1]:=⟨_,rfl⟩;rw[←hid] at hr2 ⊢;clear hid;have cF:=xR p id h;unfold aW at cF;simp only;cases hf:aR p id with
   | none=>
     rw[hf] at cF;clear hf;refine bM wP ?_;repeat' ((conv=>whnf);first|with_reducible apply aG|((with_reducible apply fk)<;>intro hc<;>try exact aK)|(apply aH;refine⟨_,c,?_⟩)|((rewrite[eI]))|((rewrite[eL]))|((refine⟨_,hr,?_⟩))|((refine⟨_,hr2,?_⟩))|(((with_reducible apply And.intro);focus omega))|(apply aH;refine⟨_,cF,?_⟩)|refine aC ?_|fail)
     all_goals exact ay
   | some l=>
     rw[hf] at cF;clear hf;simp only[Option.isSome_some,Option.getD_some] at cF ⊢;cases hcl:(l.closed==0) with
     | true=>
       have YJ:(l.closed != 0)=false:=by simp[bne,hcl]
       refine bM wP ?_;repeat' ((conv=>whnf);first|with_reducible apply aG|((with_reducible apply fk)<;>intro hc<;>try exact aK)|(apply aH;refine⟨_,c,?_⟩)|((rewrite[eI]))|((rewrite[eL]))|((refine⟨_,hr,?_⟩))|((refine⟨_,hr2,?_⟩))|(((with_reducible apply And.intro);focus omega))|(apply aH;refine⟨_,cF,?_⟩)|refine aC ?_|fail)
       repeat' first|apply And.intro|exact ay|fail
       all_goals try (conv=>whnf)
       all_goals exact fun h=>h
     | false=>
       have YJ:(l.closed != 0)=true:=by simp[bne,hcl]
       refine bM wP ?_;repeat' ((conv=>whnf);first|with_reducible apply aG|((with_reducible apply fk)<;>intro hc<;>try exact aK)|(apply aH;refine⟨_,c,?_⟩)|((rewrite[eI]))|((rewrite[eL]))|((refine⟨_,hr,?_⟩))|((refine⟨_,hr2,?_⟩))|(((with_reducible apply And.intro);focus omega))|(apply aH;refine⟨_,cF,?_⟩)|refine aC ?_|fail)
       repeat' first|apply And.intro|exact ay|fail
       all_goals try (conv=>whnf)
       all_goals exact fun h=>h
theorem Y8:aQ prog 81 f81:=bU func81
theorem ab5 (x:Pa):bC prog 81 ([]++([.agg x.c]++[])) (bl (qP x)):=by
 refine PC.le ?_;obtain⟨X,hX⟩:∃X,X=qP x:=⟨_,rfl⟩;rw[←hX];unfold qP at hX;refine bM Y8 ?_;repeat' ((conv=>whnf);first|with_reducible apply aG|((with_reducible apply fk)<;>intro hc<;>try exact aK)|(apply aH;refine⟨_,jC _ _ _,?_⟩)|(apply aH;refine⟨_,qF _ _ _,?_⟩)|(apply aH;refine⟨_,abX _ _ _,?_⟩)|(apply aH;refine⟨_,tC (Gl x.out.aU x.out.at_ x.out.aY) ?_,?_⟩;exact rG)|refine aC ?_|fail)
 all_goals
  simp only[*,Bool.true_and,Bool.false_and,Bool.and_true,Bool.false_eq_true,↓reduceIte] at hX;subst hX;all_goals exact ay
theorem ab6:aQ prog 79 f79:=bU func79
theorem afo (x:Pa):bC prog 79 ([]++([.agg x.c]++[])) (ii x.who):=by
 refine PC.le ?_;refine bM ab6 ?_;repeat' ((conv=>whnf);first|with_reducible apply aG|((with_reducible apply fk)<;>intro hc<;>try exact aK)|refine aC ?_|fail)
 all_goals exact ay
theorem ab7:aQ prog 74 f74:=bU func74
theorem afp (x:Lg):bC prog 74 ([]++([.agg x.c]++[])) (uu x.id):=by
 refine PC.le ?_;refine bM ab7 ?_;repeat' ((conv=>whnf);first|with_reducible apply aG|((with_reducible apply fk)<;>intro hc<;>try exact aK)|refine aC ?_|fail)
 all_goals exact ay
theorem Y9:aQ prog 160 f160:=bU func160
theorem ab8 (x:Mk):bC prog 160 ([]++([.agg x.c]++[])) (ii x.producer):=by
 refine PC.le ?_;refine bM Y9 ?_;repeat' ((conv=>whnf);first|with_reducible apply aG|((with_reducible apply fk)<;>intro hc<;>try exact aK)|refine aC ?_|fail)
 all_goals exact ay
theorem Za:aQ prog 162 f162:=bU func162
theorem ab9 (x:Mk):bC prog 162 ([]++([.agg x.c]++[])) (uu x.offset):=by
 refine PC.le ?_;refine bM Za ?_;repeat' ((conv=>whnf);first|with_reducible apply aG|((with_reducible apply fk)<;>intro hc<;>try exact aK)|refine aC ?_|fail)
 all_goals exact ay
theorem Zb:aQ prog 114 f114:=bU func114
theorem acd (x:Int):bC prog 114 ([]++([uu x]++[])) (uu x):=by
 refine PC.le ?_;refine bM Zb ?_;repeat' ((conv=>whnf);first|with_reducible apply aG|((with_reducible apply fk)<;>intro hc<;>try exact aK)|refine aC ?_|fail)
 all_goals exact ay
theorem Zc:aQ prog 117 f117:=bU func117
theorem ace (x:Cu):bC prog 117 ([]++([.agg x.c]++[])) (ii x.sub):=by
 refine PC.le ?_;refine bM Zc ?_;repeat' ((conv=>whnf);first|with_reducible apply aG|((with_reducible apply fk)<;>intro hc<;>try exact aK)|refine aC ?_|fail)
 all_goals exact ay
theorem Zd:aQ prog 119 f119:=bU func119
theorem acf (x:Cu):bC prog 119 ([]++([.agg x.c]++[])) (bl (nT x)):=by
 refine PC.le ?_;obtain⟨X,hX⟩:∃X,X=nT x:=⟨_,rfl⟩;rw[←hX];unfold nT at hX;refine bM Zd ?_;repeat' ((conv=>whnf);first|with_reducible apply aG|((with_reducible apply fk)<;>intro hc<;>try exact aK)|(apply aH;refine⟨_,jC _ _ _,?_⟩)|(apply aH;refine⟨_,tC (zB x.at_) ?_,?_⟩;exact rG)|refine aC ?_|fail)
 all_goals
  simp only[*,Bool.true_and,Bool.false_and,Bool.and_true,Bool.false_eq_true,↓reduceIte] at hX;subst hX;all_goals exact ay
theorem Ze:aQ prog 164 f164:=bU func164
theorem acg (c:Ch)(x:Mk):bC prog 164 ([]++([.agg x.c]++[.bJ c.c 0])) (bl (BV c x)):=by
 refine PC.le ?_;obtain⟨X,hX⟩:∃X,X=BV c x:=⟨_,rfl⟩;rw[←hX];unfold BV at hX;refine bM Ze ?_;repeat' ((conv=>whnf);first|with_reducible apply aG|((with_reducible apply fk)<;>intro hc<;>try exact aK)|(apply aH;refine⟨_,jC _ _ _,?_⟩)|(apply aH;refine⟨_,qF _ _ _,?_⟩)|refine aC ?_|fail)
 all_goals
  simp only[*,Bool.true_and,Bool.false_and,Bool.and_true,Bool.false_eq_true,↓reduceIte] at hX;subst hX;all_goals exact ay
theorem Zf:aQ prog 115 f115:=bU func115
theorem ach (c:Ch)(h:c.seen.length≤1000000):bC prog 115 [.agg c.c] (bl (Am c)):=by
 refine PC.le ?_;obtain⟨X,hX⟩:∃X,X=Am c:=⟨_,rfl⟩;rw[←hX];unfold Am at hX;rw[←vS,xE] at hX;refine bM Zf ?_;repeat' ((conv=>whnf);first|with_reducible apply aG|((with_reducible apply fk)<;>intro hc<;>try exact aK)|(apply fB;refine⟨_,_,OC _ (by omega),?_⟩)|(apply fB;refine⟨_,_,RU _ (by omega),?_⟩)|(apply aH;refine⟨_,RO _ _ _ _ (·.producer) fun x _=>ab8 x,?_⟩)|(apply aH;refine⟨_,OP (mR Mk.offset c.seen) _ _ _ (·.offset) fun x _=>ab9 x,?_⟩)|(apply aH;refine⟨_,VH _ _ _ _ (BV c) fun x _=>acg c x,?_⟩)|refine aC ?_|fail)
 all_goals
  simp only[jS] at *;simp only[*,Bool.true_and,Bool.false_and,Bool.and_true,Bool.false_eq_true,↓reduceIte] at hX;subst hX;all_goals exact ay
theorem Zg:aQ prog 77 f77:=bU func77
theorem aci (p:Pn)(n:Int)(h:rR p)(hh:dM p n=true):bC prog 77 [.agg p.c,ii n] (bl (pF p (aL p n))):=by
 refine PC.le ?_;have cE:=Gm p n h;have cO:=LD p n h;unfold pE at cE;unfold fK at cO;rw[if_pos hh] at cE cO;have hb:=h.channels;obtain⟨i,hi,en,ec⟩:=qy hh;rw[ec] at cE cO ⊢;have eI:IntKind.i64.wrap (n-1)=((i:Nat):Int):=by rw[aJ (by omega) (by omega)];omega
 clear ec hh en;have hcb:=h.ch _ (List.getElem_mem hi);have hr:=dx Ch.c p.channels i hi;obtain⟨x,hx⟩:∃x,x=p.channels[i]:=⟨_,rfl⟩;rw[←hx] at hcb hr cE cO ⊢;clear hx;obtain⟨X,hX⟩:∃X,X=pF p x:=⟨_,rfl⟩;rw[←hX];have cR:bC prog 113 [l8 x.af,.fn (.func 114) [] []] (bl (jM x.af)):=abZ x.af _ [] [] (fun y=>y) fun y _=>acd y
 have cC:bC prog 116 [Hr x.au,.fn (.func 117) [] []] (bl (jM (x.au.map (·.sub)))):=by
  rw[xE];exact Lr x.au _ [] [] (·.sub) fun y _=>ace y
 have cA:=OJ x.au 119 [] [] nT fun y _=>acf y
 have cS:=ach x hcb.seen;unfold pF mD at hX;rw[ajz (x.af.length:Int) 8] at hX;obtain⟨R,hR⟩:∃R,R=(Am x&&(decide ((x.au.length:Int)≤3)&&(jM (x.au.map (·.sub))&&x.au.all nT))):=⟨_,rfl⟩;rw[←hR] at hX;obtain⟨L,hL⟩:∃L,L=iO p x.af:=⟨_,rfl⟩;rw[←hL] at hX;have eA:IntKind.u64.wrap (dP p x+8)=bV (dP p x) 8:=rfl;have eN:((List.map bR x.af).length:Int)=(x.af.length:Int):=by rw[List.length_map]
 have eM:((List.map Cu.c x.au).length:Int)=(x.au.length:Int):=by rw[List.length_map]
 obtain⟨M,hM⟩:∃M,M=(if (gN p x).isSome then bV (dP p x) 8 else dP p x):=⟨_,rfl⟩;rw[←hM] at hX;refine bM Zg ?_;repeat' ((conv=>whnf);first|with_reducible apply rF|((with_reducible apply fk)<;>intro hc<;>try exact aK)|((rewrite[eI]))|((refine⟨_,hr,?_⟩))|(apply aH;refine⟨_,cE,?_⟩)|refine aC ?_|fail)
 refine Or.inr ⟨Unit,fun _=>⟨[(2,.ptr 1002 0),(5,.ptr 1005 0),(6,.pv (uu (dP p x))),(7,.pv (uu M))],1000000000,[(1002,.var (p.c.map .pv)),(1005,.var (x.c.map .pv))]⟩,?_,fun _=>?_⟩
 ·cases ho:(gN p x).isSome with
  | true=>
    rw[ho] at cO;rw[ho,if_pos rfl] at hM;subst hM;repeat' ((conv=>whnf);first|with_reducible apply rF|((with_reducible apply fk)<;>intro hc<;>try exact aK)|(apply aH;refine⟨_,cO,?_⟩)|refine aC ?_|fail)
    refine⟨(),aj ?_⟩;all_goals exact ay
  | false=>
    rw[ho] at cO;rw[ho,if_neg (by decide)] at hM;subst hM;repeat' ((conv=>whnf);first|with_reducible apply rF|((with_reducible apply fk)<;>intro hc<;>try exact aK)|(apply aH;refine⟨_,cO,?_⟩)|refine aC ?_|fail)
    refine⟨(),aj ?_⟩;all_goals exact ay
 clear hM cE cO eI hr;repeat' ((conv=>whnf);first|with_reducible apply aG|((with_reducible refine fk (fun hc=>?_) fun hc=>?_)<;>first|exact absurd hc (by decide)|(exfalso;simp only[*,reduceCtorEq,Bool.not_true,Bool.not_false] at hc;done)|simp only[Bool.not_eq_true',Bool.not_eq_false'] at hc|skip)|rewrite[eA]|rewrite[eN]|(apply aH;refine⟨_,tC (Gl x.aU x.eY x.first) ?_,?_⟩;exact rG)|(apply aH;refine⟨_,tC (zB (bV (dP p x) 8)) ?_,?_⟩;exact rG)|(apply aH;refine⟨_,ab2 x,?_⟩)|(apply aH;refine⟨_,cR,?_⟩)|(apply aH;refine⟨_,qF _ _ _,?_⟩)|refine aC ?_|fail)
 all_goals try (focus (simp only[jS] at *;simp only[*,Bool.true_and,Bool.false_and,Bool.and_true,Bool.and_false,Bool.not_true,Bool.not_false,Bool.false_eq_true,↓reduceIte] at hX;subst hX;(repeat' first|apply And.intro|exact ay|fail);(all_goals try (conv=>whnf));done))
 simp only[jS] at *;simp only[*,Bool.true_and,Bool.false_and,Bool.and_true,Bool.and_false,Bool.not_true,Bool.not_false,Bool.false_eq_true,↓reduceIte] at hX;rw[←hL] at hX;rw[←hR] at hX;have hn:=hcb.af;refine⟨{k:Nat // k≤x.af.length∧∀j (hj:j<x.af.length),j<k→(aR p x.af[j]).isSome=true∧((aW p x.af[j]).closed=0→j+1=x.af.length)},fun⟨k,_⟩=>⟨[(2,.ptr 1002 0),(5,.ptr 1005 0),(76,.pv (l8 x.af)),(77,.pv (ii x.af.length)),(78,.pv (ii k))],1000000000,[(1002,.var (p.c.map .pv)),(1005,.var (x.c.map .pv))]⟩,fun⟨k,_⟩=>x.af.length-k,⟨⟨0,by simp⟩,aj ?_⟩,?_⟩
 ·all_goals exact ay
 rintro⟨k,hk,hbk⟩
 by_cases hlt:k<x.af.length
 ·have d0:decide ((k:Int)<(x.af.length:Int))=true:=by simp only[gQ];omega
  have eW:IntKind.i64.wrap ((k:Int)+1)=((k+1:Nat):Int):=by rw[aJ (by omega) (by omega)];omega
  have hr:=dx bR x.af k hlt;have ahQ:=jO p x.af;have cF:=xR p x.af[k] h;have hbad:¬((aR p x.af[k]).isSome=true∧((aW p x.af[k]).closed=0→k+1=x.af.length))→X=false:=by
   intro hne;rw[hX];cases hLv:L with
   |false=>rfl
   |true=>exact absurd ((ahQ.1 (hL.symm.trans hLv)) k hlt) hne
  have hgood:((aR p x.af[k]).isSome=true∧((aW p x.af[k]).closed=0→k+1=x.af.length))→∀j (hj:j<x.af.length),j<k+1→(aR p x.af[j]).isSome=true∧((aW p x.af[j]).closed=0→j+1=x.af.length):=by
   intro hne j hj hjk;rcases Nat.lt_succ_iff_lt_or_eq.1 hjk with hj'|rfl
   ·exact hbk j hj hj'
   exact hne
  clear ahQ cR cC cA cS;obtain⟨id,hid⟩:∃id,id=x.af[k]:=⟨_,rfl⟩;rw[←hid] at hbad hgood cF hr;clear hid;obtain⟨f,hf⟩:∃f,f=aW p id:=⟨_,rfl⟩;rw[←hf] at hbad hgood cF;clear hf;cases hs:(aR p id).isSome with
  | false=>
    rw[hs] at cF;have hXf:=hbad (by rw[hs];rintro⟨h,_⟩;cases h);clear hs hbad hgood hX;subst hXf;repeat' ((conv=>whnf);first|with_reducible apply aG|((with_reducible apply fk)<;>intro hc<;>try exact fO)|((refine⟨_,hr,?_⟩))|(apply aH;refine⟨_,cF,?_⟩)|refine aC ?_|fail)
    all_goals exact ay
  | true=>
    rw[hs] at cF;have eN2:((List.map bR x.af).length:Int)=(x.af.length:Int):=by rw[List.length_map]
    cases hc0:(f.closed==0) with
    | false=>
      have hg:=hgood ⟨hs,fun e=>by rw[e] at hc0;cases hc0⟩;clear hs hbad hgood;repeat' ((conv=>whnf);first|with_reducible apply aG|((with_reducible apply fk)<;>intro hc<;>try exact fO)|((refine⟨_,hr,?_⟩))|(apply aH;refine⟨_,cF,?_⟩)|refine aC ?_|fail)
      refine⟨⟨k+1,hlt,hg⟩,dec_lt hlt,aj ?_⟩;repeat' first|apply And.intro|exact ay|fail
      all_goals try (conv=>whnf)
      all_goals exact eW
    | true=>
      by_cases hl:k+1<x.af.length
      ·have hXf:=hbad (by rintro⟨_,h⟩;have:=h (by simpa using hc0);omega);have d1:decide (((k+1:Nat):Int)<(x.af.length:Int))=true:=by simp only[gQ];omega
       clear hs hbad hgood hX;subst hXf;repeat' ((conv=>whnf);first|with_reducible apply aG|((with_reducible apply fk)<;>intro hc<;>try exact fO)|rewrite[eW]|rewrite[eN2]|((refine⟨_,hr,?_⟩))|(apply aH;refine⟨_,cF,?_⟩)|refine aC ?_|fail)
       all_goals exact ay
      have hg:=hgood ⟨hs,fun _=>by omega⟩;have d1:decide (((k+1:Nat):Int)<(x.af.length:Int))=false:=by simp only[kQ];omega
      clear hs hbad hgood;repeat' ((conv=>whnf);first|with_reducible apply aG|((with_reducible apply fk)<;>intro hc<;>try exact fO)|rewrite[eW]|rewrite[eN2]|((refine⟨_,hr,?_⟩))|(apply aH;refine⟨_,cF,?_⟩)|refine aC ?_|fail)
      refine⟨⟨k+1,hlt,hg⟩,dec_lt hlt,aj ?_⟩;all_goals exact ay
 have hke:k=x.af.length:=by omega
 subst hke;have d0:decide ((x.af.length:Int)<(x.af.length:Int))=false:=by simp
 have hLt:L=true:=by rw[hL,jO];exact fun i hi=>hbk i hi hi
 rw[hLt,Bool.true_and,hR] at hX;have eM2:((List.map Cu.c x.au).length:Int)=(x.au.length:Int):=by rw[List.length_map]
 clear hR hL hLt cR;repeat' ((conv=>whnf);first|with_reducible apply aG|((with_reducible apply fk)<;>intro hc<;>try exact aK)|rewrite[eM2]|(apply aH;refine⟨_,cS,?_⟩)|(apply aH;refine⟨_,cC,?_⟩)|(apply aH;refine⟨_,cA,?_⟩)|refine aC ?_|fail)
 all_goals
  simp only[jS] at *;simp only[*,Bool.true_and,Bool.false_and,Bool.and_true,Bool.and_false,Bool.false_eq_true,↓reduceIte] at hX;subst hX;all_goals exact ay
end Go.Proofs.YtiagceoepkaeoaaGreat.Tb
end
section
open Go Go.Proofs.Tryz Go.AX Go.Sort
namespace Go.Proofs.YtiagceoepkaeoaaGreat.Tb
theorem aan:aQ prog 146 f146:=bU func146
theorem ac3 (A:Array Int)(a b:Nat)(hab:a<b)(hb:b≤A.size)(hs:A.size<4611686018427387904) :
  dU prog 146 [.aB 1 0,.pv (ii a),.pv (ii b)] [(1,.arr 23 0 1 (uA A))] (.pv (.dn [])) [(1,.arr 23 0 1 (uA (heapSort ltInt A a b)))]:=by
 obtain⟨X,hX⟩:∃X,heapSort ltInt A a b=X:=⟨_,rfl⟩;rw[hX];unfold heapSort at hX;obtain⟨m,rfl⟩:∃m,b=a+m:=⟨b-a,by omega⟩;rw[show a+m-a=m from by omega] at hX;have w1:IntKind.i64.wrap (((a+m:Nat):Int)-(a:Int))=(m:Int):=by rw[aJ (by omega) (by omega)];omega
 have w2:IntKind.i64.wrap ((m:Int)-1)=((m-1:Nat):Int):=by rw[aJ (by omega) (by omega)];omega
 have w3:Int.tdiv ((m-1:Nat):Int) 2=(((m-1) / 2:Nat):Int):=by rw[Int.tdiv_eq_ediv_of_nonneg (by omega)];rfl
 refine jy aan ?_;repeat' ((conv=>whnf);first|with_reducible apply aG|((with_reducible apply fk)<;>intro hc<;>try exact aK)|rewrite[w1]|rewrite[w2]|rewrite[w3]|refine aC ?_|fail)
 refine⟨{p:Nat×Array Int // p.2.size=A.size∧heapPop ltInt a m (heapBuild ltInt m a p.1 p.2)=X∧p.1≤m},fun⟨(k,D),_⟩=>⟨[(0,.aB 1 0),(6,.pv (ii a)),(7,.pv (ii 0)),(8,.pv (ii m)),(9,.pv (ii ((k:Int)-1)))],1000000000,[(1,.arr 23 0 1 (uA D))]⟩,fun⟨(k,_),_⟩=>k,⟨⟨((m-1) / 2+1,A),rfl,hX,by omega⟩,aj ?_⟩,?_⟩
 ·repeat' first|apply And.intro|exact ay|fail
  all_goals try (conv=>whnf)
  all_goals (rw[aJ (by omega) (by omega)];omega)
 clear hX w3;rintro⟨⟨k,D⟩,h1,h2,h3⟩
 simp only at h1 h2 h3;cases k with
 | succ k=>
   have wk:((k+1:Nat):Int)-1=(k:Int):=by omega
   have d0:decide ((k:Int)≥0)=true:=by simp only[gQ];omega
   repeat' ((conv=>whnf);first|with_reducible apply aG|((with_reducible apply fk)<;>intro hc<;>try exact aK)|rewrite[wk]|(apply fB;refine⟨_,_,cZ (Uq D k m a (by omega) (by omega) (by omega)) ?_,?_⟩;exact rG)|refine aC ?_|fail)
   refine⟨⟨(k,siftDown ltInt m a k D),by rw[Dk _ _ _ _ _ _ (Nat.le_refl _)];exact h1,h2,by omega⟩,Nat.lt_succ_self _,aj ?_⟩;repeat' first|apply And.intro|exact ay|fail
   all_goals try (conv=>whnf)
   all_goals exact aJ (by omega) (by omega)
 | zero=>
   have d0:decide (((0:Nat):Int)-1≥0)=false:=by decide
   rw[heapBuild] at h2;repeat' ((conv=>whnf);first|with_reducible apply aG|((with_reducible apply fk)<;>intro hc<;>try exact aK)|rewrite[w2]|refine aC ?_|fail)
   refine⟨{p:Nat×Array Int // p.2.size=A.size∧heapPop ltInt a p.1 p.2=X∧p.1≤m},fun⟨(k,D),_⟩=>⟨[(0,.aB 1 0),(6,.pv (ii a)),(7,.pv (ii 0)),(10,.pv (ii ((k:Int)-1)))],1000000000,[(1,.arr 23 0 1 (uA D))]⟩,fun⟨(k,_),_⟩=>k,⟨⟨(m,D),h1,h2,by omega⟩,aj ?_⟩,?_⟩
   ·repeat' first|apply And.intro|exact ay|fail
    all_goals try (conv=>whnf)
    all_goals omega
   clear h1 h2 h3 d0;rintro⟨⟨k,D⟩,h1,h2,h3⟩
   simp only at h1 h2 h3;cases k with
   | succ k=>
     have wk:((k+1:Nat):Int)-1=(k:Int):=by omega
     have d0:decide ((k:Int)≥0)=true:=by simp only[gQ];omega
     have wa:IntKind.i64.wrap ((a:Int)+(k:Int))=((a+k:Nat):Int):=by rw[aJ (by omega) (by omega)];omega
     repeat' ((conv=>whnf);first|with_reducible apply aG|((with_reducible apply fk)<;>intro hc<;>try exact fO)|rewrite[wk]|rewrite[wa]|(rewrite[dA])|(refine⟨_,dz _ _ (by first|omega|exact gG),?_⟩)|((with_reducible apply And.intro);exact gG)|(apply aH;refine⟨_,bG _ _,?_⟩)|(apply fB;refine⟨_,_,cZ (Uq (swp D a (a+k)) 0 k a (by rw[size_swp];omega) (by rw[size_swp];omega) (by omega)) ?_,?_⟩;exact rG)|refine aC ?_|fail)
     refine⟨⟨(k,siftDown ltInt k a 0 (swp D a (a+k))),by rw[Dk _ _ _ _ _ _ (Nat.le_refl _),size_swp];exact h1,h2,by omega⟩,Nat.lt_succ_self _,aj ?_⟩;repeat' first|apply And.intro|exact ay|fail
     all_goals try (conv=>whnf)
     all_goals exact aJ (by omega) (by omega)
   | zero=>
     have d0:decide (((0:Nat):Int)-1≥0)=false:=by decide
     rw[heapPop] at h2;subst h2;repeat' ((conv=>whnf);first|with_reducible apply aG|((with_reducible apply fk)<;>intro hc<;>try exact aK)|refine aC ?_|fail)
     refine⟨_,_,⟨rfl,rfl⟩,?_⟩;all_goals exact ay
theorem ac4:aQ prog 149 f149:=bU func149
theorem afN (A:Array Int)(a b:Nat)(hab:a<b)(hb:b≤A.size)(hs:A.size<4611686018427387904) :
  dU prog 149 [.aB 1 0,.pv (ii a),.pv (ii b)] [(1,.arr 23 0 1 (uA A))] (.pv (.dn [])) [(1,.arr 23 0 1 (uA (reverseRange A a b)))]:=by
 obtain⟨X,hX⟩:∃X,reverseRange A a b=X:=⟨_,rfl⟩;rw[hX];unfold reverseRange at hX;have w1:IntKind.i64.wrap ((b:Int)-1)=((b-1:Nat):Int):=by rw[aJ (by omega) (by omega)];omega
 refine jy ac4 ?_;repeat' ((conv=>whnf);first|with_reducible apply aG|((with_reducible apply fk)<;>intro hc<;>try exact aK)|rewrite[w1]|refine aC ?_|fail)
 refine⟨{p:Nat×Nat×Array Int // p.2.2.size=A.size∧reverseLoop p.1 p.2.1 p.2.2=X∧p.2.1<b∧p.1<A.size},fun⟨(i,j,D),_⟩=>⟨[(0,.aB 1 0),(6,.pv (ii i)),(7,.pv (ii j))],1000000000,[(1,.arr 23 0 1 (uA D))]⟩,fun⟨(i,j,_),_⟩=>j-i,⟨⟨(a,b-1,A),rfl,hX,by show b-1<b;omega,by show a<A.size;omega⟩,aj ?_⟩,?_⟩
 ·all_goals exact ay
 clear hX w1;rintro⟨⟨i,j,D⟩,h1,h2,h3,h4⟩
 simp only at h1 h2 h3 h4;rw[reverseLoop] at h2;by_cases hlt:i<j
 ·have d0:decide ((i:Int)<(j:Int))=true:=by simp only[gQ];omega
  rw[if_pos hlt] at h2;have wi:IntKind.i64.wrap ((i:Int)+1)=((i+1:Nat):Int):=by rw[aJ (by omega) (by omega)];omega
  have wj:IntKind.i64.wrap ((j:Int)-1)=((j-1:Nat):Int):=by rw[aJ (by omega) (by omega)];omega
  repeat' ((conv=>whnf);first|with_reducible apply aG|((with_reducible apply fk)<;>intro hc<;>try exact fO)|rewrite[wi]|rewrite[wj]|(rewrite[dA])|(refine⟨_,dz _ _ (by first|omega|exact gG),?_⟩)|((with_reducible apply And.intro);exact gG)|(apply aH;refine⟨_,bG _ _,?_⟩)|refine aC ?_|fail)
  refine⟨⟨(i+1,j-1,swp D i j),by rw[size_swp];exact h1,h2,by show j-1<b;omega,by show i+1<A.size;omega⟩,(by show j-1-(i+1)<j-i;omega),aj ?_⟩;all_goals exact ay
 have d0:decide ((i:Int)<(j:Int))=false:=by simp only[kQ];omega
 rw[if_neg hlt] at h2;subst h2;repeat' ((conv=>whnf);first|with_reducible apply aG|((with_reducible apply fk)<;>intro hc<;>try exact aK)|refine aC ?_|fail)
 refine⟨_,_,⟨rfl,rfl⟩,?_⟩;all_goals exact ay
theorem PS:aQ prog 217 f217:=bU func217
theorem Mh (A:Array Int)(a b s:Nat)(ha:a<A.size)(hb:b<A.size)(hs:A.size<4611686018427387904)(h:s<1000)(p q s':Nat)(e:order2 ltInt A a b s=(p,q,s')) :
  dU prog 217 [.aB 1 0,.pv (ii a),.pv (ii b),.ptr 2 0] [(1,.arr 23 0 1 (uA A)),(2,.var [.pv (ii s)])] (.pv (.dn [ii p,ii q])) [(1,.arr 23 0 1 (uA A)),(2,.var [.pv (ii s')])]:=by
 have ws:IntKind.i64.wrap ((s:Int)+1)=((s+1:Nat):Int):=by rw[aJ (by omega) (by omega)];omega
 unfold order2 at e;rw[Aq] at e;cases hl:decide (A[b]! < A[a]!) with
 | true=>
   simp only[hl,if_true,Prod.mk.injEq] at e;obtain⟨rfl,rfl,rfl⟩:=e;refine jy PS ?_;repeat' ((conv=>whnf);first|with_reducible apply aG|((with_reducible apply fk)<;>intro hc<;>try exact fO)|rewrite[ws]|(rewrite[dA])|(refine⟨_,dz _ _ (by first|omega|exact gG),?_⟩)|((with_reducible apply And.intro);exact gG)|(apply aH;refine⟨_,bG _ _,?_⟩)|refine aC ?_|fail)
   refine⟨_,_,⟨rfl,rfl⟩,?_⟩;all_goals exact ay
 | false=>
   simp only[hl,Bool.false_eq_true,if_false,Prod.mk.injEq] at e;obtain⟨rfl,rfl,rfl⟩:=e;refine jy PS ?_;repeat' ((conv=>whnf);first|with_reducible apply aG|((with_reducible apply fk)<;>intro hc<;>try exact fO)|rewrite[ws]|(rewrite[dA])|(refine⟨_,dz _ _ (by first|omega|exact gG),?_⟩)|((with_reducible apply And.intro);exact gG)|(apply aH;refine⟨_,bG _ _,?_⟩)|refine aC ?_|fail)
   refine⟨_,_,⟨rfl,rfl⟩,?_⟩;all_goals exact ay
theorem Ur {A:Array Int}{a b s p q s':Nat}(e:order2 ltInt A a b s=(p,q,s')):((p=a∧q=b)∨(p=b∧q=a))∧s'≤s+1:=by
 have h1:=order2_mem ltInt A a b s;have h2:=order2_count (lt:=ltInt) A a b s;rw[e] at h1 h2;exact⟨h1,h2⟩
theorem ac5:aQ prog 200 f200:=bU func200
theorem SA (A:Array Int)(a b c s:Nat)(ha:a<A.size)(hb:b<A.size)(hcc:c<A.size)(hs:A.size<4611686018427387904)(h:s<900)(p s':Nat)(e:median ltInt A a b c s=(p,s')) :
  dU prog 200 [.aB 1 0,.pv (ii a),.pv (ii b),.pv (ii c),.ptr 2 0] [(1,.arr 23 0 1 (uA A)),(2,.var [.pv (ii s)])] (.pv (ii p)) [(1,.arr 23 0 1 (uA A)),(2,.var [.pv (ii s')])]:=by
 unfold median at e;obtain⟨⟨p1,q1,s1⟩,e1⟩:∃x,order2 ltInt A a b s=x:=⟨_,rfl⟩;simp only[e1] at e;obtain⟨⟨p2,q2,s2⟩,e2⟩:∃x,order2 ltInt A q1 c s1=x:=⟨_,rfl⟩;simp only[e2] at e;obtain⟨⟨p3,q3,s3⟩,e3⟩:∃x,order2 ltInt A p1 p2 s2=x:=⟨_,rfl⟩;simp only[e3,Prod.mk.injEq] at e;obtain⟨rfl,rfl⟩:=e;have i1:=Ur e1;have i2:=Ur e2;have c1:=Mh A a b s ha hb hs (by omega) _ _ _ e1;have c2:=Mh A q1 c s1 (by omega) hcc hs (by omega) _ _ _ e2;have c3:=Mh A p1 p2 s2 (by omega) (by omega) hs (by omega) _ _ _ e3;clear e1 e2 e3 i1 i2;refine jy ac5 ?_;repeat' ((conv=>whnf);first|with_reducible apply aG|((with_reducible apply fk)<;>intro hc<;>try exact aK)|(apply fB;refine⟨_,_,cZ (c1) ?_,?_⟩;exact rG)|(apply fB;refine⟨_,_,cZ (c2) ?_,?_⟩;exact rG)|(apply fB;refine⟨_,_,cZ (c3) ?_,?_⟩;exact rG)|refine aC ?_|fail)
 refine⟨_,_,⟨rfl,rfl⟩,?_⟩;all_goals exact ay
theorem SB {A:Array Int}{a b c s p s':Nat}(e:median ltInt A a b c s=(p,s')):(p=a∨p=b∨p=c)∧s'≤s+3:=by
 have h1:=median_mem ltInt A a b c s;have h2:=median_count (lt:=ltInt) A a b c s;rw[e] at h1 h2;exact⟨h1,h2⟩
theorem aao:aQ prog 199 f199:=bU func199
theorem Mi (A:Array Int)(a s:Nat)(h0:0<a)(ha:a+1<A.size)(hs:A.size<4611686018427387904)(h:s<900)(p s':Nat)(e:medianAdjacent ltInt A a s=(p,s')) :
  dU prog 199 [.aB 1 0,.pv (ii a),.ptr 2 0] [(1,.arr 23 0 1 (uA A)),(2,.var [.pv (ii s)])] (.pv (ii p)) [(1,.arr 23 0 1 (uA A)),(2,.var [.pv (ii s')])]:=by
 have w1:IntKind.i64.wrap ((a:Int)-1)=((a-1:Nat):Int):=by rw[aJ (by omega) (by omega)];omega
 have w2:IntKind.i64.wrap ((a:Int)+1)=((a+1:Nat):Int):=by rw[aJ (by omega) (by omega)];omega
 have c1:=SA A (a-1) a (a+1) s (by omega) (by omega) ha hs h _ _ e;refine jy aao ?_;repeat' ((conv=>whnf);first|with_reducible apply aG|((with_reducible apply fk)<;>intro hc<;>try exact aK)|rewrite[w1]|rewrite[w2]|(apply fB;refine⟨_,_,cZ (c1) ?_,?_⟩;exact rG)|refine aC ?_|fail)
 refine⟨_,_,⟨rfl,rfl⟩,?_⟩;all_goals exact ay
def DJ:Hint→Int
 |.unknown=>0
 |.increasing=>1
 |.decreasing=>2
theorem Us:aQ prog 148 f148:=bU func148
theorem afO (A:Array Int)(a b:Nat)(hab:a<b)(h8:8≤b-a)(hb:b≤A.size)(hs:A.size<4611686018427387904)(p:Nat)(hh:Hint)(e:choosePivot ltInt A a b=(p,hh)) :
  dU prog 148 [.aB 1 0,.pv (ii a),.pv (ii b)] [(1,.arr 23 0 1 (uA A))] (.pv (.dn [ii p,ii (DJ hh)])) [(1,.arr 23 0 1 (uA A))]:=by
 obtain⟨m,rfl⟩:∃m,b=a+m:=⟨b-a,by omega⟩;unfold choosePivot at e;rw[show a+m-a=m from by omega] at e h8;simp only[ge_iff_le,h8,if_true] at e;have w0:IntKind.i64.wrap (((a+m:Nat):Int)-(a:Int))=(m:Int):=by rw[aJ (by omega) (by omega)];omega
 have w1:IntKind.i64.wrap (Int.tdiv (m:Int) 4)=((m / 4:Nat):Int):=by rw[Int.tdiv_eq_ediv_of_nonneg (by omega),aJ (by omega) (by omega)];rfl
 have w2:IntKind.i64.wrap (((m / 4:Nat):Int)*1)=((m / 4*1:Nat):Int):=by rw[aJ (by omega) (by omega)];omega
 have w3:IntKind.i64.wrap (((m / 4:Nat):Int)*2)=((m / 4*2:Nat):Int):=by rw[aJ (by omega) (by omega)];omega
 have w4:IntKind.i64.wrap (((m / 4:Nat):Int)*3)=((m / 4*3:Nat):Int):=by rw[aJ (by omega) (by omega)];omega
 have w5:IntKind.i64.wrap ((a:Int)+((m / 4*1:Nat):Int))=((a+m / 4*1:Nat):Int):=by rw[aJ (by omega) (by omega)];omega
 have w6:IntKind.i64.wrap ((a:Int)+((m / 4*2:Nat):Int))=((a+m / 4*2:Nat):Int):=by rw[aJ (by omega) (by omega)];omega
 have w7:IntKind.i64.wrap ((a:Int)+((m / 4*3:Nat):Int))=((a+m / 4*3:Nat):Int):=by rw[aJ (by omega) (by omega)];omega
 have d0:decide ((m:Int)≥8)=true:=by simp only[gQ];omega
 have fin:∀(q s':Nat),(q,if s'=0 then Hint.increasing else if s'=12 then Hint.decreasing else Hint.unknown)=(p,hh)→q=p∧((((s':Int)==0)=true∧hh=.increasing)∨(((s':Int)==0)=false∧((s':Int)==12)=true∧hh=.decreasing)∨(((s':Int)==0)=false∧((s':Int)==12)=false∧hh=.unknown)):=by
  intro q s' h;simp only[Prod.mk.injEq] at h;obtain⟨h1,h2⟩:=h;refine⟨h1,?_⟩;by_cases h3:s'=0
  ·rw[if_pos h3] at h2;exact .inl ⟨by simp;omega,h2.symm⟩
  rw[if_neg h3] at h2;by_cases h4:s'=12
  ·rw[if_pos h4] at h2;exact .inr (.inl ⟨by simp;omega,by simp;omega,h2.symm⟩)
  rw[if_neg h4] at h2;exact .inr (.inr ⟨by simp;omega,by simp;omega,h2.symm⟩)
 by_cases h50:50≤m
 ·simp only[h50,if_true] at e;have d1:decide ((m:Int)≥50)=true:=by simp only[gQ];omega
  obtain⟨⟨p1,s1⟩,e1⟩:∃x,medianAdjacent ltInt A (a+m / 4*1) 0=x:=⟨_,rfl⟩;simp only[e1] at e;obtain⟨⟨p2,s2⟩,e2⟩:∃x,medianAdjacent ltInt A (a+m / 4*2) s1=x:=⟨_,rfl⟩;simp only[e2] at e;obtain⟨⟨p3,s3⟩,e3⟩:∃x,medianAdjacent ltInt A (a+m / 4*3) s2=x:=⟨_,rfl⟩;simp only[e3] at e;obtain⟨⟨p4,s4⟩,e4⟩:∃x,median ltInt A p1 p2 p3 s3=x:=⟨_,rfl⟩;simp only[e4] at e;have i1:=SB e1;have i2:=SB e2;have i3:=SB e3;have c1:=Mi A _ 0 (by omega) (by omega) hs (by omega) _ _ e1;have c2:=Mi A _ s1 (by omega) (by omega) hs (by omega) _ _ e2;have c3:=Mi A _ s2 (by omega) (by omega) hs (by omega) _ _ e3;have c4:=SA A _ _ _ s3 (by omega) (by omega) (by omega) hs (by omega) _ _ e4;obtain⟨rfl,hf⟩:=fin _ _ e;clear e e1 e2 e3 e4 i1 i2 i3 fin;rcases hf with ⟨f1,rfl⟩|⟨f1,f2,rfl⟩|⟨f1,f2,rfl⟩
  all_goals
   refine jy Us ?_;repeat' ((conv=>whnf);first|with_reducible apply aG|((with_reducible apply fk)<;>intro hc<;>try exact aK)|rewrite[w0]|rewrite[w1]|rewrite[w2]|rewrite[w3]|rewrite[w4]|rewrite[w5]|rewrite[w6]|rewrite[w7]|(apply fB;refine⟨_,_,cZ (c1) ?_,?_⟩;exact rG)|(apply fB;refine⟨_,_,cZ (c2) ?_,?_⟩;exact rG)|(apply fB;refine⟨_,_,cZ (c3) ?_,?_⟩;exact rG)|(apply fB;refine⟨_,_,cZ (c4) ?_,?_⟩;exact rG)|refine aC ?_|fail)
   refine⟨_,_,⟨rfl,rfl⟩,?_⟩;all_goals exact ay
 simp only[h50,if_false] at e;have d1:decide ((m:Int)≥50)=false:=by simp only[kQ];omega
 obtain⟨⟨p4,s4⟩,e4⟩:∃x,median ltInt A (a+m / 4*1) (a+m / 4*2) (a+m / 4*3) 0=x:=⟨_,rfl⟩;simp only[e4] at e;have c4:=SA A _ _ _ 0 (by omega) (by omega) (by omega) hs (by omega) _ _ e4;obtain⟨rfl,hf⟩:=fin _ _ e;clear e e4 fin;rcases hf with ⟨f1,rfl⟩|⟨f1,f2,rfl⟩|⟨f1,f2,rfl⟩
 all_goals
  refine jy Us ?_;repeat' ((conv=>whnf);first|with_reducible apply aG|((with_reducible apply fk)<;>intro hc<;>try exact aK)|rewrite[w0]|rewrite[w1]|rewrite[w2]|rewrite[w3]|rewrite[w4]|rewrite[w5]|rewrite[w6]|rewrite[w7]|(apply fB;refine⟨_,_,cZ (c4) ?_,?_⟩;exact rG)|refine aC ?_|fail)
  refine⟨_,_,⟨rfl,rfl⟩,?_⟩;all_goals exact ay
theorem ac9:aQ prog 147 f147:=bU func147
theorem afQ (A:Array Int)(a b:Nat)(hab:a<b)(h8:8≤b-a)(hb:b≤A.size)(hs:A.size<4611686018427387904) :
  dU prog 147 [.aB 1 0,.pv (ii a),.pv (ii b)] [(1,.arr 23 0 1 (uA A))] (.pv (.dn [])) [(1,.arr 23 0 1 (uA (breakPatterns A a b)))]:=by
 obtain⟨X,hX⟩:∃X,breakPatterns A a b=X:=⟨_,rfl⟩;rw[hX];obtain⟨L,rfl⟩:∃L,b=a+L:=⟨b-a,by omega⟩;rw[show a+L-a=L from by omega] at h8;rw[Go.Proofs.breakPatterns_eq A a L h8] at hX;obtain⟨M,hM⟩:∃M:Nat,M=1 <<< bitsLen L:=⟨_,rfl⟩;have hM1:1≤M:=by rw[hM,Nat.one_shiftLeft];exact Nat.two_pow_pos _
 have hM2:M≤2*L:=by rw[hM,Nat.one_shiftLeft];exact two_pow_bitsLen_le (by omega)
 have cN:=afP L (by omega);rw[←hM] at hX cN;clear hM;have w0:IntKind.i64.wrap (((a+L:Nat):Int)-(a:Int))=(L:Int):=by rw[aJ (by omega) (by omega)];omega
 have wu:IntKind.u64.wrap (L:Int)=(L:Int):=vO (by omega) (by omega);have w1:IntKind.i64.wrap (Int.tdiv (L:Int) 4)=((L / 4:Nat):Int):=by rw[Int.tdiv_eq_ediv_of_nonneg (by omega),aJ (by omega) (by omega)];rfl
 have w2:IntKind.i64.wrap (((L / 4:Nat):Int)*2)=((L / 4*2:Nat):Int):=by rw[aJ (by omega) (by omega)];omega
 have w3:IntKind.i64.wrap ((a:Int)+((L / 4*2:Nat):Int))=((a+L / 4*2:Nat):Int):=by rw[aJ (by omega) (by omega)];omega
 have w4:IntKind.i64.wrap (((a+L / 4*2:Nat):Int)-1)=((a+L / 4*2-1:Nat):Int):=by rw[aJ (by omega) (by omega)];omega
 have w5:IntKind.i64.wrap (((a+L / 4*2:Nat):Int)+1)=((a+L / 4*2+1:Nat):Int):=by rw[aJ (by omega) (by omega)];omega
 have d0:decide ((L:Int)≥8)=true:=by simp only[gQ];omega
 refine jy ac9 ?_;repeat' ((conv=>whnf);first|with_reducible apply aG|((with_reducible apply fk)<;>intro hc<;>try exact aK)|rewrite[w0]|rewrite[wu]|rewrite[w1]|rewrite[w2]|rewrite[w3]|rewrite[w4]|(apply aH;refine⟨_,cN,?_⟩)|refine aC ?_|fail)
 refine⟨{p:Nat×UInt64×Array Int // p.2.2.size=A.size∧bpRest a L M (a+L / 4*2-1) (3-p.1) p.1 (p.2.1,p.2.2)=X∧p.1≤3},fun⟨(t,r,D),_⟩=>⟨[(0,.aB 1 0),(1,.pv (ii a)),(6,.pv (ii L)),(7,.ptr 1001 0),(8,.pv (uu M)),(9,.pv (ii ((a+L / 4*2-1+t:Nat):Int)))],1000000000,[(1,.arr 23 0 1 (uA D)),(1001,.var [.pv (uu r.toNat)])]⟩,fun⟨(t,_,_),_⟩=>3-t,⟨⟨(0,UInt64.ofNat L,A),rfl,hX,by omega⟩,aj ?_⟩,?_⟩
 ·repeat' first|apply And.intro|exact ay|fail
  all_goals try (conv=>whnf)
  all_goals (rw[UInt64.toNat_ofNat_of_lt' (by show L<2 ^ 64;omega)])
 clear hX cN wu w0 w4;rintro⟨⟨t,r,D⟩,h1,h2,h3⟩
 simp only at h1 h2 h3;by_cases ht:t<3
 ·have d1:decide (((a+L / 4*2-1+t:Nat):Int)≤((a+L / 4*2+1:Nat):Int))=true:=by simp only[gQ];omega
  obtain⟨o1,ho1⟩:∃o1:Nat,o1=(xorNext r).toNat &&& (M-1):=⟨_,rfl⟩;have ho2:o1≤M-1:=by rw[ho1];exact Nat.and_le_right
  have cX:=ac8 r.toNat r.toNat_lt;rw[←xorNext_toNat] at cX;have wm:IntKind.u64.wrap ((M:Int)-1)=((M-1:Nat):Int):=by rw[vO (by omega) (by omega)];omega
  have wa:IntKind.i64.wrap (IntKind.u64.wrap (((BitVec.ofInt IntKind.u64.bits ((xorNext r).toNat:Int) &&& BitVec.ofInt IntKind.u64.bits ((M-1:Nat):Int)).toNat:Nat):Int))=(o1:Int):=by
   have e:bits .and .u64 ((xorNext r).toNat:Int) ((M-1:Nat):Int)=(o1:Int):=by
    rw[bits_and_u64_nat _ _ (xorNext r).toNat_lt (by omega),ho1]
   exact (congrArg _ e).trans (aJ (by omega) (by omega))
  have wt:IntKind.i64.wrap (((a+L / 4*2-1+t:Nat):Int)+1)=((a+L / 4*2-1+(t+1):Nat):Int):=by rw[aJ (by omega) (by omega)];omega
  have hst:=fun o ho=>bp_step a L M (a+L / 4*2-1) t r D o ht ho
  rw[←ho1] at hst;by_cases hL:o1≥L
  ·have d2:decide ((o1:Int)≥(L:Int))=true:=by simp only[gQ];omega
   have wo:IntKind.i64.wrap ((o1:Int)-(L:Int))=((o1-L:Nat):Int):=by rw[aJ (by omega) (by omega)];omega
   have wp:IntKind.i64.wrap ((a:Int)+((o1-L:Nat):Int))=((a+(o1-L):Nat):Int):=by rw[aJ (by omega) (by omega)];omega
   rw[hst _ (if_pos hL)] at h2;clear hst ho1;repeat' ((conv=>whnf);first|with_reducible apply aG|((with_reducible apply fk)<;>intro hc<;>try exact fO)|rewrite[w1]|rewrite[w2]|rewrite[w3]|rewrite[w5]|rewrite[wm]|rewrite[wa]|rewrite[wo]|rewrite[wp]|rewrite[wt]|(apply fB;refine⟨_,_,cZ (cX) ?_,?_⟩;exact rG)|(rewrite[dA])|(refine⟨_,dz _ _ (by first|omega|exact gG),?_⟩)|((with_reducible apply And.intro);exact gG)|(apply aH;refine⟨_,bG _ _,?_⟩)|refine aC ?_|fail)
   refine⟨⟨(t+1,xorNext r,swp D (a+L / 4*2-1+t) (a+(o1-L))),by rw[size_swp];exact h1,h2,by omega⟩,(by show 3-(t+1)<3-t;omega),aj ?_⟩;all_goals exact ay
  have d2:decide ((o1:Int)≥(L:Int))=false:=by simp only[kQ];omega
  have wp:IntKind.i64.wrap ((a:Int)+((o1:Nat):Int))=((a+o1:Nat):Int):=by rw[aJ (by omega) (by omega)];omega
  rw[hst _ (if_neg hL)] at h2;clear hst ho1;repeat' ((conv=>whnf);first|with_reducible apply aG|((with_reducible apply fk)<;>intro hc<;>try exact fO)|rewrite[w1]|rewrite[w2]|rewrite[w3]|rewrite[w5]|rewrite[wm]|rewrite[wa]|rewrite[wp]|rewrite[wt]|(apply fB;refine⟨_,_,cZ (cX) ?_,?_⟩;exact rG)|(rewrite[dA])|(refine⟨_,dz _ _ (by first|omega|exact gG),?_⟩)|((with_reducible apply And.intro);exact gG)|(apply aH;refine⟨_,bG _ _,?_⟩)|refine aC ?_|fail)
  refine⟨⟨(t+1,xorNext r,swp D (a+L / 4*2-1+t) (a+o1)),by rw[size_swp];exact h1,h2,by omega⟩,(by show 3-(t+1)<3-t;omega),aj ?_⟩;all_goals exact ay
 have d1:decide (((a+L / 4*2-1+t:Nat):Int)≤((a+L / 4*2+1:Nat):Int))=false:=by simp only[kQ];omega
 obtain rfl:t=3:=by omega
 rw[show 3-3=0 from rfl,bpRest] at h2;simp only at h2;subst h2;repeat' ((conv=>whnf);first|with_reducible apply aG|((with_reducible apply fk)<;>intro hc<;>try exact aK)|rewrite[w1]|rewrite[w2]|rewrite[w3]|rewrite[w5]|refine aC ?_|fail)
 refine⟨_,_,⟨rfl,rfl⟩,?_⟩;all_goals exact ay
end Go.Proofs.YtiagceoepkaeoaaGreat.Tb
end
