/-
  Contracts of functions of the program and of the document, each for every input that its premises name.
-/
import Derived.Test.YtiagceoepkaeoaaGreatBb
import Derived.Test.YtiagceoepkaeoaaGreatAf
set_option linter.unusedSectionVars false
set_option linter.unusedVariables false
set_option linter.unusedSimpArgs false
set_option maxRecDepth 100000
set_option maxHeartbeats 4000000
section
open Go Go.Proofs.Tryz Go.AX
namespace Go.Proofs.YtiagceoepkaeoaaGreat.Tb
theorem Yl:Mg prog 69 f69:=bZ func69
theorem qF (n l m:Int):bE prog 69 [uu n,uu l,uu m] (bl (bR n l m)):=by
 refine PC.le ?_;refine bN Yl ?_;repeat' ((conv=>whnf);first|with_reducible apply aK|((with_reducible apply fk)<;>intro hc<;>try exact aM)|((with_reducible apply And.intro);exact aG)|fail)
 all_goals
  repeat' first|((conv=>whnf);with_reducible apply And.intro)|exact aL|fail
  all_goals try (conv=>whnf)
  simp_all [bR]
 omega
theorem Ym:Mg prog 60 f60:=bZ func60
theorem jC (n l m:Int):bE prog 60 [ii n,ii l,ii m] (bl (bR n l m)):=by
 refine PC.le ?_;refine bN Ym ?_;repeat' ((conv=>whnf);first|with_reducible apply aK|((with_reducible apply fk)<;>intro hc<;>try exact aM)|((with_reducible apply And.intro);exact aG)|fail)
 all_goals
  repeat' first|((conv=>whnf);with_reducible apply And.intro)|exact aL|fail
  all_goals try (conv=>whnf)
  simp_all [bR]
 omega
theorem Yn:Mg prog 122 f122:=bZ func122
theorem aaZ (n l m:Int):bE prog 122 [ii n,ii l,ii m] (bl (bR n l m)):=by
 refine PC.le ?_;refine bN Yn ?_;repeat' ((conv=>whnf);first|with_reducible apply aK|((with_reducible apply fk)<;>intro hc<;>try exact aM)|((with_reducible apply And.intro);exact aG)|fail)
 all_goals
  repeat' first|((conv=>whnf);with_reducible apply And.intro)|exact aL|fail
  all_goals try (conv=>whnf)
  simp_all [bR]
 omega
theorem Yo:Mg prog 193 f193:=bZ func193
theorem aa0 (a b:Int):bE prog 193 [.agg [ii a,uu b]] (bl (Fp ⟨a,b⟩)):=by
 refine PC.le ?_;refine bN Yo ?_;repeat' ((conv=>whnf);first|with_reducible apply aK|((with_reducible apply fk)<;>intro hc<;>try exact aM)|(apply aC;(conv=>whnf);refine⟨_,jC _ _ _,?_⟩)|(apply aC;(conv=>whnf);refine⟨_,qF _ _ _,?_⟩)|((with_reducible apply And.intro);exact aG)|fail)
 all_goals
  repeat' first|((conv=>whnf);with_reducible apply And.intro)|exact aL|fail
  all_goals try (conv=>whnf)
  simp_all [Fp]
theorem KT:Mg prog 216 f216:=bZ func216
theorem NZ (x:Pl)(f:FuncId)(first aR:List PV)(p:Pl→Bool)(hp:bE prog f (first++([.agg x.c]++aR)) (bl (p x))) :
  bE prog 216 ([]++([.agg x.c]++[.bU [.fn (.func f) first aR] 0])) (bl (!p x)):=by
 refine PC.le ?_;refine bN KT ?_;repeat' ((conv=>whnf);first|with_reducible apply aK|((with_reducible apply fk)<;>intro hc<;>try exact aM)|(apply aC;(conv=>whnf);refine⟨_,hp,?_⟩)|((with_reducible apply And.intro);exact aG)|fail)
 all_goals exact aL
theorem N7:Mg prog 192 f192:=bZ func192
theorem QS (l:List Pl)(f:FuncId)(first aR:List PV)(p:Pl→Bool)(hp:∀x∈l,bE prog f (first++([.agg x.c]++aR)) (bl (p x))) :
  bE prog 192 [vP l,.fn (.func f) first aR] (bl (l.all p)):=by
 refine PC.le ?_;refine bN N7 ?_;repeat' ((conv=>whnf);first|with_reducible apply aK|((with_reducible apply fk)<;>intro hc<;>try exact aM)|(apply aC;(conv=>whnf);refine⟨_,om _ _ _ _ _ fun x hx=>NZ x _ _ _ p (hp x hx),?_⟩)|((with_reducible apply And.intro);exact aG)|fail)
 repeat' first|((conv=>whnf);with_reducible apply And.intro)|exact aL|fail
 all_goals try (conv=>whnf)
 rw[List.not_any_eq_all_not];simp
theorem N8:Mg prog 189 f189:=bZ func189
theorem QT (x:Fr)(f:FuncId)(first aR:List PV)(p:Fr→Bool)(hp:bE prog f (first++([.agg x.c]++aR)) (bl (p x))) :
  bE prog 189 ([]++([.agg x.c]++[.bU [.fn (.func f) first aR] 0])) (bl (!p x)):=by
 refine PC.le ?_;refine bN N8 ?_;repeat' ((conv=>whnf);first|with_reducible apply aK|((with_reducible apply fk)<;>intro hc<;>try exact aM)|(apply aC;(conv=>whnf);refine⟨_,hp,?_⟩)|((with_reducible apply And.intro);exact aG)|fail)
 all_goals exact aL
theorem QU:Mg prog 140 f140:=bZ func140
theorem U7 (l:List Fr)(f:FuncId)(first aR:List PV)(p:Fr→Bool)(hp:∀x∈l,bE prog f (first++([.agg x.c]++aR)) (bl (p x))) :
  bE prog 140 [p8 l,.fn (.func f) first aR] (bl (l.all p)):=by
 refine PC.le ?_;refine bN QU ?_;repeat' ((conv=>whnf);first|with_reducible apply aK|((with_reducible apply fk)<;>intro hc<;>try exact aM)|(apply aC;(conv=>whnf);refine⟨_,zy _ _ _ _ _ fun x hx=>QT x _ _ _ p (hp x hx),?_⟩)|((with_reducible apply And.intro);exact aG)|fail)
 repeat' first|((conv=>whnf);with_reducible apply And.intro)|exact aL|fail
 all_goals try (conv=>whnf)
 rw[List.not_any_eq_all_not];simp
theorem Ie:Mg prog 111 f111:=bZ func111
theorem KU (x:Lg)(f:FuncId)(first aR:List PV)(p:Lg→Bool)(hp:bE prog f (first++([.agg x.c]++aR)) (bl (p x))) :
  bE prog 111 ([]++([.agg x.c]++[.bU [.fn (.func f) first aR] 0])) (bl (!p x)):=by
 refine PC.le ?_;refine bN Ie ?_;repeat' ((conv=>whnf);first|with_reducible apply aK|((with_reducible apply fk)<;>intro hc<;>try exact aM)|(apply aC;(conv=>whnf);refine⟨_,hp,?_⟩)|((with_reducible apply And.intro);exact aG)|fail)
 all_goals exact aL
theorem KV:Mg prog 70 f70:=bZ func70
theorem N9 (l:List Lg)(f:FuncId)(first aR:List PV)(p:Lg→Bool)(hp:∀x∈l,bE prog f (first++([.agg x.c]++aR)) (bl (p x))) :
  bE prog 70 [dN l,.fn (.func f) first aR] (bl (l.all p)):=by
 refine PC.le ?_;refine bN KV ?_;repeat' ((conv=>whnf);first|with_reducible apply aK|((with_reducible apply fk)<;>intro hc<;>try exact aM)|(apply aC;(conv=>whnf);refine⟨_,wK _ _ _ _ _ fun x hx=>KU x _ _ _ p (hp x hx),?_⟩)|((with_reducible apply And.intro);exact aG)|fail)
 repeat' first|((conv=>whnf);with_reducible apply And.intro)|exact aL|fail
 all_goals try (conv=>whnf)
 rw[List.not_any_eq_all_not];simp
theorem Oa:Mg prog 202 f202:=bZ func202
theorem QV (x:Mk)(f:FuncId)(first aR:List PV)(p:Mk→Bool)(hp:bE prog f (first++([.agg x.c]++aR)) (bl (p x))) :
  bE prog 202 ([]++([.agg x.c]++[.bU [.fn (.func f) first aR] 0])) (bl (!p x)):=by
 refine PC.le ?_;refine bN Oa ?_;repeat' ((conv=>whnf);first|with_reducible apply aK|((with_reducible apply fk)<;>intro hc<;>try exact aM)|(apply aC;(conv=>whnf);refine⟨_,hp,?_⟩)|((with_reducible apply And.intro);exact aG)|fail)
 all_goals exact aL
theorem QW:Mg prog 163 f163:=bZ func163
theorem U8 (l:List Mk)(f:FuncId)(first aR:List PV)(p:Mk→Bool)(hp:∀x∈l,bE prog f (first++([.agg x.c]++aR)) (bl (p x))) :
  bE prog 163 [qp l,.fn (.func f) first aR] (bl (l.all p)):=by
 refine PC.le ?_;refine bN QW ?_;repeat' ((conv=>whnf);first|with_reducible apply aK|((with_reducible apply fk)<;>intro hc<;>try exact aM)|(apply aC;(conv=>whnf);refine⟨_,jd _ _ _ _ _ fun x hx=>QV x _ _ _ p (hp x hx),?_⟩)|((with_reducible apply And.intro);exact aG)|fail)
 repeat' first|((conv=>whnf);with_reducible apply And.intro)|exact aL|fail
 all_goals try (conv=>whnf)
 rw[List.not_any_eq_all_not];simp
theorem Ig:Mg prog 166 f166:=bZ func166
theorem KW (x:Cu)(f:FuncId)(first aR:List PV)(p:Cu→Bool)(hp:bE prog f (first++([.agg x.c]++aR)) (bl (p x))) :
  bE prog 166 ([]++([.agg x.c]++[.bU [.fn (.func f) first aR] 0])) (bl (!p x)):=by
 refine PC.le ?_;refine bN Ig ?_;repeat' ((conv=>whnf);first|with_reducible apply aK|((with_reducible apply fk)<;>intro hc<;>try exact aM)|(apply aC;(conv=>whnf);refine⟨_,hp,?_⟩)|((with_reducible apply And.intro);exact aG)|fail)
 all_goals exact aL
theorem KX:Mg prog 118 f118:=bZ func118
theorem Ob (l:List Cu)(f:FuncId)(first aR:List PV)(p:Cu→Bool)(hp:∀x∈l,bE prog f (first++([.agg x.c]++aR)) (bl (p x))) :
  bE prog 118 [H8 l,.fn (.func f) first aR] (bl (l.all p)):=by
 refine PC.le ?_;refine bN KX ?_;repeat' ((conv=>whnf);first|with_reducible apply aK|((with_reducible apply fk)<;>intro hc<;>try exact aM)|(apply aC;(conv=>whnf);refine⟨_,wL _ _ _ _ _ fun x hx=>KW x _ _ _ p (hp x hx),?_⟩)|((with_reducible apply And.intro);exact aG)|fail)
 repeat' first|((conv=>whnf);with_reducible apply And.intro)|exact aL|fail
 all_goals try (conv=>whnf)
 rw[List.not_any_eq_all_not];simp
theorem Od:Mg prog 121 f121:=bZ func121
theorem QX (x:Pa)(f:FuncId)(first aR:List PV)(p:Pa→Bool)(hp:bE prog f (first++([.agg x.c]++aR)) (bl (p x))) :
  bE prog 121 ([]++([.agg x.c]++[.bU [.fn (.func f) first aR] 0])) (bl (!p x)):=by
 refine PC.le ?_;refine bN Od ?_;repeat' ((conv=>whnf);first|with_reducible apply aK|((with_reducible apply fk)<;>intro hc<;>try exact aM)|(apply aC;(conv=>whnf);refine⟨_,hp,?_⟩)|((with_reducible apply And.intro);exact aG)|fail)
 all_goals exact aL
theorem QY:Mg prog 80 f80:=bZ func80
theorem U9 (l:List Pa)(f:FuncId)(first aR:List PV)(p:Pa→Bool)(hp:∀x∈l,bE prog f (first++([.agg x.c]++aR)) (bl (p x))) :
  bE prog 80 [uR l,.fn (.func f) first aR] (bl (l.all p)):=by
 refine PC.le ?_;refine bN QY ?_;repeat' ((conv=>whnf);first|with_reducible apply aK|((with_reducible apply fk)<;>intro hc<;>try exact aM)|(apply aC;(conv=>whnf);refine⟨_,zA _ _ _ _ _ fun x hx=>QX x _ _ _ p (hp x hx),?_⟩)|((with_reducible apply And.intro);exact aG)|fail)
 repeat' first|((conv=>whnf);with_reducible apply And.intro)|exact aL|fail
 all_goals try (conv=>whnf)
 rw[List.not_any_eq_all_not];simp
theorem AZ:Mg prog 194 f194:=bZ func194
theorem Oe (l:List Pl)(f:FuncId)(first aR:List PV)(key:Pl→Int)(hp:∀x∈l,bE prog f (first++([.agg x.c]++aR)) (ii (key x))) :
  bE prog 194 [vP l,.fn (.func f) first aR] (bl (decide (l.Pairwise fun a b=>key a<key b))):=by
 refine PC.le (kL AZ fun hb=>?_);have hb:l.length≤9223372036854775807:=by simpa[DR,y7,vP] using hb
 refine bN AZ ?_;repeat' ((conv=>whnf);first|with_reducible apply aK|((with_reducible apply fk)<;>intro hc<;>try exact aM)|((with_reducible apply And.intro);exact aG)|fail)
 refine⟨{k:Nat // (k+1≤l.length∨k=0)∧∀j (hj:j+1<l.length),j<k→key (l[j]'(by omega))<key l[j+1]},fun⟨k,_⟩=>⟨[(0,.pv (vP l)),(1,.pv (.fn (.func f) first aR)),(5,.pv (ii ((k+1:Nat):Int)))],1000000000,[]⟩,fun⟨k,_⟩=>l.length-k,⟨⟨0,by simp⟩,ak ?_⟩,?_⟩
 ·repeat' first
   |fail
   |with_reducible exact True.intro
   |with_reducible exact rfl
   |with_reducible exact ah _
   |((conv=>whnf);with_reducible apply And.intro)
   |((conv=>whnf);with_reducible exact True.intro)
   |exact rfl
   |exact fun h=>h
   |exact ah _
  all_goals try (conv=>whnf)
 rintro⟨k,hk,hn⟩
 repeat' ((conv=>whnf);first|with_reducible apply aK|((with_reducible apply fk)<;>intro hc<;>try exact aM)|((with_reducible apply And.intro);exact aG)|fail)
 ·have hlt:k+1<l.length:=by simp at hc;omega
  have e1:IntKind.i64.wrap (((k+1:Nat):Int)-1)=((k:Nat):Int):=by rw[aO (by omega) (by omega)];omega
  repeat' ((conv=>whnf);first|with_reducible apply aK|((with_reducible apply fk)<;>intro hc<;>try exact aM)|((refine⟨by rw[e1];omega,_,MW _ _ e1 (by omega),?_⟩))|((with_reducible apply And.intro);exact aG)|fail)
  repeat' ((conv=>whnf);first|with_reducible apply aK|((with_reducible apply fk)<;>intro hc<;>try exact aM)|(apply aC;(conv=>whnf);refine⟨_,hp _ (List.getElem_mem _),?_⟩)|((with_reducible apply And.intro);exact aG)|fail)
  refine⟨_,cu _ _ _ hlt,?_⟩;repeat' ((conv=>whnf);first|with_reducible apply aK|((with_reducible apply fk)<;>intro hc<;>try exact aM)|(apply aC;(conv=>whnf);refine⟨_,hp _ (List.getElem_mem _),?_⟩)|((with_reducible apply And.intro);exact aG)|fail)
  ·repeat' first
    |fail
    |with_reducible exact True.intro
    |with_reducible exact rfl
    |with_reducible exact ah _
    |((conv=>whnf);with_reducible apply And.intro)
    |((conv=>whnf);with_reducible exact True.intro)
    |exact rfl
    |exact fun h=>h
    |exact ah _
   all_goals try (conv=>whnf)
   simp at hc;simp;intro hp;have:=List.pairwise_iff_getElem.1 hp k (k+1) (by omega) hlt (by omega);omega
  repeat' ((conv=>whnf)
           first
           |with_reducible apply aK
           |((with_reducible apply fk)<;>intro hc<;>try exact aM)
           |((with_reducible apply And.intro);exact aG)|fail)
  refine⟨⟨k+1,.inl hlt,?_⟩,dec_lt (by omega),ak ?_⟩
  ·intro j hj hjk;rcases Nat.lt_succ_iff_lt_or_eq.1 hjk with hj'|rfl
   ·exact hn j hj hj'
   simp at hc;exact hc
  repeat' first
   |fail
   |with_reducible exact True.intro
   |with_reducible exact rfl
   |with_reducible exact ah _
   |((conv=>whnf);with_reducible apply And.intro)
   |((conv=>whnf);with_reducible exact True.intro)
   |exact rfl
   |exact fun h=>h
   |exact ah _
  all_goals try (conv=>whnf)
  rw[aO (by omega) (by omega)];omega
 repeat' first
  |fail
  |with_reducible exact True.intro
  |with_reducible exact rfl
  |with_reducible exact ah _
  |((conv=>whnf);with_reducible apply And.intro)
  |((conv=>whnf);with_reducible exact True.intro)
  |exact rfl
  |exact fun h=>h
  |exact ah _
 all_goals try (conv=>whnf)
 simp at hc;simp;exact iC fun j hj=>hn j hj (by omega)
theorem Dq:Mg prog 143 f143:=bZ func143
theorem QZ (l:List Fr)(f:FuncId)(first aR:List PV)(key:Fr→Int)(hp:∀x∈l,bE prog f (first++([.agg x.c]++aR)) (uu (key x))) :
  bE prog 143 [p8 l,.fn (.func f) first aR] (bl (decide (l.Pairwise fun a b=>key a<key b))):=by
 refine PC.le (kL Dq fun hb=>?_);have hb:l.length≤9223372036854775807:=by simpa[DR,y7,p8] using hb
 refine bN Dq ?_;repeat' ((conv=>whnf);first|with_reducible apply aK|((with_reducible apply fk)<;>intro hc<;>try exact aM)|((with_reducible apply And.intro);exact aG)|fail)
 refine⟨{k:Nat // (k+1≤l.length∨k=0)∧∀j (hj:j+1<l.length),j<k→key (l[j]'(by omega))<key l[j+1]},fun⟨k,_⟩=>⟨[(0,.pv (p8 l)),(1,.pv (.fn (.func f) first aR)),(5,.pv (ii ((k+1:Nat):Int)))],1000000000,[]⟩,fun⟨k,_⟩=>l.length-k,⟨⟨0,by simp⟩,ak ?_⟩,?_⟩
 ·repeat' first
   |fail
   |with_reducible exact True.intro
   |with_reducible exact rfl
   |with_reducible exact ah _
   |((conv=>whnf);with_reducible apply And.intro)
   |((conv=>whnf);with_reducible exact True.intro)
   |exact rfl
   |exact fun h=>h
   |exact ah _
  all_goals try (conv=>whnf)
 rintro⟨k,hk,hn⟩
 repeat' ((conv=>whnf);first|with_reducible apply aK|((with_reducible apply fk)<;>intro hc<;>try exact aM)|((with_reducible apply And.intro);exact aG)|fail)
 ·have hlt:k+1<l.length:=by simp at hc;omega
  have e1:IntKind.i64.wrap (((k+1:Nat):Int)-1)=((k:Nat):Int):=by rw[aO (by omega) (by omega)];omega
  repeat' ((conv=>whnf);first|with_reducible apply aK|((with_reducible apply fk)<;>intro hc<;>try exact aM)|((refine⟨by rw[e1];omega,_,MW _ _ e1 (by omega),?_⟩))|((with_reducible apply And.intro);exact aG)|fail)
  repeat' ((conv=>whnf);first|with_reducible apply aK|((with_reducible apply fk)<;>intro hc<;>try exact aM)|(apply aC;(conv=>whnf);refine⟨_,hp _ (List.getElem_mem _),?_⟩)|((with_reducible apply And.intro);exact aG)|fail)
  refine⟨_,cu _ _ _ hlt,?_⟩;repeat' ((conv=>whnf);first|with_reducible apply aK|((with_reducible apply fk)<;>intro hc<;>try exact aM)|(apply aC;(conv=>whnf);refine⟨_,hp _ (List.getElem_mem _),?_⟩)|((with_reducible apply And.intro);exact aG)|fail)
  ·repeat' first
    |fail
    |with_reducible exact True.intro
    |with_reducible exact rfl
    |with_reducible exact ah _
    |((conv=>whnf);with_reducible apply And.intro)
    |((conv=>whnf);with_reducible exact True.intro)
    |exact rfl
    |exact fun h=>h
    |exact ah _
   all_goals try (conv=>whnf)
   simp at hc;simp;intro hp;have:=List.pairwise_iff_getElem.1 hp k (k+1) (by omega) hlt (by omega);omega
  repeat' ((conv=>whnf)
           first
           |with_reducible apply aK
           |((with_reducible apply fk)<;>intro hc<;>try exact aM)
           |((with_reducible apply And.intro);exact aG)|fail)
  refine⟨⟨k+1,.inl hlt,?_⟩,dec_lt (by omega),ak ?_⟩
  ·intro j hj hjk;rcases Nat.lt_succ_iff_lt_or_eq.1 hjk with hj'|rfl
   ·exact hn j hj hj'
   simp at hc;exact hc
  repeat' first
   |fail
   |with_reducible exact True.intro
   |with_reducible exact rfl
   |with_reducible exact ah _
   |((conv=>whnf);with_reducible apply And.intro)
   |((conv=>whnf);with_reducible exact True.intro)
   |exact rfl
   |exact fun h=>h
   |exact ah _
  all_goals try (conv=>whnf)
  rw[aO (by omega) (by omega)];omega
 repeat' first
  |fail
  |with_reducible exact True.intro
  |with_reducible exact rfl
  |with_reducible exact ah _
  |((conv=>whnf);with_reducible apply And.intro)
  |((conv=>whnf);with_reducible exact True.intro)
  |exact rfl
  |exact fun h=>h
  |exact ah _
 all_goals try (conv=>whnf)
 simp at hc;simp;exact iC fun j hj=>hn j hj (by omega)
theorem yD:Mg prog 73 f73:=bZ func73
theorem KY (l:List Lg)(f:FuncId)(first aR:List PV)(key:Lg→Int)(hp:∀x∈l,bE prog f (first++([.agg x.c]++aR)) (uu (key x))) :
  bE prog 73 [dN l,.fn (.func f) first aR] (bl (decide (l.Pairwise fun a b=>key a<key b))):=by
 refine PC.le (kL yD fun hb=>?_);have hb:l.length≤9223372036854775807:=by simpa[DR,y7,dN] using hb
 refine bN yD ?_;repeat' ((conv=>whnf);first|with_reducible apply aK|((with_reducible apply fk)<;>intro hc<;>try exact aM)|((with_reducible apply And.intro);exact aG)|fail)
 refine⟨{k:Nat // (k+1≤l.length∨k=0)∧∀j (hj:j+1<l.length),j<k→key (l[j]'(by omega))<key l[j+1]},fun⟨k,_⟩=>⟨[(0,.pv (dN l)),(1,.pv (.fn (.func f) first aR)),(5,.pv (ii ((k+1:Nat):Int)))],1000000000,[]⟩,fun⟨k,_⟩=>l.length-k,⟨⟨0,by simp⟩,ak ?_⟩,?_⟩
 ·repeat' first
   |fail
   |with_reducible exact True.intro
   |with_reducible exact rfl
   |with_reducible exact ah _
   |((conv=>whnf);with_reducible apply And.intro)
   |((conv=>whnf);with_reducible exact True.intro)
   |exact rfl
   |exact fun h=>h
   |exact ah _
  all_goals try (conv=>whnf)
 rintro⟨k,hk,hn⟩
 repeat' ((conv=>whnf);first|with_reducible apply aK|((with_reducible apply fk)<;>intro hc<;>try exact aM)|((with_reducible apply And.intro);exact aG)|fail)
 ·have hlt:k+1<l.length:=by simp at hc;omega
  have e1:IntKind.i64.wrap (((k+1:Nat):Int)-1)=((k:Nat):Int):=by rw[aO (by omega) (by omega)];omega
  repeat' ((conv=>whnf);first|with_reducible apply aK|((with_reducible apply fk)<;>intro hc<;>try exact aM)|((refine⟨by rw[e1];omega,_,MW _ _ e1 (by omega),?_⟩))|((with_reducible apply And.intro);exact aG)|fail)
  repeat' ((conv=>whnf);first|with_reducible apply aK|((with_reducible apply fk)<;>intro hc<;>try exact aM)|(apply aC;(conv=>whnf);refine⟨_,hp _ (List.getElem_mem _),?_⟩)|((with_reducible apply And.intro);exact aG)|fail)
  refine⟨_,cu _ _ _ hlt,?_⟩;repeat' ((conv=>whnf);first|with_reducible apply aK|((with_reducible apply fk)<;>intro hc<;>try exact aM)|(apply aC;(conv=>whnf);refine⟨_,hp _ (List.getElem_mem _),?_⟩)|((with_reducible apply And.intro);exact aG)|fail)
  ·repeat' first
    |fail
    |with_reducible exact True.intro
    |with_reducible exact rfl
    |with_reducible exact ah _
    |((conv=>whnf);with_reducible apply And.intro)
    |((conv=>whnf);with_reducible exact True.intro)
    |exact rfl
    |exact fun h=>h
    |exact ah _
   all_goals try (conv=>whnf)
   simp at hc;simp;intro hp;have:=List.pairwise_iff_getElem.1 hp k (k+1) (by omega) hlt (by omega);omega
  repeat' ((conv=>whnf)
           first
           |with_reducible apply aK
           |((with_reducible apply fk)<;>intro hc<;>try exact aM)
           |((with_reducible apply And.intro);exact aG)|fail)
  refine⟨⟨k+1,.inl hlt,?_⟩,dec_lt (by omega),ak ?_⟩
  ·intro j hj hjk;rcases Nat.lt_succ_iff_lt_or_eq.1 hjk with hj'|rfl
   ·exact hn j hj hj'
   simp at hc;exact hc
  repeat' first
   |fail
   |with_reducible exact True.intro
   |with_reducible exact rfl
   |with_reducible exact ah _
   |((conv=>whnf);with_reducible apply And.intro)
   |((conv=>whnf);with_reducible exact True.intro)
   |exact rfl
   |exact fun h=>h
   |exact ah _
  all_goals try (conv=>whnf)
  rw[aO (by omega) (by omega)];omega
 repeat' first
  |fail
  |with_reducible exact True.intro
  |with_reducible exact rfl
  |with_reducible exact ah _
  |((conv=>whnf);with_reducible apply And.intro)
  |((conv=>whnf);with_reducible exact True.intro)
  |exact rfl
  |exact fun h=>h
  |exact ah _
 all_goals try (conv=>whnf)
 simp at hc;simp;exact iC fun j hj=>hn j hj (by omega)
theorem Dr:Mg prog 159 f159:=bZ func159
theorem Q0 (l:List Mk)(f:FuncId)(first aR:List PV)(key:Mk→Int)(hp:∀x∈l,bE prog f (first++([.agg x.c]++aR)) (ii (key x))) :
  bE prog 159 [qp l,.fn (.func f) first aR] (bl (decide (l.Pairwise fun a b=>key a<key b))):=by
 refine PC.le (kL Dr fun hb=>?_);have hb:l.length≤9223372036854775807:=by simpa[DR,y7,qp] using hb
 refine bN Dr ?_;repeat' ((conv=>whnf);first|with_reducible apply aK|((with_reducible apply fk)<;>intro hc<;>try exact aM)|((with_reducible apply And.intro);exact aG)|fail)
 refine⟨{k:Nat // (k+1≤l.length∨k=0)∧∀j (hj:j+1<l.length),j<k→key (l[j]'(by omega))<key l[j+1]},fun⟨k,_⟩=>⟨[(0,.pv (qp l)),(1,.pv (.fn (.func f) first aR)),(5,.pv (ii ((k+1:Nat):Int)))],1000000000,[]⟩,fun⟨k,_⟩=>l.length-k,⟨⟨0,by simp⟩,ak ?_⟩,?_⟩
 ·repeat' first
   |fail
   |with_reducible exact True.intro
   |with_reducible exact rfl
   |with_reducible exact ah _
   |((conv=>whnf);with_reducible apply And.intro)
   |((conv=>whnf);with_reducible exact True.intro)
   |exact rfl
   |exact fun h=>h
   |exact ah _
  all_goals try (conv=>whnf)
 rintro⟨k,hk,hn⟩
 repeat' ((conv=>whnf);first|with_reducible apply aK|((with_reducible apply fk)<;>intro hc<;>try exact aM)|((with_reducible apply And.intro);exact aG)|fail)
 ·have hlt:k+1<l.length:=by simp at hc;omega
  have e1:IntKind.i64.wrap (((k+1:Nat):Int)-1)=((k:Nat):Int):=by rw[aO (by omega) (by omega)];omega
  repeat' ((conv=>whnf);first|with_reducible apply aK|((with_reducible apply fk)<;>intro hc<;>try exact aM)|((refine⟨by rw[e1];omega,_,MW _ _ e1 (by omega),?_⟩))|((with_reducible apply And.intro);exact aG)|fail)
  repeat' ((conv=>whnf);first|with_reducible apply aK|((with_reducible apply fk)<;>intro hc<;>try exact aM)|(apply aC;(conv=>whnf);refine⟨_,hp _ (List.getElem_mem _),?_⟩)|((with_reducible apply And.intro);exact aG)|fail)
  refine⟨_,cu _ _ _ hlt,?_⟩;repeat' ((conv=>whnf);first|with_reducible apply aK|((with_reducible apply fk)<;>intro hc<;>try exact aM)|(apply aC;(conv=>whnf);refine⟨_,hp _ (List.getElem_mem _),?_⟩)|((with_reducible apply And.intro);exact aG)|fail)
  ·repeat' first
    |fail
    |with_reducible exact True.intro
    |with_reducible exact rfl
    |with_reducible exact ah _
    |((conv=>whnf);with_reducible apply And.intro)
    |((conv=>whnf);with_reducible exact True.intro)
    |exact rfl
    |exact fun h=>h
    |exact ah _
   all_goals try (conv=>whnf)
   simp at hc;simp;intro hp;have:=List.pairwise_iff_getElem.1 hp k (k+1) (by omega) hlt (by omega);omega
  repeat' ((conv=>whnf)
           first
           |with_reducible apply aK
           |((with_reducible apply fk)<;>intro hc<;>try exact aM)
           |((with_reducible apply And.intro);exact aG)|fail)
  refine⟨⟨k+1,.inl hlt,?_⟩,dec_lt (by omega),ak ?_⟩
  ·intro j hj hjk;rcases Nat.lt_succ_iff_lt_or_eq.1 hjk with hj'|rfl
   ·exact hn j hj hj'
   simp at hc;exact hc
  repeat' first
   |fail
   |with_reducible exact True.intro
   |with_reducible exact rfl
   |with_reducible exact ah _
   |((conv=>whnf);with_reducible apply And.intro)
   |((conv=>whnf);with_reducible exact True.intro)
   |exact rfl
   |exact fun h=>h
   |exact ah _
  all_goals try (conv=>whnf)
  rw[aO (by omega) (by omega)];omega
 repeat' first
  |fail
  |with_reducible exact True.intro
  |with_reducible exact rfl
  |with_reducible exact ah _
  |((conv=>whnf);with_reducible apply And.intro)
  |((conv=>whnf);with_reducible exact True.intro)
  |exact rfl
  |exact fun h=>h
  |exact ah _
 all_goals try (conv=>whnf)
 simp at hc;simp;exact iC fun j hj=>hn j hj (by omega)
theorem A7:Mg prog 161 f161:=bZ func161
theorem Og (l:List Mk)(f:FuncId)(first aR:List PV)(key:Mk→Int)(hp:∀x∈l,bE prog f (first++([.agg x.c]++aR)) (uu (key x))) :
  bE prog 161 [qp l,.fn (.func f) first aR] (bl (decide (l.Pairwise fun a b=>key a<key b))):=by
 refine PC.le (kL A7 fun hb=>?_);have hb:l.length≤9223372036854775807:=by simpa[DR,y7,qp] using hb
 refine bN A7 ?_;repeat' ((conv=>whnf);first|with_reducible apply aK|((with_reducible apply fk)<;>intro hc<;>try exact aM)|((with_reducible apply And.intro);exact aG)|fail)
 refine⟨{k:Nat // (k+1≤l.length∨k=0)∧∀j (hj:j+1<l.length),j<k→key (l[j]'(by omega))<key l[j+1]},fun⟨k,_⟩=>⟨[(0,.pv (qp l)),(1,.pv (.fn (.func f) first aR)),(5,.pv (ii ((k+1:Nat):Int)))],1000000000,[]⟩,fun⟨k,_⟩=>l.length-k,⟨⟨0,by simp⟩,ak ?_⟩,?_⟩
 ·repeat' first
   |fail
   |with_reducible exact True.intro
   |with_reducible exact rfl
   |with_reducible exact ah _
   |((conv=>whnf);with_reducible apply And.intro)
   |((conv=>whnf);with_reducible exact True.intro)
   |exact rfl
   |exact fun h=>h
   |exact ah _
  all_goals try (conv=>whnf)
 rintro⟨k,hk,hn⟩
 repeat' ((conv=>whnf);first|with_reducible apply aK|((with_reducible apply fk)<;>intro hc<;>try exact aM)|((with_reducible apply And.intro);exact aG)|fail)
 ·have hlt:k+1<l.length:=by simp at hc;omega
  have e1:IntKind.i64.wrap (((k+1:Nat):Int)-1)=((k:Nat):Int):=by rw[aO (by omega) (by omega)];omega
  repeat' ((conv=>whnf);first|with_reducible apply aK|((with_reducible apply fk)<;>intro hc<;>try exact aM)|((refine⟨by rw[e1];omega,_,MW _ _ e1 (by omega),?_⟩))|((with_reducible apply And.intro);exact aG)|fail)
  repeat' ((conv=>whnf);first|with_reducible apply aK|((with_reducible apply fk)<;>intro hc<;>try exact aM)|(apply aC;(conv=>whnf);refine⟨_,hp _ (List.getElem_mem _),?_⟩)|((with_reducible apply And.intro);exact aG)|fail)
  refine⟨_,cu _ _ _ hlt,?_⟩;repeat' ((conv=>whnf);first|with_reducible apply aK|((with_reducible apply fk)<;>intro hc<;>try exact aM)|(apply aC;(conv=>whnf);refine⟨_,hp _ (List.getElem_mem _),?_⟩)|((with_reducible apply And.intro);exact aG)|fail)
  ·repeat' first
    |fail
    |with_reducible exact True.intro
    |with_reducible exact rfl
    |with_reducible exact ah _
    |((conv=>whnf);with_reducible apply And.intro)
    |((conv=>whnf);with_reducible exact True.intro)
    |exact rfl
    |exact fun h=>h
    |exact ah _
   all_goals try (conv=>whnf)
   simp at hc;simp;intro hp;have:=List.pairwise_iff_getElem.1 hp k (k+1) (by omega) hlt (by omega);omega
  repeat' ((conv=>whnf)
           first
           |with_reducible apply aK
           |((with_reducible apply fk)<;>intro hc<;>try exact aM)
           |((with_reducible apply And.intro);exact aG)|fail)
  refine⟨⟨k+1,.inl hlt,?_⟩,dec_lt (by omega),ak ?_⟩
  ·intro j hj hjk;rcases Nat.lt_succ_iff_lt_or_eq.1 hjk with hj'|rfl
   ·exact hn j hj hj'
   simp at hc;exact hc
  repeat' first
   |fail
   |with_reducible exact True.intro
   |with_reducible exact rfl
   |with_reducible exact ah _
   |((conv=>whnf);with_reducible apply And.intro)
   |((conv=>whnf);with_reducible exact True.intro)
   |exact rfl
   |exact fun h=>h
   |exact ah _
  all_goals try (conv=>whnf)
  rw[aO (by omega) (by omega)];omega
 repeat' first
  |fail
  |with_reducible exact True.intro
  |with_reducible exact rfl
  |with_reducible exact ah _
  |((conv=>whnf);with_reducible apply And.intro)
  |((conv=>whnf);with_reducible exact True.intro)
  |exact rfl
  |exact fun h=>h
  |exact ah _
 all_goals try (conv=>whnf)
 simp at hc;simp;exact iC fun j hj=>hn j hj (by omega)
theorem yE:Mg prog 116 f116:=bZ func116
theorem KZ (l:List Cu)(f:FuncId)(first aR:List PV)(key:Cu→Int)(hp:∀x∈l,bE prog f (first++([.agg x.c]++aR)) (ii (key x))) :
  bE prog 116 [H8 l,.fn (.func f) first aR] (bl (decide (l.Pairwise fun a b=>key a<key b))):=by
 refine PC.le (kL yE fun hb=>?_);have hb:l.length≤9223372036854775807:=by simpa[DR,y7,H8] using hb
 refine bN yE ?_;repeat' ((conv=>whnf);first|with_reducible apply aK|((with_reducible apply fk)<;>intro hc<;>try exact aM)|((with_reducible apply And.intro);exact aG)|fail)
 refine⟨{k:Nat // (k+1≤l.length∨k=0)∧∀j (hj:j+1<l.length),j<k→key (l[j]'(by omega))<key l[j+1]},fun⟨k,_⟩=>⟨[(0,.pv (H8 l)),(1,.pv (.fn (.func f) first aR)),(5,.pv (ii ((k+1:Nat):Int)))],1000000000,[]⟩,fun⟨k,_⟩=>l.length-k,⟨⟨0,by simp⟩,ak ?_⟩,?_⟩
 ·repeat' first
   |fail
   |with_reducible exact True.intro
   |with_reducible exact rfl
   |with_reducible exact ah _
   |((conv=>whnf);with_reducible apply And.intro)
   |((conv=>whnf);with_reducible exact True.intro)
   |exact rfl
   |exact fun h=>h
   |exact ah _
  all_goals try (conv=>whnf)
 rintro⟨k,hk,hn⟩
 repeat' ((conv=>whnf);first|with_reducible apply aK|((with_reducible apply fk)<;>intro hc<;>try exact aM)|((with_reducible apply And.intro);exact aG)|fail)
 ·have hlt:k+1<l.length:=by simp at hc;omega
  have e1:IntKind.i64.wrap (((k+1:Nat):Int)-1)=((k:Nat):Int):=by rw[aO (by omega) (by omega)];omega
  repeat' ((conv=>whnf);first|with_reducible apply aK|((with_reducible apply fk)<;>intro hc<;>try exact aM)|((refine⟨by rw[e1];omega,_,MW _ _ e1 (by omega),?_⟩))|((with_reducible apply And.intro);exact aG)|fail)
  repeat' ((conv=>whnf);first|with_reducible apply aK|((with_reducible apply fk)<;>intro hc<;>try exact aM)|(apply aC;(conv=>whnf);refine⟨_,hp _ (List.getElem_mem _),?_⟩)|((with_reducible apply And.intro);exact aG)|fail)
  refine⟨_,cu _ _ _ hlt,?_⟩;repeat' ((conv=>whnf);first|with_reducible apply aK|((with_reducible apply fk)<;>intro hc<;>try exact aM)|(apply aC;(conv=>whnf);refine⟨_,hp _ (List.getElem_mem _),?_⟩)|((with_reducible apply And.intro);exact aG)|fail)
  ·repeat' first
    |fail
    |with_reducible exact True.intro
    |with_reducible exact rfl
    |with_reducible exact ah _
    |((conv=>whnf);with_reducible apply And.intro)
    |((conv=>whnf);with_reducible exact True.intro)
    |exact rfl
    |exact fun h=>h
    |exact ah _
   all_goals try (conv=>whnf)
   simp at hc;simp;intro hp;have:=List.pairwise_iff_getElem.1 hp k (k+1) (by omega) hlt (by omega);omega
  repeat' ((conv=>whnf)
           first
           |with_reducible apply aK
           |((with_reducible apply fk)<;>intro hc<;>try exact aM)
           |((with_reducible apply And.intro);exact aG)|fail)
  refine⟨⟨k+1,.inl hlt,?_⟩,dec_lt (by omega),ak ?_⟩
  ·intro j hj hjk;rcases Nat.lt_succ_iff_lt_or_eq.1 hjk with hj'|rfl
   ·exact hn j hj hj'
   simp at hc;exact hc
  repeat' first
   |fail
   |with_reducible exact True.intro
   |with_reducible exact rfl
   |with_reducible exact ah _
   |((conv=>whnf);with_reducible apply And.intro)
   |((conv=>whnf);with_reducible exact True.intro)
   |exact rfl
   |exact fun h=>h
   |exact ah _
  all_goals try (conv=>whnf)
  rw[aO (by omega) (by omega)];omega
 repeat' first
  |fail
  |with_reducible exact True.intro
  |with_reducible exact rfl
  |with_reducible exact ah _
  |((conv=>whnf);with_reducible apply And.intro)
  |((conv=>whnf);with_reducible exact True.intro)
  |exact rfl
  |exact fun h=>h
  |exact ah _
 all_goals try (conv=>whnf)
 simp at hc;simp;exact iC fun j hj=>hn j hj (by omega)
theorem Dt:Mg prog 78 f78:=bZ func78
theorem Q5 (l:List Pa)(f:FuncId)(first aR:List PV)(key:Pa→Int)(hp:∀x∈l,bE prog f (first++([.agg x.c]++aR)) (ii (key x))) :
  bE prog 78 [uR l,.fn (.func f) first aR] (bl (decide (l.Pairwise fun a b=>key a<key b))):=by
 refine PC.le (kL Dt fun hb=>?_);have hb:l.length≤9223372036854775807:=by simpa[DR,y7,uR] using hb
 refine bN Dt ?_;repeat' ((conv=>whnf);first|with_reducible apply aK|((with_reducible apply fk)<;>intro hc<;>try exact aM)|((with_reducible apply And.intro);exact aG)|fail)
 refine⟨{k:Nat // (k+1≤l.length∨k=0)∧∀j (hj:j+1<l.length),j<k→key (l[j]'(by omega))<key l[j+1]},fun⟨k,_⟩=>⟨[(0,.pv (uR l)),(1,.pv (.fn (.func f) first aR)),(5,.pv (ii ((k+1:Nat):Int)))],1000000000,[]⟩,fun⟨k,_⟩=>l.length-k,⟨⟨0,by simp⟩,ak ?_⟩,?_⟩
 ·repeat' first
   |fail
   |with_reducible exact True.intro
   |with_reducible exact rfl
   |with_reducible exact ah _
   |((conv=>whnf);with_reducible apply And.intro)
   |((conv=>whnf);with_reducible exact True.intro)
   |exact rfl
   |exact fun h=>h
   |exact ah _
  all_goals try (conv=>whnf)
 rintro⟨k,hk,hn⟩
 repeat' ((conv=>whnf);first|with_reducible apply aK|((with_reducible apply fk)<;>intro hc<;>try exact aM)|((with_reducible apply And.intro);exact aG)|fail)
 ·have hlt:k+1<l.length:=by simp at hc;omega
  have e1:IntKind.i64.wrap (((k+1:Nat):Int)-1)=((k:Nat):Int):=by rw[aO (by omega) (by omega)];omega
  repeat' ((conv=>whnf);first|with_reducible apply aK|((with_reducible apply fk)<;>intro hc<;>try exact aM)|((refine⟨by rw[e1];omega,_,MW _ _ e1 (by omega),?_⟩))|((with_reducible apply And.intro);exact aG)|fail)
  repeat' ((conv=>whnf);first|with_reducible apply aK|((with_reducible apply fk)<;>intro hc<;>try exact aM)|(apply aC;(conv=>whnf);refine⟨_,hp _ (List.getElem_mem _),?_⟩)|((with_reducible apply And.intro);exact aG)|fail)
  refine⟨_,cu _ _ _ hlt,?_⟩;repeat' ((conv=>whnf);first|with_reducible apply aK|((with_reducible apply fk)<;>intro hc<;>try exact aM)|(apply aC;(conv=>whnf);refine⟨_,hp _ (List.getElem_mem _),?_⟩)|((with_reducible apply And.intro);exact aG)|fail)
  ·repeat' first
    |fail
    |with_reducible exact True.intro
    |with_reducible exact rfl
    |with_reducible exact ah _
    |((conv=>whnf);with_reducible apply And.intro)
    |((conv=>whnf);with_reducible exact True.intro)
    |exact rfl
    |exact fun h=>h
    |exact ah _
   all_goals try (conv=>whnf)
   simp at hc;simp;intro hp;have:=List.pairwise_iff_getElem.1 hp k (k+1) (by omega) hlt (by omega);omega
  repeat' ((conv=>whnf)
           first
           |with_reducible apply aK
           |((with_reducible apply fk)<;>intro hc<;>try exact aM)
           |((with_reducible apply And.intro);exact aG)|fail)
  refine⟨⟨k+1,.inl hlt,?_⟩,dec_lt (by omega),ak ?_⟩
  ·intro j hj hjk;rcases Nat.lt_succ_iff_lt_or_eq.1 hjk with hj'|rfl
   ·exact hn j hj hj'
   simp at hc;exact hc
  repeat' first
   |fail
   |with_reducible exact True.intro
   |with_reducible exact rfl
   |with_reducible exact ah _
   |((conv=>whnf);with_reducible apply And.intro)
   |((conv=>whnf);with_reducible exact True.intro)
   |exact rfl
   |exact fun h=>h
   |exact ah _
  all_goals try (conv=>whnf)
  rw[aO (by omega) (by omega)];omega
 repeat' first
  |fail
  |with_reducible exact True.intro
  |with_reducible exact rfl
  |with_reducible exact ah _
  |((conv=>whnf);with_reducible apply And.intro)
  |((conv=>whnf);with_reducible exact True.intro)
  |exact rfl
  |exact fun h=>h
  |exact ah _
 all_goals try (conv=>whnf)
 simp at hc;simp;exact iC fun j hj=>hn j hj (by omega)
theorem Oh:Mg prog 113 f113:=bZ func113
theorem aa1 (l:List Int)(f:FuncId)(first aR:List PV)(key:Int→Int)(hp:∀x∈l,bE prog f (first++([uu x]++aR)) (uu (key x))) :
  bE prog 113 [p9 l,.fn (.func f) first aR] (bl (decide (l.Pairwise fun a b=>key a<key b))):=by
 refine PC.le (kL Oh fun hb=>?_);have hb:l.length≤9223372036854775807:=by simpa[DR,y7,p9] using hb
 refine bN Oh ?_;repeat' ((conv=>whnf);first|with_reducible apply aK|((with_reducible apply fk)<;>intro hc<;>try exact aM)|((with_reducible apply And.intro);exact aG)|fail)
 refine⟨{k:Nat // (k+1≤l.length∨k=0)∧∀j (hj:j+1<l.length),j<k→key (l[j]'(by omega))<key l[j+1]},fun⟨k,_⟩=>⟨[(0,.pv (p9 l)),(1,.pv (.fn (.func f) first aR)),(5,.pv (ii ((k+1:Nat):Int)))],1000000000,[]⟩,fun⟨k,_⟩=>l.length-k,⟨⟨0,by simp⟩,ak ?_⟩,?_⟩
 ·repeat' first
   |fail
   |with_reducible exact True.intro
   |with_reducible exact rfl
   |with_reducible exact ah _
   |((conv=>whnf);with_reducible apply And.intro)
   |((conv=>whnf);with_reducible exact True.intro)
   |exact rfl
   |exact fun h=>h
   |exact ah _
  all_goals try (conv=>whnf)
 rintro⟨k,hk,hn⟩
 repeat' ((conv=>whnf);first|with_reducible apply aK|((with_reducible apply fk)<;>intro hc<;>try exact aM)|((with_reducible apply And.intro);exact aG)|fail)
 ·have hlt:k+1<l.length:=by simp at hc;omega
  have e1:IntKind.i64.wrap (((k+1:Nat):Int)-1)=((k:Nat):Int):=by rw[aO (by omega) (by omega)];omega
  repeat' ((conv=>whnf);first|with_reducible apply aK|((with_reducible apply fk)<;>intro hc<;>try exact aM)|((refine⟨by rw[e1];omega,_,MW _ _ e1 (by omega),?_⟩))|((with_reducible apply And.intro);exact aG)|fail)
  repeat' ((conv=>whnf);first|with_reducible apply aK|((with_reducible apply fk)<;>intro hc<;>try exact aM)|(apply aC;(conv=>whnf);refine⟨_,hp _ (List.getElem_mem _),?_⟩)|((with_reducible apply And.intro);exact aG)|fail)
  refine⟨_,cu _ _ _ hlt,?_⟩;repeat' ((conv=>whnf);first|with_reducible apply aK|((with_reducible apply fk)<;>intro hc<;>try exact aM)|(apply aC;(conv=>whnf);refine⟨_,hp _ (List.getElem_mem _),?_⟩)|((with_reducible apply And.intro);exact aG)|fail)
  ·repeat' first
    |fail
    |with_reducible exact True.intro
    |with_reducible exact rfl
    |with_reducible exact ah _
    |((conv=>whnf);with_reducible apply And.intro)
    |((conv=>whnf);with_reducible exact True.intro)
    |exact rfl
    |exact fun h=>h
    |exact ah _
   all_goals try (conv=>whnf)
   simp at hc;simp;intro hp;have:=List.pairwise_iff_getElem.1 hp k (k+1) (by omega) hlt (by omega);omega
  repeat' ((conv=>whnf)
           first
           |with_reducible apply aK
           |((with_reducible apply fk)<;>intro hc<;>try exact aM)
           |((with_reducible apply And.intro);exact aG)|fail)
  refine⟨⟨k+1,.inl hlt,?_⟩,dec_lt (by omega),ak ?_⟩
  ·intro j hj hjk;rcases Nat.lt_succ_iff_lt_or_eq.1 hjk with hj'|rfl
   ·exact hn j hj hj'
   simp at hc;exact hc
  repeat' first
   |fail
   |with_reducible exact True.intro
   |with_reducible exact rfl
   |with_reducible exact ah _
   |((conv=>whnf);with_reducible apply And.intro)
   |((conv=>whnf);with_reducible exact True.intro)
   |exact rfl
   |exact fun h=>h
   |exact ah _
  all_goals try (conv=>whnf)
  rw[aO (by omega) (by omega)];omega
 repeat' first
  |fail
  |with_reducible exact True.intro
  |with_reducible exact rfl
  |with_reducible exact ah _
  |((conv=>whnf);with_reducible apply And.intro)
  |((conv=>whnf);with_reducible exact True.intro)
  |exact rfl
  |exact fun h=>h
  |exact ah _
 all_goals try (conv=>whnf)
 simp at hc;simp;exact iC fun j hj=>hn j hj (by omega)
theorem Yp:Mg prog 195 f195:=bZ func195
theorem aa2 (a b:Int):bE prog 195 ([]++([.agg [ii a,uu b]]++[])) (ii a):=by
 refine PC.le ?_;refine bN Yp ?_;repeat' ((conv=>whnf);first|with_reducible apply aK|((with_reducible apply fk)<;>intro hc<;>try exact aM)|((with_reducible apply And.intro);exact aG)|fail)
 all_goals exact aL
theorem K3:Mg prog 144 f144:=bZ func144
theorem Oi (x:Fr):bE prog 144 ([]++([.agg x.c]++[])) (uu x.first):=by
 refine PC.le ?_;refine bN K3 ?_;repeat' ((conv=>whnf);first|with_reducible apply aK|((with_reducible apply fk)<;>intro hc<;>try exact aM)|((with_reducible apply And.intro);exact aG)|fail)
 all_goals exact aL
theorem aa3:Mg prog 142 f142:=bZ func142
theorem aei (w n:Int)(l:List Pl)(h:l.length≤8796093022208):bE prog 142 [ii w,.agg [uu n,vP l]] (bl (Ao w ⟨n,l⟩)):=by
 refine PC.le ?_;refine bN aa3 ?_;repeat' ((conv=>whnf);first|with_reducible apply aK|((with_reducible apply fk)<;>intro hc<;>try exact aM)|(apply fq;(conv=>whnf);refine⟨_,_,AR _ (by omega),?_⟩)|(apply fq;(conv=>whnf);refine⟨_,_,Oj _ (by omega),?_⟩)|(apply aC;(conv=>whnf);refine⟨_,qF _ _ _,?_⟩)|(apply aC;(conv=>whnf);refine⟨_,jC _ _ _,?_⟩)|(apply aC;(conv=>whnf);refine⟨_,QS _ _ _ _ Fp fun x _=>aa0 x.node x.dB,?_⟩)|(apply aC;(conv=>whnf);refine⟨_,Oe _ _ _ _ (·.node) fun x _=>aa2 _ _,?_⟩)|((with_reducible apply And.intro);exact aG)|fail)
 all_goals
  repeat' first|((conv=>whnf);with_reducible apply And.intro)|exact aL|fail
  all_goals try (conv=>whnf)
  simp_all only[Ao,←Na,Bool.and_true,Bool.and_false,Bool.true_and,Bool.false_and,List.length_map];try rfl
theorem K4:Mg prog 141 f141:=bZ func141
theorem Ol (w:Int)(x:Fr)(h:x.aI.length≤8796093022208):bE prog 141 ([]++([.agg x.c]++[.bU [ii w] 0])) (bl (Ao w x)):=by
 refine PC.le ?_;refine bN K4 ?_;repeat' ((conv=>whnf);first|with_reducible apply aK|((with_reducible apply fk)<;>intro hc<;>try exact aM)|(apply aC;(conv=>whnf);refine⟨_,aei _ _ _ h,?_⟩)|((with_reducible apply And.intro);exact aG)|fail)
 all_goals exact aL
theorem Om:Mg prog 98 f98:=bZ func98
theorem mZ (w:Int)(l:List Fr)(h:∀x∈l,x.aI.length≤8796093022208):bE prog 98 [ii w,p8 l] (bl (fw w l)):=by
 refine PC.le ?_;refine bN Om ?_;cases l with
 | nil=>
   repeat' ((conv=>whnf);first|with_reducible apply aK|((with_reducible apply fk)<;>intro hc<;>try exact aM)|(apply aC;(conv=>whnf);refine⟨_,jC _ _ _,?_⟩)|((with_reducible apply And.intro);exact aG)|fail)
   all_goals
    repeat' first|((conv=>whnf);with_reducible apply And.intro)|exact aL|fail
    all_goals try (conv=>whnf)
    all_goals simp[fw,bR]
 | cons x r=>
   repeat' ((conv=>whnf);first|with_reducible apply aK|((with_reducible apply fk)<;>intro hc<;>try exact aM)|(apply aC;(conv=>whnf);refine⟨_,jC _ _ _,?_⟩)|(apply aC;(conv=>whnf);refine⟨_,U7 _ _ _ _ _ fun x hx=>Ol w x (h x hx),?_⟩)|(apply aC;(conv=>whnf);refine⟨_,QZ _ _ _ _ (·.first) fun x _=>Oi x,?_⟩)|((refine⟨_,rfl,?_⟩))|((with_reducible apply And.intro);exact aG)|fail)
   all_goals
    repeat' first|((conv=>whnf);with_reducible apply And.intro)|exact aL|fail
    all_goals try (conv=>whnf)
    simp_all only[fw,Qt,List.length_map,Bool.true_and,Bool.false_and,Bool.and_true]
theorem K5:Mg prog 72 f72:=bZ func72
theorem Oo (l:Lg)(h:l.ok):bE prog 72 [.agg l.c] (bl (mr l)):=by
 refine PC.le ?_;refine bN K5 ?_;repeat' ((conv=>whnf);first|with_reducible apply aK|((with_reducible apply fk)<;>intro hc<;>try exact aM)|(apply aC;(conv=>whnf);refine⟨_,jC _ _ _,?_⟩)|(apply aC;(conv=>whnf);refine⟨_,qF _ _ _,?_⟩)|(apply aC;(conv=>whnf);refine⟨_,mZ _ _ h,?_⟩)|((with_reducible apply And.intro);exact aG)|fail)
 all_goals
  repeat' first|((conv=>whnf);with_reducible apply And.intro)|exact aL|fail
  all_goals try (conv=>whnf)
  try (simp only[mr, *,Bool.true_and,Bool.false_and];done)
 have hq:0≤l.closed∧l.closed≤1:=by simpa[bR] using hc
 simp only[mr, *,Bool.true_and];rw[vN hq.1 (by omega),vN (by omega) (by omega)]
theorem Q6:Mg prog 109 f109:=bZ func109
theorem Va (n:Int):bE prog 109 ([]++([uu n]++[])) (bl (decide (n>4611686018427387903))):=by
 refine PC.le ?_;refine bN Q6 ?_;repeat' ((conv=>whnf);first|with_reducible apply aK|((with_reducible apply fk)<;>intro hc<;>try exact aM)|((with_reducible apply And.intro);exact aG)|fail)
 all_goals exact aL
theorem Vb:Mg prog 68 f68:=bZ func68
theorem Oq (l:List Int):bE prog 68 [p9 l] (bl (l.all cnt)):=by
 refine PC.le ?_;refine bN Vb ?_;repeat' ((conv=>whnf);first|with_reducible apply aK|((with_reducible apply fk)<;>intro hc<;>try exact aM)|(apply aC;(conv=>whnf);refine⟨_,DX _ _ _ _ _ fun x _=>Va x,?_⟩)|((with_reducible apply And.intro);exact aG)|fail)
 repeat' first|((conv=>whnf);with_reducible apply And.intro)|exact aL|fail
 all_goals try (conv=>whnf)
 rw[List.not_any_eq_all_not];rfl
theorem Yq:Mg prog 112 f112:=bZ func112
theorem aa4 (c:Ch):bE prog 112 [.agg c.c] (bl (y9 c)):=by
 refine PC.le ?_;obtain⟨X,hX⟩:∃X,X=y9 c:=⟨_,rfl⟩;rw[←hX];unfold y9 at hX;refine bN Yq ?_;repeat' ((conv=>whnf);first|with_reducible apply aK|((with_reducible apply fk)<;>intro hc<;>try exact aM)|(apply aC;(conv=>whnf);refine⟨_,jC _ _ _,?_⟩)|(apply aC;(conv=>whnf);refine⟨_,qF _ _ _,?_⟩)|((with_reducible apply And.intro);exact aG)|fail)
 all_goals
  simp only[*,Bool.true_and,Bool.false_and,Bool.and_true,Bool.false_eq_true,↓reduceIte] at hX;subst hX;repeat' first|((conv=>whnf);with_reducible apply And.intro)|exact aL|fail
  all_goals try (conv=>whnf)
 all_goals first
  |rfl
  |(rw[Bool.eq_iff_iff];simp;done)
  |simp
theorem aa5:Mg prog 37 f37:=bZ func37
theorem K6 (p:Pn)(n:Int):bE prog 37 [.agg p.c,ii n] (bl (fU p n)):=by
 refine PC.le ?_;refine bN aa5 ?_;repeat' ((conv=>whnf);first|with_reducible apply aK|((with_reducible apply fk)<;>intro hc<;>try exact aM)|((with_reducible apply And.intro);exact aG)|fail)
 all_goals
  repeat' first|((conv=>whnf);with_reducible apply And.intro)|exact aL|fail
  all_goals try (conv=>whnf)
 all_goals (simp_all [fU];try (intros;omega))
theorem aa6:Mg prog 76 f76:=bZ func76
theorem aej (p:Pn)(h:p.af.length≤1000000):bE prog 76 [.agg p.c] (p9 (nL p)):=by
 refine PC.le ?_;refine bN aa6 ?_;repeat' ((conv=>whnf);first|with_reducible apply aK|((with_reducible apply fk)<;>intro hc<;>try exact aM)|((with_reducible apply And.intro);exact aG)|fail)
 refine⟨{k:Nat // k≤p.af.length},fun⟨k,_⟩=>⟨[(3,.aF 1001 0),(7,.pv (dN p.af)),(8,.pv (ii p.af.length)),(9,.pv (ii k))],1000000000,[(1001,.arr 23 0 1 (((p.af.take k).map (·.id)).map dh))]⟩,fun⟨k,_⟩=>p.af.length-k,⟨⟨0,by simp⟩,ak ?_⟩,?_⟩
 ·repeat' first
   |fail
   |with_reducible exact True.intro
   |with_reducible exact rfl
   |with_reducible exact ah _
   |((conv=>whnf);with_reducible apply And.intro)
   |((conv=>whnf);with_reducible exact True.intro)
   |exact rfl
   |exact fun h=>h
   |exact ah _
  all_goals try (conv=>whnf)
  all_goals simp
 rintro⟨k,hk⟩
 by_cases hlt:k<p.af.length
 ·have d0:decide ((k:Int)<(p.af.length:Int))=true:=by simp only[kC];omega
  have eW:IntKind.i64.wrap ((k:Int)+1)=((k+1:Nat):Int):=by rw[aO (by omega) (by omega)];omega
  repeat' ((conv=>whnf);first|with_reducible apply aK|((with_reducible apply fk)<;>intro hc<;>try exact aM)|((refine⟨_,cu _ _ _ hlt,?_⟩))|(((with_reducible apply And.intro);focus (simp only[List.length_map,List.length_cons,List.length_nil,List.length_take] at *;omega)))|((with_reducible apply And.intro);exact aG)|fail)
  refine⟨⟨k+1,hlt⟩,dec_lt hlt,ak ?_⟩;repeat' first|((conv=>whnf);with_reducible apply And.intro)|exact aL|fail
  all_goals try (conv=>whnf)
  all_goals first
   |exact eW
   | (rw[List.take_succ_eq_append_getElem hlt,List.map_append,List.map_append]
      exact ah _)
 have hke:k=p.af.length:=by omega
 subst hke;have d0:decide ((p.af.length:Int)<(p.af.length:Int))=false:=by simp
 repeat' ((conv=>whnf);first|with_reducible apply aK|((with_reducible apply fk)<;>intro hc<;>try exact aM)|((with_reducible apply And.intro);exact aG)|fail)
 repeat' first|((conv=>whnf);with_reducible apply And.intro)|exact aL|fail
 all_goals try (conv=>whnf)
 all_goals (rw[List.take_length];exact ah _)
theorem yF:Mg prog 102 f102:=bZ func102
theorem K7 (f:Fr)(h:f.aI.length≤1000000):bE prog 102 ([]++([.agg f.c]++[])) (.agg f.c):=by
 refine PC.le ?_;refine bN yF ?_;repeat' ((conv=>whnf);first|with_reducible apply aK|((with_reducible apply fk)<;>intro hc<;>try exact aM)|(apply aC;(conv=>whnf);refine⟨_,AU _ (by omega),?_⟩)|((with_reducible apply And.intro);exact aG)|fail)
 all_goals exact aL
theorem FW:Mg prog 101 f101:=bZ func101
theorem Vd (l:List Fr)(f:FuncId)(h:l.length≤1000000)(hp:∀x∈l,bE prog f ([]++([.agg x.c]++[])) (.agg x.c)):bE prog 101 [p8 l,.fn (.func f) [] []] (p8 l):=by
 refine PC.le ?_;refine bN FW ?_;repeat' ((conv=>whnf);first|with_reducible apply aK|((with_reducible apply fk)<;>intro hc<;>try exact aM)|((with_reducible apply And.intro);exact aG)|fail)
 refine⟨{k:Nat // k≤l.length},fun⟨k,_⟩=>⟨[(1,.pv (.fn (.func f) [] [])),(5,.aF 1001 0),(8,.pv (p8 l)),(9,.pv (ii l.length)),(10,.pv (ii k))],1000000000,[(1001,.arr 80 0 2 ((l.take k).map Fr.c))]⟩,fun⟨k,_⟩=>l.length-k,⟨⟨0,by simp⟩,ak ?_⟩,?_⟩
 ·repeat' first
   |fail
   |with_reducible exact True.intro
   |with_reducible exact rfl
   |with_reducible exact ah _
   |((conv=>whnf);with_reducible apply And.intro)
   |((conv=>whnf);with_reducible exact True.intro)
   |exact rfl
   |exact fun h=>h
   |exact ah _
  all_goals try (conv=>whnf)
  all_goals simp
 rintro⟨k,hk⟩
 by_cases hlt:k<l.length
 ·have d0:decide ((k:Int)<(l.length:Int))=true:=by simp only[kC];omega
  have eW:IntKind.i64.wrap ((k:Int)+1)=((k+1:Nat):Int):=by rw[aO (by omega) (by omega)];omega
  repeat' ((conv=>whnf);first|with_reducible apply aK|((with_reducible apply fk)<;>intro hc<;>try exact aM)|((refine⟨_,cu _ _ _ hlt,?_⟩))|(apply aC;(conv=>whnf);refine⟨_,hp _ (List.getElem_mem hlt),?_⟩)|(((with_reducible apply And.intro);focus (simp only[List.length_map,List.length_cons,List.length_nil,List.length_take] at *;omega)))|((with_reducible apply And.intro);exact aG)|fail)
  refine⟨⟨k+1,hlt⟩,dec_lt hlt,ak ?_⟩;repeat' first|((conv=>whnf);with_reducible apply And.intro)|exact aL|fail
  all_goals try (conv=>whnf)
  all_goals first
   |exact eW
   | (rw[List.take_succ_eq_append_getElem hlt,List.map_append]
      refine nJ (ah _) ?_
      (repeat' first|((conv=>whnf);with_reducible apply And.intro)|exact aL|fail);(all_goals try (conv=>whnf)))
 have hke:k=l.length:=by omega
 subst hke;have d0:decide ((l.length:Int)<(l.length:Int))=false:=by simp
 repeat' ((conv=>whnf);first|with_reducible apply aK|((with_reducible apply fk)<;>intro hc<;>try exact aM)|((with_reducible apply And.intro);exact aG)|fail)
 repeat' first|((conv=>whnf);with_reducible apply And.intro)|exact aL|fail
 all_goals try (conv=>whnf)
 all_goals (rw[List.take_length];exact ah _)
theorem A8:Mg prog 55 f55:=bZ func55
theorem qG (l:Lg)(h:ZG l):bE prog 55 [.agg l.c] (.agg l.c):=by
 refine PC.le ?_;refine bN A8 ?_;repeat' ((conv=>whnf);first|with_reducible apply aK|((with_reducible apply fk)<;>intro hc<;>try exact aM)|(apply aC;(conv=>whnf);refine⟨_,Vd l.aA _ h.aA (fun x hx=>K7 x (h.aI x hx)),?_⟩)|((with_reducible apply And.intro);exact aG)|fail)
 all_goals exact aL
theorem Ve:Mg prog 54 f54:=bZ func54
theorem Ot (l:Lg)(id:Int):bE prog 54 ([]++([.agg l.c]++[.bU [uu id] 0])) (bl (l.id==id)):=by
 refine PC.le ?_;refine bN Ve ?_;repeat' ((conv=>whnf);first|with_reducible apply aK|((with_reducible apply fk)<;>intro hc<;>try exact aM)|((with_reducible apply And.intro);exact aG)|fail)
 all_goals exact aL
theorem Ou:Mg prog 24 f24:=bZ func24
theorem A9 (p:Pn)(id:Int)(h:tK p):bE prog 24 [.agg p.c,uu id] (.dn [.agg (dm p id).c,bl (bg p id).isSome]):=by
 refine PC.le ?_;rcases XH p id with ⟨e1,e2⟩|⟨k,hk,e1,e2⟩
 ·have d0:decide ((-1:Int)<0)=true:=rfl;have c:=dW p.af 54 [] [.bU [uu id] 0] (fun l=>l.id==id) fun x _=>Ot x id
  rw[e1] at c;simp only[dm,e2];clear e1 e2;refine bN Ou ?_;repeat' ((conv=>whnf);first|with_reducible apply aK|((with_reducible apply fk)<;>intro hc<;>try exact aM)|(apply aC;(conv=>whnf);refine⟨_,c,?_⟩)|((with_reducible apply And.intro);exact aG)|fail)
  all_goals exact aL
 have d0:decide ((k:Int)<0)=false:=by simp only[tq];omega
 have c:=dW p.af 54 [] [.bU [uu id] 0] (fun l=>l.id==id) fun x _=>Ot x id
 rw[e1] at c;simp only[dm,e2];clear e1 e2;have cO:=qG _ (h.lg _ (List.getElem_mem hk));refine bN Ou ?_;repeat' ((conv=>whnf);first|with_reducible apply aK|((with_reducible apply fk)<;>intro hc<;>try exact aM)|(apply aC;(conv=>whnf);refine⟨_,c,?_⟩)|((refine⟨_,cu _ _ _ hk,?_⟩))|(apply aC;(conv=>whnf);refine⟨_,cO,?_⟩)|((with_reducible apply And.intro);exact aG)|fail)
 repeat' first|((conv=>whnf);with_reducible apply And.intro)|exact aL|fail
 all_goals try (conv=>whnf)
 all_goals exact fun h=>h
theorem ai8 (a b c:Int):[a,b,c].all cnt=(cnt a&&(cnt b&&cnt c)):=by simp
theorem ai9 (a:Int):[a].all cnt=cnt a:=by simp
theorem zB (a:Int):bE prog 68 [.sl false 1 [[uu a]]] (bl (cnt a)):=by
 rw[←ai9];exact Oq [a]
theorem FX (a b c:Int):bE prog 68 [.sl false 1 [[uu a],[uu b],[uu c]]] (bl ((cnt a&&(cnt b&&cnt c)))):=by
 rw[←ai8];exact Oq [a,b,c]
theorem Q7 {α β:Type}(f:β→α→β)(z:β)(l:List α)(k:Nat)(h:k<l.length):(l.take (k+1)).foldl f z=f ((l.take k).foldl f z) l[k]:=by
 rw[List.take_succ_eq_append_getElem h,List.foldl_append];rfl
theorem Tc:Mg prog 14 f14:=bZ func14
theorem zC (p:Pn)(n:Int)(h:tK p):bE prog 14 [.agg p.c,ii n] (uu (kV p n)):=by
 refine PC.le ?_;unfold kV;cases hh:fU p n with
 | false=>
   rw[if_neg (by decide)];have c:=K6 p n;rw[hh] at c;refine bN Tc ?_;repeat' ((conv=>whnf);first|with_reducible apply aK|((with_reducible apply fk)<;>intro hc<;>try exact aM)|(apply aC;(conv=>whnf);refine⟨_,c,?_⟩)|((with_reducible apply And.intro);exact aG)|fail)
   all_goals exact aL
 | true=>
   rw[if_pos rfl];have c:=K6 p n;rw[hh] at c;simp only[fU,Bool.and_eq_true,decide_eq_true_eq] at hh;have hb:=h.channels;obtain⟨i,hi,rfl⟩:∃i:Nat,i<p.channels.length∧n=((i+1:Nat):Int):=⟨(n-1).toNat,by omega,by omega⟩;have eI:IntKind.i64.wrap (((i+1:Nat):Int)-1)=((i:Nat):Int):=by rw[aO (by omega) (by omega)];omega
   have ec:bq p ((i+1:Nat):Int)=p.channels[i]:=by
    unfold bq;rw[show (((i+1:Nat):Int)-1).toNat=i from by omega,getElem!_pos p.channels i hi]
   rw[ec];clear ec hh;have hcb:=(h.ch _ (List.getElem_mem hi)).af;obtain⟨x,hx⟩:∃x,x=p.channels[i]:=⟨_,rfl⟩;rw[←hx] at hcb ⊢;refine bN Tc ?_;repeat' ((conv=>whnf);first|with_reducible apply aK|((with_reducible apply fk)<;>intro hc<;>try exact aM)|(apply aC;(conv=>whnf);refine⟨_,c,?_⟩)|((rewrite[eI]))|((refine⟨_,cu _ _ _ hi,?_⟩))|((with_reducible apply And.intro);exact aG)|fail)
   refine⟨{k:Nat // k≤x.af.length},fun⟨k,_⟩=>⟨[(2,.ptr 1002 0),(6,.pv (uu ((x.af.take k).foldl (fun e id=>dO e (dm p id).last) x.first))),(24,.pv (p9 x.af)),(25,.pv (ii x.af.length)),(26,.pv (ii k))],1000000000,[(1002,.var (p.c.map .pv))]⟩,fun⟨k,_⟩=>x.af.length-k,⟨⟨0,by simp⟩,ak ?_⟩,?_⟩
   ·repeat' first
     |fail
     |with_reducible exact True.intro
     |with_reducible exact rfl
     |with_reducible exact ah _
     |((conv=>whnf);with_reducible apply And.intro)
     |((conv=>whnf);with_reducible exact True.intro)
     |exact rfl
     |exact fun h=>h
     |exact ah _
    all_goals try (conv=>whnf)
    all_goals (rw[hx];first|rfl|exact ah _|exact agG _|simp)
   rintro⟨k,hk⟩
   clear c eI hi hx;by_cases hlt:k<x.af.length
   ·have d0:decide ((k:Int)<(x.af.length:Int))=true:=by simp only[kC];omega
    have eW:IntKind.i64.wrap ((k:Int)+1)=((k+1:Nat):Int):=by rw[aO (by omega) (by omega)];omega
    repeat' ((conv=>whnf);first|with_reducible apply aK|((with_reducible apply fk)<;>intro hc<;>try exact aM)|((refine⟨_,cu _ _ _ hlt,?_⟩))|(apply aC;(conv=>whnf);refine⟨_,A9 p _ h,?_⟩)|((with_reducible apply And.intro);exact aG)|fail)
    refine⟨⟨k+1,hlt⟩,dec_lt hlt,ak ?_⟩;repeat' first|((conv=>whnf);with_reducible apply And.intro)|exact aL|fail
    all_goals try (conv=>whnf)
    all_goals first
     |exact eW
     |(rw[Q7 _ _ _ _ hlt];rfl)
   have hke:k=x.af.length:=by omega
   subst hke;have d0:decide ((x.af.length:Int)<(x.af.length:Int))=false:=by simp
   repeat' ((conv=>whnf);first|with_reducible apply aK|((with_reducible apply fk)<;>intro hc<;>try exact aM)|((with_reducible apply And.intro);exact aG)|fail)
   repeat' first|((conv=>whnf);with_reducible apply And.intro)|exact aL|fail
   all_goals try (conv=>whnf)
   all_goals (rw[List.take_length];rfl)
theorem wN:Mg prog 22 f22:=bZ func22
theorem Td (p:Pn)(n:Int)(h:tK p):bE prog 22 [.agg p.c,ii n] (.dn [.agg ((gX p n).getD UB).c,bl (gX p n).isSome]):=by
 refine PC.le ?_;unfold gX;cases hh:fU p n with
 | false=>
   rw[if_neg (by decide)];have c:=K6 p n;rw[hh] at c;refine bN wN ?_;repeat' ((conv=>whnf);first|with_reducible apply aK|((with_reducible apply fk)<;>intro hc<;>try exact aM)|(apply aC;(conv=>whnf);refine⟨_,c,?_⟩)|((with_reducible apply And.intro);exact aG)|fail)
   all_goals exact aL
 | true=>
   rw[if_pos rfl];have c:=K6 p n;rw[hh] at c;simp only[fU,Bool.and_eq_true,decide_eq_true_eq] at hh;have hb:=h.channels;obtain⟨i,hi,rfl⟩:∃i:Nat,i<p.channels.length∧n=((i+1:Nat):Int):=⟨(n-1).toNat,by omega,by omega⟩;have eI:IntKind.i64.wrap (((i+1:Nat):Int)-1)=((i:Nat):Int):=by rw[aO (by omega) (by omega)];omega
   have ec:bq p ((i+1:Nat):Int)=p.channels[i]:=by
    unfold bq;rw[show (((i+1:Nat):Int)-1).toNat=i from by omega,getElem!_pos p.channels i hi]
   rw[ec];clear ec hh;have hcb:=(h.ch _ (List.getElem_mem hi)).af;have hr:=cu Ch.c p.channels i hi;obtain⟨x,hx⟩:∃x,x=p.channels[i]:=⟨_,rfl⟩;rw[←hx] at hcb hr ⊢;clear hx;unfold gN;rcases Nat.eq_zero_or_pos x.af.length with h0|h0
   ·have e0:x.af=[]:=List.eq_nil_of_length_eq_zero h0;rw[e0];have d0:(((List.map dh x.af).length:Int)==0)=true:=by rw[List.length_map,h0];rfl
    clear h0 e0;refine bN wN ?_;repeat' ((conv=>whnf);first|with_reducible apply aK|((with_reducible apply fk)<;>intro hc<;>try exact aM)|(apply aC;(conv=>whnf);refine⟨_,c,?_⟩)|((rewrite[eI]))|((refine⟨_,hr,?_⟩))|((with_reducible apply And.intro);exact aG)|fail)
    all_goals exact aL
   rw[getLast?_get _ h0];have d0:(((List.map dh x.af).length:Int)==0)=false:=by rw[List.length_map];simp;intro e;rw[e] at h0;simp at h0
   have eL:IntKind.i64.wrap (((List.map dh x.af).length:Int)-1)=((x.af.length-1:Nat):Int):=by rw[List.length_map,aO (by omega) (by omega)];omega
   have hlt:x.af.length-1<x.af.length:=by omega
   have hr2:=cu dh x.af _ hlt;obtain⟨id,hid⟩:∃id,id=x.af[x.af.length-1]:=⟨_,rfl⟩;rw[←hid] at hr2 ⊢;clear hid;have cF:=A9 p id h;unfold dm at cF;simp only;cases hf:bg p id with
   | none=>
     rw[hf] at cF;clear hf;refine bN wN ?_;repeat' ((conv=>whnf);first|with_reducible apply aK|((with_reducible apply fk)<;>intro hc<;>try exact aM)|(apply aC;(conv=>whnf);refine⟨_,c,?_⟩)|((rewrite[eI]))|((rewrite[eL]))|((refine⟨_,hr,?_⟩))|((refine⟨_,hr2,?_⟩))|(((with_reducible apply And.intro);focus omega))|(apply aC;(conv=>whnf);refine⟨_,cF,?_⟩)|((with_reducible apply And.intro);exact aG)|fail)
     all_goals exact aL
   | some l=>
     rw[hf] at cF;clear hf;simp only[Option.isSome_some,Option.getD_some] at cF ⊢;cases hcl:(l.closed==0) with
     | true=>
       have aja:(l.closed != 0)=false:=by simp[bne,hcl]
       refine bN wN ?_;repeat' ((conv=>whnf);first|with_reducible apply aK|((with_reducible apply fk)<;>intro hc<;>try exact aM)|(apply aC;(conv=>whnf);refine⟨_,c,?_⟩)|((rewrite[eI]))|((rewrite[eL]))|((refine⟨_,hr,?_⟩))|((refine⟨_,hr2,?_⟩))|(((with_reducible apply And.intro);focus omega))|(apply aC;(conv=>whnf);refine⟨_,cF,?_⟩)|((with_reducible apply And.intro);exact aG)|fail)
       repeat' first|((conv=>whnf);with_reducible apply And.intro)|exact aL|fail
       all_goals try (conv=>whnf)
       all_goals exact fun h=>h
     | false=>
       have aja:(l.closed != 0)=true:=by simp[bne,hcl]
       refine bN wN ?_;repeat' ((conv=>whnf);first|with_reducible apply aK|((with_reducible apply fk)<;>intro hc<;>try exact aM)|(apply aC;(conv=>whnf);refine⟨_,c,?_⟩)|((rewrite[eI]))|((rewrite[eL]))|((refine⟨_,hr,?_⟩))|((refine⟨_,hr2,?_⟩))|(((with_reducible apply And.intro);focus omega))|(apply aC;(conv=>whnf);refine⟨_,cF,?_⟩)|((with_reducible apply And.intro);exact aG)|fail)
       repeat' first|((conv=>whnf);with_reducible apply And.intro)|exact aL|fail
       all_goals try (conv=>whnf)
       all_goals exact fun h=>h
theorem Yr:Mg prog 81 f81:=bZ func81
theorem aa7 (x:Pa):bE prog 81 ([]++([.agg x.c]++[])) (bl (qR x)):=by
 refine PC.le ?_;obtain⟨X,hX⟩:∃X,X=qR x:=⟨_,rfl⟩;rw[←hX];unfold qR at hX;refine bN Yr ?_;repeat' ((conv=>whnf);first|with_reducible apply aK|((with_reducible apply fk)<;>intro hc<;>try exact aM)|(apply aC;(conv=>whnf);refine⟨_,jC _ _ _,?_⟩)|(apply aC;(conv=>whnf);refine⟨_,qF _ _ _,?_⟩)|(apply aC;(conv=>whnf);refine⟨_,aaZ _ _ _,?_⟩)|(apply aC;(conv=>whnf);refine⟨_,nA (FX x.out.aY x.out.at_ x.out.bA) ?_,?_⟩;exact qi)|((with_reducible apply And.intro);exact aG)|fail)
 all_goals
  simp only[*,Bool.true_and,Bool.false_and,Bool.and_true,Bool.false_eq_true,↓reduceIte] at hX;subst hX;all_goals exact aL
theorem aa8:Mg prog 79 f79:=bZ func79
theorem aek (x:Pa):bE prog 79 ([]++([.agg x.c]++[])) (ii x.who):=by
 refine PC.le ?_;refine bN aa8 ?_;repeat' ((conv=>whnf);first|with_reducible apply aK|((with_reducible apply fk)<;>intro hc<;>try exact aM)|((with_reducible apply And.intro);exact aG)|fail)
 all_goals exact aL
theorem aa9:Mg prog 74 f74:=bZ func74
theorem ael (x:Lg):bE prog 74 ([]++([.agg x.c]++[])) (uu x.id):=by
 refine PC.le ?_;refine bN aa9 ?_;repeat' ((conv=>whnf);first|with_reducible apply aK|((with_reducible apply fk)<;>intro hc<;>try exact aM)|((with_reducible apply And.intro);exact aG)|fail)
 all_goals exact aL
theorem Yt:Mg prog 160 f160:=bZ func160
theorem abb (x:Mk):bE prog 160 ([]++([.agg x.c]++[])) (ii x.producer):=by
 refine PC.le ?_;refine bN Yt ?_;repeat' ((conv=>whnf);first|with_reducible apply aK|((with_reducible apply fk)<;>intro hc<;>try exact aM)|((with_reducible apply And.intro);exact aG)|fail)
 all_goals exact aL
theorem Yu:Mg prog 162 f162:=bZ func162
theorem abd (x:Mk):bE prog 162 ([]++([.agg x.c]++[])) (uu x.offset):=by
 refine PC.le ?_;refine bN Yu ?_;repeat' ((conv=>whnf);first|with_reducible apply aK|((with_reducible apply fk)<;>intro hc<;>try exact aM)|((with_reducible apply And.intro);exact aG)|fail)
 all_goals exact aL
theorem Yv:Mg prog 114 f114:=bZ func114
theorem abe (x:Int):bE prog 114 ([]++([uu x]++[])) (uu x):=by
 refine PC.le ?_;refine bN Yv ?_;repeat' ((conv=>whnf);first|with_reducible apply aK|((with_reducible apply fk)<;>intro hc<;>try exact aM)|((with_reducible apply And.intro);exact aG)|fail)
 all_goals exact aL
theorem Yw:Mg prog 117 f117:=bZ func117
theorem abf (x:Cu):bE prog 117 ([]++([.agg x.c]++[])) (ii x.sub):=by
 refine PC.le ?_;refine bN Yw ?_;repeat' ((conv=>whnf);first|with_reducible apply aK|((with_reducible apply fk)<;>intro hc<;>try exact aM)|((with_reducible apply And.intro);exact aG)|fail)
 all_goals exact aL
theorem Yx:Mg prog 119 f119:=bZ func119
theorem abg (x:Cu):bE prog 119 ([]++([.agg x.c]++[])) (bl (nV x)):=by
 refine PC.le ?_;obtain⟨X,hX⟩:∃X,X=nV x:=⟨_,rfl⟩;rw[←hX];unfold nV at hX;refine bN Yx ?_;repeat' ((conv=>whnf);first|with_reducible apply aK|((with_reducible apply fk)<;>intro hc<;>try exact aM)|(apply aC;(conv=>whnf);refine⟨_,jC _ _ _,?_⟩)|(apply aC;(conv=>whnf);refine⟨_,nA (zB x.at_) ?_,?_⟩;exact qi)|((with_reducible apply And.intro);exact aG)|fail)
 all_goals
  simp only[*,Bool.true_and,Bool.false_and,Bool.and_true,Bool.false_eq_true,↓reduceIte] at hX;subst hX;all_goals exact aL
theorem Yy:Mg prog 164 f164:=bZ func164
theorem abh (c:Ch)(x:Mk):bE prog 164 ([]++([.agg x.c]++[.bU c.c 0])) (bl (BN c x)):=by
 refine PC.le ?_;obtain⟨X,hX⟩:∃X,X=BN c x:=⟨_,rfl⟩;rw[←hX];unfold BN at hX;refine bN Yy ?_;repeat' ((conv=>whnf);first|with_reducible apply aK|((with_reducible apply fk)<;>intro hc<;>try exact aM)|(apply aC;(conv=>whnf);refine⟨_,jC _ _ _,?_⟩)|(apply aC;(conv=>whnf);refine⟨_,qF _ _ _,?_⟩)|((with_reducible apply And.intro);exact aG)|fail)
 all_goals
  simp only[*,Bool.true_and,Bool.false_and,Bool.and_true,Bool.false_eq_true,↓reduceIte] at hX;subst hX;all_goals exact aL
theorem Yz:Mg prog 115 f115:=bZ func115
theorem abj (c:Ch)(h:c.seen.length≤1000000):bE prog 115 [.agg c.c] (bl (Ap c)):=by
 refine PC.le ?_;obtain⟨X,hX⟩:∃X,X=Ap c:=⟨_,rfl⟩;rw[←hX];unfold Ap at hX;rw[←vR,xD] at hX;refine bN Yz ?_;repeat' ((conv=>whnf);first|with_reducible apply aK|((with_reducible apply fk)<;>intro hc<;>try exact aM)|(apply fq;(conv=>whnf);refine⟨_,_,NY _ (by omega),?_⟩)|(apply fq;(conv=>whnf);refine⟨_,_,Q8 _ (by omega),?_⟩)|(apply aC;(conv=>whnf);refine⟨_,Q0 _ _ _ _ (·.producer) fun x _=>abb x,?_⟩)|(apply aC;(conv=>whnf);refine⟨_,Og (mQ Mk.offset c.seen) _ _ _ (·.offset) fun x _=>abd x,?_⟩)|(apply aC;(conv=>whnf);refine⟨_,U8 _ _ _ _ (BN c) fun x _=>abh c x,?_⟩)|((with_reducible apply And.intro);exact aG)|fail)
 all_goals
  simp only[List.length_map] at *;simp only[*,Bool.true_and,Bool.false_and,Bool.and_true,Bool.false_eq_true,↓reduceIte] at hX;subst hX;all_goals exact aL
theorem YA:Mg prog 77 f77:=bZ func77
theorem abk (p:Pn)(n:Int)(h:tK p)(hh:fU p n=true):bE prog 77 [.agg p.c,ii n] (bl (qQ p (bq p n))):=by
 refine PC.le ?_;have cE:=zC p n h;have cO:=Td p n h;unfold kV at cE;unfold gX at cO;rw[if_pos hh] at cE cO;have hb:=h.channels;obtain⟨i,hi,en,ec⟩:=aaw hh;rw[ec] at cE cO ⊢;have eI:IntKind.i64.wrap (n-1)=((i:Nat):Int):=by rw[aO (by omega) (by omega)];omega
 clear ec hh en;have hcb:=h.ch _ (List.getElem_mem hi);have hr:=cu Ch.c p.channels i hi;obtain⟨x,hx⟩:∃x,x=p.channels[i]:=⟨_,rfl⟩;rw[←hx] at hcb hr cE cO ⊢;clear hx;obtain⟨X,hX⟩:∃X,X=qQ p x:=⟨_,rfl⟩;rw[←hX];have cR:bE prog 113 [p9 x.af,.fn (.func 114) [] []] (bl (j5 x.af)):=aa1 x.af _ [] [] (fun y=>y) fun y _=>abe y
 have cC:bE prog 116 [H8 x.au,.fn (.func 117) [] []] (bl (j5 (x.au.map (·.sub)))):=by
  rw[xD];exact KZ x.au _ [] [] (·.sub) fun y _=>abf y
 have cA:=Ob x.au 119 [] [] nV fun y _=>abg y
 have cS:=abj x hcb.seen;unfold qQ mD at hX;rw[aiA (x.af.length:Int) 8] at hX;obtain⟨R,hR⟩:∃R,R=(Ap x&&(decide ((x.au.length:Int)≤3)&&(j5 (x.au.map (·.sub))&&x.au.all nV))):=⟨_,rfl⟩;rw[←hR] at hX;obtain⟨L,hL⟩:∃L,L=qP p x.af:=⟨_,rfl⟩;rw[←hL] at hX;have eA:IntKind.u64.wrap (dL p x+8)=dO (dL p x) 8:=rfl;have eN:((List.map dh x.af).length:Int)=(x.af.length:Int):=by rw[List.length_map]
 have eM:((List.map Cu.c x.au).length:Int)=(x.au.length:Int):=by rw[List.length_map]
 obtain⟨M,hM⟩:∃M,M=(if (gN p x).isSome then dO (dL p x) 8 else dL p x):=⟨_,rfl⟩;rw[←hM] at hX;refine bN YA ?_;repeat' ((conv=>whnf);first|with_reducible apply uQ|((with_reducible apply fk)<;>intro hc<;>try exact aM)|((rewrite[eI]))|((refine⟨_,hr,?_⟩))|(apply aC;(conv=>whnf);refine⟨_,cE,?_⟩)|((with_reducible apply And.intro);exact aG)|fail)
 refine Or.inr ⟨Unit,fun _=>⟨[(2,.ptr 1002 0),(5,.ptr 1005 0),(6,.pv (uu (dL p x))),(7,.pv (uu M))],1000000000,[(1002,.var (p.c.map .pv)),(1005,.var (x.c.map .pv))]⟩,?_,fun _=>?_⟩
 ·cases ho:(gN p x).isSome with
  | true=>
    rw[ho] at cO;rw[ho,if_pos rfl] at hM;subst hM;repeat' ((conv=>whnf);first|with_reducible apply uQ|((with_reducible apply fk)<;>intro hc<;>try exact aM)|(apply aC;(conv=>whnf);refine⟨_,cO,?_⟩)|((with_reducible apply And.intro);exact aG)|fail)
    refine⟨(),ak ?_⟩;all_goals exact aL
  | false=>
    rw[ho] at cO;rw[ho,if_neg (by decide)] at hM;subst hM;repeat' ((conv=>whnf);first|with_reducible apply uQ|((with_reducible apply fk)<;>intro hc<;>try exact aM)|(apply aC;(conv=>whnf);refine⟨_,cO,?_⟩)|((with_reducible apply And.intro);exact aG)|fail)
    refine⟨(),ak ?_⟩;all_goals exact aL
 clear hM cE cO eI hr;repeat' ((conv=>whnf);first|with_reducible apply aK|((with_reducible refine fk (fun hc=>?_) fun hc=>?_)<;>first|exact absurd hc (by decide)|(exfalso;simp only[*,reduceCtorEq,Bool.not_true,Bool.not_false] at hc;done)|simp only[Bool.not_eq_true',Bool.not_eq_false'] at hc|skip)|rewrite[eA]|rewrite[eN]|(apply aC;(conv=>whnf);refine⟨_,nA (FX x.aY x.eB x.first) ?_,?_⟩;exact qi)|(apply aC;(conv=>whnf);refine⟨_,nA (zB (dO (dL p x) 8)) ?_,?_⟩;exact qi)|(apply aC;(conv=>whnf);refine⟨_,aa4 x,?_⟩)|(apply aC;(conv=>whnf);refine⟨_,cR,?_⟩)|(apply aC;(conv=>whnf);refine⟨_,qF _ _ _,?_⟩)|((with_reducible apply And.intro);exact aG)|fail)
 all_goals try (focus (simp only[List.length_map] at *;simp only[*,Bool.true_and,Bool.false_and,Bool.and_true,Bool.and_false,Bool.not_true,Bool.not_false,Bool.false_eq_true,↓reduceIte] at hX;subst hX;(repeat' first|((conv=>whnf);with_reducible apply And.intro)|exact aL|fail);(all_goals try (conv=>whnf));done))
 simp only[List.length_map] at *;simp only[*,Bool.true_and,Bool.false_and,Bool.and_true,Bool.and_false,Bool.not_true,Bool.not_false,Bool.false_eq_true,↓reduceIte] at hX;rw[←hL] at hX;rw[←hR] at hX;have hn:=hcb.af;refine⟨{k:Nat // k≤x.af.length∧∀j (hj:j<x.af.length),j<k→(bg p x.af[j]).isSome=true∧((dm p x.af[j]).closed=0→j+1=x.af.length)},fun⟨k,_⟩=>⟨[(2,.ptr 1002 0),(5,.ptr 1005 0),(76,.pv (p9 x.af)),(77,.pv (ii x.af.length)),(78,.pv (ii k))],1000000000,[(1002,.var (p.c.map .pv)),(1005,.var (x.c.map .pv))]⟩,fun⟨k,_⟩=>x.af.length-k,⟨⟨0,by simp⟩,ak ?_⟩,?_⟩
 ·repeat' first
   |fail
   |with_reducible exact True.intro
   |with_reducible exact rfl
   |with_reducible exact ah _
   |((conv=>whnf);with_reducible apply And.intro)
   |((conv=>whnf);with_reducible exact True.intro)
   |exact rfl
   |exact fun h=>h
   |exact ah _
  all_goals try (conv=>whnf)
 rintro⟨k,hk,hbk⟩
 by_cases hlt:k<x.af.length
 ·have d0:decide ((k:Int)<(x.af.length:Int))=true:=by simp only[kC];omega
  have eW:IntKind.i64.wrap ((k:Int)+1)=((k+1:Nat):Int):=by rw[aO (by omega) (by omega)];omega
  have hr:=cu dh x.af k hlt;have agH:=jM p x.af;have cF:=A9 p x.af[k] h;have hbad:¬((bg p x.af[k]).isSome=true∧((dm p x.af[k]).closed=0→k+1=x.af.length))→X=false:=by
   intro hne;rw[hX];cases hLv:L with
   |false=>rfl
   |true=>exact absurd ((agH.1 (hL.symm.trans hLv)) k hlt) hne
  have hgood:((bg p x.af[k]).isSome=true∧((dm p x.af[k]).closed=0→k+1=x.af.length))→∀j (hj:j<x.af.length),j<k+1→(bg p x.af[j]).isSome=true∧((dm p x.af[j]).closed=0→j+1=x.af.length):=by
   intro hne j hj hjk;rcases Nat.lt_succ_iff_lt_or_eq.1 hjk with hj'|rfl
   ·exact hbk j hj hj'
   exact hne
  clear agH cR cC cA cS;obtain⟨id,hid⟩:∃id,id=x.af[k]:=⟨_,rfl⟩;rw[←hid] at hbad hgood cF hr;clear hid;obtain⟨f,hf⟩:∃f,f=dm p id:=⟨_,rfl⟩;rw[←hf] at hbad hgood cF;clear hf;cases hs:(bg p id).isSome with
  | false=>
    rw[hs] at cF;have hXf:=hbad (by rw[hs];rintro⟨h,_⟩;cases h);clear hs hbad hgood hX;subst hXf;repeat' ((conv=>whnf);first|with_reducible apply aK|((with_reducible apply fk)<;>intro hc<;>try exact iK)|((refine⟨_,hr,?_⟩))|(apply aC;(conv=>whnf);refine⟨_,cF,?_⟩)|((with_reducible apply And.intro);exact aG)|fail)
    all_goals exact aL
  | true=>
    rw[hs] at cF;have eN2:((List.map dh x.af).length:Int)=(x.af.length:Int):=by rw[List.length_map]
    cases hc0:(f.closed==0) with
    | false=>
      have hg:=hgood ⟨hs,fun e=>by rw[e] at hc0;cases hc0⟩;clear hs hbad hgood;repeat' ((conv=>whnf);first|with_reducible apply aK|((with_reducible apply fk)<;>intro hc<;>try exact iK)|((refine⟨_,hr,?_⟩))|(apply aC;(conv=>whnf);refine⟨_,cF,?_⟩)|((with_reducible apply And.intro);exact aG)|fail)
      refine⟨⟨k+1,hlt,hg⟩,dec_lt hlt,ak ?_⟩;repeat' first|((conv=>whnf);with_reducible apply And.intro)|exact aL|fail
      all_goals try (conv=>whnf)
      all_goals exact eW
    | true=>
      by_cases hl:k+1<x.af.length
      ·have hXf:=hbad (by rintro⟨_,h⟩;have:=h (by simpa using hc0);omega);have d1:decide (((k+1:Nat):Int)<(x.af.length:Int))=true:=by simp only[kC];omega
       clear hs hbad hgood hX;subst hXf;repeat' ((conv=>whnf);first|with_reducible apply aK|((with_reducible apply fk)<;>intro hc<;>try exact iK)|rewrite[eW]|rewrite[eN2]|((refine⟨_,hr,?_⟩))|(apply aC;(conv=>whnf);refine⟨_,cF,?_⟩)|((with_reducible apply And.intro);exact aG)|fail)
       all_goals exact aL
      have hg:=hgood ⟨hs,fun _=>by omega⟩;have d1:decide (((k+1:Nat):Int)<(x.af.length:Int))=false:=by simp only[tq];omega
      clear hs hbad hgood;repeat' ((conv=>whnf);first|with_reducible apply aK|((with_reducible apply fk)<;>intro hc<;>try exact iK)|rewrite[eW]|rewrite[eN2]|((refine⟨_,hr,?_⟩))|(apply aC;(conv=>whnf);refine⟨_,cF,?_⟩)|((with_reducible apply And.intro);exact aG)|fail)
      refine⟨⟨k+1,hlt,hg⟩,dec_lt hlt,ak ?_⟩;all_goals exact aL
 have hke:k=x.af.length:=by omega
 subst hke;have d0:decide ((x.af.length:Int)<(x.af.length:Int))=false:=by simp
 have hLt:L=true:=by rw[hL,jM];exact fun i hi=>hbk i hi hi
 rw[hLt,Bool.true_and,hR] at hX;have eM2:((List.map Cu.c x.au).length:Int)=(x.au.length:Int):=by rw[List.length_map]
 clear hR hL hLt cR;repeat' ((conv=>whnf);first|with_reducible apply aK|((with_reducible apply fk)<;>intro hc<;>try exact aM)|rewrite[eM2]|(apply aC;(conv=>whnf);refine⟨_,cS,?_⟩)|(apply aC;(conv=>whnf);refine⟨_,cC,?_⟩)|(apply aC;(conv=>whnf);refine⟨_,cA,?_⟩)|((with_reducible apply And.intro);exact aG)|fail)
 all_goals
  simp only[List.length_map] at *;simp only[*,Bool.true_and,Bool.false_and,Bool.and_true,Bool.and_false,Bool.false_eq_true,↓reduceIte] at hX;subst hX;all_goals exact aL
end Go.Proofs.YtiagceoepkaeoaaGreat.Tb
end
section
open Go Go.Proofs.Tryz Go.AX Go.Sort
namespace Go.Proofs.YtiagceoepkaeoaaGreat.Tb
theorem Zt:Mg prog 146 f146:=bZ func146
theorem abW (A:Array Int)(a b:Nat)(hab:a<b)(hb:b≤A.size)(hs:A.size<4611686018427387904) :
  dR prog 146 [.aF 1 0,.pv (ii a),.pv (ii b)] [(1,.arr 23 0 1 (uA A))] (.pv (.dn [])) [(1,.arr 23 0 1 (uA (heapSort ltInt A a b)))]:=by
 obtain⟨X,hX⟩:∃X,heapSort ltInt A a b=X:=⟨_,rfl⟩;rw[hX];unfold heapSort at hX;obtain⟨m,rfl⟩:∃m,b=a+m:=⟨b-a,by omega⟩;rw[show a+m-a=m from by omega] at hX;have w1:IntKind.i64.wrap (((a+m:Nat):Int)-(a:Int))=(m:Int):=by rw[aO (by omega) (by omega)];omega
 have w2:IntKind.i64.wrap ((m:Int)-1)=((m-1:Nat):Int):=by rw[aO (by omega) (by omega)];omega
 have w3:Int.tdiv ((m-1:Nat):Int) 2=(((m-1) / 2:Nat):Int):=by rw[Int.tdiv_eq_ediv_of_nonneg (by omega)];rfl
 refine jA Zt ?_;repeat' ((conv=>whnf);first|with_reducible apply aK|((with_reducible apply fk)<;>intro hc<;>try exact aM)|rewrite[w1]|rewrite[w2]|rewrite[w3]|((with_reducible apply And.intro);exact aG)|fail)
 refine⟨{p:Nat×Array Int // p.2.size=A.size∧heapPop ltInt a m (heapBuild ltInt m a p.1 p.2)=X∧p.1≤m},fun⟨(k,D),_⟩=>⟨[(0,.aF 1 0),(6,.pv (ii a)),(7,.pv (ii 0)),(8,.pv (ii m)),(9,.pv (ii ((k:Int)-1)))],1000000000,[(1,.arr 23 0 1 (uA D))]⟩,fun⟨(k,_),_⟩=>k,⟨⟨((m-1) / 2+1,A),rfl,hX,by omega⟩,ak ?_⟩,?_⟩
 ·repeat' first
   |fail
   |with_reducible exact True.intro
   |with_reducible exact rfl
   |with_reducible exact ah _
   |((conv=>whnf);with_reducible apply And.intro)
   |((conv=>whnf);with_reducible exact True.intro)
   |exact rfl
   |exact fun h=>h
   |exact ah _
  all_goals try (conv=>whnf)
  all_goals (rw[aO (by omega) (by omega)];omega)
 clear hX w3;rintro⟨⟨k,D⟩,h1,h2,h3⟩
 simp only at h1 h2 h3;cases k with
 | succ k=>
   have wk:((k+1:Nat):Int)-1=(k:Int):=by omega
   have d0:decide ((k:Int)≥0)=true:=by simp only[kC];omega
   repeat' ((conv=>whnf);first|with_reducible apply aK|((with_reducible apply fk)<;>intro hc<;>try exact aM)|rewrite[wk]|(apply fq;(conv=>whnf);refine⟨_,_,cB (TA D k m a (by omega) (by omega) (by omega)) ?_,?_⟩;exact qi)|((with_reducible apply And.intro);exact aG)|fail)
   refine⟨⟨(k,siftDown ltInt m a k D),by rw[C9 _ _ _ _ _ _ (Nat.le_refl _)];exact h1,h2,by omega⟩,Nat.lt_succ_self _,ak ?_⟩;repeat' first|((conv=>whnf);with_reducible apply And.intro)|exact aL|fail
   all_goals try (conv=>whnf)
   all_goals exact aO (by omega) (by omega)
 | zero=>
   have d0:decide (((0:Nat):Int)-1≥0)=false:=by decide
   rw[heapBuild] at h2;repeat' ((conv=>whnf);first|with_reducible apply aK|((with_reducible apply fk)<;>intro hc<;>try exact aM)|rewrite[w2]|((with_reducible apply And.intro);exact aG)|fail)
   refine⟨{p:Nat×Array Int // p.2.size=A.size∧heapPop ltInt a p.1 p.2=X∧p.1≤m},fun⟨(k,D),_⟩=>⟨[(0,.aF 1 0),(6,.pv (ii a)),(7,.pv (ii 0)),(10,.pv (ii ((k:Int)-1)))],1000000000,[(1,.arr 23 0 1 (uA D))]⟩,fun⟨(k,_),_⟩=>k,⟨⟨(m,D),h1,h2,by omega⟩,ak ?_⟩,?_⟩
   ·repeat' first
     |fail
     |with_reducible exact True.intro
     |with_reducible exact rfl
     |with_reducible exact ah _
     |((conv=>whnf);with_reducible apply And.intro)
     |((conv=>whnf);with_reducible exact True.intro)
     |exact rfl
     |exact fun h=>h
     |exact ah _
    all_goals try (conv=>whnf)
    all_goals omega
   clear h1 h2 h3 d0;rintro⟨⟨k,D⟩,h1,h2,h3⟩
   simp only at h1 h2 h3;cases k with
   | succ k=>
     have wk:((k+1:Nat):Int)-1=(k:Int):=by omega
     have d0:decide ((k:Int)≥0)=true:=by simp only[kC];omega
     have wa:IntKind.i64.wrap ((a:Int)+(k:Int))=((a+k:Nat):Int):=by rw[aO (by omega) (by omega)];omega
     repeat' ((conv=>whnf);first|with_reducible apply aK|((with_reducible apply fk)<;>intro hc<;>try exact iK)|rewrite[wk]|rewrite[wa]|(rewrite[dz])|(refine⟨_,dx _ _ (by first|omega|exact gq),?_⟩)|((with_reducible apply And.intro);exact gq)|(apply aC;(conv=>whnf);refine⟨_,bJ _ _,?_⟩)|(apply fq;(conv=>whnf);refine⟨_,_,cB (TA (swp D a (a+k)) 0 k a (by rw[size_swp];omega) (by rw[size_swp];omega) (by omega)) ?_,?_⟩;exact qi)|((with_reducible apply And.intro);exact aG)|fail)
     refine⟨⟨(k,siftDown ltInt k a 0 (swp D a (a+k))),by rw[C9 _ _ _ _ _ _ (Nat.le_refl _),size_swp];exact h1,h2,by omega⟩,Nat.lt_succ_self _,ak ?_⟩;repeat' first|((conv=>whnf);with_reducible apply And.intro)|exact aL|fail
     all_goals try (conv=>whnf)
     all_goals exact aO (by omega) (by omega)
   | zero=>
     have d0:decide (((0:Nat):Int)-1≥0)=false:=by decide
     rw[heapPop] at h2;subst h2;repeat' ((conv=>whnf);first|with_reducible apply aK|((with_reducible apply fk)<;>intro hc<;>try exact aM)|((with_reducible apply And.intro);exact aG)|fail)
     refine⟨_,_,⟨rfl,rfl⟩,?_⟩;all_goals exact aL
theorem abX:Mg prog 149 f149:=bZ func149
theorem aeJ (A:Array Int)(a b:Nat)(hab:a<b)(hb:b≤A.size)(hs:A.size<4611686018427387904) :
  dR prog 149 [.aF 1 0,.pv (ii a),.pv (ii b)] [(1,.arr 23 0 1 (uA A))] (.pv (.dn [])) [(1,.arr 23 0 1 (uA (reverseRange A a b)))]:=by
 obtain⟨X,hX⟩:∃X,reverseRange A a b=X:=⟨_,rfl⟩;rw[hX];unfold reverseRange at hX;have w1:IntKind.i64.wrap ((b:Int)-1)=((b-1:Nat):Int):=by rw[aO (by omega) (by omega)];omega
 refine jA abX ?_;repeat' ((conv=>whnf);first|with_reducible apply aK|((with_reducible apply fk)<;>intro hc<;>try exact aM)|rewrite[w1]|((with_reducible apply And.intro);exact aG)|fail)
 refine⟨{p:Nat×Nat×Array Int // p.2.2.size=A.size∧reverseLoop p.1 p.2.1 p.2.2=X∧p.2.1<b∧p.1<A.size},fun⟨(i,j,D),_⟩=>⟨[(0,.aF 1 0),(6,.pv (ii i)),(7,.pv (ii j))],1000000000,[(1,.arr 23 0 1 (uA D))]⟩,fun⟨(i,j,_),_⟩=>j-i,⟨⟨(a,b-1,A),rfl,hX,by show b-1<b;omega,by show a<A.size;omega⟩,ak ?_⟩,?_⟩
 ·repeat' first
   |fail
   |with_reducible exact True.intro
   |with_reducible exact rfl
   |with_reducible exact ah _
   |((conv=>whnf);with_reducible apply And.intro)
   |((conv=>whnf);with_reducible exact True.intro)
   |exact rfl
   |exact fun h=>h
   |exact ah _
  all_goals try (conv=>whnf)
 clear hX w1;rintro⟨⟨i,j,D⟩,h1,h2,h3,h4⟩
 simp only at h1 h2 h3 h4;rw[reverseLoop] at h2;by_cases hlt:i<j
 ·have d0:decide ((i:Int)<(j:Int))=true:=by simp only[kC];omega
  rw[if_pos hlt] at h2;have wi:IntKind.i64.wrap ((i:Int)+1)=((i+1:Nat):Int):=by rw[aO (by omega) (by omega)];omega
  have wj:IntKind.i64.wrap ((j:Int)-1)=((j-1:Nat):Int):=by rw[aO (by omega) (by omega)];omega
  repeat' ((conv=>whnf);first|with_reducible apply aK|((with_reducible apply fk)<;>intro hc<;>try exact iK)|rewrite[wi]|rewrite[wj]|(rewrite[dz])|(refine⟨_,dx _ _ (by first|omega|exact gq),?_⟩)|((with_reducible apply And.intro);exact gq)|(apply aC;(conv=>whnf);refine⟨_,bJ _ _,?_⟩)|((with_reducible apply And.intro);exact aG)|fail)
  refine⟨⟨(i+1,j-1,swp D i j),by rw[size_swp];exact h1,h2,by show j-1<b;omega,by show i+1<A.size;omega⟩,(by show j-1-(i+1)<j-i;omega),ak ?_⟩;all_goals exact aL
 have d0:decide ((i:Int)<(j:Int))=false:=by simp only[tq];omega
 rw[if_neg hlt] at h2;subst h2;repeat' ((conv=>whnf);first|with_reducible apply aK|((with_reducible apply fk)<;>intro hc<;>try exact aM)|((with_reducible apply And.intro);exact aG)|fail)
 refine⟨_,_,⟨rfl,rfl⟩,?_⟩;all_goals exact aL
theorem O7:Mg prog 217 f217:=bZ func217
theorem LF (A:Array Int)(a b s:Nat)(ha:a<A.size)(hb:b<A.size)(hs:A.size<4611686018427387904)(h:s<1000)(p q s':Nat)(e:order2 ltInt A a b s=(p,q,s')) :
  dR prog 217 [.aF 1 0,.pv (ii a),.pv (ii b),.ptr 2 0] [(1,.arr 23 0 1 (uA A)),(2,.var [.pv (ii s)])] (.pv (.dn [ii p,ii q])) [(1,.arr 23 0 1 (uA A)),(2,.var [.pv (ii s')])]:=by
 have ws:IntKind.i64.wrap ((s:Int)+1)=((s+1:Nat):Int):=by rw[aO (by omega) (by omega)];omega
 unfold order2 at e;rw[Aq] at e;cases hl:decide (A[b]! < A[a]!) with
 | true=>
   simp only[hl,if_true,Prod.mk.injEq] at e;obtain⟨rfl,rfl,rfl⟩:=e;refine jA O7 ?_;repeat' ((conv=>whnf);first|with_reducible apply aK|((with_reducible apply fk)<;>intro hc<;>try exact iK)|rewrite[ws]|(rewrite[dz])|(refine⟨_,dx _ _ (by first|omega|exact gq),?_⟩)|((with_reducible apply And.intro);exact gq)|(apply aC;(conv=>whnf);refine⟨_,bJ _ _,?_⟩)|((with_reducible apply And.intro);exact aG)|fail)
   refine⟨_,_,⟨rfl,rfl⟩,?_⟩;all_goals exact aL
 | false=>
   simp only[hl,Bool.false_eq_true,if_false,Prod.mk.injEq] at e;obtain⟨rfl,rfl,rfl⟩:=e;refine jA O7 ?_;repeat' ((conv=>whnf);first|with_reducible apply aK|((with_reducible apply fk)<;>intro hc<;>try exact iK)|rewrite[ws]|(rewrite[dz])|(refine⟨_,dx _ _ (by first|omega|exact gq),?_⟩)|((with_reducible apply And.intro);exact gq)|(apply aC;(conv=>whnf);refine⟨_,bJ _ _,?_⟩)|((with_reducible apply And.intro);exact aG)|fail)
   refine⟨_,_,⟨rfl,rfl⟩,?_⟩;all_goals exact aL
theorem TB {A:Array Int}{a b s p q s':Nat}(e:order2 ltInt A a b s=(p,q,s')):((p=a∧q=b)∨(p=b∧q=a))∧s'≤s+1:=by
 have h1:=order2_mem ltInt A a b s;have h2:=order2_count (lt:=ltInt) A a b s;rw[e] at h1 h2;exact⟨h1,h2⟩
theorem abY:Mg prog 200 f200:=bZ func200
theorem RD (A:Array Int)(a b c s:Nat)(ha:a<A.size)(hb:b<A.size)(hcc:c<A.size)(hs:A.size<4611686018427387904)(h:s<900)(p s':Nat)(e:median ltInt A a b c s=(p,s')) :
  dR prog 200 [.aF 1 0,.pv (ii a),.pv (ii b),.pv (ii c),.ptr 2 0] [(1,.arr 23 0 1 (uA A)),(2,.var [.pv (ii s)])] (.pv (ii p)) [(1,.arr 23 0 1 (uA A)),(2,.var [.pv (ii s')])]:=by
 unfold median at e;obtain⟨⟨p1,q1,s1⟩,e1⟩:∃x,order2 ltInt A a b s=x:=⟨_,rfl⟩;simp only[e1] at e;obtain⟨⟨p2,q2,s2⟩,e2⟩:∃x,order2 ltInt A q1 c s1=x:=⟨_,rfl⟩;simp only[e2] at e;obtain⟨⟨p3,q3,s3⟩,e3⟩:∃x,order2 ltInt A p1 p2 s2=x:=⟨_,rfl⟩;simp only[e3,Prod.mk.injEq] at e;obtain⟨rfl,rfl⟩:=e;have i1:=TB e1;have i2:=TB e2;have c1:=LF A a b s ha hb hs (by omega) _ _ _ e1;have c2:=LF A q1 c s1 (by omega) hcc hs (by omega) _ _ _ e2;have c3:=LF A p1 p2 s2 (by omega) (by omega) hs (by omega) _ _ _ e3;clear e1 e2 e3 i1 i2;refine jA abY ?_;repeat' ((conv=>whnf);first|with_reducible apply aK|((with_reducible apply fk)<;>intro hc<;>try exact aM)|(apply fq;(conv=>whnf);refine⟨_,_,cB (c1) ?_,?_⟩;exact qi)|(apply fq;(conv=>whnf);refine⟨_,_,cB (c2) ?_,?_⟩;exact qi)|(apply fq;(conv=>whnf);refine⟨_,_,cB (c3) ?_,?_⟩;exact qi)|((with_reducible apply And.intro);exact aG)|fail)
 refine⟨_,_,⟨rfl,rfl⟩,?_⟩;all_goals exact aL
theorem RF {A:Array Int}{a b c s p s':Nat}(e:median ltInt A a b c s=(p,s')):(p=a∨p=b∨p=c)∧s'≤s+3:=by
 have h1:=median_mem ltInt A a b c s;have h2:=median_count (lt:=ltInt) A a b c s;rw[e] at h1 h2;exact⟨h1,h2⟩
theorem Zu:Mg prog 199 f199:=bZ func199
theorem LG (A:Array Int)(a s:Nat)(h0:0<a)(ha:a+1<A.size)(hs:A.size<4611686018427387904)(h:s<900)(p s':Nat)(e:medianAdjacent ltInt A a s=(p,s')) :
  dR prog 199 [.aF 1 0,.pv (ii a),.ptr 2 0] [(1,.arr 23 0 1 (uA A)),(2,.var [.pv (ii s)])] (.pv (ii p)) [(1,.arr 23 0 1 (uA A)),(2,.var [.pv (ii s')])]:=by
 have w1:IntKind.i64.wrap ((a:Int)-1)=((a-1:Nat):Int):=by rw[aO (by omega) (by omega)];omega
 have w2:IntKind.i64.wrap ((a:Int)+1)=((a+1:Nat):Int):=by rw[aO (by omega) (by omega)];omega
 have c1:=RD A (a-1) a (a+1) s (by omega) (by omega) ha hs h _ _ e;refine jA Zu ?_;repeat' ((conv=>whnf);first|with_reducible apply aK|((with_reducible apply fk)<;>intro hc<;>try exact aM)|rewrite[w1]|rewrite[w2]|(apply fq;(conv=>whnf);refine⟨_,_,cB (c1) ?_,?_⟩;exact qi)|((with_reducible apply And.intro);exact aG)|fail)
 refine⟨_,_,⟨rfl,rfl⟩,?_⟩;all_goals exact aL
def Dy:Hint→Int
 |.unknown=>0
 |.increasing=>1
 |.decreasing=>2
theorem TD:Mg prog 148 f148:=bZ func148
theorem aeK (A:Array Int)(a b:Nat)(hab:a<b)(h8:8≤b-a)(hb:b≤A.size)(hs:A.size<4611686018427387904)(p:Nat)(hh:Hint)(e:choosePivot ltInt A a b=(p,hh)) :
  dR prog 148 [.aF 1 0,.pv (ii a),.pv (ii b)] [(1,.arr 23 0 1 (uA A))] (.pv (.dn [ii p,ii (Dy hh)])) [(1,.arr 23 0 1 (uA A))]:=by
 obtain⟨m,rfl⟩:∃m,b=a+m:=⟨b-a,by omega⟩;unfold choosePivot at e;rw[show a+m-a=m from by omega] at e h8;simp only[ge_iff_le,h8,if_true] at e;have w0:IntKind.i64.wrap (((a+m:Nat):Int)-(a:Int))=(m:Int):=by rw[aO (by omega) (by omega)];omega
 have w1:IntKind.i64.wrap (Int.tdiv (m:Int) 4)=((m / 4:Nat):Int):=by rw[Int.tdiv_eq_ediv_of_nonneg (by omega),aO (by omega) (by omega)];rfl
 have w2:IntKind.i64.wrap (((m / 4:Nat):Int)*1)=((m / 4*1:Nat):Int):=by rw[aO (by omega) (by omega)];omega
 have w3:IntKind.i64.wrap (((m / 4:Nat):Int)*2)=((m / 4*2:Nat):Int):=by rw[aO (by omega) (by omega)];omega
 have w4:IntKind.i64.wrap (((m / 4:Nat):Int)*3)=((m / 4*3:Nat):Int):=by rw[aO (by omega) (by omega)];omega
 have w5:IntKind.i64.wrap ((a:Int)+((m / 4*1:Nat):Int))=((a+m / 4*1:Nat):Int):=by rw[aO (by omega) (by omega)];omega
 have w6:IntKind.i64.wrap ((a:Int)+((m / 4*2:Nat):Int))=((a+m / 4*2:Nat):Int):=by rw[aO (by omega) (by omega)];omega
 have w7:IntKind.i64.wrap ((a:Int)+((m / 4*3:Nat):Int))=((a+m / 4*3:Nat):Int):=by rw[aO (by omega) (by omega)];omega
 have d0:decide ((m:Int)≥8)=true:=by simp only[kC];omega
 have fin:∀(q s':Nat),(q,if s'=0 then Hint.increasing else if s'=12 then Hint.decreasing else Hint.unknown)=(p,hh)→q=p∧((((s':Int)==0)=true∧hh=.increasing)∨(((s':Int)==0)=false∧((s':Int)==12)=true∧hh=.decreasing)∨(((s':Int)==0)=false∧((s':Int)==12)=false∧hh=.unknown)):=by
  intro q s' h;simp only[Prod.mk.injEq] at h;obtain⟨h1,h2⟩:=h;refine⟨h1,?_⟩;by_cases h3:s'=0
  ·rw[if_pos h3] at h2;exact .inl ⟨by simp;omega,h2.symm⟩
  rw[if_neg h3] at h2;by_cases h4:s'=12
  ·rw[if_pos h4] at h2;exact .inr (.inl ⟨by simp;omega,by simp;omega,h2.symm⟩)
  rw[if_neg h4] at h2;exact .inr (.inr ⟨by simp;omega,by simp;omega,h2.symm⟩)
 by_cases h50:50≤m
 ·simp only[h50,if_true] at e;have d1:decide ((m:Int)≥50)=true:=by simp only[kC];omega
  obtain⟨⟨p1,s1⟩,e1⟩:∃x,medianAdjacent ltInt A (a+m / 4*1) 0=x:=⟨_,rfl⟩;simp only[e1] at e;obtain⟨⟨p2,s2⟩,e2⟩:∃x,medianAdjacent ltInt A (a+m / 4*2) s1=x:=⟨_,rfl⟩;simp only[e2] at e;obtain⟨⟨p3,s3⟩,e3⟩:∃x,medianAdjacent ltInt A (a+m / 4*3) s2=x:=⟨_,rfl⟩;simp only[e3] at e;obtain⟨⟨p4,s4⟩,e4⟩:∃x,median ltInt A p1 p2 p3 s3=x:=⟨_,rfl⟩;simp only[e4] at e;have i1:=RF e1;have i2:=RF e2;have i3:=RF e3;have c1:=LG A _ 0 (by omega) (by omega) hs (by omega) _ _ e1;have c2:=LG A _ s1 (by omega) (by omega) hs (by omega) _ _ e2;have c3:=LG A _ s2 (by omega) (by omega) hs (by omega) _ _ e3;have c4:=RD A _ _ _ s3 (by omega) (by omega) (by omega) hs (by omega) _ _ e4;obtain⟨rfl,hf⟩:=fin _ _ e;clear e e1 e2 e3 e4 i1 i2 i3 fin;rcases hf with ⟨f1,rfl⟩|⟨f1,f2,rfl⟩|⟨f1,f2,rfl⟩
  all_goals
   refine jA TD ?_;repeat' ((conv=>whnf);first|with_reducible apply aK|((with_reducible apply fk)<;>intro hc<;>try exact aM)|rewrite[w0]|rewrite[w1]|rewrite[w2]|rewrite[w3]|rewrite[w4]|rewrite[w5]|rewrite[w6]|rewrite[w7]|(apply fq;(conv=>whnf);refine⟨_,_,cB (c1) ?_,?_⟩;exact qi)|(apply fq;(conv=>whnf);refine⟨_,_,cB (c2) ?_,?_⟩;exact qi)|(apply fq;(conv=>whnf);refine⟨_,_,cB (c3) ?_,?_⟩;exact qi)|(apply fq;(conv=>whnf);refine⟨_,_,cB (c4) ?_,?_⟩;exact qi)|((with_reducible apply And.intro);exact aG)|fail)
   refine⟨_,_,⟨rfl,rfl⟩,?_⟩;all_goals exact aL
 simp only[h50,if_false] at e;have d1:decide ((m:Int)≥50)=false:=by simp only[tq];omega
 obtain⟨⟨p4,s4⟩,e4⟩:∃x,median ltInt A (a+m / 4*1) (a+m / 4*2) (a+m / 4*3) 0=x:=⟨_,rfl⟩;simp only[e4] at e;have c4:=RD A _ _ _ 0 (by omega) (by omega) (by omega) hs (by omega) _ _ e4;obtain⟨rfl,hf⟩:=fin _ _ e;clear e e4 fin;rcases hf with ⟨f1,rfl⟩|⟨f1,f2,rfl⟩|⟨f1,f2,rfl⟩
 all_goals
  refine jA TD ?_;repeat' ((conv=>whnf);first|with_reducible apply aK|((with_reducible apply fk)<;>intro hc<;>try exact aM)|rewrite[w0]|rewrite[w1]|rewrite[w2]|rewrite[w3]|rewrite[w4]|rewrite[w5]|rewrite[w6]|rewrite[w7]|(apply fq;(conv=>whnf);refine⟨_,_,cB (c4) ?_,?_⟩;exact qi)|((with_reducible apply And.intro);exact aG)|fail)
  refine⟨_,_,⟨rfl,rfl⟩,?_⟩;all_goals exact aL
end Go.Proofs.YtiagceoepkaeoaaGreat.Tb
end
