/-
  Contracts of functions of the program and of the document, each for every input that its premises name.
-/
import Derived.Test.YtfoiekbkkbnpkaaGreatBb
import Derived.Test.YtfoiekbkkbnpkaaGreatAf
import Derived.Test.YtfoiekbkkbnpkaaGreatBa
set_option linter.unusedSectionVars false
set_option linter.unusedVariables false
set_option linter.unusedSimpArgs false
set_option maxRecDepth 100000
set_option maxHeartbeats 4000000
section
open Go Go.Proofs.Tryz Go.AX
namespace Go.Proofs.YtfoiekbkkbnpkaaGreat.Tb
theorem OI:bE prog 120 f120:=eZ func120
theorem Dr (n l m:Int):dH prog 120 [uu n,uu l,uu m] (bl (dO n l m)):=by
 refine PC.le ?_;refine dA OI ?_;repeat' ((conv=>whnf);first|with_reducible apply aO|((with_reducible apply fk)<;>intro hc<;>try exact bQ)|refine aP ?_|fail)
 all_goals
  repeat' first|apply And.intro|exact aL|fail
  all_goals try (conv=>whnf)
  simp_all [dO]
 omega
theorem OJ:bE prog 121 f121:=eZ func121
theorem uj (n l m:Int):dH prog 121 [ii n,ii l,ii m] (bl (dO n l m)):=by
 refine PC.le ?_;refine dA OJ ?_;repeat' ((conv=>whnf);first|with_reducible apply aO|((with_reducible apply fk)<;>intro hc<;>try exact bQ)|refine aP ?_|fail)
 all_goals
  repeat' first|apply And.intro|exact aL|fail
  all_goals try (conv=>whnf)
  simp_all [dO]
 omega
theorem OL:bE prog 183 f183:=eZ func183
theorem QE (a b:Int):dH prog 183 [.agg [ii a,uu b]] (bl (qO ⟨a,b⟩)):=by
 refine PC.le ?_;refine dA OL ?_;repeat' ((conv=>whnf);first|with_reducible apply aO|((with_reducible apply fk)<;>intro hc<;>try exact bQ)|(apply aX;refine⟨_,uj _ _ _,?_⟩)|(apply aX;refine⟨_,Dr _ _ _,?_⟩)|refine aP ?_|fail)
 all_goals
  repeat' first|apply And.intro|exact aL|fail
  all_goals try (conv=>whnf)
  simp_all [qO]
theorem Dt:bE prog 190 f190:=eZ func190
theorem FR (x:Pl)(f:FuncId)(first aT:List PV)(p:Pl→Bool)(hp:dH prog f (first++([.agg x.c]++aT)) (bl (p x))) :
  dH prog 190 ([]++([.agg x.c]++[.bT [.fn (.func f) first aT] 0])) (bl (!p x)):=by
 refine PC.le ?_;refine dA Dt ?_;repeat' ((conv=>whnf);first|with_reducible apply aO|((with_reducible apply fk)<;>intro hc<;>try exact bQ)|(apply aX;refine⟨_,hp,?_⟩)|refine aP ?_|fail)
 all_goals exact aL
theorem FT:bE prog 182 f182:=eZ func182
theorem IV (l:List Pl)(f:FuncId)(first aT:List PV)(p:Pl→Bool)(hp:∀x∈l,dH prog f (first++([.agg x.c]++aT)) (bl (p x))) :
  dH prog 182 [iX l,.fn (.func f) first aT] (bl (l.all p)):=by
 refine PC.le ?_;refine dA FT ?_;repeat' ((conv=>whnf);first|with_reducible apply aO|((with_reducible apply fk)<;>intro hc<;>try exact bQ)|(apply aX;refine⟨_,dF _ _ _ _ _ fun x hx=>FR x _ _ _ p (hp x hx),?_⟩)|refine aP ?_|fail)
 repeat' first|apply And.intro|exact aL|fail
 all_goals try (conv=>whnf)
 rw[List.not_any_eq_all_not];simp
theorem FU:bE prog 178 f178:=eZ func178
theorem IW (x:Fr)(f:FuncId)(first aT:List PV)(p:Fr→Bool)(hp:dH prog f (first++([.agg x.c]++aT)) (bl (p x))) :
  dH prog 178 ([]++([.agg x.c]++[.bT [.fn (.func f) first aT] 0])) (bl (!p x)):=by
 refine PC.le ?_;refine dA FU ?_;repeat' ((conv=>whnf);first|with_reducible apply aO|((with_reducible apply fk)<;>intro hc<;>try exact bQ)|(apply aX;refine⟨_,hp,?_⟩)|refine aP ?_|fail)
 all_goals exact aL
theorem IX:bE prog 155 f155:=eZ func155
theorem LG (l:List Fr)(f:FuncId)(first aT:List PV)(p:Fr→Bool)(hp:∀x∈l,dH prog f (first++([.agg x.c]++aT)) (bl (p x))) :
  dH prog 155 [gH l,.fn (.func f) first aT] (bl (l.all p)):=by
 refine PC.le ?_;refine dA IX ?_;repeat' ((conv=>whnf);first|with_reducible apply aO|((with_reducible apply fk)<;>intro hc<;>try exact bQ)|(apply aX;refine⟨_,rV _ _ _ _ _ fun x hx=>IW x _ _ _ p (hp x hx),?_⟩)|refine aP ?_|fail)
 repeat' first|apply And.intro|exact aL|fail
 all_goals try (conv=>whnf)
 rw[List.not_any_eq_all_not];simp
theorem um:bE prog 184 f184:=eZ func184
theorem FV (l:List Pl)(f:FuncId)(first aT:List PV)(key:Pl→Int)(hp:∀x∈l,dH prog f (first++([.agg x.c]++aT)) (ii (key x))) :
  dH prog 184 [iX l,.fn (.func f) first aT] (bl (decide (l.Pairwise fun a b=>key a<key b))):=by
 refine PC.le (jN um fun hb=>?_);have hb:l.length≤9223372036854775807:=by simpa[Br,wV,iX] using hb
 refine dA um ?_;repeat' ((conv=>whnf);first|with_reducible apply aO|((with_reducible apply fk)<;>intro hc<;>try exact bQ)|refine aP ?_|fail)
 refine⟨{k:Nat // (k+1≤l.length∨k=0)∧∀j (hj:j+1<l.length),j<k→key (l[j]'(by omega))<key l[j+1]},fun⟨k,_⟩=>⟨[(0,.pv (iX l)),(1,.pv (.fn (.func f) first aT)),(5,.pv (ii ((k+1:Nat):Int)))],1000000000,[]⟩,fun⟨k,_⟩=>l.length-k,⟨⟨0,by simp⟩,aA ?_⟩,?_⟩
 ·all_goals exact aL
 rintro⟨k,hk,hn⟩
 repeat' ((conv=>whnf);first|with_reducible apply aO|((with_reducible apply fk)<;>intro hc<;>try exact bQ)|refine aP ?_|fail)
 ·have hlt:k+1<l.length:=by simp at hc;omega
  have e1:IntKind.i64.wrap (((k+1:Nat):Int)-1)=((k:Nat):Int):=by rw[bI (by omega) (by omega)];omega
  repeat' ((conv=>whnf);first|with_reducible apply aO|((with_reducible apply fk)<;>intro hc<;>try exact bQ)|((refine⟨by rw[e1];omega,_,La _ _ e1 (by omega),?_⟩))|refine aP ?_|fail)
  repeat' ((conv=>whnf);first|with_reducible apply aO|((with_reducible apply fk)<;>intro hc<;>try exact bQ)|(apply aX;refine⟨_,hp _ (List.getElem_mem _),?_⟩)|refine aP ?_|fail)
  refine⟨_,eD _ _ _ hlt,?_⟩;repeat' ((conv=>whnf);first|with_reducible apply aO|((with_reducible apply fk)<;>intro hc<;>try exact bQ)|(apply aX;refine⟨_,hp _ (List.getElem_mem _),?_⟩)|refine aP ?_|fail)
  ·repeat' first|apply And.intro|exact aL|fail
   all_goals try (conv=>whnf)
   simp at hc;simp;intro hp;have:=List.pairwise_iff_getElem.1 hp k (k+1) (by omega) hlt (by omega);omega
  repeat' ((conv=>whnf);first|with_reducible apply aO|((with_reducible apply fk)<;>intro hc<;>try exact bQ)|refine aP ?_|fail)
  refine⟨⟨k+1,.inl hlt,?_⟩,dec_lt (by omega),aA ?_⟩
  ·intro j hj hjk;rcases Nat.lt_succ_iff_lt_or_eq.1 hjk with hj'|rfl
   ·exact hn j hj hj'
   simp at hc;exact hc
  repeat' first|apply And.intro|exact aL|fail
  all_goals try (conv=>whnf)
  rw[bI (by omega) (by omega)];omega
 repeat' first|apply And.intro|exact aL|fail
 all_goals try (conv=>whnf)
 simp at hc;simp;exact nV fun j hj=>hn j hj (by omega)
theorem wI:bE prog 158 f158:=eZ func158
theorem IY (l:List Fr)(f:FuncId)(first aT:List PV)(key:Fr→Int)(hp:∀x∈l,dH prog f (first++([.agg x.c]++aT)) (uu (key x))) :
  dH prog 158 [gH l,.fn (.func f) first aT] (bl (decide (l.Pairwise fun a b=>key a<key b))):=by
 refine PC.le (jN wI fun hb=>?_);have hb:l.length≤9223372036854775807:=by simpa[Br,wV,gH] using hb
 refine dA wI ?_;repeat' ((conv=>whnf);first|with_reducible apply aO|((with_reducible apply fk)<;>intro hc<;>try exact bQ)|refine aP ?_|fail)
 refine⟨{k:Nat // (k+1≤l.length∨k=0)∧∀j (hj:j+1<l.length),j<k→key (l[j]'(by omega))<key l[j+1]},fun⟨k,_⟩=>⟨[(0,.pv (gH l)),(1,.pv (.fn (.func f) first aT)),(5,.pv (ii ((k+1:Nat):Int)))],1000000000,[]⟩,fun⟨k,_⟩=>l.length-k,⟨⟨0,by simp⟩,aA ?_⟩,?_⟩
 ·all_goals exact aL
 rintro⟨k,hk,hn⟩
 repeat' ((conv=>whnf);first|with_reducible apply aO|((with_reducible apply fk)<;>intro hc<;>try exact bQ)|refine aP ?_|fail)
 ·have hlt:k+1<l.length:=by simp at hc;omega
  have e1:IntKind.i64.wrap (((k+1:Nat):Int)-1)=((k:Nat):Int):=by rw[bI (by omega) (by omega)];omega
  repeat' ((conv=>whnf);first|with_reducible apply aO|((with_reducible apply fk)<;>intro hc<;>try exact bQ)|((refine⟨by rw[e1];omega,_,La _ _ e1 (by omega),?_⟩))|refine aP ?_|fail)
  repeat' ((conv=>whnf);first|with_reducible apply aO|((with_reducible apply fk)<;>intro hc<;>try exact bQ)|(apply aX;refine⟨_,hp _ (List.getElem_mem _),?_⟩)|refine aP ?_|fail)
  refine⟨_,eD _ _ _ hlt,?_⟩;repeat' ((conv=>whnf);first|with_reducible apply aO|((with_reducible apply fk)<;>intro hc<;>try exact bQ)|(apply aX;refine⟨_,hp _ (List.getElem_mem _),?_⟩)|refine aP ?_|fail)
  ·repeat' first|apply And.intro|exact aL|fail
   all_goals try (conv=>whnf)
   simp at hc;simp;intro hp;have:=List.pairwise_iff_getElem.1 hp k (k+1) (by omega) hlt (by omega);omega
  repeat' ((conv=>whnf);first|with_reducible apply aO|((with_reducible apply fk)<;>intro hc<;>try exact bQ)|refine aP ?_|fail)
  refine⟨⟨k+1,.inl hlt,?_⟩,dec_lt (by omega),aA ?_⟩
  ·intro j hj hjk;rcases Nat.lt_succ_iff_lt_or_eq.1 hjk with hj'|rfl
   ·exact hn j hj hj'
   simp at hc;exact hc
  repeat' first|apply And.intro|exact aL|fail
  all_goals try (conv=>whnf)
  rw[bI (by omega) (by omega)];omega
 repeat' first|apply And.intro|exact aL|fail
 all_goals try (conv=>whnf)
 simp at hc;simp;exact nV fun j hj=>hn j hj (by omega)
theorem OM:bE prog 185 f185:=eZ func185
theorem QG (a b:Int):dH prog 185 ([]++([.agg [ii a,uu b]]++[])) (ii a):=by
 refine PC.le ?_;refine dA OM ?_;repeat' ((conv=>whnf);first|with_reducible apply aO|((with_reducible apply fk)<;>intro hc<;>try exact bQ)|refine aP ?_|fail)
 all_goals exact aL
theorem Du:bE prog 159 f159:=eZ func159
theorem FW (x:Fr):dH prog 159 ([]++([.agg x.c]++[])) (uu x.first):=by
 refine PC.le ?_;refine dA Du ?_;repeat' ((conv=>whnf);first|with_reducible apply aO|((with_reducible apply fk)<;>intro hc<;>try exact bQ)|refine aP ?_|fail)
 all_goals exact aL
theorem QH:bE prog 157 f157:=eZ func157
theorem Ug (w n:Int)(l:List Pl)(h:l.length≤8796093022208):dH prog 157 [ii w,.agg [uu n,iX l]] (bl (BI w ⟨n,l⟩)):=by
 refine PC.le ?_;refine dA QH ?_;repeat' ((conv=>whnf);first|with_reducible apply aO|((with_reducible apply fk)<;>intro hc<;>try exact bQ)|(apply dV;refine⟨_,_,fZ _ (by omega),?_⟩)|(apply dV;refine⟨_,_,FX _ (by omega),?_⟩)|(apply aX;refine⟨_,Dr _ _ _,?_⟩)|(apply aX;refine⟨_,uj _ _ _,?_⟩)|(apply aX;refine⟨_,IV _ _ _ _ qO fun x _=>QE x.node x.aM,?_⟩)|(apply aX;refine⟨_,FV _ _ _ _ (·.node) fun x _=>QG _ _,?_⟩)|refine aP ?_|fail)
 all_goals
  repeat' first|apply And.intro|exact aL|fail
  all_goals try (conv=>whnf)
  simp_all only[BI,←Fg,Bool.and_true,Bool.and_false,Bool.true_and,Bool.false_and,List.length_map]
theorem Dv:bE prog 156 f156:=eZ func156
theorem FY (w:Int)(x:Fr)(h:x.ak.length≤8796093022208):dH prog 156 ([]++([.agg x.c]++[.bT [ii w] 0])) (bl (BI w x)):=by
 refine PC.le ?_;refine dA Dv ?_;repeat' ((conv=>whnf);first|with_reducible apply aO|((with_reducible apply fk)<;>intro hc<;>try exact bQ)|(apply aX;refine⟨_,Ug _ _ _ h,?_⟩)|refine aP ?_|fail)
 all_goals exact aL
theorem FZ:bE prog 122 f122:=eZ func122
theorem IZ (w:Int)(l:List Fr)(h:∀x∈l,x.ak.length≤8796093022208):dH prog 122 [ii w,gH l] (bl (iO w l)):=by
 refine PC.le ?_;refine dA FZ ?_;cases l with
 | nil=>
   repeat' ((conv=>whnf);first|with_reducible apply aO|((with_reducible apply fk)<;>intro hc<;>try exact bQ)|(apply aX;refine⟨_,uj _ _ _,?_⟩)|refine aP ?_|fail)
   all_goals
    repeat' first|apply And.intro|exact aL|fail
    all_goals try (conv=>whnf)
    all_goals simp[iO,dO]
 | cons x r=>
   repeat' ((conv=>whnf);first|with_reducible apply aO|((with_reducible apply fk)<;>intro hc<;>try exact bQ)|(apply aX;refine⟨_,uj _ _ _,?_⟩)|(apply aX;refine⟨_,LG _ _ _ _ _ fun x hx=>FY w x (h x hx),?_⟩)|(apply aX;refine⟨_,IY _ _ _ _ (·.first) fun x _=>FW x,?_⟩)|((refine⟨_,rfl,?_⟩))|refine aP ?_|fail)
   all_goals
    repeat' first|apply And.intro|exact aL|fail
    all_goals try (conv=>whnf)
    simp_all only[iO,pQ,List.length_map,Bool.true_and,Bool.false_and,Bool.and_true]
theorem Dw:bE prog 68 f68:=eZ func68
theorem F3 (l:Lg)(h:l.ok):dH prog 68 [.agg l.c] (bl (jO l)):=by
 refine PC.le ?_;refine dA Dw ?_;repeat' ((conv=>whnf);first|with_reducible apply aO|((with_reducible apply fk)<;>intro hc<;>try exact bQ)|(apply aX;refine⟨_,uj _ _ _,?_⟩)|(apply aX;refine⟨_,Dr _ _ _,?_⟩)|(apply aX;refine⟨_,IZ _ _ h,?_⟩)|refine aP ?_|fail)
 all_goals
  repeat' first|apply And.intro|exact aL|fail
  all_goals try (conv=>whnf)
  try (simp only[jO, *,Bool.true_and,Bool.false_and];done)
 have hq:0≤l.closed∧l.closed≤1:=by simpa[dO] using hc
 simp only[jO, *,Bool.true_and];rw[lU hq.1 (by omega),lU (by omega) (by omega)]
theorem Ph:bE prog 149 f149:=eZ func149
theorem QZ (p x:Pl):dH prog 149 ([]++([.agg x.c]++[.bT p.c 0])) (bl (x.node==p.node&&x.aM != p.aM)):=by
 refine PC.le ?_;refine dA Ph ?_;repeat' ((conv=>whnf);first|with_reducible apply aO|((with_reducible apply fk)<;>intro hc<;>try exact bQ)|refine aP ?_|fail)
 all_goals
  repeat' first|apply And.intro|exact aL|fail
  all_goals try (conv=>whnf)
  all_goals simp_all [bne]
theorem Q0:bE prog 100 f100:=eZ func100
theorem I9 (p:Pl)(l:List Pl):dH prog 100 [.agg p.c,iX l] (bl (Fj p l)):=by
 refine PC.le ?_;refine dA Q0 ?_;repeat' ((conv=>whnf);first|with_reducible apply aO|((with_reducible apply fk)<;>intro hc<;>try exact bQ)|(apply aX;refine⟨_,dF _ _ _ _ _ fun x _=>QZ p x,?_⟩)|refine aP ?_|fail)
 all_goals exact aL
theorem Pj:bE prog 103 f103:=eZ func103
theorem Q5 (to from_ x:Pl):dH prog 103 ([]++([.agg x.c]++[.bT to.c 0,.bT from_.c 0])) (bl (x.node==to.node&&x != from_)):=by
 refine PC.le ?_;refine dA Pj ?_;repeat' ((conv=>whnf);first|with_reducible apply aO|((with_reducible apply fk)<;>intro hc<;>try exact bQ)|refine aP ?_|fail)
 all_goals
  repeat' first|apply And.intro|exact aL|fail
  all_goals try (conv=>whnf)
  all_goals simp_all [bne,←Pl.beq,Bool.not_and]
theorem L6:bE prog 101 f101:=eZ func101
theorem Ga (l:Lg)(h:l.ok):dH prog 101 [.agg l.c] (bl (gJ l)):=by
 refine PC.le ?_;refine dA L6 ?_;repeat' ((conv=>whnf);first|with_reducible apply aO|((with_reducible apply fk)<;>intro hc<;>try exact bQ)|(apply aX;refine⟨_,F3 _ h,?_⟩)|refine aP ?_|fail)
 all_goals
  repeat' first|apply And.intro|exact aL|fail
  all_goals try (conv=>whnf)
  all_goals simp_all [gJ]
theorem Q6:bE prog 148 f148:=eZ func148
theorem Jj (l:Lg)(from_:Pl)(behind:Int)(h:l.ok)(hf:fB l.au)(hb0:0≤behind):Kw prog 148 [.bT l.c 0,.bT [uu behind] 0,.bT from_.c 0] ((dQ l from_ behind).map fun n=>[uu n]):=by
 refine Hf zy (xu mixed zy) Q6 rfl rfl (fun P0=>?_);repeat' ((conv=>whnf);first|with_reducible apply aO|((with_reducible apply fk)<;>intro hc<;>try exact bQ)|(apply aX;refine⟨_,Ga l h,?_⟩)|refine aP ?_|fail)
 ·have:dQ l from_ behind=[]:=by unfold dQ;rw[if_neg (by simp_all)]
  rw[this];all_goals exact aL
 ·have:dQ l from_ behind=[]:=by unfold dQ;rw[if_neg (by simp_all)]
  rw[this];all_goals exact aL
 rename_i hcl;have hcl:gJ l=true:=by simpa using hcl
 have hbl:behind<l.last:=by simpa using hc
 have hlast:l.last≤8:=by
  unfold gJ at hcl;simp only[Bool.and_eq_true,beq_iff_eq] at hcl;have h8:=hcl.1;unfold jO at h8;simp only[Bool.and_eq_true,l9] at h8;have:=h8.2.2.2.2.2;omega
 have hL:dQ l from_ behind=cO l from_ behind 0:=by unfold dQ;rw[if_pos (by simp[hcl,hbl])]
 rw[hL];refine⟨{k:Nat // behind+(k:Int)≤l.last},fun⟨k,_⟩=>⟨[(0,.pv (.fn (.yield P0) [] [])),(1,.pv (.bT l.c 0)),(2,.pv (.bT [uu behind] 0)),(3,.pv (.bT from_.c 0)),(5,.pv (uu (behind+1+(k:Int))))],1000000000,[(999,.tr (prog,P0) 0 ((cO l from_ behind k).map fun n=>[uu n]) (some false))]⟩,fun⟨k,_⟩=>(l.last-behind).toNat-k,⟨⟨0,by simp;omega⟩,aA ?_⟩,?_⟩
 ·repeat' first|apply And.intro|exact aL|fail
  all_goals try (conv=>whnf)
  rw[lU (by omega) (by omega)];omega
 rintro⟨k,hk⟩
 repeat' ((conv=>whnf);first|with_reducible apply aO|((with_reducible apply fk)<;>intro hc<;>try exact bQ)|refine aP ?_|fail)
 ·have hle:behind+1+(k:Int)≤l.last:=by simpa using hc
  by_cases hp:((setOf l.au l.w (behind+1+(k:Int))).any fun y=>y==(⟨from_.node,from_.aM⟩:Pl))=true
  ·have hs:=j5 l from_ behind k hle;rw[if_pos hp] at hs;rw[hs];repeat' ((conv=>whnf);first|with_reducible apply aO|((with_reducible apply fk)<;>intro hc<;>try exact bQ)|(apply aX;refine⟨_,vo _ _ _ hf (by omega),?_⟩)|(apply aX;refine⟨_,dW _ _ _,?_⟩)|((refine⟨_,_,rfl,mO _,?_⟩))|refine aP ?_|fail)
   refine⟨trivial,⟨k+1,by omega⟩,dec_lt (by omega),aA ?_⟩;repeat' first|apply And.intro|exact aL|fail
   all_goals try (conv=>whnf)
   all_goals (rw[lU (by omega) (by omega)];omega)
  have hp:((setOf l.au l.w (behind+1+(k:Int))).any fun y=>y==(⟨from_.node,from_.aM⟩:Pl))=false:=Bool.eq_false_iff.2 hp;have hs:=j5 l from_ behind k hle;rw[if_neg (by rw[hp];simp)] at hs;rw[hs];repeat' ((conv=>whnf);first|with_reducible apply aO|((with_reducible apply fk)<;>intro hc<;>try exact bQ)|(apply aX;refine⟨_,vo _ _ _ hf (by omega),?_⟩)|(apply aX;refine⟨_,dW _ _ _,?_⟩)|refine aP ?_|fail)
  refine⟨⟨k+1,by omega⟩,dec_lt (by omega),aA ?_⟩;repeat' first|apply And.intro|exact aL|fail
  all_goals try (conv=>whnf)
  all_goals (rw[lU (by omega) (by omega)];omega)
 rw[gW l from_ behind k (by simpa using hc)];all_goals exact aL
theorem Uv:bE prog 97 f97:=eZ func97
theorem Pk (l:Lg)(from_:Pl)(behind:Int):dH prog 97 [.agg l.c,.agg from_.c,uu behind] (.fn (.func 148) [] [.bT l.c 0,.bT [uu behind] 0,.bT from_.c 0]):=by
 refine PC.le ?_;refine dA Uv ?_;repeat' ((conv=>whnf);first|with_reducible apply aO|((with_reducible apply fk)<;>intro hc<;>try exact bQ)|refine aP ?_|fail)
 all_goals exact aL
theorem Az:bE prog 147 f147:=eZ func147
theorem DV (f:FuncId)(aT:List PV)(xs:List Int)(h:Kw prog f aT (xs.map fun n=>[uu n]))(hl:xs.length≤1000000):dH prog 147 [bK,.fn (.func f) [] aT] (xD xs):=by
 refine PC.le ?_;refine dA Az ?_;repeat' ((conv=>whnf);first|with_reducible apply aO|((with_reducible apply fk)<;>intro hc<;>try exact bQ)|refine aP ?_|fail)
 refine⟨f,aT,_,h,Unit,fun _ _=>True,fun k _=>match k with
  |0=>⟨[(0,.pv bK),(1,.pv (.fn (.func f) [] aT)),(2,.ptr 501 0),(4,.pv bK),(6,.pv (.fn (.func f) [] aT))],1000000000,[(501,.var [.pv bK])]⟩
  |k+1=>⟨[(0,.pv bK),(1,.pv (.fn (.func f) [] aT)),(2,.ptr 501 0),(4,.pv bK),(6,.pv (.fn (.func f) [] aT))],1000000000,[(501,.var [.aG 1502 0]),(1502,.arr 22 0 1 ((xs.take (k+1)).map Iq))]⟩,⟨(),aA ?_⟩,fun _=>rfl,fun k _=>by cases k<;>rfl,?_,?_⟩
 ·all_goals exact aL
 ·intro k x _ hx;have hk:k<xs.length:=by simpa using (List.getElem?_eq_some_iff.1 hx).1
  have hx:x=[uu xs[k]]:=by
   have:=(List.getElem?_eq_some_iff.1 hx).2;simpa using this.symm
  subst hx;cases k with
  | zero=>
    (conv=>whnf)
    intro _;repeat' ((conv=>whnf);first|with_reducible apply aO|((with_reducible apply fk)<;>intro hc<;>try exact bQ)|refine aP ?_|fail)
    refine⟨(),trivial,aA ?_⟩;repeat' first|apply And.intro|exact aL|fail
    all_goals try (conv=>whnf)
    refine eu ?_;cases xs with
    |nil=>simp at hk
    |cons x r=>rfl
  | succ k=>
    (conv=>whnf)
    intro _;repeat' ((conv=>whnf);first|with_reducible apply aO|((with_reducible apply fk)<;>intro hc<;>try exact bQ)|(((with_reducible apply And.intro);focus (simp only[jg,List.length_take,tF,uX];omega)))|refine aP ?_|fail)
    refine⟨(),trivial,aA ?_⟩;repeat' first|apply And.intro|exact aL|fail
    all_goals try (conv=>whnf)
    refine eu ?_;rw[List.take_succ_eq_append_getElem hk,List.map_append];rfl
 intro _ _;rw[List.length_map];cases xs with
 | nil=>
   repeat' ((conv=>whnf);first|with_reducible apply aO|((with_reducible apply fk)<;>intro hc<;>try exact bQ)|refine aP ?_|fail)
   all_goals exact aL
 | cons x r=>
   repeat' ((conv=>whnf);first|with_reducible apply aO|((with_reducible apply fk)<;>intro hc<;>try exact bQ)|refine aP ?_|fail)
   repeat' first|apply And.intro|exact aL|fail
   all_goals try (conv=>whnf)
   rw[List.take_length];exact bH _
theorem Gp:bE prog 96 f96:=eZ func96
theorem Jk (f:FuncId)(aT:List PV)(xs:List Int)(h:Kw prog f aT (xs.map fun n=>[uu n]))(hl:xs.length≤1000000):dH prog 96 [.fn (.func f) [] aT] (xD xs):=by
 refine PC.le ?_;refine dA Gp ?_;repeat' ((conv=>whnf);first|with_reducible apply aO|((with_reducible apply fk)<;>intro hc<;>try exact bQ)|(apply aX;refine⟨_,DV _ _ _ h hl,?_⟩)|refine aP ?_|fail)
 all_goals exact aL
theorem Pm (l:Lg)(from_:Pl)(behind:Int)(hb:0≤behind):(dQ l from_ behind).length≤8:=by
 unfold dQ;split
 ·rename_i h;have hcl:gJ l=true:=by simp only[Bool.and_eq_true] at h;exact h.1
  have hlast:l.last≤8:=by
   unfold gJ at hcl;simp only[Bool.and_eq_true,beq_iff_eq] at hcl;have h8:=hcl.1;unfold jO at h8;simp only[Bool.and_eq_true,l9] at h8;have:=h8.2.2.2.2.2;omega
  unfold cO;refine Nat.le_trans (List.length_filter_le _ _) ?_;simp;omega
 simp
theorem Q7:bE prog 40 f40:=eZ func40
theorem Um (l:Lg)(from_:Pl)(h:l.ok)(hf:fB l.au):dH prog 40 [.agg l.c,.agg from_.c] (xD (dQ l from_ 0)):=by
 refine PC.le ?_;refine dA Q7 ?_;repeat' ((conv=>whnf);first|with_reducible apply aO|((with_reducible apply fk)<;>intro hc<;>try exact bQ)|(apply aX;refine⟨_,Pk _ _ _,?_⟩)|(apply aX;refine⟨_,Jk _ _ _ (Jj l from_ 0 h hf (by omega)) (by have:=Pm l from_ 0 (by omega);omega),?_⟩)|refine aP ?_|fail)
 all_goals exact aL
theorem zO:bE prog 110 f110:=eZ func110
theorem Cf (c:Cp)(x:Pl):dH prog 110 ([]++([.agg x.c]++[.bT c.c 0])) (bl (x==c.from_)):=by
 refine PC.le ?_;refine dA zO ?_;repeat' ((conv=>whnf);first|with_reducible apply aO|((with_reducible apply fk)<;>intro hc<;>try exact bQ)|refine aP ?_|fail)
 repeat' first|apply And.intro|exact aL|fail
 all_goals try (conv=>whnf)
 rw[←Pl.beq]
theorem Kc:bE prog 45 f45:=eZ func45
theorem Ja (l:Lg)(from_ to:Pl):dH prog 45 [.agg l.c,.agg from_.c,.agg to.c] (bl (oH l from_ to)):=by
 refine PC.le (jN Kc fun hb=>?_);have hb:l.au.length≤9223372036854775807:=by simp[Br,wV,Lg.c,gH] at hb;omega
 refine dA Kc ?_;repeat' ((conv=>whnf);first|with_reducible apply aO|((with_reducible apply fk)<;>intro hc<;>try exact bQ)|refine aP ?_|fail)
 refine⟨{k:Nat // k≤l.au.length∧∀j (hj:j<l.au.length),j<k→(l.au[j].ak.any (· == from_)&&jP l.au[j].ak from_ to)=false},fun⟨k,_⟩=>⟨[(3,.ptr 1003 0),(4,.ptr 1004 0),(5,.ptr 1005 0),(6,.pv (bl false)),(7,.pv (bl ((l.au.take k).any fun f=>f.ak.any (· == from_)))),(11,.pv (gH l.au)),(12,.pv (ii l.au.length)),(13,.pv (ii k))],1000000000,[(1003,.var [.pv (uu l.id),.pv (ii l.w),.pv (ii l.a),.pv (gH l.au),.pv (ii l.closed),.pv (uu l.last)]),(1004,.ny from_.c),(1005,.ny to.c)]⟩,fun⟨k,_⟩=>l.au.length-k,⟨⟨0,by simp⟩,JS [2001,2002] ?_⟩,?_⟩
 ·repeat' first|apply And.intro|exact aL|fail
  all_goals try (conv=>whnf)
  all_goals simp
 rintro⟨k,hk,hn⟩
 repeat' ((conv=>whnf);first|with_reducible apply aO|((with_reducible apply fk)<;>intro hc<;>try exact bQ)|refine aP ?_|fail)
 ·have hlt:k<l.au.length:=by simpa using hc
  refine⟨_,eD _ _ _ hlt,?_⟩;repeat' ((conv=>whnf);first|with_reducible apply aO|((with_reducible apply fk)<;>intro hc<;>try exact bQ)|(apply aX;refine⟨_,dW _ _ _,?_⟩)|(apply aX;refine⟨_,dF _ _ _ _ _ fun x _=>Q5 to from_ x,?_⟩)|refine aP ?_|fail)
  ·have hq:(l.au[k].ak.any (· == from_))=false:=by simpa using hc
   repeat' ((conv=>whnf);first|with_reducible apply aO|((with_reducible apply fk)<;>intro hc<;>try exact bQ)|refine aP ?_|fail)
   refine⟨⟨k+1,hlt,eX hn fun _=>by rw[hq];rfl⟩,dec_lt hlt,aA ?_⟩;repeat' first|apply And.intro|exact aL|fail
   all_goals try (conv=>whnf)
   ·rw[any_take_succ _ _ _ hlt,hq,Bool.or_false]
   exact bI (by omega) (by omega)
  ·repeat' ((conv=>whnf);first|with_reducible apply aO|((with_reducible apply fk)<;>intro hc<;>try exact bQ)|refine aP ?_|fail)
   repeat' first|apply And.intro|exact aL|fail
   all_goals try (conv=>whnf)
   rename_i hq;exact (Fp k hlt (by simpa using hq) hc).symm
  have hq:jP l.au[k].ak from_ to=false:=hc;repeat' ((conv=>whnf);first|with_reducible apply aO|((with_reducible apply fk)<;>intro hc<;>try exact bQ)|refine aP ?_|fail)
  refine⟨⟨k+1,hlt,eX hn fun _=>by rw[hq];simp⟩,dec_lt hlt,aA ?_⟩;rename_i hp;have hp:(l.au[k].ak.any (· == from_))=true:=by simpa using hp
  repeat' first|apply And.intro|exact aL|fail
  all_goals try (conv=>whnf)
  ·rw[any_take_succ _ _ _ hlt,hp,Bool.or_true]
  exact bI (by omega) (by omega)
 all_goals
  rename_i hke;have:k=l.au.length:=by simp at hke;omega
  subst this;rw[Lj fun j hj=>hn j hj hj];rw[List.take_length] at *;repeat' first|apply And.intro|exact aL|fail
  all_goals try (conv=>whnf)
  rw[hc];first|rfl|(rw[Bool.true_and,bne,Pl.beq])|simp
def kept (p:Pl→Bool)(l:List Pl)(j:Nat):List Pl:=(l.take j).filter fun x=>!p x
def F6 (p:Pl→Bool)(l:List Pl)(jm:Nat×List Pl):Prop:=jm.1≤l.length∧jm.2.length=l.length∧jm.2.take (kept p l jm.1).length=kept p l jm.1∧jm.2.drop jm.1=l.drop jm.1
theorem Dz (p:Pl→Bool)(l:List Pl)(j:Nat)(h:j≤l.length):(kept p l j).length≤j:=by
 refine Nat.le_trans (List.length_filter_le _ _) ?_;simp;omega
theorem jD (p:Pl→Bool)(l:List Pl)(j:Nat)(h:j<l.length):kept p l (j+1)=if p l[j] then kept p l j else kept p l j++[l[j]]:=by
 unfold kept;rw[List.take_succ_eq_append_getElem h,List.filter_append];cases hp:p l[j]<;>simp[hp]
theorem F7 {p:Pl→Bool}{l:List Pl}{j:Nat}{m:List Pl}(h:F6 p l (j,m))(hj:j<l.length):∃hm:j<m.length,m[j]=l[j]:=by
 obtain⟨_,h2,_,h4⟩:=h;simp only at h2 h4;have hm:j<m.length:=by omega
 refine⟨hm,?_⟩;have:=congrArg (fun x=>x[0]?) h4;simpa[hm,hj] using this
theorem BU {p:Pl→Bool}{l:List Pl}{j:Nat}{m:List Pl}(h:F6 p l (j,m))(hj:j<l.length)(hp:p l[j]=true):F6 p l (j+1,m):=by
 obtain⟨h1,h2,h3,h4⟩:=h;refine⟨hj,h2,?_,?_⟩
 ·simp only[jD p l j hj,hp,if_true];exact h3
 simp only at h4 ⊢;have:=congrArg (fun x=>x.drop 1) h4;simpa using this
theorem BV {p:Pl→Bool}{l:List Pl}{j:Nat}{m:List Pl}(h:F6 p l (j,m))(hj:j<l.length)(hp:p l[j]=false):F6 p l (j+1,m.set (kept p l j).length l[j]):=by
 have hk:=Dz p l j (Nat.le_of_lt hj);obtain⟨h1,h2,h3,h4⟩:=h;simp only at h2 h3 h4;refine⟨hj,by simpa using h2,?_,?_⟩
 ·simp only[jD p l j hj,hp,Bool.false_eq_true,if_false,JL,List.length_singleton];rw[List.take_succ_eq_append_getElem (by simp;omega),List.take_set_of_le (Nat.le_refl _),h3];simp
 simp only;have:=congrArg (fun x=>x.drop 1) h4;rw[List.drop_set_of_lt (by omega)];simpa using this
theorem zA {p:Pl→Bool}{l:List Pl}(k:Nat)(hk:k<l.length)(h:∀j (hj:j<l.length),j<k→p l[j]=false)(hp:p l[k]=true):F6 p l (k+1,l)∧(kept p l (k+1)).length=k:=by
 have h1:kept p l k=l.take k:=by
  unfold kept;rw[List.filter_eq_self];intro x hx;obtain⟨j,hj,rfl⟩:=List.getElem_of_mem hx;rw[List.length_take] at hj;rw[List.getElem_take,h j (by omega) (by omega)];rfl
 have h2:kept p l (k+1)=l.take k:=by rw[jD p l k hk,hp,if_pos rfl,h1]
 have h3:(l.take k).length=k:=by simp;omega
 exact⟨⟨hk,rfl,by simp only[h2,h3],rfl⟩,by rw[h2,h3]⟩
theorem om:bE prog 109 f109:=eZ func109
theorem Q8 (c:Cp)(l:List Pl)(f:FuncId)(p:Pl→Bool)(hp:∀x∈l,dH prog f ([]++([.agg x.c]++[.bT c.c 0])) (bl (p x)))(h0:∀x∈l,p x=false)(hl:l.length≤8796093022208) :
  gY prog 109 [.aG 1 0,.fn (.func f) [] [.ptr 2 0]] [(1,.arr 27 0 2 (l.map Pl.c)),(2,.var (fA c (.aG 3 0) (.aG 4 0) (.aG 5 0))),(3,.bX 0 2 (c.l.au.map Fr.c)),(4,.arr 27 0 2 (c.none.map Pl.c)),(5,.arr 5 0 1 (c.body.map aB))] (.aG 1 0) [(1,.arr 27 0 2 (l.map Pl.c)),(2,.var (fA c (.aG 3 0) (.aG 4 0) (.aG 5 0))),(3,.bX 0 2 (c.l.au.map Fr.c)),(4,.arr 27 0 2 (c.none.map Pl.c)),(5,.arr 5 0 1 (c.body.map aB))]:=by
 have hx:BH p l = -1:=mY p h0;refine jY om ?_;repeat' ((conv=>whnf);first|with_reducible apply aO|((with_reducible apply fk)<;>intro hc<;>try exact bQ)|(apply aX;refine⟨_,dK _ _ _ _ p hp,?_⟩)|refine aP ?_|fail)
 ·refine⟨_,_,⟨rfl,rfl⟩,?_⟩;all_goals exact aL
 rw[hx] at hc;simp at hc
theorem Po (c:Cp)(l:List Pl)(f:FuncId)(p:Pl→Bool)(hp:∀x∈l,dH prog f ([]++([.agg x.c]++[.bT c.c 0])) (bl (p x)))(h0:¬∀x∈l,p x=false)(hl:l.length≤8796093022208) :
  gY prog 109 [.aG 1 0,.fn (.func f) [] [.ptr 2 0]] [(1,.arr 27 0 2 (l.map Pl.c)),(2,.var (fA c (.aG 3 0) (.aG 4 0) (.aG 5 0))),(3,.bX 0 2 (c.l.au.map Fr.c)),(4,.arr 27 0 2 (c.none.map Pl.c)),(5,.arr 5 0 1 (c.body.map aB))] (.sub 1 0 2 0 (l.filter fun x=>!p x).length) [(1,.arr 27 0 2 ((l.filter fun x=>!p x).map Pl.c++List.replicate (l.length-(l.filter fun x=>!p x).length) [ii 0,uu 0])),(2,.var (fA c (.aG 3 0) (.aG 4 0) (.aG 5 0))),(3,.bX 0 2 (c.l.au.map Fr.c)),(4,.arr 27 0 2 (c.none.map Pl.c)),(5,.arr 5 0 1 (c.body.map aB))]:=by
 obtain⟨ix,hix,hxe,hxp,ZX⟩:∃k,∃hk:k<l.length,BH p l=(k:Nat)∧p l[k]=true∧∀j (hj:j<l.length),j<k→p l[j]=false:=by
  rcases tN p l with ⟨_,h⟩|⟨k,hk,h1,h2,h3⟩
  ·exact absurd h h0
  exact⟨k,hk,h1,h2,h3⟩
 obtain⟨hS,hK⟩:=zA ix hix ZX hxp;refine jY om ?_;repeat' ((conv=>whnf);first|with_reducible apply aO|((with_reducible apply fk)<;>intro hc<;>try exact bQ)|(apply aX;refine⟨_,dK _ _ _ _ p hp,?_⟩)|refine aP ?_|fail)
 ·rw[hxe] at hc;simp at hc
 refine⟨{jm:Nat×List Pl // F6 p l jm},fun⟨(j,m),_⟩=>⟨[(0,.aG 1 0),(1,.fn (.func f) [] [.ptr 2 0]),(5,.pv (ii (kept p l j).length)),(6,.pv (ii j))],1000000000,[(1,.arr 27 0 2 (m.map Pl.c)),(2,.var (fA c (.aG 3 0) (.aG 4 0) (.aG 5 0))),(3,.bX 0 2 (c.l.au.map Fr.c)),(4,.arr 27 0 2 (c.none.map Pl.c)),(5,.arr 5 0 1 (c.body.map aB))]⟩,fun⟨(j,_),_⟩=>l.length-j,⟨⟨(ix+1,l),hS⟩,aA ?_⟩,?_⟩
 ·repeat' first|apply And.intro|exact aL|fail
  all_goals try (conv=>whnf)
  ·rw[hxe,hK]
  ·rw[hxe];exact bI (by omega) (by omega)
 rintro⟨⟨j,m⟩,hj⟩
 obtain⟨hj1,hj2,Xx,ZY⟩:=id hj;simp only at hj1 hj2 Xx ZY;have hkl:=Dz p l j hj1;repeat' ((conv=>whnf);first|with_reducible apply aO|((with_reducible apply fk)<;>intro hc<;>try exact bQ)|refine aP ?_|fail)
 ·have hlt:j<m.length:=by simpa using hc
  have hlt2:j<l.length:=by omega
  obtain⟨_,he⟩:=F7 hj hlt2;have Z4:dH prog f ([]++([.agg (m[j]).c]++[.bT c.c 0])) (bl (p m[j])):=hp _ (by rw[he];exact List.getElem_mem hlt2);have hi:(kept p l j).length<m.length:=by omega
  repeat' ((conv=>whnf);first|with_reducible apply aO|((with_reducible apply fk)<;>intro hc<;>try exact bQ)|(refine UJ ?_)|((refine⟨_,eD _ _ _ hlt,?_⟩))|((refine⟨_,eD _ _ _ hi,?_⟩))|(apply aX;refine⟨_,Z4,?_⟩)|refine aP ?_|fail)
  ·have Nl:p l[j]=false:=by rw[←he];simpa using hc
   refine⟨⟨(j+1,m.set (kept p l j).length l[j]),BV hj hlt2 Nl⟩,dec_lt hlt2,aA ?_⟩;have hks:(kept p l (j+1)).length=(kept p l j).length+1:=by rw[jD p l j hlt2,Nl];simp
   repeat' first|apply And.intro|exact aL|fail
   all_goals try (conv=>whnf)
   ·refine eu ?_;rw[←he,List.map_set];rfl
   ·rw[bI (by omega) (by omega),hks];omega
   exact bI (by omega) (by omega)
  have hpt:p l[j]=true:=by rw[←he];simpa using hc
  refine⟨⟨(j+1,m),BU hj hlt2 hpt⟩,dec_lt hlt2,aA ?_⟩;have hks:(kept p l (j+1)).length=(kept p l j).length:=by rw[jD p l j hlt2,hpt];simp
  repeat' first|apply And.intro|exact aL|fail
  all_goals try (conv=>whnf)
  ·rw[hks]
  exact bI (by omega) (by omega)
 have hjl:j=l.length:=by simp at hc;omega
 subst hjl;have Xy:kept p l l.length=l.filter fun x=>!p x:=by unfold kept;rw[List.take_length]
 repeat' ((conv=>whnf);first|with_reducible apply aO|((with_reducible apply fk)<;>intro hc<;>try exact bQ)|(((with_reducible apply And.intro);focus (simp only[jg,JL,List.length_take,List.length_drop,List.length_replicate];omega)))|refine aP ?_|fail)
 refine⟨_,_,⟨rfl,rfl⟩,?_⟩;repeat' first|apply And.intro|exact aL|fail
 all_goals try (conv=>whnf)
 ·refine eu ?_;rw[←Xy,Int.toNat_natCast,List.length_map,←List.map_take,Xx,List.drop_eq_nil_of_le (by simp),List.append_nil,hj2]
 rw[Xy];rfl
theorem Q9 (c:Cp)(l:List Pl)(f:FuncId)(p:Pl→Bool)(hp:∀x∈l,dH prog f ([]++([.agg x.c]++[.bT c.c 0])) (bl (p x)))(h0:¬∀x∈l,p x=false)(hl:l.length≤8796093022208) :
  gY prog 109 [.aG 1 0,.fn (.func f) [] [.ptr 2 0]] [(1,.arr 27 0 2 (l.map Pl.c)),(2,.var (fA c (.aG 3 0) (.aG 4 0) (.aG 5 0))),(3,.bX 0 2 (c.l.au.map Fr.c)),(4,.arr 27 0 2 (c.none.map Pl.c)),(5,.arr 5 0 1 (c.body.map aB))] (.aG 1 1) [(1,.arr 27 1 2 ((l.filter fun x=>!p x).map Pl.c)),(2,.var (fA c (.aG 3 0) (.aG 4 0) (.aG 5 0))),(3,.bX 0 2 (c.l.au.map Fr.c)),(4,.arr 27 0 2 (c.none.map Pl.c)),(5,.arr 5 0 1 (c.body.map aB))]:=by
 have h:=JV (Po c l f p hp h0 hl) (by simp);rw[List.take_append_of_le_length (by simp),List.take_of_length_le (by simp)] at h;exact h
theorem Gq {l:List Fr}(h:fB l)(w n:Int):(setOf l w n).length≤8796093022208:=by
 unfold setOf;split
 ·simp
 rename_i f hf;have:=(qp h hf).1.2.2;split
 ·simp only[fD,jg,List.length_range];omega
 simp
theorem zP {c:Cp}(h0:∀x∈setOf c.l.au c.l.w c.n,(x==c.from_)=false):others c=setOf c.l.au c.l.w c.n:=by
 unfold others;rw[List.filter_eq_self];intro x hx;rw[h0 x hx];rfl
theorem Cg:bE prog 53 f53:=eZ func53
theorem vD (c:Cp)(hf:fB c.l.au)(hn:0≤c.n∧c.n≤18446744073709551615):gY prog 53 [.agg (fA c (.aG 1 0) (.aG 2 0) (.aG 3 0))] [(1,.bX 0 2 (c.l.au.map Fr.c)),(2,.arr 27 0 2 (c.none.map Pl.c)),(3,.arr 5 0 1 (c.body.map aB))] (.aG 1001 0) [(1,.bX 0 2 (c.l.au.map Fr.c)),(2,.arr 27 0 2 (c.none.map Pl.c)),(3,.arr 5 0 1 (c.body.map aB)),(1001,.arr 27 0 2 ((others c).map Pl.c))]:=by
 have hl:=Gq hf c.l.w c.n;refine jY Cg ?_;by_cases h0:∀x∈setOf c.l.au c.l.w c.n,(x==c.from_)=false
 ·repeat' ((conv=>whnf);first|with_reducible apply aO|((with_reducible apply fk)<;>intro hc<;>try exact bQ)|(apply aX;refine⟨_,vo _ _ _ hf hn,?_⟩)|(apply dV;refine⟨_,_,fZ _ (by omega),?_⟩)|(apply dV;refine⟨_,_,Q8 c _ _ (fun x=>x==c.from_) (fun x _=>Cf c x) h0 hl,?_⟩)|refine aP ?_|fail)
  refine⟨_,_,⟨rfl,rfl⟩,?_⟩;repeat' first|apply And.intro|exact aL|fail
  all_goals try (conv=>whnf)
  rw[zP h0];exact bH _
 repeat' ((conv=>whnf);first|with_reducible apply aO|((with_reducible apply fk)<;>intro hc<;>try exact bQ)|(apply aX;refine⟨_,vo _ _ _ hf hn,?_⟩)|(apply dV;refine⟨_,_,fZ _ (by omega),?_⟩)|(apply dV;refine⟨_,_,Q9 c _ _ (fun x=>x==c.from_) (fun x _=>Cf c x) h0 hl,?_⟩)|refine aP ?_|fail)
 refine⟨_,_,⟨rfl,rfl⟩,?_⟩;all_goals exact aL
theorem Ke:bE prog 111 f111:=eZ func111
theorem Pp (c:Cp)(x:Pl):dH prog 111 ([]++([.agg x.c]++[.bT [.bT c.c 0] 0])) (bl (c.none.any (· == x))):=by
 refine PC.le ?_;refine dA Ke ?_;repeat' ((conv=>whnf);first|with_reducible apply aO|((with_reducible apply fk)<;>intro hc<;>try exact bQ)|(apply aX;refine⟨_,dW _ _ _,?_⟩)|refine aP ?_|fail)
 all_goals exact aL
theorem Kg:bE prog 112 f112:=eZ func112
theorem Pq (c:Cp)(x:Pl):dH prog 112 ([]++([.agg x.c]++[.bT [.fn (.func 111) [] [.bT [.bT c.c 0] 0]] 0])) (bl (!c.none.any (· == x))):=by
 refine PC.le ?_;refine dA Kg ?_;repeat' ((conv=>whnf);first|with_reducible apply aO|((with_reducible apply fk)<;>intro hc<;>try exact bQ)|(apply aX;refine⟨_,Pp c x,?_⟩)|refine aP ?_|fail)
 all_goals exact aL
theorem uE:bE prog 55 f55:=eZ func55
theorem DW {α:Type}(f:α→List PV)(l:List α)(h:∀x,(f x).all Mf=true):FD (l.map f)=true:=by
 induction l with
 |nil=>rfl
 |cons x l ih=>simp only[XM,FD,h x,ih,Bool.and_self]
theorem vE (l:List Pl):FD (l.map Pl.c)=true:=DW _ _ fun _=>rfl
theorem r9 (l:List UInt8):FD (l.map aB)=true:=DW _ _ fun _=>rfl
theorem Uw (c:Cp)(now:Int)(h2:c.phase=2)(hb:c.body.length≤140737488355328) :
  gY prog 55 [.ptr 1 0,.pv (uu now)] [(2,.bX 0 2 (c.l.au.map Fr.c)),(1,.var (fA c (.aG 2 0) (.aG 3 0) (.aG 4 0))),(3,.arr 27 0 2 (c.none.map Pl.c)),(4,.arr 5 0 1 (c.body.map aB))] (.aG 1001 0)
   [(2,.bX 0 2 (c.l.au.map Fr.c)),(1,.var (fA { c with since:=now } (.aG 2 0) (.aG 3 0) (.aG 4 0))),(3,.arr 27 0 2 (c.none.map Pl.c)),(4,.arr 5 0 1 (c.body.map aB)),(1001,.dL 93 0 10 [] [.pv (ii c.to.node),.pv (uu c.to.aM),.pv (ii 1),.pv (uu c.l.id),.pv (uu c.n),.pv (uu 0),.pv (uu c.l.last),.pv (ii 1),.aG 1002 0,.pv bK] []),(1002,.arr 5 0 1 (c.body.map aB))]:=by
 have p2:(c.phase==2)=true:=by rw[h2];rfl
 clear h2;have hcl:=Lu (e:=5) 1 rfl (QA (qb c.body (by omega)) rfl) (by simp only[Mg,IU,r9,Bool.and_self]) rfl;refine Er Pf (xu mixed Pf) uE rfl ?_;repeat' ((conv=>whnf);first|with_reducible apply aO|((with_reducible apply fk)<;>intro hc<;>try exact cu)|(apply dV;refine⟨_,_,hcl,?_⟩)|refine aP ?_|fail)
 refine⟨_,_,⟨rfl,rfl⟩,?_⟩;all_goals exact aL
theorem Kh (c:Cp)(now:Int)(h2:c.phase=2)(hb:c.body.length≤140737488355328) :
  gY prog 55 [.ptr 1 0,.pv (uu now)] [(1,.var (fA c (.aG 2 0) (.aG 3 0) (.aG 4 0))),(2,.bR 48 0 2 1 27 2 (own (c.l.au.map Fr.c)) [] []),(3,.arr 27 0 2 (c.none.map Pl.c)),(4,.arr 5 0 1 (c.body.map aB))] (.aG 1001 0)
   [(1,.var (fA { c with since:=now } (.aG 2 0) (.aG 3 0) (.aG 4 0))),(2,.bR 48 0 2 1 27 2 (own (c.l.au.map Fr.c)) [] []),(3,.arr 27 0 2 (c.none.map Pl.c)),(4,.arr 5 0 1 (c.body.map aB)),(1001,.dL 93 0 10 [] [.pv (ii c.to.node),.pv (uu c.to.aM),.pv (ii 1),.pv (uu c.l.id),.pv (uu c.n),.pv (uu 0),.pv (uu c.l.last),.pv (ii 1),.aG 1002 0,.pv bK] []),(1002,.arr 5 0 1 (c.body.map aB))]:=by
 have h0:=Uw c now h2 hb;exact ng (lq 2 rfl (by rw[jJ,List.map_nil,List.append_nil]) h0 (by simp only[Mg,IU,IQ,IL,Mf,FD,r9,vE,fA,Bool.and_self]) rfl) (fun k=>iM 2 1 _ _ _ rfl k) (fun k=>iM 1 2 _ _ _ rfl k)
def Au (c:Cp)(p:Pl):List PV:=[ii p.node,uu p.aM,ii 3,uu c.l.id,uu c.n,uu 0,uu 0,ii 0,bK,bK]
def Si (c:Cp)(x y z:PV):List PV:=[uu c.l.id,ii c.l.w,ii c.l.a,x,ii c.l.closed,uu c.l.last,ii c.from_.node,uu c.from_.aM,ii c.to.node,uu c.to.aM,ii c.phase,uu c.n,y,z,uu c.born,uu c.since]
theorem xI (c:Cp)(y z:PV)(x:Pl):dH prog 111 ([]++([.agg [ii x.node,uu x.aM]]++[.bT [.bT (Si c y bK z) 0] 0])) (bl false):=by
 refine PC.le ?_;have h:=dW [] x.node x.aM;simp only[List.any_nil] at h;refine dA Ke ?_;repeat' ((conv=>whnf);first|with_reducible apply aO|((with_reducible apply fk)<;>intro hc<;>try exact cu)|(apply aX;refine⟨_,ai (h) ?_,?_⟩;exact aZ)|refine aP ?_|fail)
 all_goals exact aL
theorem DX (c:Cp)(l:List Pl):FD (l.map (Au c))=true:=DW _ _ fun _=>rfl
theorem Ux (c:Cp)(now:Int)(h2:c.phase≠2)(hall:((others c).all fun p=>c.none.any (· == p))=true)(hf:fB c.l.au)(hn:0≤c.n∧c.n≤18446744073709551615)(hs:(setOf c.l.au c.l.w c.n).length≤1000000) :
  gY prog 55 [.ptr 1 0,.pv (uu now)] [(2,.bX 0 2 (c.l.au.map Fr.c)),(1,.var (fA c (.aG 2 0) (.aG 3 0) (.aG 4 0))),(3,.arr 27 0 2 (c.none.map Pl.c)),(4,.arr 5 0 1 (c.body.map aB))] (.aG 1001 0)
   [(2,.bX 0 2 (c.l.au.map Fr.c)),(1,.var (fA { c with since:=now } (.aG 2 0) (.pv bK) (.aG 4 0))),(3,.arr 27 0 2 (c.none.map Pl.c)),(4,.arr 5 0 1 (c.body.map aB)),(1001,.arr 93 0 10 (((others c).filter fun p=>!(([]:List Pl)).any (· == p)).map (Au c)))]:=by
 have K3:(others c).length≤1000000:=Nat.le_trans (List.length_filter_le _ _) hs;have p2:(c.phase==2)=false:=by rw[beq_eq_false_iff_ne];exact h2
 have Ki:=dF (others c) 112 [] [.bT [.fn (.func 111) [] [.bT [.bT ({ c with since:=now }:Cp).c 0] 0]] 0] (fun x=>!c.none.any (· == x)) fun x _=>Pq { c with since:=now } x
 have ho:=vD { c with since:=now } hf hn;have hc':((others c).any fun x=>!c.none.any fun y=>y==x) = !true:=by rw[←hall,List.not_all_eq_any_not]
 rw[show ((others c).any fun x=>!c.none.any (· == x)) = !true from hc'] at Ki;clear h2 hall hc' hf hn hs;refine jY uE ?_;repeat' ((conv=>whnf);first|with_reducible apply aO|((with_reducible apply fk)<;>intro hc<;>try exact cu)|(apply dV;refine⟨_,_,ho,?_⟩)|(apply aX;refine⟨_,Ki,?_⟩)|refine aP ?_|fail)
 clear ho Ki p2;obtain⟨O,hO⟩:∃O,O=others c:=⟨_,rfl⟩;rw[show others ({ c with since:=now }:Cp)=others c from rfl];rw[←hO] at K3 ⊢;clear hO;refine⟨{x:Nat×Int×Int×Int // x.1≤O.length},fun⟨(k,a,b,q),_⟩=>⟨[(5,.ptr 1005 0),(7,.ptr 1007 0),(8,.aG 1008 0),(63,.aG 1063 0),(64,.pv (ii (O.length:Nat))),(65,.pv (ii k))],1000000000,[(2,.bX 0 2 (c.l.au.map Fr.c)),(1,.var (fA { c with since:=now } (.aG 2 0) (.pv bK) (.aG 4 0))),(3,.arr 27 0 2 (c.none.map Pl.c)),(4,.arr 5 0 1 (c.body.map aB)),(1002,.var [.ptr 1 0]),(1005,.var [.pv (ii a),.pv (uu b),.pv (ii q),.pv (uu c.l.id),.pv (uu c.n),.pv (uu 0),.pv (uu 0),.pv (ii 0),.pv bK,.pv bK]),(1007,.var [.fn (.func 111) [] [.ptr 1002 0]]),(1008,.arr 93 0 10 (((O.take k).filter fun p=>!(([]:List Pl)).any (· == p)).map (Au c))),(1063,.arr 27 0 2 (O.map Pl.c))]⟩,fun⟨(k,_),_⟩=>O.length-k,⟨⟨(0,0,0,0),by simp⟩,aA ?_⟩,?_⟩
 ·repeat' first|apply And.intro|exact aL|fail
  all_goals try (conv=>whnf)
  all_goals first
   |(rw[List.length_map];done)
   |trace_state
 rintro⟨⟨k,a,b,q⟩,hk⟩
 simp only at hk;dsimp only
 have hrl:((O.take k).filter fun p=>!(([]:List Pl)).any (· == p)).length≤1000000:=Nat.le_trans (List.length_filter_le _ _) (by rw[List.length_take];omega);by_cases hlt:k<O.length
 rotate_left
 ·have hke:k=O.length:=by omega
  subst hke;have d0:decide ((O.length:Int)<(O.length:Int))=false:=by simp
  rw[List.take_length];repeat' ((conv=>whnf);first|with_reducible apply aO|((with_reducible apply fk)<;>intro hc<;>try exact cu)|refine aP ?_|fail)
  refine⟨_,_,⟨rfl,rfl⟩,?_⟩;all_goals exact aL
 have d0:decide ((k:Int)<(O.length:Int))=true:=by simp only[l9];omega
 have eW:IntKind.i64.wrap ((k:Int)+1)=((k+1:Nat):Int):=by rw[bI (by omega) (by omega)];omega
 have hr:=eD Pl.c O k hlt;have hfs:=jE (fun p=>!(([]:List Pl)).any (· == p)) O k hlt;have fI:=xI ({ c with since:=now }:Cp) (gH c.l.au) (xC c.body) O[k];generalize O[k]=x at *;simp only[Pl.c] at hr fI;simp only[List.any_nil,Bool.not_false,↓reduceIte] at hfs;replace hfs:=Hd.mk hfs;repeat' ((conv=>whnf);first|with_reducible apply aO|((with_reducible apply fk)<;>intro hc<;>try exact cu)|((refine⟨_,hr,?_⟩))|(apply aX;refine⟨_,ai (fI) ?_,?_⟩;exact aZ)|(((with_reducible apply And.intro);focus (simp only[jg,tF,uX];omega)))|refine aP ?_|fail)
 refine⟨⟨(k+1,x.node,x.aM,3),hlt⟩,dec_lt hlt,aA ?_⟩;dsimp only
 simp only[List.any_nil,Bool.not_false] at hfs ⊢;rw[hfs.out,List.map_append];repeat' first|apply And.intro|exact aL|fail
 all_goals try (conv=>whnf)
 all_goals first
  |exact eW
  |(refine gU (bH _) ?_;(repeat' first|apply And.intro|exact aL|fail);(all_goals try (conv=>whnf)))
  |skip
theorem Ra (c:Cp)(now:Int)(h2:c.phase≠2)(hall:((others c).all fun p=>c.none.any (· == p))=true)(hf:fB c.l.au)(hn:0≤c.n∧c.n≤18446744073709551615)(hs:(setOf c.l.au c.l.w c.n).length≤1000000) :
  gY prog 55 [.ptr 1 0,.pv (uu now)] [(1,.var (fA c (.aG 2 0) (.aG 3 0) (.aG 4 0))),(2,.bR 48 0 2 1 27 2 (own (c.l.au.map Fr.c)) [] []),(3,.arr 27 0 2 (c.none.map Pl.c)),(4,.arr 5 0 1 (c.body.map aB))] (.aG 1001 0)
   [(1,.var (fA { c with since:=now } (.aG 2 0) (.pv bK) (.aG 4 0))),(2,.bR 48 0 2 1 27 2 (own (c.l.au.map Fr.c)) [] []),(3,.arr 27 0 2 (c.none.map Pl.c)),(4,.arr 5 0 1 (c.body.map aB)),(1001,.arr 93 0 10 (((others c).filter fun p=>!(([]:List Pl)).any (· == p)).map (Au c)))]:=by
 have h0:=Ux c now h2 hall hf hn hs;exact ng (lq 2 rfl (by rw[jJ,List.map_nil,List.append_nil]) h0 (by simp only[Mg,IU,IQ,IL,Mf,FD,r9,vE,DX,fA,Bool.and_self]) rfl) (fun k=>iM 2 1 _ _ _ rfl k) (fun k=>iM 1 2 _ _ _ rfl k)
theorem Uy (c:Cp)(now:Int)(h2:c.phase≠2)(hall:((others c).all fun p=>c.none.any (· == p))=false)(hf:fB c.l.au)(hn:0≤c.n∧c.n≤18446744073709551615)(hs:(setOf c.l.au c.l.w c.n).length≤1000000) :
  gY prog 55 [.ptr 1 0,.pv (uu now)] [(2,.bX 0 2 (c.l.au.map Fr.c)),(1,.var (fA c (.aG 2 0) (.aG 3 0) (.aG 4 0))),(3,.arr 27 0 2 (c.none.map Pl.c)),(4,.arr 5 0 1 (c.body.map aB))] (.aG 1001 0)
   [(2,.bX 0 2 (c.l.au.map Fr.c)),(1,.var (fA { c with since:=now } (.aG 2 0) (.aG 3 0) (.aG 4 0))),(3,.arr 27 0 2 (c.none.map Pl.c)),(4,.arr 5 0 1 (c.body.map aB)),(1001,.arr 93 0 10 (((others c).filter fun p=>!(c.none).any (· == p)).map (Au c)))]:=by
 have K3:(others c).length≤1000000:=Nat.le_trans (List.length_filter_le _ _) hs;have p2:(c.phase==2)=false:=by rw[beq_eq_false_iff_ne];exact h2
 have Ki:=dF (others c) 112 [] [.bT [.fn (.func 111) [] [.bT [.bT ({ c with since:=now }:Cp).c 0] 0]] 0] (fun x=>!c.none.any (· == x)) fun x _=>Pq { c with since:=now } x
 have ho:=vD { c with since:=now } hf hn;have hc':((others c).any fun x=>!c.none.any fun y=>y==x) = !false:=by rw[←hall,List.not_all_eq_any_not]
 rw[show ((others c).any fun x=>!c.none.any (· == x)) = !false from hc'] at Ki;clear h2 hall hc' hf hn hs;refine jY uE ?_;repeat' ((conv=>whnf);first|with_reducible apply aO|((with_reducible apply fk)<;>intro hc<;>try exact cu)|(apply dV;refine⟨_,_,ho,?_⟩)|(apply aX;refine⟨_,Ki,?_⟩)|refine aP ?_|fail)
 clear ho Ki p2;obtain⟨O,hO⟩:∃O,O=others c:=⟨_,rfl⟩;rw[show others ({ c with since:=now }:Cp)=others c from rfl];rw[←hO] at K3 ⊢;clear hO;refine⟨{x:Nat×Int×Int×Int // x.1≤O.length},fun⟨(k,a,b,q),_⟩=>⟨[(5,.ptr 1005 0),(7,.ptr 1007 0),(8,.aG 1008 0),(63,.aG 1063 0),(64,.pv (ii (O.length:Nat))),(65,.pv (ii k))],1000000000,[(2,.bX 0 2 (c.l.au.map Fr.c)),(1,.var (fA { c with since:=now } (.aG 2 0) (.aG 3 0) (.aG 4 0))),(3,.arr 27 0 2 (c.none.map Pl.c)),(4,.arr 5 0 1 (c.body.map aB)),(1002,.var [.ptr 1 0]),(1005,.var [.pv (ii a),.pv (uu b),.pv (ii q),.pv (uu c.l.id),.pv (uu c.n),.pv (uu 0),.pv (uu 0),.pv (ii 0),.pv bK,.pv bK]),(1007,.var [.fn (.func 111) [] [.ptr 1002 0]]),(1008,.arr 93 0 10 (((O.take k).filter fun p=>!(c.none).any (· == p)).map (Au c))),(1063,.arr 27 0 2 (O.map Pl.c))]⟩,fun⟨(k,_),_⟩=>O.length-k,⟨⟨(0,0,0,0),by simp⟩,aA ?_⟩,?_⟩
 ·repeat' first|apply And.intro|exact aL|fail
  all_goals try (conv=>whnf)
  all_goals first
   |(rw[List.length_map];done)
   |trace_state
 rintro⟨⟨k,a,b,q⟩,hk⟩
 simp only at hk;dsimp only
 have hrl:((O.take k).filter fun p=>!(c.none).any (· == p)).length≤1000000:=Nat.le_trans (List.length_filter_le _ _) (by rw[List.length_take];omega);by_cases hlt:k<O.length
 rotate_left
 ·have hke:k=O.length:=by omega
  subst hke;have d0:decide ((O.length:Int)<(O.length:Int))=false:=by simp
  rw[List.take_length];repeat' ((conv=>whnf);first|with_reducible apply aO|((with_reducible apply fk)<;>intro hc<;>try exact cu)|refine aP ?_|fail)
  refine⟨_,_,⟨rfl,rfl⟩,?_⟩;all_goals exact aL
 have d0:decide ((k:Int)<(O.length:Int))=true:=by simp only[l9];omega
 have eW:IntKind.i64.wrap ((k:Int)+1)=((k+1:Nat):Int):=by rw[bI (by omega) (by omega)];omega
 have hr:=eD Pl.c O k hlt;have hfs:=jE (fun p=>!(c.none).any (· == p)) O k hlt;have fI:=Pp ({ c with since:=now }:Cp) O[k];generalize O[k]=x at *;simp only[Pl.c] at hr fI;cases e1:(c.none).any (· == x) with
 | true=>
   rw[e1] at fI hfs;simp only[Bool.not_true,Bool.false_eq_true,↓reduceIte,List.append_nil] at hfs;replace hfs:=Hd.mk hfs;clear e1;repeat' ((conv=>whnf);first|with_reducible apply aO|((with_reducible apply fk)<;>intro hc<;>try exact cu)|((refine⟨_,hr,?_⟩))|(apply aX;refine⟨_,ai (fI) ?_,?_⟩;exact aZ)|refine aP ?_|fail)
   refine⟨⟨(k+1,a,b,q),hlt⟩,dec_lt hlt,aA ?_⟩;dsimp only
   rw[hfs.out];repeat' first|apply And.intro|exact aL|fail
   all_goals try (conv=>whnf)
   all_goals exact eW
 | false=>
   rw[e1] at fI hfs;simp only[Bool.not_false,↓reduceIte] at hfs;replace hfs:=Hd.mk hfs;clear e1;repeat' ((conv=>whnf);first|with_reducible apply aO|((with_reducible apply fk)<;>intro hc<;>try exact cu)|((refine⟨_,hr,?_⟩))|(apply aX;refine⟨_,ai (fI) ?_,?_⟩;exact aZ)|(((with_reducible apply And.intro);focus (simp only[jg,tF,uX];omega)))|refine aP ?_|fail)
   refine⟨⟨(k+1,x.node,x.aM,3),hlt⟩,dec_lt hlt,aA ?_⟩;dsimp only
   rw[hfs.out,List.map_append];repeat' first|apply And.intro|exact aL|fail
   all_goals try (conv=>whnf)
   all_goals first
    |exact eW
    |(refine gU (bH _) ?_;(repeat' first|apply And.intro|exact aL|fail);(all_goals try (conv=>whnf)))
    |skip
theorem Rb (c:Cp)(now:Int)(h2:c.phase≠2)(hall:((others c).all fun p=>c.none.any (· == p))=false)(hf:fB c.l.au)(hn:0≤c.n∧c.n≤18446744073709551615)(hs:(setOf c.l.au c.l.w c.n).length≤1000000) :
  gY prog 55 [.ptr 1 0,.pv (uu now)] [(1,.var (fA c (.aG 2 0) (.aG 3 0) (.aG 4 0))),(2,.bR 48 0 2 1 27 2 (own (c.l.au.map Fr.c)) [] []),(3,.arr 27 0 2 (c.none.map Pl.c)),(4,.arr 5 0 1 (c.body.map aB))] (.aG 1001 0)
   [(1,.var (fA { c with since:=now } (.aG 2 0) (.aG 3 0) (.aG 4 0))),(2,.bR 48 0 2 1 27 2 (own (c.l.au.map Fr.c)) [] []),(3,.arr 27 0 2 (c.none.map Pl.c)),(4,.arr 5 0 1 (c.body.map aB)),(1001,.arr 93 0 10 (((others c).filter fun p=>!(c.none).any (· == p)).map (Au c)))]:=by
 have h0:=Uy c now h2 hall hf hn hs;exact ng (lq 2 rfl (by rw[jJ,List.map_nil,List.append_nil]) h0 (by simp only[Mg,IU,IQ,IL,Mf,FD,r9,vE,DX,fA,Bool.and_self]) rfl) (fun k=>iM 2 1 _ _ _ rfl k) (fun k=>iM 1 2 _ _ _ rfl k)
theorem zQ (c:Cp)(y n z:PV)(x:Pl):dH prog 110 ([]++([.agg x.c]++[.bT (Si c y n z) 0])) (bl (x==c.from_)):=by
 refine PC.le ?_;refine dA zO ?_;repeat' ((conv=>whnf);first|with_reducible apply aO|((with_reducible apply fk)<;>intro hc<;>try exact bQ)|refine aP ?_|fail)
 repeat' first|apply And.intro|exact aL|fail
 all_goals try (conv=>whnf)
 rw[←Pl.beq]
theorem Rc (c:Cp)(y z:PV)(x:Pl):dH prog 112 ([]++([.agg x.c]++[.bT [.fn (.func 111) [] [.bT [.bT (Si c y bK z) 0] 0]] 0])) (bl true):=by
 refine PC.le ?_;have h:=xI c y z x;refine dA Kg ?_;repeat' ((conv=>whnf);first|with_reducible apply aO|((with_reducible apply fk)<;>intro hc<;>try exact cu)|(apply aX;refine⟨_,ai (h) ?_,?_⟩;exact aZ)|refine aP ?_|fail)
 all_goals exact aL
theorem Rf (c:Cp)(l:List Pl)(f:FuncId)(p:Pl→Bool)(hp:∀x∈l,dH prog f ([]++([.agg x.c]++[.bT (Si c (gH c.l.au) bK bK) 0])) (bl (p x)))(h0:∀x∈l,p x=false)(hl:l.length≤8796093022208) :
  gY prog 109 [.aG 1 0,.fn (.func f) [] [.ptr 2 0]] [(1,.arr 27 0 2 (l.map Pl.c)),(2,.var (fA c (.aG 3 0) (.pv bK) (.pv bK))),(3,.bX 0 2 (c.l.au.map Fr.c))] (.aG 1 0) [(1,.arr 27 0 2 (l.map Pl.c)),(2,.var (fA c (.aG 3 0) (.pv bK) (.pv bK))),(3,.bX 0 2 (c.l.au.map Fr.c))]:=by
 have hx:BH p l = -1:=mY p h0;refine jY om ?_;repeat' ((conv=>whnf);first|with_reducible apply aO|((with_reducible apply fk)<;>intro hc<;>try exact bQ)|(apply aX;refine⟨_,dK _ _ _ _ p hp,?_⟩)|refine aP ?_|fail)
 ·refine⟨_,_,⟨rfl,rfl⟩,?_⟩;all_goals exact aL
 rw[hx] at hc;simp at hc
theorem Ps (c:Cp)(l:List Pl)(f:FuncId)(p:Pl→Bool)(hp:∀x∈l,dH prog f ([]++([.agg x.c]++[.bT (Si c (gH c.l.au) bK bK) 0])) (bl (p x)))(h0:¬∀x∈l,p x=false)(hl:l.length≤8796093022208) :
  gY prog 109 [.aG 1 0,.fn (.func f) [] [.ptr 2 0]] [(1,.arr 27 0 2 (l.map Pl.c)),(2,.var (fA c (.aG 3 0) (.pv bK) (.pv bK))),(3,.bX 0 2 (c.l.au.map Fr.c))] (.sub 1 0 2 0 (l.filter fun x=>!p x).length) [(1,.arr 27 0 2 ((l.filter fun x=>!p x).map Pl.c++List.replicate (l.length-(l.filter fun x=>!p x).length) [ii 0,uu 0])),(2,.var (fA c (.aG 3 0) (.pv bK) (.pv bK))),(3,.bX 0 2 (c.l.au.map Fr.c))]:=by
 obtain⟨ix,hix,hxe,hxp,ZX⟩:∃k,∃hk:k<l.length,BH p l=(k:Nat)∧p l[k]=true∧∀j (hj:j<l.length),j<k→p l[j]=false:=by
  rcases tN p l with ⟨_,h⟩|⟨k,hk,h1,h2,h3⟩
  ·exact absurd h h0
  exact⟨k,hk,h1,h2,h3⟩
 obtain⟨hS,hK⟩:=zA ix hix ZX hxp;refine jY om ?_;repeat' ((conv=>whnf);first|with_reducible apply aO|((with_reducible apply fk)<;>intro hc<;>try exact bQ)|(apply aX;refine⟨_,dK _ _ _ _ p hp,?_⟩)|refine aP ?_|fail)
 ·rw[hxe] at hc;simp at hc
 refine⟨{jm:Nat×List Pl // F6 p l jm},fun⟨(j,m),_⟩=>⟨[(0,.aG 1 0),(1,.fn (.func f) [] [.ptr 2 0]),(5,.pv (ii (kept p l j).length)),(6,.pv (ii j))],1000000000,[(1,.arr 27 0 2 (m.map Pl.c)),(2,.var (fA c (.aG 3 0) (.pv bK) (.pv bK))),(3,.bX 0 2 (c.l.au.map Fr.c))]⟩,fun⟨(j,_),_⟩=>l.length-j,⟨⟨(ix+1,l),hS⟩,aA ?_⟩,?_⟩
 ·repeat' first|apply And.intro|exact aL|fail
  all_goals try (conv=>whnf)
  ·rw[hxe,hK]
  ·rw[hxe];exact bI (by omega) (by omega)
 rintro⟨⟨j,m⟩,hj⟩
 obtain⟨hj1,hj2,Xx,ZY⟩:=id hj;simp only at hj1 hj2 Xx ZY;have hkl:=Dz p l j hj1;repeat' ((conv=>whnf);first|with_reducible apply aO|((with_reducible apply fk)<;>intro hc<;>try exact bQ)|refine aP ?_|fail)
 ·have hlt:j<m.length:=by simpa using hc
  have hlt2:j<l.length:=by omega
  obtain⟨_,he⟩:=F7 hj hlt2;have Z4:dH prog f ([]++([.agg (m[j]).c]++[.bT (Si c (gH c.l.au) bK bK) 0])) (bl (p m[j])):=hp _ (by rw[he];exact List.getElem_mem hlt2);have hi:(kept p l j).length<m.length:=by omega
  repeat' ((conv=>whnf);first|with_reducible apply aO|((with_reducible apply fk)<;>intro hc<;>try exact bQ)|(refine UJ ?_)|((refine⟨_,eD _ _ _ hlt,?_⟩))|((refine⟨_,eD _ _ _ hi,?_⟩))|(apply aX;refine⟨_,Z4,?_⟩)|refine aP ?_|fail)
  ·have Nl:p l[j]=false:=by rw[←he];simpa using hc
   refine⟨⟨(j+1,m.set (kept p l j).length l[j]),BV hj hlt2 Nl⟩,dec_lt hlt2,aA ?_⟩;have hks:(kept p l (j+1)).length=(kept p l j).length+1:=by rw[jD p l j hlt2,Nl];simp
   repeat' first|apply And.intro|exact aL|fail
   all_goals try (conv=>whnf)
   ·refine eu ?_;rw[←he,List.map_set];rfl
   ·rw[bI (by omega) (by omega),hks];omega
   exact bI (by omega) (by omega)
  have hpt:p l[j]=true:=by rw[←he];simpa using hc
  refine⟨⟨(j+1,m),BU hj hlt2 hpt⟩,dec_lt hlt2,aA ?_⟩;have hks:(kept p l (j+1)).length=(kept p l j).length:=by rw[jD p l j hlt2,hpt];simp
  repeat' first|apply And.intro|exact aL|fail
  all_goals try (conv=>whnf)
  ·rw[hks]
  exact bI (by omega) (by omega)
 have hjl:j=l.length:=by simp at hc;omega
 subst hjl;have Xy:kept p l l.length=l.filter fun x=>!p x:=by unfold kept;rw[List.take_length]
 repeat' ((conv=>whnf);first|with_reducible apply aO|((with_reducible apply fk)<;>intro hc<;>try exact bQ)|(((with_reducible apply And.intro);focus (simp only[jg,JL,List.length_take,List.length_drop,List.length_replicate];omega)))|refine aP ?_|fail)
 refine⟨_,_,⟨rfl,rfl⟩,?_⟩;repeat' first|apply And.intro|exact aL|fail
 all_goals try (conv=>whnf)
 ·refine eu ?_;rw[←Xy,Int.toNat_natCast,List.length_map,←List.map_take,Xx,List.drop_eq_nil_of_le (by simp),List.append_nil,hj2]
 rw[Xy];rfl
theorem Rh (c:Cp)(l:List Pl)(f:FuncId)(p:Pl→Bool)(hp:∀x∈l,dH prog f ([]++([.agg x.c]++[.bT (Si c (gH c.l.au) bK bK) 0])) (bl (p x)))(h0:¬∀x∈l,p x=false)(hl:l.length≤8796093022208) :
  gY prog 109 [.aG 1 0,.fn (.func f) [] [.ptr 2 0]] [(1,.arr 27 0 2 (l.map Pl.c)),(2,.var (fA c (.aG 3 0) (.pv bK) (.pv bK))),(3,.bX 0 2 (c.l.au.map Fr.c))] (.aG 1 1) [(1,.arr 27 1 2 ((l.filter fun x=>!p x).map Pl.c)),(2,.var (fA c (.aG 3 0) (.pv bK) (.pv bK))),(3,.bX 0 2 (c.l.au.map Fr.c))]:=by
 have h:=JV (Ps c l f p hp h0 hl) (by simp);rw[List.take_append_of_le_length (by simp),List.take_of_length_le (by simp)] at h;exact h
theorem L8 (c:Cp)(hf:fB c.l.au)(hn:0≤c.n∧c.n≤18446744073709551615):gY prog 53 [.agg (fA c (.aG 1 0) (.pv bK) (.pv bK))] [(1,.bX 0 2 (c.l.au.map Fr.c))] (.aG 1001 0) [(1,.bX 0 2 (c.l.au.map Fr.c)),(1001,.arr 27 0 2 ((others c).map Pl.c))]:=by
 have hl:=Gq hf c.l.w c.n;refine jY Cg ?_;by_cases h0:∀x∈setOf c.l.au c.l.w c.n,(x==c.from_)=false
 ·repeat' ((conv=>whnf);first|with_reducible apply aO|((with_reducible apply fk)<;>intro hc<;>try exact bQ)|(apply aX;refine⟨_,vo _ _ _ hf hn,?_⟩)|(apply dV;refine⟨_,_,fZ _ (by omega),?_⟩)|(apply dV;refine⟨_,_,Rf c _ _ (fun x=>x==c.from_) (fun x _=>zQ c _ _ _ x) h0 hl,?_⟩)|refine aP ?_|fail)
  refine⟨_,_,⟨rfl,rfl⟩,?_⟩;repeat' first|apply And.intro|exact aL|fail
  all_goals try (conv=>whnf)
  rw[zP h0];exact bH _
 repeat' ((conv=>whnf);first|with_reducible apply aO|((with_reducible apply fk)<;>intro hc<;>try exact bQ)|(apply aX;refine⟨_,vo _ _ _ hf hn,?_⟩)|(apply dV;refine⟨_,_,fZ _ (by omega),?_⟩)|(apply dV;refine⟨_,_,Rh c _ _ (fun x=>x==c.from_) (fun x _=>zQ c _ _ _ x) h0 hl,?_⟩)|refine aP ?_|fail)
 refine⟨_,_,⟨rfl,rfl⟩,?_⟩;all_goals exact aL
theorem Uz (c:Cp)(now:Int)(h2:c.phase≠2)(hf:fB c.l.au)(hn:0≤c.n∧c.n≤18446744073709551615)(hs:(setOf c.l.au c.l.w c.n).length≤1000000) :
  gY prog 55 [.ptr 1 0,.pv (uu now)] [(2,.bX 0 2 (c.l.au.map Fr.c)),(1,.var (fA c (.aG 2 0) (.pv bK) (.pv bK)))] (.aG 1001 0)
   [(2,.bX 0 2 (c.l.au.map Fr.c)),(1,.var (fA { c with since:=now } (.aG 2 0) (.pv bK) (.pv bK))),(1001,.arr 93 0 10 (((others c).filter fun p=>!(([]:List Pl)).any (· == p)).map (Au c)))]:=by
 have K3:(others c).length≤1000000:=Nat.le_trans (List.length_filter_le _ _) hs;have p2:(c.phase==2)=false:=by rw[beq_eq_false_iff_ne];exact h2
 have Ki:=dF (others c) 112 [] [.bT [.fn (.func 111) [] [.bT [.bT (Si { c with since:=now } (gH c.l.au) bK bK) 0] 0]] 0] (fun _=>true) fun x _=>Rc { c with since:=now } _ _ x
 have ho:=L8 { c with since:=now } hf hn;cases ea:((others c).any fun _=>true) with
 | false=>
   rw[ea] at Ki;have hO:others c=[]:=by
    cases h:others c with
    |nil=>rfl
    |cons x l=>rw[h] at ea;cases ea
   clear h2 hf hn hs;refine jY uE ?_;repeat' ((conv=>whnf);first|with_reducible apply aO|((with_reducible apply fk)<;>intro hc<;>try exact cu)|(apply dV;refine⟨_,_,ho,?_⟩)|(apply aX;refine⟨_,Ki,?_⟩)|refine aP ?_|fail)
   clear ho Ki p2 hO ea;obtain⟨O,hO⟩:∃O,O=others c:=⟨_,rfl⟩;rw[show others ({ c with since:=now }:Cp)=others c from rfl];rw[←hO] at K3 ⊢;clear hO;refine⟨{x:Nat×Int×Int×Int // x.1≤O.length},fun⟨(k,a,b,q),_⟩=>⟨[(5,.ptr 1005 0),(7,.ptr 1007 0),(8,.aG 1008 0),(63,.aG 1063 0),(64,.pv (ii (O.length:Nat))),(65,.pv (ii k))],1000000000,[(2,.bX 0 2 (c.l.au.map Fr.c)),(1,.var (fA { c with since:=now } (.aG 2 0) (.pv bK) (.pv bK))),(1002,.var [.ptr 1 0]),(1005,.var [.pv (ii a),.pv (uu b),.pv (ii q),.pv (uu c.l.id),.pv (uu c.n),.pv (uu 0),.pv (uu 0),.pv (ii 0),.pv bK,.pv bK]),(1007,.var [.fn (.func 111) [] [.ptr 1002 0]]),(1008,.arr 93 0 10 (((O.take k).filter fun p=>!(([]:List Pl)).any (· == p)).map (Au c))),(1063,.arr 27 0 2 (O.map Pl.c))]⟩,fun⟨(k,_),_⟩=>O.length-k,⟨⟨(0,0,0,0),by simp⟩,aA ?_⟩,?_⟩
   ·repeat' first|apply And.intro|exact aL|fail
    all_goals try (conv=>whnf)
    all_goals first
     |(rw[List.length_map];done)
     |trace_state
   rintro⟨⟨k,a,b,q⟩,hk⟩
   simp only at hk;dsimp only
   have hrl:((O.take k).filter fun p=>!(([]:List Pl)).any (· == p)).length≤1000000:=Nat.le_trans (List.length_filter_le _ _) (by rw[List.length_take];omega);by_cases hlt:k<O.length
   rotate_left
   ·have hke:k=O.length:=by omega
    subst hke;have d0:decide ((O.length:Int)<(O.length:Int))=false:=by simp
    rw[List.take_length];repeat' ((conv=>whnf);first|with_reducible apply aO|((with_reducible apply fk)<;>intro hc<;>try exact cu)|refine aP ?_|fail)
    refine⟨_,_,⟨rfl,rfl⟩,?_⟩;all_goals exact aL
   have d0:decide ((k:Int)<(O.length:Int))=true:=by simp only[l9];omega
   have eW:IntKind.i64.wrap ((k:Int)+1)=((k+1:Nat):Int):=by rw[bI (by omega) (by omega)];omega
   have hr:=eD Pl.c O k hlt;have hfs:=jE (fun p=>!(([]:List Pl)).any (· == p)) O k hlt;have fI:=xI ({ c with since:=now }:Cp) (gH c.l.au) bK O[k];generalize O[k]=x at *;simp only[Pl.c] at hr fI;simp only[List.any_nil,Bool.not_false,↓reduceIte] at hfs;replace hfs:=Hd.mk hfs;repeat' ((conv=>whnf);first|with_reducible apply aO|((with_reducible apply fk)<;>intro hc<;>try exact cu)|((refine⟨_,hr,?_⟩))|(apply aX;refine⟨_,ai (fI) ?_,?_⟩;exact aZ)|(((with_reducible apply And.intro);focus (simp only[jg,tF,uX];omega)))|refine aP ?_|fail)
   refine⟨⟨(k+1,x.node,x.aM,3),hlt⟩,dec_lt hlt,aA ?_⟩;dsimp only
   simp only[List.any_nil,Bool.not_false] at hfs ⊢;rw[hfs.out,List.map_append];repeat' first|apply And.intro|exact aL|fail
   all_goals try (conv=>whnf)
   all_goals first
    |exact eW
    |(refine gU (bH _) ?_;(repeat' first|apply And.intro|exact aL|fail);(all_goals try (conv=>whnf)))
    |skip
 |true=>
 rw[ea] at Ki;clear h2 hf hn hs;refine jY uE ?_;repeat' ((conv=>whnf);first|with_reducible apply aO|((with_reducible apply fk)<;>intro hc<;>try exact cu)|(apply dV;refine⟨_,_,ho,?_⟩)|(apply aX;refine⟨_,Ki,?_⟩)|refine aP ?_|fail)
 clear ho Ki p2;obtain⟨O,hO⟩:∃O,O=others c:=⟨_,rfl⟩;rw[show others ({ c with since:=now }:Cp)=others c from rfl];rw[←hO] at K3 ⊢;clear hO;refine⟨{x:Nat×Int×Int×Int // x.1≤O.length},fun⟨(k,a,b,q),_⟩=>⟨[(5,.ptr 1005 0),(7,.ptr 1007 0),(8,.aG 1008 0),(63,.aG 1063 0),(64,.pv (ii (O.length:Nat))),(65,.pv (ii k))],1000000000,[(2,.bX 0 2 (c.l.au.map Fr.c)),(1,.var (fA { c with since:=now } (.aG 2 0) (.pv bK) (.pv bK))),(1002,.var [.ptr 1 0]),(1005,.var [.pv (ii a),.pv (uu b),.pv (ii q),.pv (uu c.l.id),.pv (uu c.n),.pv (uu 0),.pv (uu 0),.pv (ii 0),.pv bK,.pv bK]),(1007,.var [.fn (.func 111) [] [.ptr 1002 0]]),(1008,.arr 93 0 10 (((O.take k).filter fun p=>!(([]:List Pl)).any (· == p)).map (Au c))),(1063,.arr 27 0 2 (O.map Pl.c))]⟩,fun⟨(k,_),_⟩=>O.length-k,⟨⟨(0,0,0,0),by simp⟩,aA ?_⟩,?_⟩
 ·repeat' first|apply And.intro|exact aL|fail
  all_goals try (conv=>whnf)
  all_goals first
   |(rw[List.length_map];done)
   |trace_state
 rintro⟨⟨k,a,b,q⟩,hk⟩
 simp only at hk;dsimp only
 have hrl:((O.take k).filter fun p=>!(([]:List Pl)).any (· == p)).length≤1000000:=Nat.le_trans (List.length_filter_le _ _) (by rw[List.length_take];omega);by_cases hlt:k<O.length
 rotate_left
 ·have hke:k=O.length:=by omega
  subst hke;have d0:decide ((O.length:Int)<(O.length:Int))=false:=by simp
  rw[List.take_length];repeat' ((conv=>whnf);first|with_reducible apply aO|((with_reducible apply fk)<;>intro hc<;>try exact cu)|refine aP ?_|fail)
  refine⟨_,_,⟨rfl,rfl⟩,?_⟩;all_goals exact aL
 have d0:decide ((k:Int)<(O.length:Int))=true:=by simp only[l9];omega
 have eW:IntKind.i64.wrap ((k:Int)+1)=((k+1:Nat):Int):=by rw[bI (by omega) (by omega)];omega
 have hr:=eD Pl.c O k hlt;have hfs:=jE (fun p=>!(([]:List Pl)).any (· == p)) O k hlt;have fI:=xI ({ c with since:=now }:Cp) (gH c.l.au) bK O[k];generalize O[k]=x at *;simp only[Pl.c] at hr fI;simp only[List.any_nil,Bool.not_false,↓reduceIte] at hfs;replace hfs:=Hd.mk hfs;repeat' ((conv=>whnf);first|with_reducible apply aO|((with_reducible apply fk)<;>intro hc<;>try exact cu)|((refine⟨_,hr,?_⟩))|(apply aX;refine⟨_,ai (fI) ?_,?_⟩;exact aZ)|(((with_reducible apply And.intro);focus (simp only[jg,tF,uX];omega)))|refine aP ?_|fail)
 refine⟨⟨(k+1,x.node,x.aM,3),hlt⟩,dec_lt hlt,aA ?_⟩;dsimp only
 simp only[List.any_nil,Bool.not_false] at hfs ⊢;rw[hfs.out,List.map_append];repeat' first|apply And.intro|exact aL|fail
 all_goals try (conv=>whnf)
 all_goals first
  |exact eW
  |(refine gU (bH _) ?_;(repeat' first|apply And.intro|exact aL|fail);(all_goals try (conv=>whnf)))
  |skip
theorem Ri (c:Cp)(now:Int)(h2:c.phase≠2)(hf:fB c.l.au)(hn:0≤c.n∧c.n≤18446744073709551615)(hs:(setOf c.l.au c.l.w c.n).length≤1000000) :
  gY prog 55 [.ptr 1 0,.pv (uu now)] [(1,.var (fA c (.aG 2 0) (.pv bK) (.pv bK))),(2,.bX 0 2 (c.l.au.map Fr.c))] (.aG 1001 0)
   [(1,.var (fA { c with since:=now } (.aG 2 0) (.pv bK) (.pv bK))),(2,.bX 0 2 (c.l.au.map Fr.c)),(1001,.arr 93 0 10 (((others c).filter fun p=>!(([]:List Pl)).any (· == p)).map (Au c)))]:=
 ng (Uz c now h2 hf hn hs) (fun k=>iM 2 1 _ _ _ rfl k) (fun k=>iM 1 2 _ _ _ rfl k)
theorem Pt:bE prog 56 f56:=eZ func56
theorem Xz (c:Cp)(now:Int)(hok:c.l.ok)(hf:fB c.l.au)(hn:0≤c.n)(hL:dQ c.l c.from_ c.n=[]) :
  gY prog 56 [.ptr 1 0,.pv (uu now)] [(2,.bX 0 2 (c.l.au.map Fr.c)),(1,.var (fA c (.aG 2 0) (.aG 3 0) (.aG 4 0))),(3,.arr 27 0 2 (c.none.map Pl.c)),(4,.arr 5 0 1 (c.body.map aB))] (.pv bK)
   [(2,.bX 0 2 (c.l.au.map Fr.c)),(1,.var (fA { c with phase:=3,n:=0 } (.aG 2 0) (.pv bK) (.pv bK))),(3,.arr 27 0 2 (c.none.map Pl.c)),(4,.arr 5 0 1 (c.body.map aB)),(502,.var [.ptr 1 0]),(503,.var [.pv (uu now)]),(504,.var [.pv bK])]:=by
 have L9:=Jj c.l c.from_ c.n hok hf hn;have Rj:=Pk c.l c.from_ c.n;rw[hL] at L9;refine jY Pt ?_;repeat' ((conv=>whnf);first|with_reducible apply aO|((with_reducible apply fk)<;>intro hc<;>try exact cu)|(apply aX;refine⟨_,ai (Rj) ?_,?_⟩;exact aZ)|refine aP ?_|fail)
 refine⟨_,_,_,L9,Unit,fun _ _=>False,fun _ _=>⟨[(2,.ptr 502 0),(3,.ptr 503 0),(4,.ptr 504 0),(24,.pv (.fn (.func 148) [] [.bT c.l.c 0,.bT [uu c.n] 0,.bT c.from_.c 0]))],1000000000,[(2,.bX 0 2 (c.l.au.map Fr.c)),(1,.var (fA c (.aG 2 0) (.pv bK) (.pv bK))),(502,.var [.ptr 1 0]),(503,.var [.pv (uu now)]),(504,.var [.pv bK]),(3,.arr 27 0 2 (c.none.map Pl.c)),(4,.arr 5 0 1 (c.body.map aB))]⟩,⟨(),aA ?_⟩,fun _=>rfl,fun _ _=>rfl,?_,?_⟩
 ·all_goals exact aL
 ·intro k x i hx;simp at hx
 intro i hi;repeat' ((conv=>whnf);first|with_reducible apply aO|((with_reducible apply fk)<;>intro hc<;>try exact cu)|refine aP ?_|fail)
 refine⟨_,_,⟨rfl,rfl⟩,?_⟩;all_goals exact aL
theorem XA (c:Cp)(now:Int)(hok:c.l.ok)(hf:fB c.l.au)(hn:0≤c.n)(qZ:∀n,(setOf c.l.au c.l.w n).length≤1000000)(n0:Int)(r:List Int)(hL:dQ c.l c.from_ c.n=n0::r) :
  gY prog 56 [.ptr 1 0,.pv (uu now)] [(2,.bX 0 2 (c.l.au.map Fr.c)),(1,.var (fA c (.aG 2 0) (.aG 3 0) (.aG 4 0))),(3,.arr 27 0 2 (c.none.map Pl.c)),(4,.arr 5 0 1 (c.body.map aB))] (.aG 1001 0)
   [(2,.bX 0 2 (c.l.au.map Fr.c)),(1,.var (fA { c with phase:=1,n:=n0,born:=now,since:=now } (.aG 2 0) (.pv bK) (.pv bK))),(3,.arr 27 0 2 (c.none.map Pl.c)),(4,.arr 5 0 1 (c.body.map aB)),(1001,.arr 93 0 10 (((others { c with n:=n0 }).filter fun p=>!(([]:List Pl)).any (· == p)).map (Au { c with n:=n0 }))),(502,.var [.ptr 1 0]),(503,.var [.pv (uu now)]),(504,.var [.aG 1001 0])]:=by
 have L9:=Jj c.l c.from_ c.n hok hf hn;have Rj:=Pk c.l c.from_ c.n;have hm:=jQ (l:=c.l) (from_:=c.from_) (behind:=c.n) (n:=n0) (by rw[hL];simp);have hn0:0≤n0∧n0≤18446744073709551615:=by omega
 rw[hL] at L9;have fI:=Ri { c with phase:=1,n:=n0,born:=now } now (by simp) hf hn0 (qZ n0);rw[show others ({ c with phase:=1,n:=n0,born:=now }:Cp)=others { c with n:=n0 } from rfl,show Au ({ c with phase:=1,n:=n0,born:=now }:Cp)=Au { c with n:=n0 } from rfl] at fI;generalize ((others { c with n:=n0 }).filter fun p=>!(([]:List Pl)).any (· == p)).map (Au { c with n:=n0 })=rows at *;clear qZ hf hok;refine jY Pt ?_;repeat' ((conv=>whnf);first|with_reducible apply aO|((with_reducible apply fk)<;>intro hc<;>try exact cu)|(apply aX;refine⟨_,ai (Rj) ?_,?_⟩;exact aZ)|refine aP ?_|fail)
 refine⟨_,_,_,L9,Unit,fun _ _=>False,fun _ _=>⟨[(2,.ptr 502 0),(3,.ptr 503 0),(4,.ptr 504 0),(24,.pv (.fn (.func 148) [] [.bT c.l.c 0,.bT [uu c.n] 0,.bT c.from_.c 0]))],1000000000,[(2,.bX 0 2 (c.l.au.map Fr.c)),(1,.var (fA c (.aG 2 0) (.pv bK) (.pv bK))),(502,.var [.ptr 1 0]),(503,.var [.pv (uu now)]),(504,.var [.pv bK]),(3,.arr 27 0 2 (c.none.map Pl.c)),(4,.arr 5 0 1 (c.body.map aB))]⟩,⟨(),aA ?_⟩,fun _=>rfl,fun _ _=>rfl,?_,?_⟩
 ·all_goals exact aL
 ·intro k x i hx;cases k with
  | succ k=>
    obtain⟨n,_,rfl⟩:=List.mem_map.1 (List.mem_of_getElem? hx)
    (conv=>whnf)
    intro h0;exact (h0 (by simp)).elim
  | zero=>
    have hx:x=[uu n0]:=by simpa using hx.symm
    subst hx
    (conv=>whnf)
    intro _;clear hx hm hL L9 Rj;repeat' ((conv=>whnf);first|with_reducible apply aO|((with_reducible apply fk)<;>intro hc<;>try exact cu)|(apply dV;refine⟨_,_,fI,?_⟩)|refine aP ?_|fail)
    clear fI
    (conv=>whnf)
    refine⟨_,_,⟨rfl,rfl⟩,?_⟩
    (conv=>whnf)
    all_goals exact aL
 intro i hi;exact (hi (by simp)).elim
theorem UA (c:Cp)(now:Int)(hok:c.l.ok)(hf:fB c.l.au)(hn:0≤c.n)(hL:dQ c.l c.from_ c.n=[]) :
  gY prog 56 [.ptr 1 0,.pv (uu now)] [(1,.var (fA c (.aG 2 0) (.aG 3 0) (.aG 4 0))),(2,.bR 48 0 2 1 27 2 (own (c.l.au.map Fr.c)) [] []),(3,.arr 27 0 2 (c.none.map Pl.c)),(4,.arr 5 0 1 (c.body.map aB))] (.pv bK)
   [(1,.var (fA { c with phase:=3,n:=0 } (.aG 2 0) (.pv bK) (.pv bK))),(2,.bR 48 0 2 1 27 2 (own (c.l.au.map Fr.c)) [] []),(3,.arr 27 0 2 (c.none.map Pl.c)),(4,.arr 5 0 1 (c.body.map aB)),(502,.var [.ptr 1 0]),(503,.var [.pv (uu now)]),(504,.var [.pv bK])]:=by
 have h0:=Xz c now hok hf hn hL;exact ng (lq 2 rfl (by rw[jJ,List.map_nil,List.append_nil]) h0 (by simp only[Mg,IU,IQ,IL,Mf,FD,r9,vE,DX,fA,Bool.and_self]) rfl) (fun k=>iM 2 1 _ _ _ rfl k) (fun k=>iM 1 2 _ _ _ rfl k)
theorem OY (c:Cp)(now:Int)(hok:c.l.ok)(hf:fB c.l.au)(hn:0≤c.n)(qZ:∀n,(setOf c.l.au c.l.w n).length≤1000000)(n0:Int)(r:List Int)(hL:dQ c.l c.from_ c.n=n0::r) :
  gY prog 56 [.ptr 1 0,.pv (uu now)] [(1,.var (fA c (.aG 2 0) (.aG 3 0) (.aG 4 0))),(2,.bR 48 0 2 1 27 2 (own (c.l.au.map Fr.c)) [] []),(3,.arr 27 0 2 (c.none.map Pl.c)),(4,.arr 5 0 1 (c.body.map aB))] (.aG 1001 0)
   [(1,.var (fA { c with phase:=1,n:=n0,born:=now,since:=now } (.aG 2 0) (.pv bK) (.pv bK))),(2,.bR 48 0 2 1 27 2 (own (c.l.au.map Fr.c)) [] []),(3,.arr 27 0 2 (c.none.map Pl.c)),(4,.arr 5 0 1 (c.body.map aB)),(1001,.arr 93 0 10 (((others { c with n:=n0 }).filter fun p=>!(([]:List Pl)).any (· == p)).map (Au { c with n:=n0 }))),(502,.var [.ptr 1 0]),(503,.var [.pv (uu now)]),(504,.var [.aG 1001 0])]:=by
 have h0:=XA c now hok hf hn qZ n0 r hL;exact ng (lq 2 rfl (by rw[jJ,List.map_nil,List.append_nil]) h0 (by simp only[Mg,IU,IQ,IL,Mf,FD,r9,vE,DX,fA,Bool.and_self]) rfl) (fun k=>iM 2 1 _ _ _ rfl k) (fun k=>iM 1 2 _ _ _ rfl k)
def Uk (f:FuncId)(args:List AV)(d:Cp)(q:List Rq):Prop:=
 (∀x∈q,x.body=[]∧x.kind=3)∧gY prog f args [] (.fF [.agg (fA d (.aG 1001 0) (.aG 1002 0) (.aG 1003 0)),.pv (BG q)]) [(1001,.bR 48 0 2 1 27 2 (own (d.l.au.map Fr.c)) [] []),(1002,.arr 27 0 2 (d.none.map Pl.c)),(1003,.arr 5 0 1 (d.body.map aB))]
def XB (f:FuncId)(args:List AV)(d:Cp)(q:List Rq):Prop:=
 ∃x,q=[x]∧x.kind=1∧x.body.length≤6000∧gY prog f args [] (.fF [.agg (fA d (.aG 1001 0) (.aG 1002 0) (.aG 1003 0)),.aG 1004 0]) [(1001,.bR 48 0 2 1 27 2 (own (d.l.au.map Fr.c)) [] []),(1002,.arr 27 0 2 (d.none.map Pl.c)),(1003,.arr 5 0 1 (d.body.map aB)),(1004,.dL 93 0 10 [] [.pv (ii x.to.node),.pv (uu x.to.aM),.pv (ii x.kind),.pv (uu x.bO),.pv (uu x.n),.pv (uu x.dz),.pv (uu x.sure),.pv (ii x.copy),.aG 1005 0,.pv (xD x.keep)] []),(1005,.arr 5 0 1 (x.body.map aB))]
theorem Ma (c:Cp)(hf:fB c.l.au)(hn:0≤c.n∧c.n≤18446744073709551615):gY prog 53 [.agg (fA c (.aG 1 0) (.aG 2 0) (.aG 3 0))] [(1,.bR 48 0 2 1 27 2 (own (c.l.au.map Fr.c)) [] []),(2,.arr 27 0 2 (c.none.map Pl.c)),(3,.arr 5 0 1 (c.body.map aB))] (.aG 1001 0) [(1,.bR 48 0 2 1 27 2 (own (c.l.au.map Fr.c)) [] []),(2,.arr 27 0 2 (c.none.map Pl.c)),(3,.arr 5 0 1 (c.body.map aB)),(1001,.arr 27 0 2 ((others c).map Pl.c))]:=
 lq 1 rfl (by rw[jJ,List.map_nil,List.append_nil]) (vD c hf hn) (by simp only[Mg,IU,IQ,IL,Mf,FD,r9,vE,Bool.and_self]) rfl
theorem DY (c:Cp)(l:List Pl):∀x∈(l.map fun p=>(⟨p,3,c.l.id,c.n,0,0,0,[],[]⟩:Rq)),x.body=[]∧x.kind=3:=by
 intro x hx;obtain⟨p,_,rfl⟩:=List.mem_map.1 hx;exact⟨rfl,rfl⟩
theorem DF (c:Cp)(l:List Pl):fC ((l.map fun p=>(⟨p,3,c.l.id,c.n,0,0,0,[],[]⟩:Rq)).map Rq.c) (l.map (Au c)):=by
 induction l with
 |nil=>exact bH _
 | cons x l ih=>
   simp only[XM];exact⟨by (repeat' first|apply And.intro|exact aL|fail);(all_goals try (conv=>whnf)),ih⟩
theorem dn:bE prog 13 f13:=eZ func13
theorem uo (c:Cp)(now:Int)(r:Rs)(h:wL c)(hb:r.body.length≤5000) :
  Uk 13 [.pv (.agg c.c),.pv (uu now),.pv (.agg r.c)] (takeC c now r).1 (takeC c now r).2∨XB 13 [.pv (.agg c.c),.pv (uu now),.pv (.agg r.c)] (takeC c now r).1 (takeC c now r).2:=by
 have hO:=Jc c h;have qZ:∀n,(setOf c.l.au c.l.w n).length≤1000000:=fun n=>Nat.le_trans (lH h.fb _ n) (by decide)
 have hf:=h.fr;have hn:0≤c.n∧c.n≤18446744073709551615:=h.n;have hnl:=h.no;have hok:c.l.ok:=fun x hx=>by have:=h.fb x hx;omega
 cases q1:(r.bO != c.l.id) with
 | true=>
   have e:takeC c now r=(c,[]):=by unfold takeC;rw[q1];rfl
   rw[e];clear e;refine Or.inl ⟨fun x hx=>(List.not_mem_nil hx).elim,?_⟩;refine jY dn ?_;repeat' ((conv=>whnf);first|with_reducible apply aO|((with_reducible apply fk)<;>intro hc<;>try exact cu)|(apply dV;refine⟨_,_,aW (hO) ?_,?_⟩;exact aZ)|refine aP ?_|fail)
   refine⟨_,_,⟨rfl,rfl⟩,?_⟩;all_goals exact aL
 |false=>
 cases q2:(r.n != c.n) with
 | true=>
   have e:takeC c now r=(c,[]):=by unfold takeC;rw[q1,q2];rfl
   rw[e];clear e;refine Or.inl ⟨fun x hx=>(List.not_mem_nil hx).elim,?_⟩;refine jY dn ?_;repeat' ((conv=>whnf);first|with_reducible apply aO|((with_reducible apply fk)<;>intro hc<;>try exact cu)|(apply dV;refine⟨_,_,aW (hO) ?_,?_⟩;exact aZ)|refine aP ?_|fail)
   refine⟨_,_,⟨rfl,rfl⟩,?_⟩;all_goals exact aL
 |false=>
 cases q3:(r.dz != 0) with
 | true=>
   have e:takeC c now r=(c,[]):=by unfold takeC;rw[q1,q2,q3];rfl
   rw[e];clear e;refine Or.inl ⟨fun x hx=>(List.not_mem_nil hx).elim,?_⟩;refine jY dn ?_;repeat' ((conv=>whnf);first|with_reducible apply aO|((with_reducible apply fk)<;>intro hc<;>try exact cu)|(apply dV;refine⟨_,_,aW (hO) ?_,?_⟩;exact aZ)|refine aP ?_|fail)
   refine⟨_,_,⟨rfl,rfl⟩,?_⟩;all_goals exact aL
 |false=>
 cases p1:(c.phase==1) with
 | true=>
   have p2:(c.phase==2)=false:=by rw[beq_eq_false_iff_ne];rw[beq_iff_eq] at p1;omega
   cases g3:(r.kind==3) with
   | false=>
     have e:takeC c now r=(c,[]):=by unfold takeC;rw[q1,q2,q3,p1,g3,p2];rfl
     rw[e];clear e;refine Or.inl ⟨fun x hx=>(List.not_mem_nil hx).elim,?_⟩;refine jY dn ?_;repeat' ((conv=>whnf);first|with_reducible apply aO|((with_reducible apply fk)<;>intro hc<;>try exact cu)|(apply dV;refine⟨_,_,aW (hO) ?_,?_⟩;exact aZ)|refine aP ?_|fail)
     refine⟨_,_,⟨rfl,rfl⟩,?_⟩;all_goals exact aL
   |true=>
   have Jg:=Ma c hf hn;have hin:=dW (others c) r.from_.node r.from_.aM;rw[show ((others c).any fun y=>y==(⟨r.from_.node,r.from_.aM⟩:Pl))=(others c).any (· == r.from_) from rfl] at hin;cases io:(others c).any (· == r.from_) with
   | false=>
     rw[io] at hin;have e:takeC c now r=(c,[]):=by unfold takeC;rw[q1,q2,q3,p1,g3,io,p2];rfl
     rw[e];clear e;refine Or.inl ⟨fun x hx=>(List.not_mem_nil hx).elim,?_⟩;clear io;refine jY dn ?_;repeat' ((conv=>whnf);first|with_reducible apply aO|((with_reducible apply fk)<;>intro hc<;>try exact cu)|(apply dV;refine⟨_,_,aW (hO) ?_,?_⟩;exact aZ)|(apply dV;refine⟨_,_,Jg,?_⟩)|(apply aX;refine⟨_,ai (hin) ?_,?_⟩;exact aZ)|refine aP ?_|fail)
     refine⟨_,_,⟨rfl,rfl⟩,?_⟩;all_goals exact aL
   |true=>
   rw[io] at hin;cases c0:(r.code==0) with
   | true=>
     have e:takeC c now r=({ c with phase:=2,body:=r.body,since:=now },[⟨c.to,1,c.l.id,c.n,0,c.l.last,1,r.body,[]⟩]):=by unfold takeC;rw[q1,q2,q3,p1,g3,io,c0];rfl
     rw[e];refine Or.inr ⟨_,rfl,rfl,by simp only;omega,?_⟩;have fI:=Kh { c with phase:=2,body:=r.body } now rfl (by simp only;omega);have hcl:=qb r.body (by omega);clear e io;refine jY dn ?_;repeat' ((conv=>whnf);first|with_reducible apply aO|((with_reducible apply fk)<;>intro hc<;>try exact cu)|(apply dV;refine⟨_,_,aW (hO) ?_,?_⟩;exact aZ)|(apply dV;refine⟨_,_,Jg,?_⟩)|(apply aX;refine⟨_,ai (hin) ?_,?_⟩;exact aZ)|(apply dV;refine⟨_,_,aW (hcl) ?_,?_⟩;exact aZ)|(apply dV;refine⟨_,_,fI,?_⟩)|refine aP ?_|fail)
     refine⟨_,_,⟨rfl,rfl⟩,?_⟩;all_goals exact aL
   |false=>
   cases c3:(r.code==3) with
   | false=>
     have e:takeC c now r=(c,[]):=by unfold takeC;rw[q1,q2,q3,p1,g3,io,c0,c3];rfl
     rw[e];clear e;refine Or.inl ⟨fun x hx=>(List.not_mem_nil hx).elim,?_⟩;clear io;refine jY dn ?_;repeat' ((conv=>whnf);first|with_reducible apply aO|((with_reducible apply fk)<;>intro hc<;>try exact cu)|(apply dV;refine⟨_,_,aW (hO) ?_,?_⟩;exact aZ)|(apply dV;refine⟨_,_,Jg,?_⟩)|(apply aX;refine⟨_,ai (hin) ?_,?_⟩;exact aZ)|refine aP ?_|fail)
     refine⟨_,_,⟨rfl,rfl⟩,?_⟩;all_goals exact aL
   |true=>
   have hi2:=dW c.none r.from_.node r.from_.aM;rw[show (c.none.any fun y=>y==(⟨r.from_.node,r.from_.aM⟩:Pl))=c.none.any (· == r.from_) from rfl] at hi2;cases no:c.none.any (· == r.from_) with
   | true=>
     rw[no] at hi2;have e:takeC c now r=(c,[]):=by unfold takeC;rw[q1,q2,q3,p1,g3,io,c0,c3,no];rfl
     rw[e];clear e;refine Or.inl ⟨fun x hx=>(List.not_mem_nil hx).elim,?_⟩;clear io no;refine jY dn ?_;repeat' ((conv=>whnf);first|with_reducible apply aO|((with_reducible apply fk)<;>intro hc<;>try exact cu)|(apply dV;refine⟨_,_,aW (hO) ?_,?_⟩;exact aZ)|(apply dV;refine⟨_,_,Jg,?_⟩)|(apply aX;refine⟨_,ai (hin) ?_,?_⟩;exact aZ)|(apply aX;refine⟨_,ai (hi2) ?_,?_⟩;exact aZ)|refine aP ?_|fail)
     refine⟨_,_,⟨rfl,rfl⟩,?_⟩;all_goals exact aL
   | false=>
     rw[no] at hi2;have e:takeC c now r=({ c with none:=c.none++[r.from_] },[]):=by unfold takeC;rw[q1,q2,q3,p1,g3,io,c0,c3,no];rfl
     rw[e];clear e;refine Or.inl ⟨fun x hx=>(List.not_mem_nil hx).elim,?_⟩;clear io no;refine jY dn ?_;repeat' ((conv=>whnf);first|with_reducible apply aO|((with_reducible apply fk)<;>intro hc<;>try exact cu)|(apply dV;refine⟨_,_,aW (hO) ?_,?_⟩;exact aZ)|(apply dV;refine⟨_,_,Jg,?_⟩)|(apply aX;refine⟨_,ai (hin) ?_,?_⟩;exact aZ)|(apply aX;refine⟨_,ai (hi2) ?_,?_⟩;exact aZ)|(((with_reducible apply And.intro);focus (simp only[jg,tF,uX];omega)))|refine aP ?_|fail)
     refine⟨_,_,⟨rfl,rfl⟩,?_⟩;repeat' first|apply And.intro|exact aL|fail
     all_goals try (conv=>whnf)
     all_goals first
      |(rw[List.map_append];refine gU (bH _) ?_;(repeat' first|apply And.intro|exact aL|fail);(all_goals try (conv=>whnf)))
      |skip
 |false=>
 cases p2:(c.phase==2) with
 | false=>
   have e:takeC c now r=(c,[]):=by unfold takeC;rw[q1,q2,q3,p1,p2];rfl
   rw[e];clear e;refine Or.inl ⟨fun x hx=>(List.not_mem_nil hx).elim,?_⟩;refine jY dn ?_;repeat' ((conv=>whnf);first|with_reducible apply aO|((with_reducible apply fk)<;>intro hc<;>try exact cu)|(apply dV;refine⟨_,_,aW (hO) ?_,?_⟩;exact aZ)|refine aP ?_|fail)
   refine⟨_,_,⟨rfl,rfl⟩,?_⟩;all_goals exact aL
 |true=>
 cases g1:(r.kind==1) with
 | false=>
   have e:takeC c now r=(c,[]):=by unfold takeC;rw[q1,q2,q3,p1,p2,g1];rfl
   rw[e];clear e;refine Or.inl ⟨fun x hx=>(List.not_mem_nil hx).elim,?_⟩;refine jY dn ?_;repeat' ((conv=>whnf);first|with_reducible apply aO|((with_reducible apply fk)<;>intro hc<;>try exact cu)|(apply dV;refine⟨_,_,aW (hO) ?_,?_⟩;exact aZ)|refine aP ?_|fail)
   refine⟨_,_,⟨rfl,rfl⟩,?_⟩;all_goals exact aL
 |true=>
 have hT:=xH r.from_ c.to;cases nd:(r.from_.node==c.to.node) with
 | false=>
   have e:takeC c now r=(c,[]):=by unfold takeC;rw[q1,q2,q3,p1,p2,g1,nd];rfl
   rw[e];clear e;refine Or.inl ⟨fun x hx=>(List.not_mem_nil hx).elim,?_⟩;clear hT;refine jY dn ?_;repeat' ((conv=>whnf);first|with_reducible apply aO|((with_reducible apply fk)<;>intro hc<;>try exact cu)|(apply dV;refine⟨_,_,aW (hO) ?_,?_⟩;exact aZ)|refine aP ?_|fail)
   refine⟨_,_,⟨rfl,rfl⟩,?_⟩;all_goals exact aL
 |true=>
 cases sd:(r.from_.aM==c.to.aM) with
 | false=>
   rw[nd,sd] at hT;replace hT:(r.from_==c.to)=false:=hT.symm;cases c4:(r.code==4) with
   | true=>
     have e:takeC c now r=({ c with phase:=4 },[]):=by unfold takeC;rw[q1,q2,q3,p1,p2,g1,nd,hT,c4];cases (r.code==0)<;>rfl
     rw[e];clear e;refine Or.inl ⟨fun x hx=>(List.not_mem_nil hx).elim,?_⟩;have c0:(r.code==0)=false:=by rw[beq_eq_false_iff_ne];rw[beq_iff_eq] at c4;omega
     have c2:(r.code==2)=false:=by rw[beq_eq_false_iff_ne];rw[beq_iff_eq] at c4;omega
     clear hT;refine jY dn ?_;repeat' ((conv=>whnf);first|with_reducible apply aO|((with_reducible refine fk (fun hc=>?_) fun hc=>?_)<;>first|exact absurd hc (by decide)|(exfalso;simp only[*,reduceCtorEq,Bool.not_true,Bool.not_false,Bool.true_and,Bool.and_true,Bool.false_and,Bool.and_false] at hc;done)|skip)|(apply dV;refine⟨_,_,aW (hO) ?_,?_⟩;exact aZ)|refine aP ?_|fail)
     refine⟨_,_,⟨rfl,rfl⟩,?_⟩;all_goals exact aL
   | false=>
     have e:takeC c now r=(c,[]):=by unfold takeC;rw[q1,q2,q3,p1,p2,g1,nd,hT,c4];cases (r.code==0)<;>cases (r.code==2)<;>rfl
     rw[e];clear e;refine Or.inl ⟨fun x hx=>(List.not_mem_nil hx).elim,?_⟩;clear hT;cases c0:(r.code==0) with
     | true=>
       have c2:(r.code==2)=false:=by rw[beq_eq_false_iff_ne];rw[beq_iff_eq] at c0;omega
       refine jY dn ?_;repeat' ((conv=>whnf);first|with_reducible apply aO|((with_reducible refine fk (fun hc=>?_) fun hc=>?_)<;>first|exact absurd hc (by decide)|(exfalso;simp only[*,reduceCtorEq,Bool.not_true,Bool.not_false,Bool.true_and,Bool.and_true,Bool.false_and,Bool.and_false] at hc;done)|skip)|(apply dV;refine⟨_,_,aW (hO) ?_,?_⟩;exact aZ)|refine aP ?_|fail)
       refine⟨_,_,⟨rfl,rfl⟩,?_⟩;all_goals exact aL
     |false=>
     cases c2:(r.code==2) with
     | true=>
       refine jY dn ?_;repeat' ((conv=>whnf);first|with_reducible apply aO|((with_reducible refine fk (fun hc=>?_) fun hc=>?_)<;>first|exact absurd hc (by decide)|(exfalso;simp only[*,reduceCtorEq,Bool.not_true,Bool.not_false,Bool.true_and,Bool.and_true,Bool.false_and,Bool.and_false] at hc;done)|skip)|(apply dV;refine⟨_,_,aW (hO) ?_,?_⟩;exact aZ)|refine aP ?_|fail)
       refine⟨_,_,⟨rfl,rfl⟩,?_⟩;all_goals exact aL
     | false=>
       refine jY dn ?_;repeat' ((conv=>whnf);first|with_reducible apply aO|((with_reducible refine fk (fun hc=>?_) fun hc=>?_)<;>first|exact absurd hc (by decide)|(exfalso;simp only[*,reduceCtorEq,Bool.not_true,Bool.not_false,Bool.true_and,Bool.and_true,Bool.false_and,Bool.and_false] at hc;done)|skip)|(apply dV;refine⟨_,_,aW (hO) ?_,?_⟩;exact aZ)|refine aP ?_|fail)
       refine⟨_,_,⟨rfl,rfl⟩,?_⟩;all_goals exact aL
 | true=>
   rw[nd,sd] at hT;replace hT:(r.from_==c.to)=true:=hT.symm;cases c0:(r.code==0) with
   | true=>
     have e:takeC c now r=y8 c now:=by unfold takeC;rw[q1,q2,q3,p1,p2,g1,nd,hT,c0];rfl
     rw[e];clear e hT;refine Or.inl ?_;cases hL:dQ c.l c.from_ c.n with
     | nil=>
       have e:y8 c now=({ c with none:=[],body:=[],phase:=3,n:=0 },[]):=by unfold y8;rw[hL]
       rw[e];clear e;refine⟨fun x hx=>(List.not_mem_nil hx).elim,?_⟩;have CS:=UA c now hok hf hn.1 hL;clear hL;refine jY dn ?_;repeat' ((conv=>whnf);first|with_reducible apply aO|((with_reducible refine fk (fun hc=>?_) fun hc=>?_)<;>first|exact absurd hc (by decide)|(exfalso;simp only[*,reduceCtorEq,Bool.not_true,Bool.not_false,Bool.true_and,Bool.and_true,Bool.false_and,Bool.and_false] at hc;done)|skip)|(apply dV;refine⟨_,_,aW (hO) ?_,?_⟩;exact aZ)|(apply dV;refine⟨_,_,CS,?_⟩)|refine aP ?_|fail)
       refine⟨_,_,⟨rfl,rfl⟩,?_⟩;all_goals exact aL
     | cons n0 rs=>
       have e:y8 c now=({ c with none:=[],body:=[],phase:=1,n:=n0,born:=now,since:=now },((others { c with n:=n0 }).filter fun p=>!([]:List Pl).any (· == p)).map fun p=>⟨p,3,c.l.id,n0,0,0,0,[],[]⟩):=by
        unfold y8;rw[hL];simp only[iC];rw[if_neg (by omega)];simp only[ite_self];rfl
       rw[e];clear e;refine⟨DY { c with n:=n0 } _,?_⟩;have CS:=OY c now hok hf hn.1 qZ n0 rs hL;clear hL;have hle:=DF { c with n:=n0 } ((others { c with n:=n0 }).filter fun p=>!([]:List Pl).any (· == p));simp only at hle ⊢;generalize ((others { c with n:=n0 }).filter fun p=>!([]:List Pl).any (· == p)).map (Au { c with n:=n0 })=rows at *;have h1:gY prog 13 [.pv (.agg c.c),.pv (uu now),.pv (.agg r.c)] [] (.fF [.agg (fA { c with none:=[],body:=[],phase:=1,n:=n0,born:=now,since:=now } (.aG 1001 0) (.aG 1002 0) (.aG 1003 0)),.aG 1004 0]) [(1001,.bR 48 0 2 1 27 2 (own (c.l.au.map Fr.c)) [] []),(1002,.arr 27 0 2 []),(1003,.arr 5 0 1 []),(1004,.arr 93 0 10 rows)]:=by
        clear hle;refine jY dn ?_;repeat' ((conv=>whnf);first|with_reducible apply aO|((with_reducible refine fk (fun hc=>?_) fun hc=>?_)<;>first|exact absurd hc (by decide)|(exfalso;simp only[*,reduceCtorEq,Bool.not_true,Bool.not_false,Bool.true_and,Bool.and_true,Bool.false_and,Bool.and_false] at hc;done)|skip)|(apply dV;refine⟨_,_,aW (hO) ?_,?_⟩;exact aZ)|(apply dV;refine⟨_,_,CS,?_⟩)|refine aP ?_|fail)
        refine⟨_,_,⟨rfl,rfl⟩,?_⟩;all_goals exact aL
       refine kE h1 [1004] ?_
       (conv=>whnf)
       refine⟨_,_,⟨rfl,rfl⟩,?_⟩;repeat' first|apply And.intro|exact aL|fail
       all_goals try (conv=>whnf)
       all_goals exact hle
   |false=>
   cases c2:(r.code==2) with
   | true=>
     have e:takeC c now r=({ c with phase:=4 },[]):=by unfold takeC;rw[q1,q2,q3,p1,p2,g1,nd,hT,c0,c2];cases (r.code==4)<;>rfl
     rw[e];clear e;refine Or.inl ⟨fun x hx=>(List.not_mem_nil hx).elim,?_⟩;clear hT;cases c4:(r.code==4) with
     |true=>rw[beq_iff_eq] at c2 c4;omega
     | false=>
       refine jY dn ?_;repeat' ((conv=>whnf);first|with_reducible apply aO|((with_reducible refine fk (fun hc=>?_) fun hc=>?_)<;>first|exact absurd hc (by decide)|(exfalso;simp only[*,reduceCtorEq,Bool.not_true,Bool.not_false,Bool.true_and,Bool.and_true,Bool.false_and,Bool.and_false] at hc;done)|skip)|(apply dV;refine⟨_,_,aW (hO) ?_,?_⟩;exact aZ)|refine aP ?_|fail)
       refine⟨_,_,⟨rfl,rfl⟩,?_⟩;all_goals exact aL
   |false=>
   cases c4:(r.code==4) with
   | true=>
     have e:takeC c now r=({ c with phase:=4 },[]):=by unfold takeC;rw[q1,q2,q3,p1,p2,g1,nd,hT,c0,c2,c4];rfl
     rw[e];clear e;refine Or.inl ⟨fun x hx=>(List.not_mem_nil hx).elim,?_⟩;clear hT;refine jY dn ?_;repeat' ((conv=>whnf);first|with_reducible apply aO|((with_reducible refine fk (fun hc=>?_) fun hc=>?_)<;>first|exact absurd hc (by decide)|(exfalso;simp only[*,reduceCtorEq,Bool.not_true,Bool.not_false,Bool.true_and,Bool.and_true,Bool.false_and,Bool.and_false] at hc;done)|skip)|(apply dV;refine⟨_,_,aW (hO) ?_,?_⟩;exact aZ)|refine aP ?_|fail)
     refine⟨_,_,⟨rfl,rfl⟩,?_⟩;all_goals exact aL
   | false=>
     have e:takeC c now r=(c,[]):=by unfold takeC;rw[q1,q2,q3,p1,p2,g1,nd,hT,c0,c2,c4];rfl
     rw[e];clear e;refine Or.inl ⟨fun x hx=>(List.not_mem_nil hx).elim,?_⟩;clear hT;refine jY dn ?_;repeat' ((conv=>whnf);first|with_reducible apply aO|((with_reducible refine fk (fun hc=>?_) fun hc=>?_)<;>first|exact absurd hc (by decide)|(exfalso;simp only[*,reduceCtorEq,Bool.not_true,Bool.not_false,Bool.true_and,Bool.and_true,Bool.false_and,Bool.and_false] at hc;done)|skip)|(apply dV;refine⟨_,_,aW (hO) ?_,?_⟩;exact aZ)|refine aP ?_|fail)
     refine⟨_,_,⟨rfl,rfl⟩,?_⟩;all_goals exact aL
end Go.Proofs.YtfoiekbkkbnpkaaGreat.Tb
end
