/-
  Contracts of functions of the program and of the document, each for every input that its premises name.
-/
import Derived.Test.YtfoiekbkkbnpkaaGreatBa
import Derived.Test.YtfoiekbkkbnpkaaGreatAe
import Derived.Test.YtfoiekbkkbnpkaaGreatAf
import Derived.WalkKit
import Derived.Test.YtfoiekbkkbnpkaaGreatProg
set_option linter.unusedSectionVars false
set_option linter.unusedVariables false
set_option linter.unusedSimpArgs false
set_option maxRecDepth 100000
set_option maxHeartbeats 4000000
section
open Go Go.Proofs.Tryz Go.AX
namespace Go.Proofs.YtfoiekbkkbnpkaaGreat.Tb
theorem ab1:bM prog 160 f160:=fO func160
theorem aeG (f:Fr)(old G:Pl)(hl:f.ah.length≤1000000):dF prog 160 [.agg f.c,.agg old.c,.agg G.c] (.cK [.agg ((l5 f old G).getD kT).c,bl (l5 f old G).isSome]):=by
 refine PC.le ?_;have ad:=uo f.ah old.node old.aH;obtain⟨K,V⟩:∃K,uI (· == old) f.ah=K:=⟨_,rfl⟩;rw[show uI (fun y=>y==(⟨old.node,old.aH⟩:Pl)) f.ah=K from V] at ad;obtain⟨X,hX⟩:∃X,X=l5 f old G:=⟨_,rfl⟩;rw[←hX];have Q:=lu (· == old) f.ah;rw[V] at Q;refine dQ ab1 ?_;repeat' ((conv=>whnf);first|(with_reducible first|apply aM|apply fk<;>intro hc<;>try exact aV)|(apply bX;refine⟨_,ad,?_⟩)|refine aK ?_|fail)
 refine⟨{k:Nat // k≤f.ah.length∧qb K G.node f.ah k=false},fun⟨k,_⟩=>⟨[(3,.ptr 1003 0),(5,.ptr 1005 0),(6,.ptr 1006 0),(8,.pv (ii K)),(16,.pv (av f.ah)),(17,.pv (ii f.ah.length)),(18,.pv (ii k))],1000000000,[(1003,.var [.pv (uu f.first),.pv (av f.ah)]),(1005,.var [.pv (ii G.node),.pv (uu G.aH)]),(1006,.var [.pv (uu 0),.pv gB])]⟩,fun⟨k,_⟩=>f.ah.length-k,⟨⟨0,Nat.zero_le _,rfl⟩,aD ?_⟩,?_⟩
 ·repeat' first|apply And.intro|exact aJ|fail
  all_goals try (conv=>whnf)
  all_goals simp
 rintro⟨k,hk,aa⟩
 by_cases J:k<f.ah.length
 ·have d0:decide ((k:Int)<(f.ah.length:Int))=true:=by simp only[iG];omega
  have eW:IntKind.i64.wrap ((k:Int)+1)=((k+1:Nat):Int):=by rw[bF (by omega) (by omega)];omega
  have S:=C8 K G.node f.ah k J;rw[aa,Bool.false_or] at S;clear Q;cases e1:((k:Int) != K)
  ·rw[e1,Bool.false_and] at S;repeat' ((conv=>whnf);first|(with_reducible first|apply aM|apply fk<;>intro hc<;>try exact aV)|((refine⟨_,dR _ _ _ J,?_⟩))|refine aK ?_|fail)
   refine⟨⟨k+1,J,S⟩,dec_lt J,aD ?_⟩;repeat' first|apply And.intro|exact aJ|fail
   all_goals try (conv=>whnf)
   exact eW
  cases e2:(f.ah[k].node==G.node)
  ·rw[e2,Bool.and_false] at S;repeat' ((conv=>whnf);first|(with_reducible first|apply aM|apply fk<;>intro hc<;>try exact aV)|((refine⟨_,dR _ _ _ J,?_⟩))|refine aK ?_|fail)
   refine⟨⟨k+1,J,S⟩,dec_lt J,aD ?_⟩;repeat' first|apply And.intro|exact aJ|fail
   all_goals try (conv=>whnf)
   exact eW
  have hn:X=none:=by
   rw[hX];unfold l5;rw[V,if_pos (Nb _ _ _ J (by rw[S,e1,e2];rfl))]
  clear hX S;subst hn;repeat' ((conv=>whnf);first|(with_reducible first|apply aM|apply fk<;>intro hc<;>try exact aV)|((refine⟨_,dR _ _ _ J,?_⟩))|refine aK ?_|fail)
  all_goals exact aJ
 have ae:k=f.ah.length:=by omega
 subst ae;have d0:decide ((f.ah.length:Int)<(f.ah.length:Int))=false:=by simp
 rcases Q with ⟨Q,_⟩|⟨n,hn,Q,_⟩
 ·have hn:X=none:=by
   rw[hX];unfold l5;rw[V,if_neg (by rw[aa];decide),if_pos (by omega)]
  clear hX V;subst hn;subst Q;repeat' ((conv=>whnf);first|(with_reducible first|apply aM|apply fk<;>intro hc<;>try exact aV)|refine aK ?_|fail)
  all_goals exact aJ
 have af:X=some ⟨f.first,f.ah.set n G⟩:=by
  rw[hX];unfold l5;rw[V,if_neg (by rw[aa];decide),if_neg (by omega),Q];rfl
 clear hX V;subst af;subst Q;have d1:decide ((n:Int)<0)=false:=by simp
 repeat' ((conv=>whnf);first|(with_reducible first|apply aM|apply fk<;>intro hc<;>try exact aV)|(apply mq;refine⟨_,_,fU f.ah (by omega),?_⟩)|((refine⟨_,dR _ _ _ hn,?_⟩))|refine aK ?_|fail)
 repeat' first|apply And.intro|exact aJ|fail
 all_goals try (conv=>whnf)
 refine gJ ?_;show (List.map Pl.c f.ah).set n (Pl.c G)=List.map Pl.c (f.ah.set n G)
 rw[List.map_set]
theorem AO:bM prog 129 f129:=fO func129
theorem OL (f:Fr)(old:Pl)(known:List Pl)(hl:f.ah.length≤1000000):dF prog 129 [.agg f.c,.agg old.c,av known] (.cK [.agg (iF f old known).1.c,bl (iF f old known).2]):=by
 refine PC.le (pU AO fun V=>?_);have V:known.length≤9223372036854775807:=by simp[IX,DU,av] at V;omega
 obtain⟨X,Q⟩:∃X,X=iF f old known:=⟨_,rfl⟩;rw[←Q];refine dQ AO ?_;repeat' ((conv=>whnf);first|(with_reducible first|apply aM|apply fk<;>intro hc<;>try exact aV)|refine aK ?_|fail)
 refine⟨{k:Nat // k≤known.length∧X=iF f old (known.drop k)},fun⟨k,_⟩=>⟨[(3,.ptr 1003 0),(4,.ptr 1004 0),(6,.ptr 1006 0),(12,.pv (av known)),(13,.pv (ii known.length)),(14,.pv (ii k))],1000000000,[(1003,.var [.pv (uu f.first),.pv (av f.ah)]),(1004,.var [.pv (ii old.node),.pv (uu old.aH)]),(1006,.var [.pv (uu 0),.pv gB])]⟩,fun⟨k,_⟩=>known.length-k,⟨⟨0,Nat.zero_le _,Q⟩,aD ?_⟩,?_⟩
 ·repeat' first|apply And.intro|exact aJ|fail
  all_goals try (conv=>whnf)
  all_goals simp
 rintro⟨k,hk,G⟩
 clear Q;by_cases K:k<known.length
 ·have d0:decide ((k:Int)<(known.length:Int))=true:=by simp only[iG];omega
  have eW:IntKind.i64.wrap ((k:Int)+1)=((k+1:Nat):Int):=by rw[bF (by omega) (by omega)];omega
  rw[QI f old known k K] at G;have J:=aeG f old known[k] hl;cases hs:l5 f old known[k] with
  | none=>
    rw[hs] at G J;simp only[Option.getD_none,Option.isSome_none] at J;repeat' ((conv=>whnf);first|(with_reducible first|apply aM|apply fk<;>intro hc<;>try exact aV)|((refine⟨_,dR _ _ _ K,?_⟩))|refine eT J ?_|refine aK ?_|fail)
    refine⟨⟨k+1,K,G⟩,dec_lt K,aD ?_⟩;repeat' first|apply And.intro|exact aJ|fail
    all_goals try (conv=>whnf)
    exact eW
  | some g=>
    rw[hs] at G J;simp only[Option.getD_some,Option.isSome_some] at J;subst G;repeat' ((conv=>whnf);first|(with_reducible first|apply aM|apply fk<;>intro hc<;>try exact aV)|((refine⟨_,dR _ _ _ K,?_⟩))|refine eT J ?_|refine aK ?_|fail)
    all_goals exact aJ
 have S:k=known.length:=by omega
 subst S;have d0:decide ((known.length:Int)<(known.length:Int))=false:=by simp
 rw[List.drop_length] at G;subst G;repeat' ((conv=>whnf);first|(with_reducible first|apply aM|apply fk<;>intro hc<;>try exact aV)|refine aK ?_|fail)
 all_goals exact aJ
theorem Sb:bM prog 128 f128:=fO func128
theorem JS (bad:List Pl)(y:Pl):dF prog 128 ([]++([.agg y.c]++[.dU [av bad] 0])) (bl (bad.any (· == y))):=by
 refine PC.le ?_;refine dQ Sb ?_;repeat' ((conv=>whnf);first|(with_reducible first|apply aM|apply fk<;>intro hc<;>try exact aV)|(apply bX;refine⟨_,aA _ _ _,?_⟩)|refine aK ?_|fail)
 all_goals exact aJ
theorem Sc:bM prog 131 f131:=fO func131
theorem WZ (x y:Pl):dF prog 131 ([]++([.agg y.c]++[.dU x.c 0])) (bl (y.node==x.node)):=by
 refine PC.le ?_;refine dQ Sc ?_;repeat' ((conv=>whnf);first|(with_reducible first|apply aM|apply fk<;>intro hc<;>try exact aV)|refine aK ?_|fail)
 all_goals exact aJ
def kept (p:Pl→Bool)(l:List Pl)(j:Nat):List Pl:=(l.take j).filter fun x=>!p x
def Sj (p:Pl→Bool)(l:List Pl)(G:Nat×List Pl):Prop:=G.1≤l.length∧G.2.length=l.length∧G.2.take (kept p l G.1).length=kept p l G.1∧G.2.drop G.1=l.drop G.1
theorem Uk (p:Pl→Bool)(l:List Pl)(j:Nat)(h:j≤l.length):(kept p l j).length≤j:=by
 refine Nat.le_trans (List.length_filter_le _ _) ?_;simp;omega
theorem sM (p:Pl→Bool)(l:List Pl)(j:Nat)(h:j<l.length):kept p l (j+1)=if p l[j] then kept p l j else kept p l j++[l[j]]:=by
 unfold kept;rw[List.take_succ_eq_append_getElem h,List.filter_append];cases G:p l[j]<;>simp[G]
theorem ab3 {p:Pl→Bool}{l:List Pl}{j:Nat}{m:List Pl}(h:Sj p l (j,m))(Q:j<l.length):∃G:j<m.length,m[j]=l[j]:=by
 obtain⟨_,K,_,J⟩:=h;simp only at K J;have G:j<m.length:=by omega
 refine⟨G,?_⟩;have:=congrArg (fun x=>x[0]?) J;simpa[G,Q] using this
theorem Xb {p:Pl→Bool}{l:List Pl}{j:Nat}{m:List Pl}(h:Sj p l (j,m))(J:j<l.length)(hp:p l[j]=true):Sj p l (j+1,m):=by
 obtain⟨S,K,Q,G⟩:=h;refine⟨J,K,?_,?_⟩
 ·simp only[sM p l j J,hp,if_true];exact Q
 simp only at G ⊢;have:=congrArg (fun x=>x.drop 1) G;simpa using this
theorem Xc {p:Pl→Bool}{l:List Pl}{j:Nat}{m:List Pl}(h:Sj p l (j,m))(G:j<l.length)(hp:p l[j]=false):Sj p l (j+1,m.set (kept p l j).length l[j]):=by
 have V:=Uk p l j (Nat.le_of_lt G);obtain⟨S,J,K,Q⟩:=h;simp only at J K Q;refine⟨G,by simpa using J,?_,?_⟩
 ·simp only[sM p l j G,hp,Bool.false_eq_true,if_false,rP,List.length_singleton];rw[List.take_succ_eq_append_getElem (by simp;omega),List.take_set_of_le (Nat.le_refl _),K];simp
 simp only;have:=congrArg (fun x=>x.drop 1) Q;rw[List.drop_set_of_lt (by omega)];simpa using this
theorem Sl {p:Pl→Bool}{l:List Pl}(k:Nat)(Q:k<l.length)(h:∀j (K:j<l.length),j<k→p l[j]=false)(hp:p l[k]=true):Sj p l (k+1,l)∧(kept p l (k+1)).length=k:=by
 have S:kept p l k=l.take k:=by
  unfold kept;rw[List.filter_eq_self];intro x V;obtain⟨j,K,rfl⟩:=List.getElem_of_mem V;rw[List.length_take] at K;rw[List.getElem_take,h j (by omega) (by omega)];rfl
 have G:kept p l (k+1)=l.take k:=by rw[sM p l k Q,hp,if_pos rfl,S]
 have J:(l.take k).length=k:=by simp;omega
 exact⟨⟨Q,rfl,by simp only[G,J],rfl⟩,by rw[G,J]⟩
theorem GK:bM prog 109 f109:=fO func109
theorem aeH (row:List PV)(l:List Pl)(f:FuncId)(p:Pl→Bool)(hp:∀x∈l,dF prog f ([]++([.agg x.c]++[.dU row 0])) (bl (p x)))(G:∀x∈l,p x=false)(K:l.length≤8796093022208) :
  dX prog 109 [.aO 1 0,.pv (.fn (.func f) [] [.dU row 0])] [(1,.arr 27 0 2 (l.map Pl.c))] (.aO 1 0) [(1,.arr 27 0 2 (l.map Pl.c))]:=by
 have J:uI p l = -1:=p9 p G;refine fw GK ?_;repeat' ((conv=>whnf);first|(with_reducible first|apply aM|apply fk<;>intro hc<;>try exact aV)|(apply bX;refine⟨_,nH _ _ _ _ p hp,?_⟩)|refine aK ?_|fail)
 ·refine⟨_,_,⟨rfl,rfl⟩,?_⟩;all_goals exact aJ
 rw[J] at hc;simp at hc
theorem ab4 (row:List PV)(l:List Pl)(f:FuncId)(p:Pl→Bool)(hp:∀x∈l,dF prog f ([]++([.agg x.c]++[.dU row 0])) (bl (p x)))(h0:¬∀x∈l,p x=false)(hl:l.length≤8796093022208) :
  dX prog 109 [.aO 1 0,.pv (.fn (.func f) [] [.dU row 0])] [(1,.arr 27 0 2 (l.map Pl.c))] (.sub 1 0 2 0 (l.filter fun x=>!p x).length) [(1,.arr 27 0 2 ((l.filter fun x=>!p x).map Pl.c++List.replicate (l.length-(l.filter fun x=>!p x).length) [ii 0,uu 0]))]:=by
 obtain⟨ix,af,K,am,al⟩:∃k,∃hk:k<l.length,uI p l=(k:Nat)∧p l[k]=true∧∀j (Q:j<l.length),j<k→p l[j]=false:=by
  rcases lu p l with ⟨_,h⟩|⟨k,hk,h1,h2,h3⟩
  ·exact absurd h h0
  exact⟨k,hk,h1,h2,h3⟩
 obtain⟨hS,hK⟩:=Sl ix af al am;refine fw GK ?_;repeat' ((conv=>whnf);first|(with_reducible first|apply aM|apply fk<;>intro hc<;>try exact aV)|(apply bX;refine⟨_,nH _ _ _ _ p hp,?_⟩)|refine aK ?_|fail)
 ·rw[K] at hc;simp at hc
 refine⟨{jm:Nat×List Pl // Sj p l jm},fun⟨(j,m),_⟩=>⟨[(0,.aO 1 0),(1,.pv (.fn (.func f) [] [.dU row 0])),(5,.pv (ii (kept p l j).length)),(6,.pv (ii j))],1000000000,[(1,.arr 27 0 2 (m.map Pl.c))]⟩,fun⟨(j,_),_⟩=>l.length-j,⟨⟨(ix+1,l),hS⟩,aD ?_⟩,?_⟩
 ·repeat' first|apply And.intro|exact aJ|fail
  all_goals try (conv=>whnf)
  ·rw[K,hK]
  ·rw[K];exact bF (by omega) (by omega)
 rintro⟨⟨j,m⟩,Q⟩
 obtain⟨S,V,X,ag⟩:=id Q;simp only at S V X ag;have ao:=Uk p l j S;repeat' ((conv=>whnf);first|(with_reducible first|apply aM|apply fk<;>intro hc<;>try exact aV)|refine aK ?_|fail)
 ·have ai:j<m.length:=by simpa using hc
  have G:j<l.length:=by omega
  obtain⟨_,he⟩:=ab3 Q G;have ak:dF prog f ([]++([.agg (m[j]).c]++[.dU row 0])) (bl (p m[j])):=hp _ (by rw[he];exact List.getElem_mem G);have hi:(kept p l j).length<m.length:=by omega
  repeat' ((conv=>whnf);first|(with_reducible first|apply aM|apply fk<;>intro hc<;>try exact aV)|(refine zxb ?_)|((refine⟨_,dR _ _ _ ai,?_⟩))|((refine⟨_,dR _ _ _ hi,?_⟩))|(apply bX;refine⟨_,ak,?_⟩)|refine aK ?_|fail)
  ·have ad:p l[j]=false:=by rw[←he];simpa using hc
   refine⟨⟨(j+1,m.set (kept p l j).length l[j]),Xc Q G ad⟩,dec_lt G,aD ?_⟩;have J:(kept p l (j+1)).length=(kept p l j).length+1:=by rw[sM p l j G,ad];simp
   repeat' first|apply And.intro|exact aJ|fail
   all_goals try (conv=>whnf)
   ·refine gJ ?_;rw[←he,List.map_set];rfl
   ·rw[bF (by omega) (by omega),J];omega
   exact bF (by omega) (by omega)
  have ae:p l[j]=true:=by rw[←he];simpa using hc
  refine⟨⟨(j+1,m),Xb Q G ae⟩,dec_lt G,aD ?_⟩;have J:(kept p l (j+1)).length=(kept p l j).length:=by rw[sM p l j G,ae];simp
  repeat' first|apply And.intro|exact aJ|fail
  all_goals try (conv=>whnf)
  ·rw[J]
  exact bF (by omega) (by omega)
 have ah:j=l.length:=by simp at hc;omega
 subst ah;have aa:kept p l l.length=l.filter fun x=>!p x:=by unfold kept;rw[List.take_length]
 repeat' ((conv=>whnf);first|(with_reducible first|apply aM|apply fk<;>intro hc<;>try exact aV)|(((with_reducible apply And.intro);focus (simp only[fG,rP,List.length_take,List.length_drop,List.length_replicate];omega)))|refine aK ?_|fail)
 refine⟨_,_,⟨rfl,rfl⟩,?_⟩;repeat' first|apply And.intro|exact aJ|fail
 all_goals try (conv=>whnf)
 ·refine gJ ?_;rw[←aa,Int.toNat_natCast,List.length_map,←List.map_take,X,List.drop_eq_nil_of_le (by simp),List.append_nil,V]
 rw[aa];rfl
theorem aeI (row:List PV)(l:List Pl)(f:FuncId)(p:Pl→Bool)(hp:∀x∈l,dF prog f ([]++([.agg x.c]++[.dU row 0])) (bl (p x)))(G:¬∀x∈l,p x=false)(J:l.length≤8796093022208) :
  dX prog 109 [.aO 1 0,.pv (.fn (.func f) [] [.dU row 0])] [(1,.arr 27 0 2 (l.map Pl.c))] (.aO 1 1) [(1,.arr 27 1 2 ((l.filter fun x=>!p x).map Pl.c))]:=by
 have h:=Ua (ab4 row l f p hp G J) (by simp);rw[List.take_append_of_le_length (by simp),List.take_of_length_le (by simp)] at h;exact h
def dbl (T:Tab):Tab:=
 match T with
 |x::r=>x::x::r
 |[]=>[]
def ame:Tab:=dbl tab
theorem ahA (T:Tab)(t:Nat):lk (dbl T) t=lk T t:=by
 cases T with
 |nil=>rfl
 | cons x r=>
   obtain⟨k,v⟩:=x;simp only[dbl,aG];split<;>rfl
theorem vY:dB prog ame:=fun t i h=>bV t i (by rw[←ahA tab t];exact h)
theorem Sd:bM prog 130 f130:=fO func130
theorem Si (l:List Pl)(i:Nat)(hi:i<l.length)(hl:l.length≤1000000)(a b:Int)(Q:a=(i:Int))(S:b=(i:Int)+1) :
  dX prog 130 [.aO 1 0,.pv (ii a),.pv (ii b)] [(1,.arr 27 0 2 (l.map Pl.c))] (.sub 1 0 2 0 (l.length-1)) [(1,.arr 27 0 2 ((l.eraseIdx i).map Pl.c++[[ii 0,uu 0]]))]:=by
 have d1:(a==b)=false:=by rw[Q,S];simp;omega
 have yD:a≤(i:Int)∧(i:Int)≤a:=by omega
 have aa:b≤(i:Int)+1∧(i:Int)+1≤b:=by omega
 have G:a.toNat=i:=by omega
 have J:b.toNat=i+1:=by omega
 clear Q S;refine zI vY (bZ mixed vY) Sd rfl ?_;repeat' ((conv=>whnf);first|(with_reducible first|apply aM|apply fk<;>intro hc<;>try exact aV)|(((with_reducible apply And.intro);focus (simp only[jQ,fG,rP,List.length_take,List.length_drop,List.length_replicate];omega)))|refine aK ?_|fail)
 refine⟨_,_,⟨rfl,rfl⟩,?_⟩;repeat' first|apply And.intro|exact aJ|fail
 all_goals try (conv=>whnf)
 ·refine gJ ?_;rw[G,J];obtain⟨L,K⟩:∃L,l.map Pl.c=L:=⟨_,rfl⟩;have hn:L.length=l.length:=by rw[←K,List.length_map]
  have V:List.map Pl.c (l.eraseIdx i)=L.take i++L.drop (i+1):=by rw[←K,List.eraseIdx_eq_take_drop_succ,List.map_append,List.map_take,List.map_drop]
  rw[V,K];have ad:i<L.length:=by omega
  have X:jQ L (i+1) L.length=L.drop (i+1):=by unfold jQ;exact List.take_of_length_le (by simp)
  have e2:i+(L.drop (i+1)).length=L.length-1:=by rw[List.length_drop];omega
  have hM:(L.take i++L.drop (i+1)).length=L.length-1:=by rw[List.length_append,List.length_take,List.length_drop];omega
  have e3:(jQ (L.take i++(L.drop (i+1)++L.drop (L.length-1))) 0 (L.length-1)).length=L.length-1:=by
   simp only[jQ,List.length_take,List.length_drop,rP];omega
  have e5:List.drop L.length (L.take i++L.drop (i+1)++L.drop (L.length-1))=[]:=List.drop_eq_nil_of_le (by rw[List.length_append,hM,List.length_drop];omega);simp only[X,e2,e3,Int.toNat_natCast];rw[←List.append_assoc (L.take i),List.take_append_of_le_length (by omega),List.take_of_length_le (by omega),e5,show L.length-(L.length-1)=1 by omega];rfl
 rw[G,J,List.length_map];have:(jQ (List.map Pl.c l) (i+1) l.length).length=l.length-(i+1):=by simp only[jQ,List.length_take,List.length_drop,fG];omega
 rw[this,show i+(l.length-(i+1))=l.length-1 by omega]
theorem W9 (l:List Pl)(i:Nat)(hi:i<l.length)(Q:l.length≤1000000)(a b:Int)(G:a=(i:Int))(J:b=(i:Int)+1) :
  dX prog 130 [.aO 1 0,.pv (ii a),.pv (ii b)] [(1,.arr 27 0 2 (l.map Pl.c))] (.aO 1 1) [(1,.arr 27 1 2 ((l.eraseIdx i).map Pl.c))]:=by
 have K:(l.eraseIdx i).length=l.length-1:=by rw[List.length_eraseIdx,if_pos hi]
 have h:=Ua (Si l i hi Q a b G J) (by simp only[rP,fG,List.length_singleton];omega);rw[List.take_append_of_le_length (by rw[List.length_map];omega),List.take_of_length_le (by rw[List.length_map];omega)] at h;exact h
theorem ab2 (bad known:List Pl)(Q:known.length≤1000):dX prog 109 [.aO 1 0,.pv (.fn (.func 128) [] [.dU [av bad] 0])] [(1,.arr 27 0 2 (known.map Pl.c))] (.aO 1 1) [(1,.arr 27 1 2 ((fit bad known).map Pl.c))]:=by
 by_cases G:∀x∈known,bad.any (· == x)=false
 ·have h:=aag (aeH [av bad] known 128 (fun x=>bad.any (· == x)) (fun x _=>JS bad x) G (by omega));have J:fit bad known=known:=List.filter_eq_self.2 (fun x K=>by rw[G x K];rfl);rw[J];exact h
 exact aeI [av bad] known 128 (fun x=>bad.any (· == x)) (fun x _=>JS bad x) G (by omega)
theorem Xa:bM prog 81 f81:=fO func81
theorem wm (f:Fr)(w e:Int)(bad known:List Pl)(hf:f.ah.length≤1000)(hk:known.length≤1000) :
  dF prog 81 [.agg f.c,ii w,ii e,av bad,av known] (.cK [.agg (fC f w e bad known).1.c,bl (fC f w e bad known).2]):=by
 refine PC.le ?_;have ag:=ab2 bad known hk;have ae:=fU known (by omega);obtain⟨X,hX⟩:∃X,X=fC f w e bad known:=⟨_,rfl⟩;rw[←hX];unfold fC at hX;have a1:(fit bad known).length≤1000:=Nat.le_trans (List.length_filter_le _ _) hk;obtain⟨J,aq⟩:∃J,fit bad known=J:=⟨_,rfl⟩;rw[aq] at hX ag a1;clear aq hk;refine dQ Xa ?_;repeat' ((conv=>whnf);first|(with_reducible first|apply aM|apply fk<;>intro hc<;>try exact aV)|(apply mq;refine⟨_,_,ae,?_⟩)|refine eF ag ?_|refine aK ?_|fail)
 clear ag ae;refine⟨{k:Nat // k≤f.ah.length},fun⟨k,_⟩=>⟨[(1,.pv (ii w)),(2,.pv (ii e)),(4,.aO 1004 0),(8,.ptr 1008 0),(10,.ptr 1010 0),(12,.pv (bl ((f.ah.take k).foldl (xA bad J) (f,[],false)).2.2)),(13,.aO 1013 0),(14,.ptr 1014 0),(29,.pv (av f.ah)),(30,.pv (ii f.ah.length)),(31,.pv (ii k))],1000000000,[(1004,.d9 0 2 (J.map Pl.c)),(1008,.oN [av bad]),(1010,.var [.pv (uu 0),.pv gB]),(1013,.arr 27 0 2 (((f.ah.take k).foldl (xA bad J) (f,[],false)).2.1.map Pl.c)),(1014,.var [.pv (uu ((f.ah.take k).foldl (xA bad J) (f,[],false)).1.first),.pv (av ((f.ah.take k).foldl (xA bad J) (f,[],false)).1.ah)])]⟩,fun⟨k,_⟩=>f.ah.length-k,⟨⟨0,Nat.zero_le _⟩,adG [1001003001] ?_⟩,?_⟩
 ·repeat' first|apply And.intro|exact aJ|fail
  all_goals try (conv=>whnf)
  all_goals simp
 rintro⟨k,hk⟩
 by_cases V:k<f.ah.length
 ·have d0:decide ((k:Int)<(f.ah.length:Int))=true:=by simp only[iG];omega
  have eW:IntKind.i64.wrap ((k:Int)+1)=((k+1:Nat):Int):=by rw[bF (by omega) (by omega)];omega
  have G:=oz (xA bad J) (f,[],false) f.ah k V;obtain⟨g1,g2,g3⟩:=Ah bad J (f.ah.take k) (f,[],false);simp only[List.length_take,jq] at g1 g3;obtain⟨S,hS⟩:∃S,(f.ah.take k).foldl (xA bad J) (f,[],false)=S:=⟨_,rfl⟩;rw[hS] at G g1 g3;clear g2 hX;have af:=aA bad f.ah[k].node f.ah[k].aH;have ak:=OL S.1 f.ah[k] J (by omega);have ar:xA bad J S f.ah[k]=if bad.any (· == f.ah[k]) then (if (iF S.1 f.ah[k] J).2 then ((iF S.1 f.ah[k] J).1,S.2.1,true) else ((iF S.1 f.ah[k] J).1,S.2.1++[f.ah[k]],S.2.2)) else S:=rfl
  rw[ar] at G;clear ar;rw[show (bad.any fun y=>y==(⟨f.ah[k].node,f.ah[k].aH⟩:Pl))=bad.any (· == f.ah[k]) from rfl] at af;obtain⟨bb,wJ⟩:∃bb,bad.any (· == f.ah[k])=bb:=⟨_,rfl⟩;rw[wJ] at af G;clear wJ;dsimp only
  rw[hS];cases bb with
  | false=>
    simp only[Bool.false_eq_true,↓reduceIte] at G;repeat' ((conv=>whnf);first|(with_reducible first|apply aM|apply fk<;>intro hc<;>try exact aV)|((refine⟨_,dR _ _ _ V,?_⟩))|(apply bX;refine⟨_,af,?_⟩)|refine aK ?_|fail)
    all_goals
     refine⟨⟨k+1,V⟩,dec_lt V,aD ?_⟩;simp only[G];repeat' first|apply And.intro|exact aJ|fail
     all_goals try (conv=>whnf)
    all_goals exact eW
  | true=>
    simp only[↓reduceIte] at G;obtain⟨rp,Tf⟩:∃rp,iF S.1 f.ah[k] J=rp:=⟨_,rfl⟩;rw[Tf] at G ak;clear Tf;obtain⟨a6,a3⟩:=rp;cases a3 with
    | true=>
      simp only[↓reduceIte] at G;simp only at ak;repeat' ((conv=>whnf);first|(with_reducible first|apply aM|apply fk<;>intro hc<;>try exact aV)|((refine⟨_,dR _ _ _ V,?_⟩))|(apply bX;refine⟨_,af,?_⟩)|refine eT ak ?_|refine aK ?_|fail)
      all_goals
       refine⟨⟨k+1,V⟩,dec_lt V,aD ?_⟩;simp only[G];repeat' first|apply And.intro|exact aJ|fail
       all_goals try (conv=>whnf)
      all_goals first
       |exact eW
       |(show _=true;simp_all;done)
    | false=>
      simp only[Bool.false_eq_true,↓reduceIte] at G;simp only at ak;repeat' ((conv=>whnf);first|(with_reducible first|apply aM|apply fk<;>intro hc<;>try exact aV)|((refine⟨_,dR _ _ _ V,?_⟩))|(apply bX;refine⟨_,af,?_⟩)|refine eT ak ?_|(((with_reducible apply And.intro);focus (simp only[fG,jo,jq];omega)))|refine aK ?_|fail)
      all_goals
       refine⟨⟨k+1,V⟩,dec_lt V,aD ?_⟩;simp only[G];repeat' first|apply And.intro|exact aJ|fail
       all_goals try (conv=>whnf)
      all_goals first
       |exact eW
       | (rw[List.map_append]
          refine bW (ay _) ?_
          (repeat' first|apply And.intro|exact aJ|fail);(all_goals try (conv=>whnf)))
       |(symm;assumption)
 have a2:k=f.ah.length:=by omega
 subst a2;have d0:decide ((f.ah.length:Int)<(f.ah.length:Int))=false:=by simp
 obtain⟨g1,g2,g3⟩:=Ah bad J f.ah (f,[],false);simp only[jq] at g1 g3;dsimp only
 rw[List.take_length];unfold fZ at hX;obtain⟨⟨S,left,s1⟩,hS⟩:∃S,f.ah.foldl (xA bad J) (f,[],false)=S:=⟨_,rfl⟩;rw[hS] at hX g1 g3 ⊢;simp only at g1 g3;unfold nT at hX;simp only at hX;clear g2 hS;have ae:=fU S.ah (by omega);repeat' ((conv=>whnf);first|(with_reducible first|apply aM|apply fk<;>intro hc<;>try exact aV)|(apply mq;refine⟨_,_,ae,?_⟩)|refine aK ?_|fail)
 clear ae;refine⟨{k:Nat // k≤left.length},fun⟨k,_⟩=>⟨[(1,.pv (ii w)),(2,.pv (ii e)),(4,.aO 1004 0),(10,.ptr 1010 0),(12,.pv (bl ((left.take k).foldl (DX w) (S.ah,s1)).2)),(14,.ptr 1014 0),(61,.aO 1061 0),(62,.pv (ii left.length)),(63,.pv (ii k))],1000000000,[(1004,.d9 0 2 (J.map Pl.c)),(1010,.var [.pv (uu 0),.pv gB]),(1061,.arr 27 0 2 (left.map Pl.c)),(1014,.var [.pv (uu S.first),.aO 1015 0]),(1015,.arr 27 0 2 (((left.take k).foldl (DX w) (S.ah,s1)).1.map Pl.c))]⟩,fun⟨k,_⟩=>left.length-k,⟨⟨0,Nat.zero_le _⟩,aD ?_⟩,?_⟩
 ·repeat' first|apply And.intro|exact aJ|fail
  all_goals try (conv=>whnf)
  all_goals simp
 rintro⟨k,a4⟩
 by_cases Q:k<left.length
 ·have d1:decide ((k:Int)<(left.length:Int))=true:=by simp only[iG];omega
  have eW:IntKind.i64.wrap ((k:Int)+1)=((k+1:Nat):Int):=by rw[bF (by omega) (by omega)];omega
  have G:=oz (DX w) (S.ah,s1) left k Q;have g4:=Eo w (left.take k) (S.ah,s1);simp only at g4;clear hX;obtain⟨⟨b,s2⟩,ad⟩:∃S2,(left.take k).foldl (DX w) (S.ah,s1)=S2:=⟨_,rfl⟩;dsimp only
  rw[ad] at G g4 ⊢;simp only at g4;have ai:=uo b left[k].node left[k].aH;rw[show uI (fun y=>y==(⟨left[k].node,left[k].aH⟩:Pl)) b=uI (· == left[k]) b from rfl] at ai;have aw:DX w (b,s2) left[k]=if decide ((b.length:Int)>w)&&decide (uI (· == left[k]) b≥0) then (b.eraseIdx (uI (· == left[k]) b).toNat,true) else (b,s2):=rfl
  rw[aw] at G;have aa:=lu (· == left[k]) b;obtain⟨K,hK⟩:∃K,uI (· == left[k]) b=K:=⟨_,rfl⟩;rw[hK] at ai G aa;clear aw hK ad;cases e1:decide ((b.length:Int)>w) with
  | false=>
    have am:decide (((List.map Pl.c b).length:Int)>w)=false:=by rw[List.length_map];exact e1
    rw[e1] at G;simp only[Bool.false_and,Bool.false_eq_true,↓reduceIte] at G;clear aa;repeat' ((conv=>whnf);first|(with_reducible first|apply aM|apply fk<;>intro hc<;>try exact aV)|((refine⟨_,dR _ _ _ Q,?_⟩))|refine eT ai ?_|refine aK ?_|fail)
    all_goals
     refine⟨⟨k+1,Q⟩,dec_lt Q,aD ?_⟩;simp only[G];repeat' first|apply And.intro|exact aJ|fail
     all_goals try (conv=>whnf)
    all_goals exact eW
  | true=>
    have am:decide (((List.map Pl.c b).length:Int)>w)=true:=by rw[List.length_map];exact e1
    rw[e1] at G;rcases aa with ⟨aa,_⟩|⟨n,hn,aa,_⟩
    ·have e2:decide (K≥0)=false:=by simp only[uS];omega
     rw[e2] at G;simp only[Bool.and_false,Bool.false_eq_true,↓reduceIte] at G;clear aa;repeat' ((conv=>whnf);first|(with_reducible first|apply aM|apply fk<;>intro hc<;>try exact aV)|((refine⟨_,dR _ _ _ Q,?_⟩))|refine eT ai ?_|refine aK ?_|fail)
     all_goals
      refine⟨⟨k+1,Q⟩,dec_lt Q,aD ?_⟩;simp only[G];repeat' first|apply And.intro|exact aJ|fail
      all_goals try (conv=>whnf)
     all_goals exact eW
    have e2:decide (K≥0)=true:=by simp only[iG];omega
    rw[e2] at G;simp only[Bool.and_self,↓reduceIte] at G;have a0:=W9 b n hn (by omega) K (IntKind.i64.wrap (K+1)) aa (by rw[bF (by omega) (by omega)];omega);rw[show K.toNat=n by omega] at G;clear aa;repeat' ((conv=>whnf);first|(with_reducible first|apply aM|apply fk<;>intro hc<;>try exact aV)|((refine⟨_,dR _ _ _ Q,?_⟩))|refine eT ai ?_|refine eF a0 ?_|refine aK ?_|fail)
    all_goals
     refine⟨⟨k+1,Q⟩,dec_lt Q,aD ?_⟩;simp only[G];repeat' first|apply And.intro|exact aJ|fail
     all_goals try (conv=>whnf)
    all_goals exact eW
 have ap:k=left.length:=by omega
 subst ap;have d1:decide ((left.length:Int)<(left.length:Int))=false:=by simp
 have g4:=Eo w left (S.ah,s1);simp only at g4;dsimp only
 rw[List.take_length];obtain⟨⟨b,s2⟩,ad⟩:∃S2,left.foldl (DX w) (S.ah,s1)=S2:=⟨_,rfl⟩;rw[ad] at hX g4 ⊢;simp only at hX g4;clear ad;cases s2 with
 | false=>
   simp only[Bool.false_eq_true,↓reduceIte] at hX;subst hX;dsimp only
   repeat' ((conv=>whnf);first|(with_reducible first|apply aM|apply fk<;>intro hc<;>try exact aV)|refine aK ?_|fail)
   all_goals exact aJ
 |true=>
 simp only[↓reduceIte] at hX;dsimp only
 repeat' ((conv=>whnf);first|(with_reducible first|apply aM|apply fk<;>intro hc<;>try exact aV)|refine aK ?_|fail)
 refine⟨{k:Nat // k≤J.length},fun⟨k,_⟩=>⟨[(2,.pv (ii e)),(10,.ptr 1010 0),(14,.ptr 1014 0),(91,.aO 1004 0),(92,.pv (ii J.length)),(93,.pv (ii k))],1000000000,[(1004,.d9 0 2 (J.map Pl.c)),(1010,.var [.pv (uu 0),.pv gB]),(1014,.var [.pv (uu S.first),.aO 1015 0]),(1015,.arr 27 0 2 (((J.take k).foldl (FB e) b).map Pl.c))]⟩,fun⟨k,_⟩=>J.length-k,⟨⟨0,Nat.zero_le _⟩,aD ?_⟩,?_⟩
 ·repeat' first|apply And.intro|exact aJ|fail
  all_goals try (conv=>whnf)
  all_goals simp
 rintro⟨k,a5⟩
 by_cases Cf:k<J.length
 ·have d2:decide ((k:Int)<(J.length:Int))=true:=by simp only[iG];omega
  have eW:IntKind.i64.wrap ((k:Int)+1)=((k+1:Nat):Int):=by rw[bF (by omega) (by omega)];omega
  have G:=oz (FB e) b J k Cf;have g5:=Ty e (J.take k) b;simp only[List.length_take] at g5;clear hX;obtain⟨m,hm⟩:∃m,(J.take k).foldl (FB e) b=m:=⟨_,rfl⟩;dsimp only
  rw[hm] at G g5 ⊢;clear hm;have al:=oJ m 131 [] [.dU (J[k]).c 0] (fun y=>y.node==J[k].node) (fun y _=>WZ J[k] y);have ax:FB e m J[k]=if decide ((m.length:Int)<(if 5<e then 5 else e)) && !(m.any fun y=>y.node==J[k].node) then m++[J[k]] else m:=rfl
  rw[ax] at G;clear ax;obtain⟨ct,ao⟩:∃ct,(m.any fun y=>y.node==J[k].node)=ct:=⟨_,rfl⟩;rw[ao] at G al;clear ao;cases e1:decide ((m.length:Int)<(if 5<e then 5 else e)) with
  | false=>
    have am:decide (((List.map Pl.c m).length:Int)<(if 5<e then 5 else e))=false:=by rw[List.length_map];exact e1
    rw[e1] at G;simp only[Bool.false_and,Bool.false_eq_true,↓reduceIte] at G;repeat' ((conv=>whnf);first|(with_reducible first|apply aM|apply fk<;>intro hc<;>try exact aV)|((refine⟨_,dR _ _ _ Cf,?_⟩))|refine eT al ?_|refine aK ?_|fail)
    all_goals
     refine⟨⟨k+1,Cf⟩,dec_lt Cf,aD ?_⟩;simp only[G];repeat' first|apply And.intro|exact aJ|fail
     all_goals try (conv=>whnf)
    all_goals exact eW
  | true=>
    have am:decide (((List.map Pl.c m).length:Int)<(if 5<e then 5 else e))=true:=by rw[List.length_map];exact e1
    rw[e1] at G;cases ct with
    | true=>
      simp only[Bool.not_true,Bool.and_false,Bool.false_eq_true,↓reduceIte] at G;repeat' ((conv=>whnf);first|(with_reducible first|apply aM|apply fk<;>intro hc<;>try exact aV)|((refine⟨_,dR _ _ _ Cf,?_⟩))|refine eT al ?_|refine aK ?_|fail)
      all_goals
       refine⟨⟨k+1,Cf⟩,dec_lt Cf,aD ?_⟩;simp only[G];repeat' first|apply And.intro|exact aJ|fail
       all_goals try (conv=>whnf)
      all_goals exact eW
    | false=>
      simp only[Bool.not_false,Bool.and_self,↓reduceIte] at G;repeat' ((conv=>whnf);first|(with_reducible first|apply aM|apply fk<;>intro hc<;>try exact aV)|((refine⟨_,dR _ _ _ Cf,?_⟩))|refine eT al ?_|(((with_reducible apply And.intro);focus (simp only[fG,jo,jq];omega)))|refine aK ?_|fail)
      all_goals
       refine⟨⟨k+1,Cf⟩,dec_lt Cf,aD ?_⟩;simp only[G];repeat' first|apply And.intro|exact aJ|fail
       all_goals try (conv=>whnf)
      all_goals first
       |exact eW
       | (rw[List.map_append]
          refine bW (ay _) ?_
          (repeat' first|apply And.intro|exact aJ|fail);(all_goals try (conv=>whnf)))
 have az:k=J.length:=by omega
 subst az;have d2:decide ((J.length:Int)<(J.length:Int))=false:=by simp
 dsimp only
 rw[List.take_length];subst hX;repeat' ((conv=>whnf);first|(with_reducible first|apply aM|apply fk<;>intro hc<;>try exact aV)|refine aK ?_|fail)
 all_goals exact aJ
theorem aco {α:Type}(p:α→Bool):∀(l:List α) (n:Nat) (G:n<l.length),p l[n]=false→(∀j (K:j<l.length),j<n→p l[j]=true)→(l.takeWhile p).length=n
 |[],n,G,_,_=>absurd G (by simp)
 | x::r,0,_,h,_=>by
   have h:p x=false:=h;rw[List.takeWhile_cons,h];rfl
 | x::r,n+1,G,h,J=>by
   have Q:p x=true:=J 0 (by simp) (by omega);rw[List.takeWhile_cons,Q];simp only[↓reduceIte,jo];rw[aco p r n (by simpa using G) h (fun j K S=>J (j+1) (by simpa using K) (by omega))]
theorem acp {α:Type}(p:α→Bool):∀(l:List α),(∀x∈l,p x=true)→(l.takeWhile p).length=l.length
 |[],_=>rfl
 | x::r,h=>by
   rw[List.takeWhile_cons,h x (by simp)];simp only[↓reduceIte,jo];rw[acp p r (fun y G=>h y (by simp[G]))]
theorem JX {α:Type}(p:α→Bool)(l:List α):∃j,(l.takeWhile p).length=j∧((j=l.length∧uI (fun x=>!p x) l = -1)∨(j<l.length∧uI (fun x=>!p x) l=(j:Nat))):=by
 refine⟨_,rfl,?_⟩;rcases lu (fun x=>!p x) l with ⟨G,J⟩|⟨n,Q,G,J,S⟩
 ·exact .inl ⟨acp p l fun x X=>by simpa using J x X,G⟩
 rw[aco p l n Q (by simpa using J) (fun j V K=>by simpa using S j V K)];exact .inr ⟨Q,G⟩
def qU (w:Wr)(k:Nat):Int:=((w.waits.take k).getLast?.map (·.n)).getD w.sure
theorem Us:bM prog 132 f132:=fO func132
theorem OW:bM prog 84 f84:=fO func84
theorem Ut (w:Wr)(j:Nat)(K:(w.waits.takeWhile (fT w)).length=j):kN w={ w with sure:=qU w j,waits:=w.waits.drop j }:=by
 have G:=drop_take (fT w) w.waits;have J:=getLast_take (fT w) w.waits;rw[K] at G J;unfold kN qU;rw[G,J]
theorem sub_eq {b v Q st K J hi G:Nat}(S:v=Q)(V:K=J)(X:hi=G):AV.sub b v st K hi=AV.sub b Q st J G:=by rw[S,V,X]
theorem acr (w:Wr)(V:List (List PV))(hf:aY w.l.af)(hw:∀x∈w.waits,gU x.n)(hl:w.waits.length≤1000)(j:Nat)(hj:(w.waits.takeWhile (fT w)).length=j) :
  dX prog 84 [.ptr 1 0] [(1,.var (qA w (.pv (cB w.l.af)) (.aO 2 0) (.pv (.sl false 2 V)) (.pv gB))),(2,.arr 145 0 5 (w.waits.map Wt.c))] (.pv (.cK []))
   [(1,.var (qA { w with sure:=qU w j } (.pv (cB w.l.af)) (.sub 2 0 5 j w.waits.length) (.pv (.sl false 2 V)) (.pv gB))),(2,.arr 145 0 5 (w.waits.map Wt.c))]:=by
 obtain⟨G,h0,Q⟩:=JX (fT w) w.waits;obtain rfl:G=j:=h0.symm.trans hj;have hi:=AR w.waits 162 [] [.dU [.fn (.func 133) [] [.dU [.dU (wkP w (sj w.waits) (.sl false 2 V) gB) 0] 0]] 0] (fun x=>!(fT w x)) (fun x hx=>Uo w _ _ _ x hf (hw x hx));have ad:G≤w.waits.length:=by rcases Q with ⟨e,_⟩|⟨e,_⟩<;>omega
 clear hj h0 hf;have dj:decide ((G:Int)<0)=false:=by simp
 rcases Q with ⟨K,X⟩|⟨K,X⟩
 all_goals
  rw[X] at hi;replace K:=Hd.mk K;clear X;refine fw OW ?_;repeat' ((conv=>whnf);first|(with_reducible first|apply aM|apply fk<;>intro hc<;>try exact aV)|((refine Or.inr ?_;(conv=>whnf);refine⟨_,bY vY (bZ mixed vY) Us rfl ?_,fun _ _ h=>h⟩))|(apply bX;refine⟨_,hi,?_⟩)|(((with_reducible apply And.intro);focus (simp only[fG,Int.toNat_natCast];omega)))|refine aK ?_|fail)
  clear hi;refine⟨{k:Nat // k≤G},fun⟨k,_⟩=>⟨[(1,.ptr 1001 0),(3,.sub 2 0 5 G w.waits.length),(16,.sub 2 0 5 0 G),(17,.pv (ii G)),(18,.pv (ii k))],1000000000,[(1,.var (qA { w with sure:=qU w k } (.pv (cB w.l.af)) (.aO 2 0) (.pv (.sl false 2 V)) (.pv gB))),(2,.arr 145 0 5 (w.waits.map Wt.c)),(1001,.var [.ptr 1 0])]⟩,fun⟨k,_⟩=>G-k,⟨⟨0,Nat.zero_le _⟩,aD ?_⟩,?_⟩
  ·repeat' first|apply And.intro|exact aJ|fail
   all_goals try (conv=>whnf)
   all_goals
    have K:=K.out;first
     |exact sub_eq rfl (by simp only[fG,Int.toNat_natCast]<;>omega) (by simp only[fG,Int.toNat_natCast]<;>omega)
     |exact sub_eq rfl rfl (by simp only[fG,Int.toNat_natCast]<;>omega)
     |(simp only[jQ,fG,Int.toNat_natCast,List.drop_zero,List.length_take];omega)
     |skip
  rintro⟨k,hk⟩
  by_cases S:k<G
  ·have d0:decide ((k:Int)<(G:Int))=true:=by simp only[iG];omega
   have eW:IntKind.i64.wrap ((k:Int)+1)=((k+1:Nat):Int):=by rw[bF (by omega) (by omega)];omega
   have hr:=dR Wt.c w.waits k (by omega);have J:qU w (k+1)=(w.waits[k]'(by omega)).n:=by
    unfold qU;rw[List.take_succ_eq_append_getElem (by omega),List.getLast?_append];rfl
   have hr:(w.waits.map Wt.c)[0+(k:Int).toNat]? = some (w.waits[k]'(by omega)).c:=by rw[Nat.zero_add];exact hr
   replace J:=Hd.mk J;repeat' ((conv=>whnf);first|(with_reducible first|apply aM|apply fk<;>intro hc<;>try exact aV)|((refine⟨_,hr,?_⟩))|(((with_reducible apply And.intro);focus (simp only[Int.toNat_natCast];omega)))|refine aK ?_|fail)
   refine⟨⟨k+1,S⟩,dec_lt S,aD ?_⟩;repeat' first|apply And.intro|exact aJ|fail
   all_goals try (conv=>whnf)
   all_goals first
    |exact eW
    |exact J.out.symm
    |exact J.out
    |skip
  have aa:k=G:=by omega
  subst aa;have d0:decide ((k:Int)<(k:Int))=false:=by simp
  repeat' ((conv=>whnf);first|(with_reducible first|apply aM|apply fk<;>intro hc<;>try exact aV)|refine aK ?_|fail)
  refine⟨_,_,⟨rfl,rfl⟩,?_⟩;all_goals exact aJ
theorem acs (w:Wr)  (hf:aY w.l.af)(hw:∀x∈w.waits,gU x.n)(hl:w.waits.length≤1000)(j:Nat)(hj:(w.waits.takeWhile (fT w)).length=j) :
  dX prog 84 [.ptr 1 0] [(1,.var (qA w (.pv (cB w.l.af)) (.aO 2 0) (.pv (gB)) (.pv gB))),(2,.arr 145 0 5 (w.waits.map Wt.c))] (.pv (.cK []))
   [(1,.var (qA { w with sure:=qU w j } (.pv (cB w.l.af)) (.sub 2 0 5 j w.waits.length) (.pv (gB)) (.pv gB))),(2,.arr 145 0 5 (w.waits.map Wt.c))]:=by
 obtain⟨G,h0,Q⟩:=JX (fT w) w.waits;obtain rfl:G=j:=h0.symm.trans hj;have hi:=AR w.waits 162 [] [.dU [.fn (.func 133) [] [.dU [.dU (wkP w (sj w.waits) (gB) gB) 0] 0]] 0] (fun x=>!(fT w x)) (fun x hx=>Uo w _ _ _ x hf (hw x hx));have aa:G≤w.waits.length:=by rcases Q with ⟨e,_⟩|⟨e,_⟩<;>omega
 clear hj h0 hf;have dj:decide ((G:Int)<0)=false:=by simp
 rcases Q with ⟨K,V⟩|⟨K,V⟩
 all_goals
  rw[V] at hi;replace K:=Hd.mk K;clear V;refine fw OW ?_;repeat' ((conv=>whnf);first|(with_reducible first|apply aM|apply fk<;>intro hc<;>try exact aV)|((refine Or.inr ?_;(conv=>whnf);refine⟨_,bY vY (bZ mixed vY) Us rfl ?_,fun _ _ h=>h⟩))|(apply bX;refine⟨_,hi,?_⟩)|(((with_reducible apply And.intro);focus (simp only[fG,Int.toNat_natCast];omega)))|refine aK ?_|fail)
  clear hi;refine⟨{k:Nat // k≤G},fun⟨k,_⟩=>⟨[(1,.ptr 1001 0),(3,.sub 2 0 5 G w.waits.length),(16,.sub 2 0 5 0 G),(17,.pv (ii G)),(18,.pv (ii k))],1000000000,[(1,.var (qA { w with sure:=qU w k } (.pv (cB w.l.af)) (.aO 2 0) (.pv (gB)) (.pv gB))),(2,.arr 145 0 5 (w.waits.map Wt.c)),(1001,.var [.ptr 1 0])]⟩,fun⟨k,_⟩=>G-k,⟨⟨0,Nat.zero_le _⟩,aD ?_⟩,?_⟩
  ·repeat' first|apply And.intro|exact aJ|fail
   all_goals try (conv=>whnf)
   all_goals
    have K:=K.out;first
     |exact sub_eq rfl (by simp only[fG,Int.toNat_natCast]<;>omega) (by simp only[fG,Int.toNat_natCast]<;>omega)
     |exact sub_eq rfl rfl (by simp only[fG,Int.toNat_natCast]<;>omega)
     |(simp only[jQ,fG,Int.toNat_natCast,List.drop_zero,List.length_take];omega)
     |skip
  rintro⟨k,hk⟩
  by_cases S:k<G
  ·have d0:decide ((k:Int)<(G:Int))=true:=by simp only[iG];omega
   have eW:IntKind.i64.wrap ((k:Int)+1)=((k+1:Nat):Int):=by rw[bF (by omega) (by omega)];omega
   have hr:=dR Wt.c w.waits k (by omega);have J:qU w (k+1)=(w.waits[k]'(by omega)).n:=by
    unfold qU;rw[List.take_succ_eq_append_getElem (by omega),List.getLast?_append];rfl
   have hr:(w.waits.map Wt.c)[0+(k:Int).toNat]? = some (w.waits[k]'(by omega)).c:=by rw[Nat.zero_add];exact hr
   replace J:=Hd.mk J;repeat' ((conv=>whnf);first|(with_reducible first|apply aM|apply fk<;>intro hc<;>try exact aV)|((refine⟨_,hr,?_⟩))|(((with_reducible apply And.intro);focus (simp only[Int.toNat_natCast];omega)))|refine aK ?_|fail)
   refine⟨⟨k+1,S⟩,dec_lt S,aD ?_⟩;repeat' first|apply And.intro|exact aJ|fail
   all_goals try (conv=>whnf)
   all_goals first
    |exact eW
    |exact J.out.symm
    |exact J.out
    |skip
  have X:k=G:=by omega
  subst X;have d0:decide ((k:Int)<(k:Int))=false:=by simp
  repeat' ((conv=>whnf);first|(with_reducible first|apply aM|apply fk<;>intro hc<;>try exact aV)|refine aK ?_|fail)
  refine⟨_,_,⟨rfl,rfl⟩,?_⟩;all_goals exact aJ
end Go.Proofs.YtfoiekbkkbnpkaaGreat.Tb
end
section
namespace Go.Proofs
open Go.Shelf
def Tryz.sortPl_ren:Go.Shelf.Ren:=⟨fun|6=>179|15=>188|14=>187|28=>200|29=>201|20=>192|21=>193|22=>194|23=>195|24=>196|25=>197|26=>198|27=>199|46=>202|47=>203|48=>204|49=>205|50=>206|57=>207|n=>n,fun|22=>28|24=>27|25=>226|3=>3|39=>234|0=>0|53=>245|55=>22|4=>4|46=>238|45=>237|50=>242|5=>5|9=>9|66=>247|70=>251|76=>253|77=>254|n=>n,fun|n=>n⟩
theorem Tryz.sortPl:Go.Proofs.SlLaysF0.n6 Tryz.prog Tryz.sortPl_ren:={
 mixed:=by kernel_rfl
 f6:=⟨Tryz.f179.name,by decide,Tryz.func179.trans (congrArg some (by kernel_rfl))⟩
 f14:=⟨Tryz.f187.name,by decide,Tryz.func187.trans (congrArg some (by kernel_rfl))⟩
 f15:=Tryz.func188.trans (congrArg some (by kernel_rfl))
 f20:=⟨Tryz.f192.name,by decide,Tryz.func192.trans (congrArg some (by kernel_rfl))⟩
 f21:=⟨Tryz.f193.name,by decide,Tryz.func193.trans (congrArg some (by kernel_rfl))⟩
 f22:=⟨Tryz.f194.name,by decide,Tryz.func194.trans (congrArg some (by kernel_rfl))⟩
 f23:=⟨Tryz.f195.name,by decide,Tryz.func195.trans (congrArg some (by kernel_rfl))⟩
 f24:=⟨Tryz.f196.name,by decide,Tryz.func196.trans (congrArg some (by kernel_rfl))⟩
 f25:=⟨Tryz.f197.name,by decide,Tryz.func197.trans (congrArg some (by kernel_rfl))⟩
 f26:=⟨Tryz.f198.name,by decide,Tryz.func198.trans (congrArg some (by kernel_rfl))⟩
 f27:=⟨Tryz.f199.name,by decide,Tryz.func199.trans (congrArg some (by kernel_rfl))⟩
 f28:=Tryz.func200.trans (congrArg some (by kernel_rfl))
 f29:=Tryz.func201.trans (congrArg some (by kernel_rfl))
 f46:=⟨Tryz.f202.name,by decide,Tryz.func202.trans (congrArg some (by kernel_rfl))⟩
 f47:=Tryz.func203.trans (congrArg some (by kernel_rfl))
 f48:=Tryz.func204.trans (congrArg some (by kernel_rfl))
 f49:=⟨Tryz.f205.name,by decide,Tryz.func205.trans (congrArg some (by kernel_rfl))⟩
 f50:=⟨Tryz.f206.name,by decide,Tryz.func206.trans (congrArg some (by kernel_rfl))⟩
 f57:=⟨Tryz.f207.name,by decide,Tryz.func207.trans (congrArg some (by kernel_rfl))⟩
 t0:=Tryz.underlying0
 a0:=Tryz.isAgg0
 z0:=Tryz.sizeOf0
 v0:=Tryz.zeroValue0
 t3:=Tryz.underlying3
 a3:=Tryz.isAgg3
 z3:=Tryz.sizeOf3
 v3:=Tryz.zeroValue3
 t4:=Tryz.underlying4
 a4:=Tryz.isAgg4
 z4:=Tryz.sizeOf4
 v4:=Tryz.zeroValue4
 t5:=Tryz.underlying5
 a5:=Tryz.isAgg5
 z5:=Tryz.sizeOf5
 v5:=Tryz.zeroValue5
 t9:=Tryz.underlying9
 a9:=Tryz.isAgg9
 z9:=Tryz.sizeOf9
 v9:=Tryz.zeroValue9
 t22:=Tryz.underlying28
 a22:=Tryz.isAgg28
 z22:=Tryz.sizeOf28
 v22:=Tryz.zeroValue28
 t25:=Tryz.underlying226
 a25:=Tryz.isAgg226
 z25:=Tryz.sizeOf226
 v25:=Tryz.zeroValue226
 t39:=Tryz.underlying234
 a39:=Tryz.isAgg234
 z39:=Tryz.sizeOf234
 v39:=Tryz.zeroValue234
 t45:=Tryz.underlying237
 a45:=Tryz.isAgg237
 z45:=Tryz.sizeOf237
 v45:=Tryz.zeroValue237
 t46:=Tryz.underlying238
 a46:=Tryz.isAgg238
 z46:=Tryz.sizeOf238
 v46:=Tryz.zeroValue238
 t50:=Tryz.underlying242
 a50:=Tryz.isAgg242
 z50:=Tryz.sizeOf242
 v50:=Tryz.zeroValue242
 t53:=Tryz.underlying245
 a53:=Tryz.isAgg245
 z53:=Tryz.sizeOf245
 v53:=Tryz.zeroValue245
 t55:=Tryz.underlying22
 a55:=Tryz.isAgg22
 z55:=Tryz.sizeOf22
 v55:=Tryz.zeroValue22
 t66:=Tryz.underlying247
 a66:=Tryz.isAgg247
 z66:=Tryz.sizeOf247
 v66:=Tryz.zeroValue247
 t70:=Tryz.underlying251
 a70:=Tryz.isAgg251
 z70:=Tryz.sizeOf251
 v70:=Tryz.zeroValue251
 t76:=Tryz.underlying253
 a76:=Tryz.isAgg253
 z76:=Tryz.sizeOf253
 v76:=Tryz.zeroValue253
 t77:=Tryz.underlying254
 a77:=Tryz.isAgg254
 z77:=Tryz.sizeOf254
 v77:=Tryz.zeroValue254 }
end Go.Proofs
end
section
open Go Go.Proofs.Tryz Go.AX Go.Sort Go.Shelf Go.RowKit Go.Lib
namespace Go.Proofs.YtfoiekbkkbnpkaaGreat.Tb
def VT (x:Pl):List Value:=[.int .i64 x.node,.int .u64 x.aH]
theorem ahm (a b c d:Int)(W:World):Calls prog 180 #[.agg #[.int .i64 a,.int .u64 b],.agg #[.int .i64 c,.int .u64 d]] W fun e J=>e=.returned (.int .i64 (Lib.compareInt a c))∧∃q G,J=grow (W.drewN q) G:=by
 go_enter func180,Tryz.ntmps180
 go_wp2
 all_goals
  go_ret
  refine⟨?_,0,_,by rw[alloc_eq_grow,alloc_eq_grow,grow_grow];rfl⟩;simp_all [Lib.compareInt];try omega
theorem ajT (x y:Pl)(W:World):Calls prog 180 #[.agg (VT x).toArray,.agg (VT y).toArray] W fun e J=>e=.returned (.int .i64 (CS x y))∧∃q G,J=grow (W.drewN q) G:=
 ahm x.node x.aH y.node y.aH W
theorem VU:dF prog 188 [.sc (.int .u64 0)] (.sc (.int .i64 0)):=by
 refine⟨⟨_,func188,rfl,by decide⟩,fun F w K _ Q=>?_⟩;obtain⟨v,r,e,J,G⟩:=Q;simp only[bL] at J;subst J;simp only[fE] at G;subst G;have:K = #[.int .u64 0]:=by rw[←Array.toList_inj,e]
 subst this;have h:=Any.bits_Len (SlLaysF0.n15.bits (P:=prog) (ρ:=Tryz.sortPl_ren) { Tryz.sortPl with }) 0 w (by omega) (by omega);refine h.mono fun e V ⟨S,hw⟩=>⟨_,_,S,rfl,by simp only[bL];rfl,by subst hw;exact mV.refl _ _⟩
theorem Ri:bM prog 192 f192:=fO func192
theorem K6 (f:Fn):dF prog 192 [.sc (.slice none 0 0),ii 0,ii 0,.fn f [] []] unit:=by
 refine PC.le ?_;refine dQ Ri ?_;repeat' ((conv=>whnf);first|(with_reducible first|apply aM|apply fk<;>intro hc<;>try exact aV)|refine aK ?_|fail)
 refine⟨Unit,fun _=>⟨[(0,.pv (.sc (.slice none 0 0))),(1,.pv (ii 0)),(2,.pv (ii 0)),(3,.pv (.fn f [] [])),(8,.pv (ii 1))],1000000000,[]⟩,fun _=>0,⟨(),aD ?_⟩,?_⟩
 ·all_goals exact aJ
 rintro⟨⟩
 repeat' ((conv=>whnf);first|(with_reducible first|apply aM|apply fk<;>intro hc<;>try exact aV)|refine aK ?_|fail)
 all_goals exact aJ
theorem Rj:bM prog 187 f187:=fO func187
theorem aax (f:Fn):dF prog 187 [.sc (.slice none 0 0),ii 0,ii 0,ii 0,.fn f [] []] unit:=by
 refine PC.le ?_;refine dQ Rj ?_;repeat' ((conv=>whnf);first|(with_reducible first|apply aM|apply fk<;>intro hc<;>try exact aV)|refine aK ?_|fail)
 refine⟨Unit,fun _=>⟨[(0,.pv (.sc (.slice none 0 0))),(1,.pv (ii 0)),(2,.pv (ii 0)),(3,.pv (ii 0)),(4,.pv (.fn f [] [])),(10,.pv (bl true)),(11,.pv (bl true))],1000000000,[]⟩,fun _=>0,⟨(),aD ?_⟩,?_⟩
 ·all_goals exact aJ
 rintro⟨⟩
 repeat' ((conv=>whnf);first|(with_reducible first|apply aM|apply fk<;>intro hc<;>try exact aV)|(apply bX;refine⟨_,K6 f,?_⟩)|refine aK ?_|fail)
 all_goals exact aJ
theorem aay:bM prog 179 f179:=fO func179
theorem VW (f:Fn):dF prog 179 [.sc (.slice none 0 0),.fn f [] []] unit:=by
 refine PC.le ?_;refine dQ aay ?_;repeat' ((conv=>whnf);first|(with_reducible first|apply aM|apply fk<;>intro hc<;>try exact aV)|(apply bX;refine⟨_,VU,?_⟩)|(apply bX;refine⟨_,aax f,?_⟩)|refine aK ?_|fail)
 all_goals exact aJ
theorem NV (l:List Pl)(h:l.length≤8796093022208):dX prog 179 [.aO 1 0,.pv (.fn (.func 180) [] [])] [(1,.arr 27 0 2 (l.map Pl.c))] (.pv unit)
  [(1,.arr 27 0 2 ((sortPl l).map Pl.c))]:=by
 have V:∀args w,(callFunc 180 args).run prog w=.ok (.enter 180 args) w:=enters_of func180 (by kernel_rfl) rfl;exact adj (enc:=VT) (st:=2) Ad (by decide) (fun _=>rfl) (fun x v J=>by simp[VT] at J;rcases J with rfl|rfl<;>rfl) F4
  (fun K off Q d w X G S=>AnyQ.slices_SortFunc_eq Tryz.sortPl 2 Tryz.isAgg27 Tryz.sizeOf27 VT (fun _=>rfl) (fun x v J=>by simp[VT] at J;rcases J with rfl|rfl<;>rfl) CS afr 180 #[] K off Q d w V
   (fun _ _ _ _ x y=>ajT x y _) X G S) (VW _) l (by omega)
end Go.Proofs.YtfoiekbkkbnpkaaGreat.Tb
end
section
open Go Go.Proofs.Tryz Go.AX
namespace Go.Proofs.YtfoiekbkkbnpkaaGreat.Tb
theorem aas:bM prog 120 f120:=fO func120
theorem KV (n l m:Int):dF prog 120 [uu n,uu l,uu m] (bl (dA n l m)):=by
 refine PC.le ?_;refine dQ aas ?_;repeat' ((conv=>whnf);first|(with_reducible first|apply aM|apply fk<;>intro hc<;>try exact aV)|refine aK ?_|fail)
 all_goals
  repeat' first|apply And.intro|exact aJ|fail
  all_goals try (conv=>whnf)
  simp_all [dA]
 omega
theorem aat:bM prog 121 f121:=fO func121
theorem Aq (n l m:Int):dF prog 121 [ii n,ii l,ii m] (bl (dA n l m)):=by
 refine PC.le ?_;refine dQ aat ?_;repeat' ((conv=>whnf);first|(with_reducible first|apply aM|apply fk<;>intro hc<;>try exact aV)|refine aK ?_|fail)
 all_goals
  repeat' first|apply And.intro|exact aJ|fail
  all_goals try (conv=>whnf)
  simp_all [dA]
 omega
theorem aau:bM prog 183 f183:=fO func183
theorem aea (a b:Int):dF prog 183 [.agg [ii a,uu b]] (bl (vR ⟨a,b⟩)):=by
 refine PC.le ?_;refine dQ aau ?_;repeat' ((conv=>whnf);first|(with_reducible first|apply aM|apply fk<;>intro hc<;>try exact aV)|(apply bX;refine⟨_,Aq _ _ _,?_⟩)|(apply bX;refine⟨_,KV _ _ _,?_⟩)|refine aK ?_|fail)
 all_goals
  repeat' first|apply And.intro|exact aJ|fail
  all_goals try (conv=>whnf)
  simp_all [vR]
theorem KW:bM prog 190 f190:=fO func190
theorem NQ (x:Pl)(f:FuncId)(first G:List PV)(p:Pl→Bool)(hp:dF prog f (first++([.agg x.c]++G)) (bl (p x))) :
  dF prog 190 ([]++([.agg x.c]++[.dU [.fn (.func f) first G] 0])) (bl (!p x)):=by
 refine PC.le ?_;refine dQ KW ?_;repeat' ((conv=>whnf);first|(with_reducible first|apply aM|apply fk<;>intro hc<;>try exact aV)|(apply bX;refine⟨_,hp,?_⟩)|refine aK ?_|fail)
 all_goals exact aJ
theorem NR:bM prog 182 f182:=fO func182
theorem Q9 (l:List Pl)(f:FuncId)(first G:List PV)(p:Pl→Bool)(hp:∀x∈l,dF prog f (first++([.agg x.c]++G)) (bl (p x))) :
  dF prog 182 [av l,.fn (.func f) first G] (bl (l.all p)):=by
 refine PC.le ?_;refine dQ NR ?_;repeat' ((conv=>whnf);first|(with_reducible first|apply aM|apply fk<;>intro hc<;>try exact aV)|(apply bX;refine⟨_,oJ _ _ _ _ _ fun x J=>NQ x _ _ _ p (hp x J),?_⟩)|refine aK ?_|fail)
 repeat' first|apply And.intro|exact aJ|fail
 all_goals try (conv=>whnf)
 rw[List.not_any_eq_all_not];simp
theorem NS:bM prog 178 f178:=fO func178
theorem Ra (x:Fr)(f:FuncId)(first G:List PV)(p:Fr→Bool)(hp:dF prog f (first++([.agg x.c]++G)) (bl (p x))) :
  dF prog 178 ([]++([.agg x.c]++[.dU [.fn (.func f) first G] 0])) (bl (!p x)):=by
 refine PC.le ?_;refine dQ NS ?_;repeat' ((conv=>whnf);first|(with_reducible first|apply aM|apply fk<;>intro hc<;>try exact aV)|(apply bX;refine⟨_,hp,?_⟩)|refine aK ?_|fail)
 all_goals exact aJ
theorem Rb:bM prog 155 f155:=fO func155
theorem VQ (l:List Fr)(f:FuncId)(first G:List PV)(p:Fr→Bool)(hp:∀x∈l,dF prog f (first++([.agg x.c]++G)) (bl (p x))) :
  dF prog 155 [cB l,.fn (.func f) first G] (bl (l.all p)):=by
 refine PC.le ?_;refine dQ Rb ?_;repeat' ((conv=>whnf);first|(with_reducible first|apply aM|apply fk<;>intro hc<;>try exact aV)|(apply bX;refine⟨_,qj _ _ _ _ _ fun x J=>Ra x _ _ _ p (hp x J),?_⟩)|refine aK ?_|fail)
 repeat' first|apply And.intro|exact aJ|fail
 all_goals try (conv=>whnf)
 rw[List.not_any_eq_all_not];simp
theorem Ar:bM prog 184 f184:=fO func184
theorem NT (l:List Pl)(f:FuncId)(first K:List PV)(key:Pl→Int)(hp:∀x∈l,dF prog f (first++([.agg x.c]++K)) (ii (key x))) :
  dF prog 184 [av l,.fn (.func f) first K] (bl (decide (l.Pairwise fun a b=>key a<key b))):=by
 refine PC.le (pU Ar fun X=>?_);have X:l.length≤9223372036854775807:=by simpa[IX,DU,av] using X
 refine dQ Ar ?_;repeat' ((conv=>whnf);first|(with_reducible first|apply aM|apply fk<;>intro hc<;>try exact aV)|refine aK ?_|fail)
 refine⟨{k:Nat // (k+1≤l.length∨k=0)∧∀j (J:j+1<l.length),j<k→key (l[j]'(by omega))<key l[j+1]},fun⟨k,_⟩=>⟨[(0,.pv (av l)),(1,.pv (.fn (.func f) first K)),(5,.pv (ii ((k+1:Nat):Int)))],1000000000,[]⟩,fun⟨k,_⟩=>l.length-k,⟨⟨0,by simp⟩,aD ?_⟩,?_⟩
 ·all_goals exact aJ
 rintro⟨k,hk,hn⟩
 repeat' ((conv=>whnf);first|(with_reducible first|apply aM|apply fk<;>intro hc<;>try exact aV)|refine aK ?_|fail)
 ·have G:k+1<l.length:=by simp at hc;omega
  have V:IntKind.i64.wrap (((k+1:Nat):Int)-1)=((k:Nat):Int):=by rw[bF (by omega) (by omega)];omega
  repeat' ((conv=>whnf);first|(with_reducible first|apply aM|apply fk<;>intro hc<;>try exact aV)|((refine⟨by rw[V];omega,_,Qg _ _ V (by omega),?_⟩))|refine aK ?_|fail)
  repeat' ((conv=>whnf);first|(with_reducible first|apply aM|apply fk<;>intro hc<;>try exact aV)|(apply bX;refine⟨_,hp _ (List.getElem_mem _),?_⟩)|refine aK ?_|fail)
  refine⟨_,dR _ _ _ G,?_⟩;repeat' ((conv=>whnf);first|(with_reducible first|apply aM|apply fk<;>intro hc<;>try exact aV)|(apply bX;refine⟨_,hp _ (List.getElem_mem _),?_⟩)|refine aK ?_|fail)
  ·repeat' first|apply And.intro|exact aJ|fail
   all_goals try (conv=>whnf)
   simp at hc;simp;intro hp;have:=List.pairwise_iff_getElem.1 hp k (k+1) (by omega) G (by omega);omega
  repeat' ((conv=>whnf);first|(with_reducible first|apply aM|apply fk<;>intro hc<;>try exact aV)|refine aK ?_|fail)
  refine⟨⟨k+1,.inl G,?_⟩,dec_lt (by omega),aD ?_⟩
  ·intro j J S;rcases Nat.lt_succ_iff_lt_or_eq.1 S with Q|rfl
   ·exact hn j J Q
   simp at hc;exact hc
  repeat' first|apply And.intro|exact aJ|fail
  all_goals try (conv=>whnf)
  rw[bF (by omega) (by omega)];omega
 repeat' first|apply And.intro|exact aJ|fail
 all_goals try (conv=>whnf)
 simp at hc;simp;exact tY fun j J=>hn j J (by omega)
theorem Dr:bM prog 158 f158:=fO func158
theorem Rc (l:List Fr)(f:FuncId)(first K:List PV)(key:Fr→Int)(hp:∀x∈l,dF prog f (first++([.agg x.c]++K)) (uu (key x))) :
  dF prog 158 [cB l,.fn (.func f) first K] (bl (decide (l.Pairwise fun a b=>key a<key b))):=by
 refine PC.le (pU Dr fun X=>?_);have X:l.length≤9223372036854775807:=by simpa[IX,DU,cB] using X
 refine dQ Dr ?_;repeat' ((conv=>whnf);first|(with_reducible first|apply aM|apply fk<;>intro hc<;>try exact aV)|refine aK ?_|fail)
 refine⟨{k:Nat // (k+1≤l.length∨k=0)∧∀j (J:j+1<l.length),j<k→key (l[j]'(by omega))<key l[j+1]},fun⟨k,_⟩=>⟨[(0,.pv (cB l)),(1,.pv (.fn (.func f) first K)),(5,.pv (ii ((k+1:Nat):Int)))],1000000000,[]⟩,fun⟨k,_⟩=>l.length-k,⟨⟨0,by simp⟩,aD ?_⟩,?_⟩
 ·all_goals exact aJ
 rintro⟨k,hk,hn⟩
 repeat' ((conv=>whnf);first|(with_reducible first|apply aM|apply fk<;>intro hc<;>try exact aV)|refine aK ?_|fail)
 ·have G:k+1<l.length:=by simp at hc;omega
  have V:IntKind.i64.wrap (((k+1:Nat):Int)-1)=((k:Nat):Int):=by rw[bF (by omega) (by omega)];omega
  repeat' ((conv=>whnf);first|(with_reducible first|apply aM|apply fk<;>intro hc<;>try exact aV)|((refine⟨by rw[V];omega,_,Qg _ _ V (by omega),?_⟩))|refine aK ?_|fail)
  repeat' ((conv=>whnf);first|(with_reducible first|apply aM|apply fk<;>intro hc<;>try exact aV)|(apply bX;refine⟨_,hp _ (List.getElem_mem _),?_⟩)|refine aK ?_|fail)
  refine⟨_,dR _ _ _ G,?_⟩;repeat' ((conv=>whnf);first|(with_reducible first|apply aM|apply fk<;>intro hc<;>try exact aV)|(apply bX;refine⟨_,hp _ (List.getElem_mem _),?_⟩)|refine aK ?_|fail)
  ·repeat' first|apply And.intro|exact aJ|fail
   all_goals try (conv=>whnf)
   simp at hc;simp;intro hp;have:=List.pairwise_iff_getElem.1 hp k (k+1) (by omega) G (by omega);omega
  repeat' ((conv=>whnf);first|(with_reducible first|apply aM|apply fk<;>intro hc<;>try exact aV)|refine aK ?_|fail)
  refine⟨⟨k+1,.inl G,?_⟩,dec_lt (by omega),aD ?_⟩
  ·intro j J S;rcases Nat.lt_succ_iff_lt_or_eq.1 S with Q|rfl
   ·exact hn j J Q
   simp at hc;exact hc
  repeat' first|apply And.intro|exact aJ|fail
  all_goals try (conv=>whnf)
  rw[bF (by omega) (by omega)];omega
 repeat' first|apply And.intro|exact aJ|fail
 all_goals try (conv=>whnf)
 simp at hc;simp;exact tY fun j J=>hn j J (by omega)
theorem aav:bM prog 185 f185:=fO func185
theorem aeb (a b:Int):dF prog 185 ([]++([.agg [ii a,uu b]]++[])) (ii a):=by
 refine PC.le ?_;refine dQ aav ?_;repeat' ((conv=>whnf);first|(with_reducible first|apply aM|apply fk<;>intro hc<;>try exact aV)|refine aK ?_|fail)
 all_goals exact aJ
theorem KX:bM prog 159 f159:=fO func159
theorem NU (x:Fr):dF prog 159 ([]++([.agg x.c]++[])) (uu x.first):=by
 refine PC.le ?_;refine dQ KX ?_;repeat' ((conv=>whnf);first|(with_reducible first|apply aM|apply fk<;>intro hc<;>try exact aV)|refine aK ?_|fail)
 all_goals exact aJ
theorem aec:bM prog 157 f157:=fO func157
theorem ahk (w n:Int)(l:List Pl)(h:l.length≤8796093022208):dF prog 157 [ii w,.agg [uu n,av l]] (bl (iK w ⟨n,l⟩)):=by
 refine PC.le ?_;refine dQ aec ?_;repeat' ((conv=>whnf);first|(with_reducible first|apply aM|apply fk<;>intro hc<;>try exact aV)|(apply mq;refine⟨_,_,fU _ (by omega),?_⟩)|(apply mq;refine⟨_,_,NV _ (by omega),?_⟩)|(apply bX;refine⟨_,KV _ _ _,?_⟩)|(apply bX;refine⟨_,Aq _ _ _,?_⟩)|(apply bX;refine⟨_,Q9 _ _ _ _ vR fun x _=>aea x.node x.aH,?_⟩)|(apply bX;refine⟨_,NT _ _ _ _ (·.node) fun x _=>aeb _ _,?_⟩)|refine aK ?_|fail)
 all_goals
  repeat' first|apply And.intro|exact aJ|fail
  all_goals try (conv=>whnf)
  simp_all only[iK,←MZ,Bool.and_true,Bool.and_false,Bool.true_and,Bool.false_and,List.length_map]
theorem KY:bM prog 156 f156:=fO func156
theorem NY (w:Int)(x:Fr)(h:x.ah.length≤8796093022208):dF prog 156 ([]++([.agg x.c]++[.dU [ii w] 0])) (bl (iK w x)):=by
 refine PC.le ?_;refine dQ KY ?_;repeat' ((conv=>whnf);first|(with_reducible first|apply aM|apply fk<;>intro hc<;>try exact aV)|(apply bX;refine⟨_,ahk _ _ _ h,?_⟩)|refine aK ?_|fail)
 all_goals exact aJ
theorem NZ:bM prog 122 f122:=fO func122
theorem Rf (w:Int)(l:List Fr)(h:∀x∈l,x.ah.length≤8796093022208):dF prog 122 [ii w,cB l] (bl (dh w l)):=by
 refine PC.le ?_;refine dQ NZ ?_;cases l with
 | nil=>
   repeat' ((conv=>whnf);first|(with_reducible first|apply aM|apply fk<;>intro hc<;>try exact aV)|(apply bX;refine⟨_,Aq _ _ _,?_⟩)|refine aK ?_|fail)
   all_goals
    repeat' first|apply And.intro|exact aJ|fail
    all_goals try (conv=>whnf)
    all_goals simp[dh,dA]
 | cons x r=>
   repeat' ((conv=>whnf);first|(with_reducible first|apply aM|apply fk<;>intro hc<;>try exact aV)|(apply bX;refine⟨_,Aq _ _ _,?_⟩)|(apply bX;refine⟨_,VQ _ _ _ _ _ fun x G=>NY w x (h x G),?_⟩)|(apply bX;refine⟨_,Rc _ _ _ _ (·.first) fun x _=>NU x,?_⟩)|((refine⟨_,rfl,?_⟩))|refine aK ?_|fail)
   all_goals
    repeat' first|apply And.intro|exact aJ|fail
    all_goals try (conv=>whnf)
    simp_all only[dh,q9,List.length_map,Bool.true_and,Bool.false_and,Bool.and_true]
theorem KZ:bM prog 68 f68:=fO func68
theorem Dt (l:Lg)(h:l.ok):dF prog 68 [.agg l.c] (bl (dN l)):=by
 refine PC.le ?_;refine dQ KZ ?_;repeat' ((conv=>whnf);first|(with_reducible first|apply aM|apply fk<;>intro hc<;>try exact aV)|(apply bX;refine⟨_,Aq _ _ _,?_⟩)|(apply bX;refine⟨_,KV _ _ _,?_⟩)|(apply bX;refine⟨_,Rf _ _ h,?_⟩)|refine aK ?_|fail)
 all_goals
  repeat' first|apply And.intro|exact aJ|fail
  all_goals try (conv=>whnf)
  try (simp only[dN, *,Bool.true_and,Bool.false_and];done)
 have G:0≤l.closed∧l.closed≤1:=by simpa[dA] using hc
 simp only[dN, *,Bool.true_and];rw[gX G.1 (by omega),gX (by omega) (by omega)]
def wr0:Wr:=⟨⟨0,0,0,[],0,0⟩,0,0,0,[],[],kT,0⟩
theorem AY:bM prog 20 f20:=fO func20
theorem aeV (l:Lg)(G:Int):Bz l G=if (!dN l||((l.closed != 0)||(decide (G<1)||decide (G>4611686018427387903))))=true then none else some ⟨l,G,1,0,[],[],kT,0⟩:=by
 have h:(dN l&&((l.closed==0)&&dA G 1 4611686018427387903)) = !(!dN l||((l.closed != 0)||(decide (G<1)||decide (G>4611686018427387903)))):=by
  rw[Bool.eq_iff_iff];unfold dA;cases dN l<;>simp
 unfold Bz;rw[h];cases (!dN l||((l.closed != 0)||(decide (G<1)||decide (G>4611686018427387903))))<;>rfl
theorem aaK (l:Lg)(Q:Int)(K:l.ok)(J:dN l=true→l.af.length≤1000∧(∀f∈l.af,f.ah.length≤1000)∧aY l.af) :
  dF prog 20 [.agg l.c,uu Q] (.cK [.agg ((Bz l Q).getD wr0).c,ii (if (Bz l Q).isSome then 0 else 1)]):=by
 refine PC.le ?_;have G:=Dt l K;rw[aeV];cases S:dN l with
 | false=>
   rw[S] at G;clear J K S;refine dQ AY ?_;repeat' ((conv=>whnf);first|(with_reducible first|apply aM|apply fk<;>intro hc<;>try exact iA)|(apply bX;refine⟨_,G,?_⟩)|refine aK ?_|fail)
   all_goals exact aJ
 |true=>
 obtain⟨V,X,h3⟩:=J S;rw[S] at G;clear J K S;cases e2:(l.closed != 0) with
 | true=>
   refine dQ AY ?_;repeat' ((conv=>whnf);first|(with_reducible first|apply aM|apply fk<;>intro hc<;>try exact iA)|(apply bX;refine⟨_,G,?_⟩)|refine aK ?_|fail)
   all_goals exact aJ
 |false=>
 cases e3:decide (Q<1) with
 | true=>
   refine dQ AY ?_;repeat' ((conv=>whnf);first|(with_reducible first|apply aM|apply fk<;>intro hc<;>try exact iA)|(apply bX;refine⟨_,G,?_⟩)|refine aK ?_|fail)
   all_goals exact aJ
 |false=>
 cases e4:decide (Q>4611686018427387903) with
 | true=>
   refine dQ AY ?_;repeat' ((conv=>whnf);first|(with_reducible first|apply aM|apply fk<;>intro hc<;>try exact iA)|(apply bX;refine⟨_,G,?_⟩)|refine aK ?_|fail)
   all_goals exact aJ
 |false=>
 have how:=uD ⟨l,Q,1,0,[],[],kT,0⟩ ⟨V,X,h3,by simp,by simp,by simp,by simp[kT]⟩;clear V X h3;refine dQ AY ?_;repeat' ((conv=>whnf);first|(with_reducible first|apply aM|apply fk<;>intro hc<;>try exact iA)|(apply bX;refine⟨_,G,?_⟩)|refine eF how ?_|refine aK ?_|fail)
 all_goals exact aJ
theorem AZ:bM prog 64 f64:=fO func64
theorem aeg (w:Wr)(now:Int)(b:List UInt8)(h:WrB w)(cO:gU now)(ad:gU w.next)(hb:b.length≤100000)(hs:(fD w w.next).length≤1000) :
  dF prog 64 [.agg w.c,uu now,CR b] (.cK [.agg (iC w now b).1.c,kH (iC w now b).2.1,ii (iC w now b).2.2]):=by
 refine PC.le ?_;have hN:=uD w h;have G:=aeS w;have K:((List.map lD b).length:Int)=(b.length:Int):=by rw[List.length_map]
 cases X:(w.fenced==1) with
 | true=>
   have e:iC w now b=(w,[],5):=by unfold iC;rw[if_pos (by simpa using X)]
   rw[e];refine dQ AZ ?_;repeat' ((conv=>whnf);first|(with_reducible first|apply aM|apply fk<;>intro hc<;>try exact aV)|refine eF hN ?_|refine aK ?_|fail)
   all_goals exact aJ
 |false=>
 cases J:decide (((List.map lD b).length:Int)>2048) with
 | true=>
   have e:iC w now b=(w,[],7):=by unfold iC;rw[if_neg (by simpa using X),if_pos (by rw[K] at J;simpa using J)]
   rw[e];clear K;refine dQ AZ ?_;repeat' ((conv=>whnf);first|(with_reducible first|apply aM|apply fk<;>intro hc<;>try exact aV)|refine eF hN ?_|refine aK ?_|fail)
   all_goals exact aJ
 |false=>
 cases Q:decide (w.next>8) with
 | true=>
   have e:iC w now b=(w,[],3):=by unfold iC;rw[if_neg (by simpa using X),if_neg (by rw[K] at J;simpa using J),if_pos (by simpa using Q)]
   rw[e];rw[Q] at G;clear K;refine dQ AZ ?_;repeat' ((conv=>whnf);first|(with_reducible first|apply aM|apply fk<;>intro hc<;>try exact aV)|refine eF hN ?_|(apply bX;refine⟨_,G,?_⟩)|refine aK ?_|fail)
   all_goals exact aJ
 | false=>
   have e:iC w now b=({ w with waits:=w.waits++[⟨w.next,b,[],now,now⟩],next:=w.next+1 },kM w ⟨w.next,b,[],now,0⟩,0):=by unfold iC;rw[if_neg (by simpa using X),if_neg (by rw[K] at J;simpa using J),if_neg (by simpa using Q)];rfl
   rw[e];rw[Q] at G;have ae:w.next≤8:=by simpa using Q
   obtain⟨S,_⟩:=ad;have eX:IntKind.u64.wrap (w.next+1)=w.next+1:=gX (by omega) (by omega);have hS:=aeM w h;have aa:=fM b (by omega);have V:=acn w ⟨w.next,b,[],now,0⟩ now (w.waits.map Wt.c) (w.bad.map Pl.c) h.fr ⟨⟨S,by simp only;omega⟩,by simpa using hb,by simp,cO,by simp[gU]⟩ hs;have af:=h.wl;clear hN h cO hs K S;obtain⟨q,hq⟩:∃q,kM w ⟨w.next,b,[],now,0⟩=q:=⟨_,rfl⟩;rw[hq] at V ⊢;clear hq;refine dQ AZ ?_;repeat' ((conv=>whnf);first|(with_reducible first|apply aM|apply fk<;>intro hc<;>try exact aV)|rewrite[nE]|rewrite[nG]|refine eF hS ?_|(apply bX;refine⟨_,G,?_⟩)|(apply bX;refine⟨_,aa,?_⟩)|refine eF V ?_|(((with_reducible apply And.intro);focus (simp only[fG,jo,jq];omega)))|refine aK ?_|fail)
   repeat' first|apply And.intro|exact aJ|fail
   all_goals try (conv=>whnf)
   all_goals first
    |exact eX
    |(rw[List.map_append];refine bW (ay _) ?_;(repeat' first|apply And.intro|exact aJ|fail);(all_goals try (conv=>whnf)))
    |skip
theorem kC:bM prog 66 f66:=fO func66
theorem OX {α:Type}(p:α→Bool)(l:List α):(uI p l = -1∧l.findIdx? p=none)∨∃k,k<l.length∧uI p l=(k:Nat)∧l.findIdx? p=some k:=by
 rcases lu p l with ⟨G,J⟩|⟨n,K,G,J,Q⟩
 ·exact .inl ⟨G,List.findIdx?_eq_none_iff.2 J⟩
 refine .inr ⟨n,K,G,?_⟩;rw[List.findIdx?_eq_some_iff_getElem];exact⟨K,J,fun j S=>by rw[Q j (by omega) S];simp⟩
theorem aee (w:Wr)(now:Int)(r:Rs)(h:WrB w)(gN:(aL w.l.af).ah.length≤1000) :
  dF prog 66 [.agg w.c,uu now,.agg r.c] (.agg (jf w r).c):=by
 refine PC.le ?_;have X:=uD w h;cases k1:(r.kind != 1) with
 | true=>
   have e:jf w r=w:=by unfold jf;rw[if_pos (by simp only[bne_iff_ne,ne_eq] at k1;simp[k1])]
   rw[e];clear e;refine dQ kC ?_;repeat' ((conv=>whnf);first|(with_reducible first|apply aM|apply fk<;>intro hc<;>try exact aV)|refine eF X ?_|refine aK ?_|fail)
   all_goals exact aJ
 |false=>
 cases k2:(r.bI != w.l.id) with
 | true=>
   have e:jf w r=w:=by unfold jf;rw[if_pos (by simp only[bne_iff_ne,ne_eq] at k2;simp[k2])]
   rw[e];clear e;refine dQ kC ?_;repeat' ((conv=>whnf);first|(with_reducible first|apply aM|apply fk<;>intro hc<;>try exact aV)|refine eF X ?_|refine aK ?_|fail)
   all_goals exact aJ
 |false=>
 cases k3:(r.ak != w.ak) with
 | true=>
   have e:jf w r=w:=by unfold jf;rw[if_pos (by simp only[bne_iff_ne,ne_eq] at k3;simp[k3])]
   rw[e];clear e;refine dQ kC ?_;repeat' ((conv=>whnf);first|(with_reducible first|apply aM|apply fk<;>intro hc<;>try exact aV)|refine eF X ?_|refine aK ?_|fail)
   all_goals exact aJ
 |false=>
 have e0:jf w r=if r.code=0 then (match w.waits.findIdx? fun x=>x.n==r.n with
  |none=>w
  |some k=>if yT w r.from_ && !aW (w.waits[k]!).from_ r.from_ then kN (rq w r k) else w)
 else if r.code=1 then (if yT w r.from_ then { w with fenced:=1 } else w)
 else if r.code=2 then vU w fun x=>x==r.from_
 else if r.code=4 then vU w fun x=>(x.node==r.from_.node) && !(x.aH==r.from_.aH)
 else w:=by
  unfold jf;rw[if_neg (by simp only[bne_eq_false_iff_eq] at k1 k2 k3;simp[k1,k2,k3])];rfl
 rw[e0];clear e0;cases c0:(r.code==0) with
 | true=>
   rw[if_pos (by simpa using c0)];have G:=Ll w.waits 116 [] [.dU r.c 0] (fun x=>x.n==r.n) (fun x _=>ab9 r x);rcases OX (fun x=>x.n==r.n) w.waits with ⟨i1,i2⟩|⟨k,hk,i1,i2⟩
   ·rw[i2];rw[i1] at G;have dm:decide ((-1:Int)≥0)=false:=by decide
    clear i1 i2 h gN;refine dQ kC ?_;repeat' ((conv=>whnf);first|(with_reducible first|apply aM|apply fk<;>intro hc<;>try exact iA)|refine eF X ?_|refine eT G ?_|refine aK ?_|fail)
    all_goals exact aJ
   rw[i2];rw[i1] at G;have dm:decide (((k:Nat):Int)≥0)=true:=by simp
   have K:=Cm w (sj w.waits) (av w.bad) gB r.from_;have hr:=dR Wt.c w.waits k hk;obtain⟨x,hx⟩:∃x,w.waits[k]=x:=⟨_,rfl⟩;have ae:w.waits[k]! = x:=by rw[getElem!_pos w.waits k hk];exact hx
   simp only[ae];rw[hx] at hr;have Q:=aA x.from_ r.from_.node r.from_.aH;rw[show (x.from_.any fun y=>y==(⟨r.from_.node,r.from_.aH⟩:Pl))=aW x.from_ r.from_ from rfl] at Q;cases ea:yT w r.from_ with
   | false=>
     rw[ea] at K;clear ea i1 i2 hx ae h;refine dQ kC ?_;repeat' ((conv=>whnf);first|(with_reducible first|apply aM|apply fk<;>intro hc<;>try exact iA)|refine eF X ?_|refine eT G ?_|refine eT K ?_|refine aK ?_|fail)
     all_goals exact aJ
   |true=>
   rw[ea] at K;cases eb:aW x.from_ r.from_ with
   | true=>
     rw[eb] at Q;clear ea eb i1 i2 hx ae h;refine dQ kC ?_;repeat' ((conv=>whnf);first|(with_reducible first|apply aM|apply fk<;>intro hc<;>try exact iA)|refine eF X ?_|refine eT G ?_|refine eT K ?_|((refine⟨_,hr,?_⟩))|(apply bX;refine⟨_,Q,?_⟩)|refine aK ?_|fail)
     all_goals exact aJ
   |false=>
   rw[eb] at Q;clear X eb i1 i2 hr K;have ap:k=(w.waits.take k).length:=by rw[List.length_take];omega
   have hW:w.waits=w.waits.take k++x::w.waits.drop (k+1):=by
    rw[←hx,List.getElem_cons_drop,List.take_append_drop]
   have eh:rq w r k={ w with waits:=w.waits.take k++({ x with from_:=x.from_++[r.from_] }:Wt)::w.waits.drop (k+1) }:=by
    unfold rq;congr 1
    rw[List.modify_eq_take_cons_drop hk,hx]
   rw[show (true && !false)=true from rfl,if_pos rfl,eh];have ar:=h.wx;have aq:=h.wl;have az:=h.fr;have aw:Uc x:=ar x (by rw[←hx];exact List.getElem_mem hk);have hO:=aeR w h (w.waits.take k) x (w.waits.drop (k+1)) hW;clear h hx ae eh;rw[hW] at G;obtain⟨A,hA⟩:∃A,w.waits.take k=A:=⟨_,rfl⟩;obtain⟨B,hB⟩:∃B,w.waits.drop (k+1)=B:=⟨_,rfl⟩;rw[hA] at ap hO G hW ⊢;rw[hB] at hO G hW ⊢;subst ap;have V:=Cm w (.sl false 5 (A.map Wt.c++x.c::B.map Wt.c)) (av w.bad) gB r.from_;rw[ea] at V;simp only[sj,zma,zmc] at G;clear ea hA hB;have ax:=aw.from_;obtain⟨w1,J⟩:∃w1,w1={ w with waits:=A++({ x with from_:=x.from_++[r.from_] }:Wt)::B }:=⟨_,rfl⟩;rw[←J];obtain⟨j,hj⟩:∃j,(w1.waits.takeWhile (fT w1)).length=j:=⟨_,rfl⟩;have hm:=acr w1 (w.bad.map Pl.c) (by rw[J];exact az) (by
    rw[J];intro y hy;simp only[List.mem_append,List.mem_cons] at hy;have ai:∀z,z∈A∨z=x∨z∈B→gU z.n:=fun z hz=>(ar z (by rw[hW];simpa using hz)).n
    rcases hy with hy|rfl|hy
    ·exact ai y (.inl hy)
    ·exact aw.n
    exact ai y (.inr (.inr hy))) (by rw[J];rw[hW] at aq;simpa using aq) j hj
   rw[Ut w1 j hj];refine dQ kC ?_;repeat' ((conv=>whnf);first|fail|((with_reducible apply fk)<;>intro hc<;>try exact iA)|refine eF hO ?_|refine eT G ?_|refine eT V ?_|((with_reducible apply zoc))|((with_reducible refine (Or.inl ?_:VC _ _ (Code.block _ _) _ _∨_)))|((with_reducible apply zos))|(apply bX;refine⟨_,Q,?_⟩)|(refine zxb ?_)|refine aK ?_|fail)
   refine Or.inl ?_;repeat' ((conv=>whnf);first|fail|((with_reducible apply fk)<;>intro hc<;>try exact iA)|refine eF hO ?_|refine eT G ?_|refine eT V ?_|((with_reducible apply zoc))|((with_reducible refine (Or.inl ?_:VC _ _ (Code.block _ _) _ _∨_)))|((with_reducible apply zos))|(apply bX;refine⟨_,Q,?_⟩)|(refine zxb ?_)|refine aK ?_|fail)
   refine Or.inl ?_;repeat' ((conv=>whnf);first|fail|((with_reducible apply fk)<;>intro hc<;>try exact iA)|refine eF hO ?_|refine eT G ?_|refine eT V ?_|((with_reducible apply zoc))|((with_reducible refine (Or.inl ?_:VC _ _ (Code.block _ _) _ _∨_)))|((with_reducible apply zos))|(apply bX;refine⟨_,Q,?_⟩)|(refine zxb ?_)|refine aK ?_|fail)
   refine Or.inr ⟨Unit,fun _=>⟨[(6,.ptr 1006 0),(7,.ptr 1007 0)],1000000000,[(1006,.var (wr0.c.map .pv)),(1007,.var (qA w1 (.pv (cB w1.l.af)) (.aO 1008 0) (.pv (.sl false 2 (w.bad.map Pl.c))) (.pv gB))),(1008,.arr 145 0 5 (w1.waits.map Wt.c))]⟩,?_,fun _=>?_⟩
   ·repeat' ((conv=>whnf);first|(with_reducible first|apply aM|apply fk<;>intro hc<;>try exact iA)|(((with_reducible apply And.intro);focus (simp only[fG,jo,jq];omega)))|refine aK ?_|fail)
    refine⟨(),VE 1003003001 rfl rfl rfl rfl (aD ?_)⟩;repeat' first|apply And.intro|exact aJ|fail
    all_goals try (conv=>whnf)
    all_goals first
     |(rw[J];done)
     |(rw[J];exact ay _)
     |(rw[J];simp only[zma,zmc,zmn,Wt.c,av,Pl.c];exact ay _)
     |(rw[J];exact ay _)
     |skip
   clear hO G V Q;repeat' ((conv=>whnf);first|(with_reducible first|apply aM|apply fk<;>intro hc<;>try exact iA)|rewrite[nE]|rewrite[nG]|refine eF hm ?_|refine aK ?_|fail)
   repeat' first|apply And.intro|exact aJ|fail
   all_goals try (conv=>whnf)
   all_goals first
    |(rw[jQ,List.map_drop,List.take_of_length_le (by simp only[List.length_drop,fG];omega)];exact ay _)
    |(rw[J];exact ay _)
    |skip
 |false=>
 have al:¬r.code=0:=by simpa using c0
 rw[if_neg al];clear al;cases c1:(r.code==1) with
 | true=>
   rw[if_pos (by simpa using c1)];have K:=Cm w (sj w.waits) (av w.bad) gB r.from_;generalize yT w r.from_=aa at K ⊢;cases aa;all_goals
    refine dQ kC ?_;repeat' ((conv=>whnf);first|(with_reducible first|apply aM|apply fk<;>intro hc<;>try exact iA)|refine eF X ?_|refine eT K ?_|refine aK ?_|fail)
    all_goals exact aJ
 |false=>
 have am:¬r.code=1:=by simpa using c1
 rw[if_neg am];clear am X;have hB:=aeN w h;have a0:=h.bl;have ax:=h.fl;cases c2:(r.code==2) with
 | true=>
   rw[if_pos (by simpa using c2)];have ad:=Ur w (w.waits.map Wt.c) 118 r.c (fun x=>x==r.from_) (fun y=>acd r y) (by omega) (by omega) gN;obtain⟨w',S⟩:∃w',vU w (fun x=>x==r.from_)=w':=⟨_,rfl⟩;have ag:w'={ w with bad:=w'.bad }:=by rw[←S];rfl
   rw[S] at ad ⊢;clear S;refine dQ kC ?_;repeat' ((conv=>whnf);first|(with_reducible first|apply aM|apply fk<;>intro hc<;>try exact iA)|rewrite[nE]|rewrite[nG]|refine eF hB ?_|refine eF ad ?_|refine aK ?_|fail)
   rw[ag];all_goals exact aJ
 |false=>
 have ao:¬r.code=2:=by simpa using c2
 rw[if_neg ao];clear ao;cases c4:(r.code==4) with
 | true=>
   rw[if_pos (by simpa using c4)];have ad:=Ur w (w.waits.map Wt.c) 119 r.c (fun x=>(x.node==r.from_.node) && !(x.aH==r.from_.aH)) (fun y=>ace r y) (by omega) (by omega) gN;obtain⟨w',S⟩:∃w',vU w (fun x=>(x.node==r.from_.node) && !(x.aH==r.from_.aH))=w':=⟨_,rfl⟩;have ag:w'={ w with bad:=w'.bad }:=by rw[←S];rfl
   rw[S] at ad ⊢;clear S;refine dQ kC ?_;repeat' ((conv=>whnf);first|(with_reducible first|apply aM|apply fk<;>intro hc<;>try exact iA)|rewrite[nE]|rewrite[nG]|refine eF hB ?_|refine eF ad ?_|refine aK ?_|fail)
   rw[ag];all_goals exact aJ
 | false=>
   rw[if_neg (by simpa using c4)];have X:=uD w h;refine dQ kC ?_;repeat' ((conv=>whnf);first|(with_reducible first|apply aM|apply fk<;>intro hc<;>try exact iA)|refine eF X ?_|refine aK ?_|fail)
   all_goals exact aJ
def late1 (w:Wr)(x:Wt)(b:List Pl)(y:Pl):List Pl:=if aW x.from_ y then b else (vU { w with bad:=b } fun z=>z==y).bad
def qV (w:Wr)(x:Wt)(l b:List Pl):List Pl:=l.foldl (late1 w x) b
theorem Sq (w:Wr)(x:Wt)(l b:List Pl)(k:Nat)(h:k<l.length):qV w x (l.take (k+1)) b=late1 w x (qV w x (l.take k) b) l[k]:=by
 unfold qV;rw[List.take_succ_eq_append_getElem h,List.foldl_append];rfl
theorem Xo (w:Wr)(x:Wt)(b:List Pl)(y:Pl)(G:(aL w.l.af).ah.length≤5):(late1 w x b y).length≤b.length+5:=by
 unfold late1;split
 ·omega
 rw[AU];have:=kg (fun z=>z==y) (aL w.l.af).ah b;simp only at this ⊢;omega
theorem xu (w:Wr)(x:Wt)(G:(aL w.l.af).ah.length≤5):∀(l b:List Pl),(qV w x l b).length≤b.length+5*l.length
 |[],b=>by simp[qV]
 | y::l,b=>by
   have J:=xu w x G l (late1 w x b y);have K:=Xo w x b y G;show (qV w x l (late1 w x b y)).length≤_
   rw[List.length_cons];omega
theorem Uu (w:Wr)(x:Wt):∀(l b:List Pl),l.foldl (fun w y=>if aW x.from_ y then w else vU w fun z=>z==y) { w with bad:=b }={ w with bad:=qV w x l b }
 |[],b=>rfl
 | y::l,b=>by
   rw[List.foldl_cons];have:(if aW x.from_ y then ({ w with bad:=b }:Wr) else vU { w with bad:=b } fun z=>z==y)={ w with bad:=late1 w x b y }:=by
    unfold late1;split<;>rfl
   rw[this,Uu w x l];rfl
abbrev TD:=List Wt×List Pl×List Rq
def GR (w:Wr)(now:Int)(D:TD)(i:Nat):TD:=
 let x:=D.1[i]!
 let b:=if qd now x.born 9 then qV w x (fD w x.n) D.2.1 else D.2.1
 if qd now x.since 3 then (D.1.set i { x with since:=now },b,D.2.2++kM w x) else (D.1,b,D.2.2)
def kP (w:Wr)(now:Int)(i:Nat):TD:=(List.range i).foldl (GR w now) (w.waits,w.bad,[])
theorem uE (w:Wr)(now:Int)(i:Nat):kP w now (i+1)=GR w now (kP w now i) i:=by
 unfold kP;rw[List.range_succ,List.foldl_append];rfl
theorem Aw (w:Wr)(now:Int):∀i,(List.range i).foldl (mU now) (w,[])=({ w with waits:=(kP w now i).1,bad:=(kP w now i).2.1 },(kP w now i).2.2)
 |0=>rfl
 | i+1=>by
   rw[List.range_succ,List.foldl_append,Aw w now i,uE];generalize kP w now i=D;simp only[List.foldl_cons,List.foldl_nil,mU,GR];generalize D.1[i]! = x;have e:Db { w with waits:=D.1,bad:=D.2.1 } x={ w with waits:=D.1,bad:=qV w x (fD w x.n) D.2.1 }:=by
    exact Uu { w with waits:=D.1 } x (fD w x.n) D.2.1
   rw[e];cases qd now x.born 9<;>cases qd now x.since 3<;>rfl
structure ahD (w:Wr)(i:Nat)(D:TD):Prop where
 len:D.1.length=w.waits.length
 ok:∀x∈D.1,Uc x∧(fD w x.n).length≤5
 bad:D.2.1.length≤w.bad.length+25*i
 q:D.2.2.length≤5*i
theorem aeW {w:Wr}{now:Int}{i:Nat}{D:TD}(h:ahD w i D)(hi:i<w.waits.length)(hn:gU now)(V:(aL w.l.af).ah.length≤5):ahD w (i+1) (GR w now D i):=by
 have G:i<D.1.length:=by rw[h.len];exact hi
 obtain⟨x,S⟩:∃x,D.1[i]! = x:=⟨_,rfl⟩;have hm:x∈D.1:=by rw[←S,getElem!_pos D.1 i G];exact List.getElem_mem G
 obtain⟨J,X⟩:=h.ok x hm;have Q:(if qd now x.born 9 then qV w x (fD w x.n) D.2.1 else D.2.1).length≤w.bad.length+25*(i+1):=by
  have:=xu w x V (fD w x.n) D.2.1;have:=h.bad;split<;>omega
 have hq:=sO w x (fD w x.n);rw[sN] at hq;have h3:=h.q;unfold GR;simp only[S];split
 ·refine⟨by rw[List.length_set];exact h.len,fun y K=>?_,Q,by rw[List.length_append];omega⟩;rcases List.mem_or_eq_of_mem_set K with K|rfl
  ·exact h.ok y K
  exact⟨⟨J.n,J.body,J.from_,J.born,hn⟩,X⟩
 exact⟨h.len,h.ok,Q,by show D.2.2.length≤_;omega⟩
theorem Rt {w:Wr}{now:Int}(J:∀x∈w.waits,Uc x∧(fD w x.n).length≤5)(K:gU now)(G:(aL w.l.af).ah.length≤5):∀i,i≤w.waits.length→ahD w i (kP w now i)
 |0,_=>⟨rfl,J,by simp[kP],by simp[kP]⟩
 | i+1,hi=>by
   rw[uE];exact aeW (Rt J K G i (by omega)) (by omega) K G
theorem OY:bM prog 26 f26:=fO func26
def tkS (w:Wr)(W B Q:List (List PV)):List (Nat×aI):=[(1004,.var (wr0.c.map .pv)),(1006,.var (qA w (.pv (cB w.l.af)) (.aO 1007 0) (.aO 1008 0) (.aO 1009 0))),(1007,.arr 145 0 5 W),(1008,.arr 27 0 2 B),(1009,.arr 93 0 10 Q)]
theorem aeh (w:Wr)(now:Int)(h:WrB w)(cO:gU now)(hs:∀x∈w.waits,(fD w x.n).length≤5)(gN:(aL w.l.af).ah.length≤5) :
  dF prog 26 [.agg w.c,uu now] (.cK [.agg (jJ w now).1.c,kH (jJ w now).2]):=by
 refine PC.le ?_;cases e1:(w.fenced==1) with
 | true=>
   have e:jJ w now=(w,[]):=by unfold jJ;rw[if_pos (by simpa using e1)]
   rw[e];have hN:=uD w h;refine dQ OY ?_;repeat' ((conv=>whnf);first|(with_reducible first|apply aM|apply fk<;>intro hc<;>try exact aV)|refine eF hN ?_|refine aK ?_|fail)
   all_goals exact aJ
 |false=>
 have e:jJ w now=({ w with waits:=(kP w now w.waits.length).1,bad:=(kP w now w.waits.length).2.1 },(kP w now w.waits.length).2.2):=by
  unfold jJ;rw[if_neg (by simpa using e1)];exact Aw w now _
 rw[e];clear e;have hT:=aeO w h;have al:=Rt (now:=now) (fun x hx=>⟨h.wx x hx,hs x hx⟩) cO gN;have a7:=h.wl;have az:=h.fr;have a5:=h.fl;have a4:=h.bl;clear h hs;refine dQ OY ?_;repeat' ((conv=>whnf);first|(with_reducible first|apply aM|apply fk<;>intro hc<;>try exact aV)|rewrite[nE]|rewrite[nG]|refine eF hT ?_|refine aK ?_|fail)
 clear hT;refine⟨{i:Nat // i≤w.waits.length},fun⟨i,_⟩=>⟨[(1,.pv (uu now)),(4,.ptr 1004 0),(6,.ptr 1006 0),(25,.pv (ii w.waits.length)),(26,.pv (ii i))],1000000000,tkS w ((kP w now i).1.map Wt.c) ((kP w now i).2.1.map Pl.c) ((kP w now i).2.2.map Rq.c)⟩,fun⟨i,_⟩=>w.waits.length-i,⟨⟨0,Nat.zero_le _⟩,aD ?_⟩,?_⟩
 ·repeat' first|apply And.intro|exact aJ|fail
  all_goals try (conv=>whnf)
  all_goals simp
 rintro⟨i,hi⟩
 dsimp only
 by_cases ad:i<w.waits.length
 rotate_left
 ·have am:i=w.waits.length:=by omega
  subst am;have d0:decide ((w.waits.length:Int)<(w.waits.length:Int))=false:=by simp
  repeat' ((conv=>whnf);first|(with_reducible first|apply aM|apply fk<;>intro hc<;>try exact aV)|refine aK ?_|fail)
  all_goals exact aJ
 have d0:decide ((i:Int)<(w.waits.length:Int))=true:=by simp only[iG];omega
 have eW:IntKind.i64.wrap ((i:Int)+1)=((i+1:Nat):Int):=by rw[bF (by omega) (by omega)];omega
 have V:=al i hi;have K:=uE w now i;obtain⟨D,hD⟩:∃D,kP w now i=D:=⟨_,rfl⟩;rw[hD] at V K ⊢;clear hD al;have aa:i<D.1.length:=by rw[V.len];exact ad
 have hr:=dR Wt.c D.1 i aa;obtain⟨x,hx⟩:∃x,D.1[i]=x:=⟨_,rfl⟩;have ap:D.1[i]! = x:=by rw[getElem!_pos D.1 i aa];exact hx
 obtain⟨hB,a3⟩:=V.ok x (by rw[←hx];exact List.getElem_mem aa);rw[hx] at hr;have wJ:=V.bad;have a2:=V.q;have ae:i<(D.1.map Wt.c).length:=by rw[List.length_map];exact aa
 clear V hx;unfold GR at K;simp only[ap] at K;obtain⟨W,B,Q⟩:=D;simp only at K hr wJ a2 ae ap aa ⊢;have J:=Un now x.born 9 cO hB.born;have ak:=Un now x.since 3 cO hB.since;obtain⟨g1,aq⟩:∃g,qd now x.born 9=g:=⟨_,rfl⟩;obtain⟨g2,ar⟩:∃g,qd now x.since 3=g:=⟨_,rfl⟩;rw[aq] at J K;rw[ar] at ak K;clear aq ar ap;obtain⟨b,hb⟩:∃b,(if g1=true then qV w x (fD w x.n) B else B)=b:=⟨_,rfl⟩;rw[hb] at K;replace K:=Hd.mk K;repeat' ((conv=>whnf);first|fail|((with_reducible apply fk)<;>intro hc<;>try exact aV)|(apply bX;refine⟨_,J,?_⟩)|((with_reducible refine (Or.inl ?_:VC _ _ (Code.block _ _) _ _∨_)))|((refine⟨_,hr,?_⟩))|(((with_reducible apply And.intro);focus (rw[Int.toNat_natCast];exact ae)))|refine aK ?_|fail)
 refine Or.inl ?_;repeat' ((conv=>whnf);first|fail|((with_reducible apply fk)<;>intro hc<;>try exact aV)|(apply bX;refine⟨_,J,?_⟩)|((with_reducible refine (Or.inl ?_:VC _ _ (Code.block _ _) _ _∨_)))|((refine⟨_,hr,?_⟩))|(((with_reducible apply And.intro);focus (rw[Int.toNat_natCast];exact ae)))|refine aK ?_|fail)
 refine Or.inr ⟨Unit,fun _=>⟨[(1,.pv (uu now)),(4,.ptr 1004 0),(6,.ptr 1006 0),(8,.eY 1007 0 i 0),(25,.pv (ii w.waits.length)),(26,.pv (ii i))],1000000000,tkS w (W.map Wt.c) (b.map Pl.c) (Q.map Rq.c)⟩,?_,fun _=>?_⟩
 ·clear K ak;cases g1 with
  | false=>
    simp only[Bool.false_eq_true,↓reduceIte] at hb;subst hb;repeat' ((conv=>whnf);first|(with_reducible first|apply aM|apply fk<;>intro hc<;>try exact aV)|(apply bX;refine⟨_,J,?_⟩)|((refine⟨_,hr,?_⟩))|(((with_reducible apply And.intro);focus (rw[Int.toNat_natCast];exact ae)))|refine aK ?_|fail)
    refine⟨(),aD ?_⟩;all_goals exact aJ
  |true=>
  simp only[↓reduceIte] at hb;have ag:=jg w.l.af w.l.w x.n az hB.n;obtain⟨G,ao⟩:∃G,fD w x.n=G:=⟨_,rfl⟩;rw[show setOf w.l.af w.l.w x.n=G from ao] at ag;rw[ao] at hb a3;clear ao;replace hb:=Hd.mk hb;repeat' ((conv=>whnf);first|(with_reducible first|apply aM|apply fk<;>intro hc<;>try exact aV)|(apply bX;refine⟨_,J,?_⟩)|(refine Or.inr ?_;(conv=>whnf);refine⟨_,bY bV (bZ mixed bV) AQ rfl ?_,fun _ _ h=>h⟩)|(apply bX;refine⟨_,ag,?_⟩)|((refine⟨_,hr,?_⟩))|(((with_reducible apply And.intro);focus (rw[Int.toNat_natCast];exact ae)))|refine aK ?_|fail)
  clear ag J;refine⟨{k:Nat // k≤G.length},fun⟨k,_⟩=>⟨[(1,.pv (uu now)),(4,.ptr 1004 0),(6,.ptr 1006 0),(8,.eY 1007 0 i 0),(25,.pv (ii w.waits.length)),(26,.pv (ii i)),(47,.pv (av G)),(48,.pv (ii G.length)),(49,.pv (ii k))],1000000000,tkS w (W.map Wt.c) ((qV w x (G.take k) B).map Pl.c) (Q.map Rq.c)⟩,fun⟨k,_⟩=>G.length-k,⟨⟨0,Nat.zero_le _⟩,aD ?_⟩,?_⟩
  ·repeat' first|apply And.intro|exact aJ|fail
   all_goals try (conv=>whnf)
   all_goals first
    |exact ay _
    |simp
  rintro⟨k,hk⟩
  dsimp only
  by_cases S:k<G.length
  rotate_left
  ·have am:k=G.length:=by omega
   subst am;have d1:decide ((G.length:Int)<(G.length:Int))=false:=by simp
   rw[List.take_length];rw[hb.out];repeat' ((conv=>whnf);first|(with_reducible first|apply aM|apply fk<;>intro hc<;>try exact aV)|refine aK ?_|fail)
   refine⟨(),aD ?_⟩;all_goals exact aJ
  have d1:decide ((k:Int)<(G.length:Int))=true:=by simp only[iG];omega
  have eV:IntKind.i64.wrap ((k:Int)+1)=((k+1:Nat):Int):=by rw[bF (by omega) (by omega)];omega
  have X:=Sq w x G B k S;have a1:=xu w x gN (G.take k) B;have a6:(G.take k).length≤5:=by rw[List.length_take];omega
  have BA:=dR Pl.c G k S;obtain⟨y,hy⟩:∃y,G[k]=y:=⟨_,rfl⟩;rw[hy] at X BA;obtain⟨cu,ax⟩:∃cu,qV w x (G.take k) B=cu:=⟨_,rfl⟩;rw[ax] at X a1 ⊢;clear ax hy;have ai:=aA x.from_ y.node y.aH;rw[show (x.from_.any fun z=>z==(⟨y.node,y.aH⟩:Pl))=aW x.from_ y from rfl] at ai;unfold late1 at X;obtain⟨bb,aw⟩:∃bb,aW x.from_ y=bb:=⟨_,rfl⟩;rw[aw] at ai X;clear aw;cases bb with
  | true=>
    simp only[↓reduceIte] at X;replace X:=Hd.mk X;repeat' ((conv=>whnf);first|(with_reducible first|apply aM|apply fk<;>intro hc<;>try exact iA)|((refine⟨_,BA,?_⟩))|((refine⟨_,hr,?_⟩))|(apply bX;refine⟨_,ai,?_⟩)|refine aK ?_|fail)
    refine⟨⟨k+1,S⟩,dec_lt S,aD ?_⟩;dsimp only
    rw[X.out];repeat' first|apply And.intro|exact aJ|fail
    all_goals try (conv=>whnf)
    all_goals exact eV
  | false=>
    simp only[Bool.false_eq_true,↓reduceIte] at X;have a0:=aeU { w with bad:=cu } (W.map Wt.c) (Q.map Rq.c) 79 y.c (fun z=>z==y) (fun z=>acf y z) (by simp only;omega) (by simp only;omega) (by simp only;omega);replace X:=Hd.mk X;repeat' ((conv=>whnf);first|(with_reducible first|apply aM|apply fk<;>intro hc<;>try exact iA)|rewrite[nE]|rewrite[nG]|((refine⟨_,BA,?_⟩))|((refine⟨_,hr,?_⟩))|(apply bX;refine⟨_,ai,?_⟩)|refine eF a0 ?_|refine aK ?_|fail)
    refine⟨⟨k+1,S⟩,dec_lt S,aD ?_⟩;dsimp only
    rw[X.out];repeat' first|apply And.intro|exact aJ|fail
    all_goals try (conv=>whnf)
    all_goals exact eV
 clear hb J;cases g2 with
 | false=>
   simp only[Bool.false_eq_true,↓reduceIte] at K;repeat' ((conv=>whnf);first|(with_reducible first|apply aM|apply fk<;>intro hc<;>try exact aV)|(apply bX;refine⟨_,ak,?_⟩)|((refine⟨_,hr,?_⟩))|refine aK ?_|fail)
   refine⟨⟨i+1,ad⟩,dec_lt ad,aD ?_⟩;dsimp only
   rw[K.out];repeat' first|apply And.intro|exact aJ|fail
   all_goals try (conv=>whnf)
   all_goals exact eW
 | true=>
   simp only[↓reduceIte] at K;have ag:=acj w x now i (W.map Wt.c) (b.map Pl.c) Q hr (by omega) az hB (by omega);repeat' ((conv=>whnf);first|(with_reducible first|apply aM|apply fk<;>intro hc<;>try exact aV)|rewrite[nE]|rewrite[nG]|(apply bX;refine⟨_,ak,?_⟩)|((refine⟨_,hr,?_⟩))|refine eF ag ?_|refine aK ?_|fail)
   refine⟨⟨i+1,ad⟩,dec_lt ad,aD ?_⟩;dsimp only
   rw[K.out];repeat' first|apply And.intro|exact aJ|fail
   all_goals try (conv=>whnf)
   all_goals first
    |exact eW
    |(rw[List.map_set];exact ay _)
    |skip
theorem A7:bM prog 28 f28:=fO func28
theorem Lm {w:Wr}{e:Int}{known:List Pl}(h:((w.fenced==1)||((w.change.first != 0)||(((w.bad.map Pl.c).length:Int)==0)))=true):iy w e known=(w,kT,false):=by
 unfold iy;rw[if_pos];simp only[Bool.or_eq_true,beq_iff_eq,bne_iff_ne,ne_eq,fG] at h;rcases h with h|h|h
 ·exact .inl h
 ·exact .inr (.inl h)
 exact .inr (.inr (List.eq_nil_of_length_eq_zero (by omega)))
theorem acv {w:Wr}{e:Int}{known:List Pl}{g:Fr}{ok:Bool}(J:(w.fenced==1)=false)(K:(w.change.first != 0)=false)(G:(((w.bad.map Pl.c).length:Int)==0)=false)(Q:fC (aL w.l.af) w.l.w e w.bad known=(g,ok)) :
  iy w e known=if (!ok||((((w.l.af.map Fr.c).length:Int)==6)&&decide (w.sure+1>(aL w.l.af).first)))=true then ({ w with bad:=[] },kT,false) else ({ w with change:=⟨w.sure+1,g.ah⟩ },⟨w.sure+1,g.ah⟩,true):=by
 unfold iy Gq;rw[Q];rw[if_neg]
 ·simp only[fG];rfl
 simp only[beq_eq_false_iff_ne,ne_eq,bne_eq_false_iff_eq,fG] at J K G;rintro (h|h|h)
 ·exact J h
 ·exact h K
 rw[h] at G;exact G rfl
theorem aho (w:Wr)(e:Int)(known:List Pl)(h:WrB w)(hk:known.length≤1000)(Q:(aL w.l.af).ah.length≤5)(tZ:0≤w.sure∧w.sure<18446744073709551615) :
  dF prog 28 [.agg w.c,ii e,av known] (.cK [.agg (iy w e known).1.c,.agg (iy w e known).2.1.c,bl (iy w e known).2.2]):=by
 refine PC.le ?_;have S:=uD w h;cases V:(w.fenced==1) with
 | true=>
   rw[Lm (by rw[V];rfl)];refine dQ A7 ?_;repeat' ((conv=>whnf);first|(with_reducible first|apply aM|apply fk<;>intro hc<;>try exact iA)|refine eF S ?_|refine aK ?_|fail)
   all_goals exact aJ
 |false=>
 cases c2:(w.change.first != 0) with
 | true=>
   rw[Lm (by rw[V,c2];rfl)];refine dQ A7 ?_;repeat' ((conv=>whnf);first|(with_reducible first|apply aM|apply fk<;>intro hc<;>try exact iA)|refine eF S ?_|refine aK ?_|fail)
   all_goals exact aJ
 |false=>
 cases c3:(((w.bad.map Pl.c).length:Int)==0) with
 | true=>
   rw[Lm (by rw[V,c2,c3];rfl)];refine dQ A7 ?_;repeat' ((conv=>whnf);first|(with_reducible first|apply aM|apply fk<;>intro hc<;>try exact iA)|refine eF S ?_|refine aK ?_|fail)
   all_goals exact aJ
 |false=>
 have G:=wm (aL w.l.af) w.l.w e w.bad known (by omega) hk;have J:=qc Q w.l.w e w.bad known;have K:=Xk w (w.waits.map Wt.c) (w.bad.map Pl.c) (by have:=h.fl;omega);obtain⟨⟨g,ok⟩,hX⟩:∃X,fC (aL w.l.af) w.l.w e w.bad known=X:=⟨_,rfl⟩;rw[acv V c2 c3 hX];rw[hX] at G J;simp only at G J;have eS:IntKind.u64.wrap (w.sure+1)=w.sure+1:=gX (by omega) (by omega);have aa:=uz ⟨w.sure+1,g.ah⟩ (by simp only;omega);clear hX h hk tZ J Q;obtain⟨lf,Q⟩:∃lf,aL w.l.af=lf:=⟨_,rfl⟩;rw[Q] at G K ⊢;clear Q;cases ok with
 | false=>
   simp only[Bool.not_false,Bool.true_or,↓reduceIte];refine dQ A7 ?_;repeat' ((conv=>whnf);first|(with_reducible first|apply aM|apply fk<;>intro hc<;>try exact iA)|rewrite[nE]|rewrite[nG]|rewrite[eS]|refine eF S ?_|(refine Or.inr ?_;(conv=>whnf);refine⟨_,_,bP (K) ?_,?_⟩;exact oF)|refine eT G ?_|refine aK ?_|fail)
   all_goals exact aJ
 |true=>
 cases c6:(((w.l.af.map Fr.c).length:Int)==6)<;>cases c7:decide (w.sure+1>lf.first)
 all_goals
  simp only[Bool.not_true,Bool.false_or,Bool.and_true,Bool.and_false,Bool.true_and,Bool.false_and,Bool.false_eq_true,↓reduceIte];refine dQ A7 ?_;repeat' ((conv=>whnf);first|(with_reducible first|apply aM|apply fk<;>intro hc<;>try exact iA)|rewrite[nE]|rewrite[nG]|rewrite[eS]|refine eF S ?_|(refine Or.inr ?_;(conv=>whnf);refine⟨_,_,bP (K) ?_,?_⟩;exact oF)|refine eT G ?_|refine eT aa ?_|refine aK ?_|fail)
  all_goals exact aJ
end Go.Proofs.YtfoiekbkkbnpkaaGreat.Tb
end
