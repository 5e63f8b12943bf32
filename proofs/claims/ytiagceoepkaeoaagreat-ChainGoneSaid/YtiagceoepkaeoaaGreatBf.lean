/-
  Contracts of functions of the program and of the document, each for every input that its premises name.
-/
import Derived.Test.YtiagceoepkaeoaaGreatBe
import Derived.Test.YtiagceoepkaeoaaGreatAf
set_option linter.unusedSectionVars false
set_option linter.unusedVariables false
set_option linter.unusedSimpArgs false
set_option maxRecDepth 100000
set_option maxHeartbeats 4000000
section
open Go Go.Proofs.Tryz Go.AX
namespace Go.Proofs.YtiagceoepkaeoaaGreat.Tb
theorem LY:aQ prog 86 f86:=bU func86
theorem acy:aQ prog 208 f208:=bU func208
theorem Dy (a b:Int)(ch lg pa:PV)(o:bg)(c:PV)(out:Oc)(x:Pa):bC prog 86 ([]++([.agg x.c]++[.bJ [.bJ (wV a b ch lg pa o c out) 0] 0])) (bl (x.who==o.who)):=by
 refine PC.le ?_;refine bM LY ?_;repeat' ((conv=>whnf);first|with_reducible apply aG|((with_reducible apply fk)<;>intro hc<;>try exact aK)|refine aC ?_|fail)
 all_goals exact ay
theorem Zx (a b:Int)(ch lg pa:PV)(o:bg)(c:PV)(out:Oc)(x:Cu):bC prog 208 ([]++([.agg x.c]++[.bJ [.bJ (wV a b ch lg pa o c out) 0] 0])) (bl (x.sub==o.sub)):=by
 refine PC.le ?_;refine bM acy ?_;repeat' ((conv=>whnf);first|with_reducible apply aG|((with_reducible apply fk)<;>intro hc<;>try exact aK)|refine aC ?_|fail)
 all_goals exact ay
theorem yL:aQ prog 85 f85:=bU func85
theorem IL (a b:Int)(ch:List Ch)(lg:List Lg)(o:bg)(out:Oc)(l:List Pa)(h0:∀x∈l,(fun (x:Pa)=>x.who==o.who) x=false)(hl:l.length≤1000000) :
  dU prog 85 [.aB 1 0,.fn (.func 86) [] [.ptr 2 0]] ((1,.arr 68 0 8 (l.map Pa.c))::[(2,.var [.ptr 3 0]),(3,.var (wC a b (.pv (jL ch)) (.pv (dO lg)) (.aB 1 0) o (.pv .junk) out))]) (.aB 1 0) ((1,.arr 68 0 8 (l.map Pa.c))::[(2,.var [.ptr 3 0]),(3,.var (wC a b (.pv (jL ch)) (.pv (dO lg)) (.aB 1 0) o (.pv .junk) out))]):=by
 have hx:ql (fun (x:Pa)=>x.who==o.who) l = -1:=iN (fun (x:Pa)=>x.who==o.who) h0;have hD:∀m:List Pa,∀x∈l,bC prog 86 ([]++([.agg x.c]++[.bJ [.bJ (wV a b (jL ch) (dO lg) (.sl false 8 (m.map Pa.c)) o .junk out) 0] 0])) (bl ((fun (x:Pa)=>x.who==o.who) x)):=fun m x _=>Dy _ _ _ _ _ _ _ _ _
 have cI:=nW l 86 [] [.bJ [.bJ (wV a b (jL ch) (dO lg) (.sl false 8 (l.map Pa.c)) o .junk out) 0] 0] (fun (x:Pa)=>x.who==o.who) (hD l);rw[hx] at cI;clear hx hD h0;simp only[wC,wV,jv,Es,lM,bg.c,Pl.c,Oc.c,dR,fq,fI,fJ,pq] at cI ⊢;refine jy yL ?_;repeat' ((conv=>whnf);first|with_reducible apply aG|((with_reducible apply fk)<;>intro hc<;>try exact aK)|(apply aH;refine⟨_,cI,?_⟩)|refine aC ?_|fail)
 refine⟨_,_,⟨rfl,rfl⟩,?_⟩;all_goals exact ay
theorem GU (a b:Int)(ch:List Ch)(lg:List Lg)(o:bg)(out:Oc)(l:List Pa)(h0:¬∀x∈l,(fun (x:Pa)=>x.who==o.who) x=false)(hl:l.length≤1000000) :
  dU prog 85 [.aB 1 0,.fn (.func 86) [] [.ptr 2 0]] ((1,.arr 68 0 8 (l.map Pa.c))::[(2,.var [.ptr 3 0]),(3,.var (wC a b (.pv (jL ch)) (.pv (dO lg)) (.aB 1 0) o (.pv .junk) out))]) (.sub 1 0 8 0 (l.filter fun x=>!(fun (x:Pa)=>x.who==o.who) x).length) ((1,.arr 68 0 8 ((l.filter fun x=>!(fun (x:Pa)=>x.who==o.who) x).map Pa.c++List.replicate (l.length-(l.filter fun x=>!(fun (x:Pa)=>x.who==o.who) x).length) [ii 0,uu 0,uu 0,ii 0,uu 0,uu 0,uu 0,ii 0]))::[(2,.var [.ptr 3 0]),(3,.var (wC a b (.pv (jL ch)) (.pv (dO lg)) (.aB 1 0) o (.pv .junk) out))]):=by
 obtain⟨ix,hix,hxe,hxp,hxf⟩:∃k,∃hk:k<l.length,ql (fun (x:Pa)=>x.who==o.who) l=(k:Nat)∧(fun (x:Pa)=>x.who==o.who) l[k]=true∧∀j (hj:j<l.length),j<k→(fun (x:Pa)=>x.who==o.who) l[j]=false:=by
  rcases nM (fun (x:Pa)=>x.who==o.who) l with ⟨_,h⟩|⟨k,hk,h1,h2,h3⟩
  ·exact absurd h h0
  exact⟨k,hk,h1,h2,h3⟩
 obtain⟨hS,hK⟩:=zh (p:=(fun (x:Pa)=>x.who==o.who)) ix hix hxf hxp;have hD:∀m:List Pa,∀x∈l,bC prog 86 ([]++([.agg x.c]++[.bJ [.bJ (wV a b (jL ch) (dO lg) (.sl false 8 (m.map Pa.c)) o .junk out) 0] 0])) (bl ((fun (x:Pa)=>x.who==o.who) x)):=fun m x _=>Dy _ _ _ _ _ _ _ _ _
 have cI:=nW l 86 [] [.bJ [.bJ (wV a b (jL ch) (dO lg) (.sl false 8 (l.map Pa.c)) o .junk out) 0] 0] (fun (x:Pa)=>x.who==o.who) (hD l);rw[hxe] at cI;have d9:((ix:Int) == -1)=false:=by simp
 have eX:IntKind.i64.wrap ((ix:Int)+1)=((ix+1:Nat):Int):=by rw[aJ (by omega) (by omega)];omega
 simp only[wC,wV,jv,Es,lM,bg.c,Pl.c,Oc.c,dR,fq,fI,fJ,pq] at cI hD ⊢;refine jy yL ?_;repeat' ((conv=>whnf);first|with_reducible apply aG|((with_reducible apply fk)<;>intro hc<;>try exact aK)|(apply aH;refine⟨_,cI,?_⟩)|refine aC ?_|fail)
 clear cI d9;refine⟨{jm:Nat×List Pa // K4 (fun (x:Pa)=>x.who==o.who) l jm},fun⟨(j,m),_⟩=>⟨[(0,.aB 1 0),(1,.fn (.func 86) [] [.ptr 2 0]),(5,.pv (ii (dF (fun (x:Pa)=>x.who==o.who) l j).length)),(6,.pv (ii j))],1000000000,(1,.arr 68 0 8 (m.map Pa.c))::[(2,.var [.ptr 3 0]),(3,.var (wC a b (.pv (jL ch)) (.pv (dO lg)) (.aB 1 0) o (.pv .junk) out))]⟩,fun⟨(j,_),_⟩=>l.length-j,⟨⟨(ix+1,l),hS⟩,aj ?_⟩,?_⟩
 ·simp only[wC,wV,jv,Es,lM,bg.c,Pl.c,Oc.c,dR,fq,fI,fJ,pq];repeat' first|apply And.intro|exact ay|fail
  all_goals try (conv=>whnf)
  all_goals first
   |exact eX
   |rw[hK]
 rintro⟨⟨j,m⟩,hj⟩
 obtain⟨hj1,hj2,hj3,hj4⟩:=id hj;simp only at hj1 hj2 hj3 hj4;have hkl:=Av (fun (x:Pa)=>x.who==o.who) l j hj1;simp only[wC,wV,jv,Es,lM,bg.c,Pl.c,Oc.c,dR,fq,fI,fJ,pq];by_cases hlt:j<m.length
 ·have hlt2:j<l.length:=by omega
  have d0:decide ((j:Int)<((m.map Pa.c).length:Int))=true:=by simp only[jS,gQ];omega
  obtain⟨_,he⟩:=FU hj hlt2;have J6:=hD m m[j] (by rw[he];exact List.getElem_mem hlt2);have hi:(dF (fun (x:Pa)=>x.who==o.who) l j).length<m.length:=by omega
  have eJ:IntKind.i64.wrap ((j:Int)+1)=((j+1:Nat):Int):=by rw[aJ (by omega) (by omega)];omega
  cases hp2:(fun (x:Pa)=>x.who==o.who) m[j] with
  | false=>
    change bC _ _ _ (bl ((fun (x:Pa)=>x.who==o.who) m[j])) at J6
    rw[hp2] at J6;have PY:(fun (x:Pa)=>x.who==o.who) l[j]=false:=by rw[←he];exact hp2
    have hks:(dF (fun (x:Pa)=>x.who==o.who) l (j+1)).length=(dF (fun (x:Pa)=>x.who==o.who) l j).length+1:=ze hlt2 PY;have eI:IntKind.i64.wrap (((dF (fun (x:Pa)=>x.who==o.who) l j).length:Int)+1)=((dF (fun (x:Pa)=>x.who==o.who) l (j+1)).length:Int):=by rw[aJ (by omega) (by omega),hks];omega
    repeat' ((conv=>whnf);first|with_reducible apply aG|((with_reducible apply fk)<;>intro hc<;>try exact aK)|(refine sF ?_)|((refine⟨_,dx _ _ _ hlt,?_⟩))|((refine⟨_,dx _ _ _ hi,?_⟩))|(apply aH;refine⟨_,J6,?_⟩)|refine aC ?_|fail)
    refine⟨⟨(j+1,m.set (dF (fun (x:Pa)=>x.who==o.who) l j).length l[j]),Cc hj hlt2 PY⟩,dec_lt hlt2,aj ?_⟩;simp only[wC,wV,jv,Es,lM,bg.c,Pl.c,Oc.c,dR,fq,fI,fJ,pq];repeat' first|apply And.intro|exact ay|fail
    all_goals try (conv=>whnf)
    all_goals first
     |exact eI
     |exact eJ
     | (refine fA ?_
        rw[←he,List.map_set];rfl)
  | true=>
    change bC _ _ _ (bl ((fun (x:Pa)=>x.who==o.who) m[j])) at J6
    rw[hp2] at J6;have hpt:(fun (x:Pa)=>x.who==o.who) l[j]=true:=by rw[←he];exact hp2
    have hks:(dF (fun (x:Pa)=>x.who==o.who) l (j+1)).length=(dF (fun (x:Pa)=>x.who==o.who) l j).length:=zf hlt2 hpt;repeat' ((conv=>whnf);first|with_reducible apply aG|((with_reducible apply fk)<;>intro hc<;>try exact aK)|(refine sF ?_)|((refine⟨_,dx _ _ _ hlt,?_⟩))|(apply aH;refine⟨_,J6,?_⟩)|refine aC ?_|fail)
    refine⟨⟨(j+1,m),Cb hj hlt2 hpt⟩,dec_lt hlt2,aj ?_⟩;simp only[wC,wV,jv,Es,lM,bg.c,Pl.c,Oc.c,dR,fq,fI,fJ,pq];repeat' first|apply And.intro|exact ay|fail
    all_goals try (conv=>whnf)
    all_goals first
     |exact eJ
     |rw[hks]
 have hjl:j=l.length:=by omega
 have d0:decide ((j:Int)<((m.map Pa.c).length:Int))=false:=by simp only[jS,kQ];omega
 subst hjl;have hkf:dF (fun (x:Pa)=>x.who==o.who) l l.length=l.filter fun x=>!(fun (x:Pa)=>x.who==o.who) x:=by unfold dF;rw[List.take_length]
 repeat' ((conv=>whnf);first|with_reducible apply aG|((with_reducible apply fk)<;>intro hc<;>try exact aK)|(((with_reducible apply And.intro);focus (simp only[jS,Bu,List.length_take,List.length_drop,List.length_replicate];omega)))|refine aC ?_|fail)
 refine⟨_,_,⟨rfl,rfl⟩,?_⟩;repeat' first|apply And.intro|exact ay|fail
 all_goals try (conv=>whnf)
 all_goals first
  |(rw[hkf];rfl)
  | (refine fA ?_
     rw[←hkf,Int.toNat_natCast,List.length_map,←List.map_take,hj3,List.drop_eq_nil_of_le (by simp),List.append_nil,hj2])
theorem IQ (a b:Int)(ch:List Ch)(lg:List Lg)(o:bg)(out:Oc)(l:List Pa)(h0:¬∀x∈l,(fun (x:Pa)=>x.who==o.who) x=false)(hl:l.length≤1000000) :
  dU prog 85 [.aB 1 0,.fn (.func 86) [] [.ptr 2 0]] ((1,.arr 68 0 8 (l.map Pa.c))::[(2,.var [.ptr 3 0]),(3,.var (wC a b (.pv (jL ch)) (.pv (dO lg)) (.aB 1 0) o (.pv .junk) out))]) (.aB 1 1) ((1,.arr 68 1 8 ((l.filter fun x=>!(fun (x:Pa)=>x.who==o.who) x).map Pa.c))::[(2,.var [.ptr 3 0]),(3,.var (wC a b (.pv (jL ch)) (.pv (dO lg)) (.aB 1 0) o (.pv .junk) out))]):=by
 have h:=La (GU a b ch lg o out l h0 hl) (by simp);rw[List.take_append_of_le_length (by simp),List.take_of_length_le (by simp)] at h;exact h
theorem uJ:aQ prog 207 f207:=bU func207
theorem Ee (a b:Int)(A:List Ch)(c:Ch)(B:List Ch)(L:List Lg)(Q:List Pa)(o:bg)(out:Oc)(l:List Cu)(h0:∀x∈l,(fun (x:Cu)=>x.sub==o.sub) x=false)(hl:l.length≤1000000) :
  dU prog 207 [.aB 1 0,.fn (.func 208) [] [.ptr 2 0]] ((1,.arr 127 0 2 (l.map Cu.c))::[(2,.var [.ptr 3 0]),(3,.var (wC a b (.aB 4 0) (.aB 5 0) (.aB 6 0) o (.bn 4 0 (A.map Ch.c).length 0) out)),(4,.dN 47 0 9 (A.map Ch.c) (lM c (.aB 1 0)) (B.map Ch.c)),(5,.arr 50 0 6 (L.map Lg.c)),(6,.arr 68 0 8 (Q.map Pa.c))]) (.aB 1 0) ((1,.arr 127 0 2 (l.map Cu.c))::[(2,.var [.ptr 3 0]),(3,.var (wC a b (.aB 4 0) (.aB 5 0) (.aB 6 0) o (.bn 4 0 (A.map Ch.c).length 0) out)),(4,.dN 47 0 9 (A.map Ch.c) (lM c (.aB 1 0)) (B.map Ch.c)),(5,.arr 50 0 6 (L.map Lg.c)),(6,.arr 68 0 8 (Q.map Pa.c))]):=by
 have hx:ql (fun (x:Cu)=>x.sub==o.sub) l = -1:=iN (fun (x:Cu)=>x.sub==o.sub) h0;have hD:∀m:List Cu,∀x∈l,bC prog 208 ([]++([.agg x.c]++[.bJ [.bJ (wV a b (.sl false 9 (A.map Ch.c++[uu c.aU,ii c.owner,uu c.inc,uu c.eY,uu c.first,uu c.trim,l8 c.af,rP c.seen,.sl false 2 (m.map Cu.c)]::B.map Ch.c)) (.sl false 6 (L.map Lg.c)) (.sl false 8 (Q.map Pa.c)) o .junk out) 0] 0])) (bl ((fun (x:Cu)=>x.sub==o.sub) x)):=fun m x _=>Zx _ _ _ _ _ _ _ _ _
 have cI:=l6 l 208 [] [.bJ [.bJ (wV a b (.sl false 9 (A.map Ch.c++[uu c.aU,ii c.owner,uu c.inc,uu c.eY,uu c.first,uu c.trim,l8 c.af,rP c.seen,.sl false 2 (l.map Cu.c)]::B.map Ch.c)) (.sl false 6 (L.map Lg.c)) (.sl false 8 (Q.map Pa.c)) o .junk out) 0] 0] (fun (x:Cu)=>x.sub==o.sub) (hD l);rw[hx] at cI;clear hx hD h0;simp only[wC,wV,jv,Es,lM,bg.c,Pl.c,Oc.c,dR,fq,fI,fJ,pq] at cI ⊢;refine jy uJ ?_;repeat' ((conv=>whnf);first|with_reducible apply aG|((with_reducible apply fk)<;>intro hc<;>try exact aK)|(apply aH;refine⟨_,cI,?_⟩)|refine aC ?_|fail)
 refine⟨_,_,⟨rfl,rfl⟩,?_⟩;all_goals exact ay
theorem CF (a b:Int)(A:List Ch)(c:Ch)(B:List Ch)(L:List Lg)(Q:List Pa)(o:bg)(out:Oc)(l:List Cu)(h0:¬∀x∈l,(fun (x:Cu)=>x.sub==o.sub) x=false)(hl:l.length≤1000000) :
  dU prog 207 [.aB 1 0,.fn (.func 208) [] [.ptr 2 0]] ((1,.arr 127 0 2 (l.map Cu.c))::[(2,.var [.ptr 3 0]),(3,.var (wC a b (.aB 4 0) (.aB 5 0) (.aB 6 0) o (.bn 4 0 (A.map Ch.c).length 0) out)),(4,.dN 47 0 9 (A.map Ch.c) (lM c (.aB 1 0)) (B.map Ch.c)),(5,.arr 50 0 6 (L.map Lg.c)),(6,.arr 68 0 8 (Q.map Pa.c))]) (.sub 1 0 2 0 (l.filter fun x=>!(fun (x:Cu)=>x.sub==o.sub) x).length) ((1,.arr 127 0 2 ((l.filter fun x=>!(fun (x:Cu)=>x.sub==o.sub) x).map Cu.c++List.replicate (l.length-(l.filter fun x=>!(fun (x:Cu)=>x.sub==o.sub) x).length) [ii 0,uu 0]))::[(2,.var [.ptr 3 0]),(3,.var (wC a b (.aB 4 0) (.aB 5 0) (.aB 6 0) o (.bn 4 0 (A.map Ch.c).length 0) out)),(4,.dN 47 0 9 (A.map Ch.c) (lM c (.aB 1 0)) (B.map Ch.c)),(5,.arr 50 0 6 (L.map Lg.c)),(6,.arr 68 0 8 (Q.map Pa.c))]):=by
 obtain⟨ix,hix,hxe,hxp,hxf⟩:∃k,∃hk:k<l.length,ql (fun (x:Cu)=>x.sub==o.sub) l=(k:Nat)∧(fun (x:Cu)=>x.sub==o.sub) l[k]=true∧∀j (hj:j<l.length),j<k→(fun (x:Cu)=>x.sub==o.sub) l[j]=false:=by
  rcases nM (fun (x:Cu)=>x.sub==o.sub) l with ⟨_,h⟩|⟨k,hk,h1,h2,h3⟩
  ·exact absurd h h0
  exact⟨k,hk,h1,h2,h3⟩
 obtain⟨hS,hK⟩:=zh (p:=(fun (x:Cu)=>x.sub==o.sub)) ix hix hxf hxp;have hD:∀m:List Cu,∀x∈l,bC prog 208 ([]++([.agg x.c]++[.bJ [.bJ (wV a b (.sl false 9 (A.map Ch.c++[uu c.aU,ii c.owner,uu c.inc,uu c.eY,uu c.first,uu c.trim,l8 c.af,rP c.seen,.sl false 2 (m.map Cu.c)]::B.map Ch.c)) (.sl false 6 (L.map Lg.c)) (.sl false 8 (Q.map Pa.c)) o .junk out) 0] 0])) (bl ((fun (x:Cu)=>x.sub==o.sub) x)):=fun m x _=>Zx _ _ _ _ _ _ _ _ _
 have cI:=l6 l 208 [] [.bJ [.bJ (wV a b (.sl false 9 (A.map Ch.c++[uu c.aU,ii c.owner,uu c.inc,uu c.eY,uu c.first,uu c.trim,l8 c.af,rP c.seen,.sl false 2 (l.map Cu.c)]::B.map Ch.c)) (.sl false 6 (L.map Lg.c)) (.sl false 8 (Q.map Pa.c)) o .junk out) 0] 0] (fun (x:Cu)=>x.sub==o.sub) (hD l);rw[hxe] at cI;have d9:((ix:Int) == -1)=false:=by simp
 have eX:IntKind.i64.wrap ((ix:Int)+1)=((ix+1:Nat):Int):=by rw[aJ (by omega) (by omega)];omega
 simp only[wC,wV,jv,Es,lM,bg.c,Pl.c,Oc.c,dR,fq,fI,fJ,pq] at cI hD ⊢;refine jy uJ ?_;repeat' ((conv=>whnf);first|with_reducible apply aG|((with_reducible apply fk)<;>intro hc<;>try exact aK)|(apply aH;refine⟨_,cI,?_⟩)|refine aC ?_|fail)
 clear cI d9;refine⟨{jm:Nat×List Cu // K4 (fun (x:Cu)=>x.sub==o.sub) l jm},fun⟨(j,m),_⟩=>⟨[(0,.aB 1 0),(1,.fn (.func 208) [] [.ptr 2 0]),(5,.pv (ii (dF (fun (x:Cu)=>x.sub==o.sub) l j).length)),(6,.pv (ii j))],1000000000,(1,.arr 127 0 2 (m.map Cu.c))::[(2,.var [.ptr 3 0]),(3,.var (wC a b (.aB 4 0) (.aB 5 0) (.aB 6 0) o (.bn 4 0 (A.map Ch.c).length 0) out)),(4,.dN 47 0 9 (A.map Ch.c) (lM c (.aB 1 0)) (B.map Ch.c)),(5,.arr 50 0 6 (L.map Lg.c)),(6,.arr 68 0 8 (Q.map Pa.c))]⟩,fun⟨(j,_),_⟩=>l.length-j,⟨⟨(ix+1,l),hS⟩,aj ?_⟩,?_⟩
 ·simp only[wC,wV,jv,Es,lM,bg.c,Pl.c,Oc.c,dR,fq,fI,fJ,pq];repeat' first|apply And.intro|exact ay|fail
  all_goals try (conv=>whnf)
  all_goals first
   |exact eX
   |rw[hK]
 rintro⟨⟨j,m⟩,hj⟩
 obtain⟨hj1,hj2,hj3,hj4⟩:=id hj;simp only at hj1 hj2 hj3 hj4;have hkl:=Av (fun (x:Cu)=>x.sub==o.sub) l j hj1;simp only[wC,wV,jv,Es,lM,bg.c,Pl.c,Oc.c,dR,fq,fI,fJ,pq];by_cases hlt:j<m.length
 ·have hlt2:j<l.length:=by omega
  have d0:decide ((j:Int)<((m.map Cu.c).length:Int))=true:=by simp only[jS,gQ];omega
  obtain⟨_,he⟩:=FU hj hlt2;have J6:=hD m m[j] (by rw[he];exact List.getElem_mem hlt2);have hi:(dF (fun (x:Cu)=>x.sub==o.sub) l j).length<m.length:=by omega
  have eJ:IntKind.i64.wrap ((j:Int)+1)=((j+1:Nat):Int):=by rw[aJ (by omega) (by omega)];omega
  cases hp2:(fun (x:Cu)=>x.sub==o.sub) m[j] with
  | false=>
    change bC _ _ _ (bl ((fun (x:Cu)=>x.sub==o.sub) m[j])) at J6
    rw[hp2] at J6;have PY:(fun (x:Cu)=>x.sub==o.sub) l[j]=false:=by rw[←he];exact hp2
    have hks:(dF (fun (x:Cu)=>x.sub==o.sub) l (j+1)).length=(dF (fun (x:Cu)=>x.sub==o.sub) l j).length+1:=ze hlt2 PY;have eI:IntKind.i64.wrap (((dF (fun (x:Cu)=>x.sub==o.sub) l j).length:Int)+1)=((dF (fun (x:Cu)=>x.sub==o.sub) l (j+1)).length:Int):=by rw[aJ (by omega) (by omega),hks];omega
    repeat' ((conv=>whnf);first|with_reducible apply aG|((with_reducible apply fk)<;>intro hc<;>try exact aK)|(refine sF ?_)|((refine⟨_,dx _ _ _ hlt,?_⟩))|((refine⟨_,dx _ _ _ hi,?_⟩))|(apply aH;refine⟨_,J6,?_⟩)|refine aC ?_|fail)
    refine⟨⟨(j+1,m.set (dF (fun (x:Cu)=>x.sub==o.sub) l j).length l[j]),Cc hj hlt2 PY⟩,dec_lt hlt2,aj ?_⟩;simp only[wC,wV,jv,Es,lM,bg.c,Pl.c,Oc.c,dR,fq,fI,fJ,pq];repeat' first|apply And.intro|exact ay|fail
    all_goals try (conv=>whnf)
    all_goals first
     |exact eI
     |exact eJ
     | (refine fA ?_
        rw[←he,List.map_set];rfl)
  | true=>
    change bC _ _ _ (bl ((fun (x:Cu)=>x.sub==o.sub) m[j])) at J6
    rw[hp2] at J6;have hpt:(fun (x:Cu)=>x.sub==o.sub) l[j]=true:=by rw[←he];exact hp2
    have hks:(dF (fun (x:Cu)=>x.sub==o.sub) l (j+1)).length=(dF (fun (x:Cu)=>x.sub==o.sub) l j).length:=zf hlt2 hpt;repeat' ((conv=>whnf);first|with_reducible apply aG|((with_reducible apply fk)<;>intro hc<;>try exact aK)|(refine sF ?_)|((refine⟨_,dx _ _ _ hlt,?_⟩))|(apply aH;refine⟨_,J6,?_⟩)|refine aC ?_|fail)
    refine⟨⟨(j+1,m),Cb hj hlt2 hpt⟩,dec_lt hlt2,aj ?_⟩;simp only[wC,wV,jv,Es,lM,bg.c,Pl.c,Oc.c,dR,fq,fI,fJ,pq];repeat' first|apply And.intro|exact ay|fail
    all_goals try (conv=>whnf)
    all_goals first
     |exact eJ
     |rw[hks]
 have hjl:j=l.length:=by omega
 have d0:decide ((j:Int)<((m.map Cu.c).length:Int))=false:=by simp only[jS,kQ];omega
 subst hjl;have hkf:dF (fun (x:Cu)=>x.sub==o.sub) l l.length=l.filter fun x=>!(fun (x:Cu)=>x.sub==o.sub) x:=by unfold dF;rw[List.take_length]
 repeat' ((conv=>whnf);first|with_reducible apply aG|((with_reducible apply fk)<;>intro hc<;>try exact aK)|(((with_reducible apply And.intro);focus (simp only[jS,Bu,List.length_take,List.length_drop,List.length_replicate];omega)))|refine aC ?_|fail)
 refine⟨_,_,⟨rfl,rfl⟩,?_⟩;repeat' first|apply And.intro|exact ay|fail
 all_goals try (conv=>whnf)
 all_goals first
  |(rw[hkf];rfl)
  | (refine fA ?_
     rw[←hkf,Int.toNat_natCast,List.length_map,←List.map_take,hj3,List.drop_eq_nil_of_le (by simp),List.append_nil,hj2])
theorem Ef (a b:Int)(A:List Ch)(c:Ch)(B:List Ch)(L:List Lg)(Q:List Pa)(o:bg)(out:Oc)(l:List Cu)(h0:¬∀x∈l,(fun (x:Cu)=>x.sub==o.sub) x=false)(hl:l.length≤1000000) :
  dU prog 207 [.aB 1 0,.fn (.func 208) [] [.ptr 2 0]] ((1,.arr 127 0 2 (l.map Cu.c))::[(2,.var [.ptr 3 0]),(3,.var (wC a b (.aB 4 0) (.aB 5 0) (.aB 6 0) o (.bn 4 0 (A.map Ch.c).length 0) out)),(4,.dN 47 0 9 (A.map Ch.c) (lM c (.aB 1 0)) (B.map Ch.c)),(5,.arr 50 0 6 (L.map Lg.c)),(6,.arr 68 0 8 (Q.map Pa.c))]) (.aB 1 1) ((1,.arr 127 1 2 ((l.filter fun x=>!(fun (x:Cu)=>x.sub==o.sub) x).map Cu.c))::[(2,.var [.ptr 3 0]),(3,.var (wC a b (.aB 4 0) (.aB 5 0) (.aB 6 0) o (.bn 4 0 (A.map Ch.c).length 0) out)),(4,.dN 47 0 9 (A.map Ch.c) (lM c (.aB 1 0)) (B.map Ch.c)),(5,.arr 50 0 6 (L.map Lg.c)),(6,.arr 68 0 8 (Q.map Pa.c))]):=by
 have h:=La (CF a b A c B L Q o out l h0 hl) (by simp);rw[List.take_append_of_le_length (by simp),List.take_of_length_le (by simp)] at h;exact h
theorem Dz:aQ prog 36 f36:=bU func36
theorem Pk (v b:Int)(ch:List Ch)(lg:List Lg)(Q:List Pa)(o:bg)(out:Oc)(h0:∀x∈Q,(fun (x:Pa)=>x.who==o.who) x=false)(hl:Q.length≤100000):dU prog 36 [.ptr 1 0]
  [(1,.var (wC v b (.pv (jL ch)) (.pv (dO lg)) (.aB 2 0) o (.pv .junk) out)),(2,.arr 68 0 8 (Q.map Pa.c))] (.pv (.dn []))
  [(1,.var (wC (IntKind.u64.wrap (v+1)) b (.pv (jL ch)) (.pv (dO lg)) (.aB 2 1) o (.pv .junk) out)),(2,.arr 68 1 8 ((iJ Q o out).map Pa.c))]:=by
 have cD:=IL (IntKind.u64.wrap (v+1)) b ch lg o out Q h0 (by omega);have eF:Q.filter (fun x=>!(x.who==o.who))=Q:=by
  rw[List.filter_eq_self];intro x hx;have:=h0 x hx;simp only at this;rw[this];rfl
 have eP:iJ Q o out=(iP Pa.who (Q++[(⟨o.who,o.inc,o.n,out⟩:Pa)]).toArray).toList:=by unfold iJ;rw[eF]
 have cS:=GR (Q++[(⟨o.who,o.inc,o.n,out⟩:Pa)]) (by simp;omega);rw[←eP] at cS;clear eP eF h0;simp only[wC,bg.c,Pl.c,Oc.c,Pa.c,dR,fq,fI,fJ,pq] at cD cS ⊢;refine jy Dz ?_;repeat' ((conv=>whnf);first|with_reducible apply aG|((with_reducible apply fk)<;>intro hc<;>try exact aK)|(apply fB;refine⟨_,_,cD,?_⟩)|(apply fB;refine⟨_,_,cZ (cS) ?_,?_⟩;exact rG)|(((with_reducible apply And.intro);focus (simp only[jS,uF,xA] at *;omega)))|refine aC ?_|fail)
 refine⟨_,_,⟨rfl,rfl⟩,?_⟩;all_goals exact ay
theorem Pm (v b:Int)(ch:List Ch)(lg:List Lg)(Q:List Pa)(o:bg)(out:Oc)(h0:¬∀x∈Q,(fun (x:Pa)=>x.who==o.who) x=false)(hl:Q.length≤100000):dU prog 36 [.ptr 1 0]
  [(1,.var (wC v b (.pv (jL ch)) (.pv (dO lg)) (.aB 2 0) o (.pv .junk) out)),(2,.arr 68 0 8 (Q.map Pa.c))] (.pv (.dn []))
  [(1,.var (wC (IntKind.u64.wrap (v+1)) b (.pv (jL ch)) (.pv (dO lg)) (.aB 2 2) o (.pv .junk) out)),(2,.arr 68 2 8 ((iJ Q o out).map Pa.c))]:=by
 have cD:=IQ (IntKind.u64.wrap (v+1)) b ch lg o out Q h0 (by omega);have hfl:=List.length_filter_le (fun (x:Pa)=>!(x.who==o.who)) Q;have eP:iJ Q o out=(iP Pa.who ((Q.filter fun x=>!(x.who==o.who))++[(⟨o.who,o.inc,o.n,out⟩:Pa)]).toArray).toList:=rfl;have cS:=GR ((Q.filter fun x=>!(x.who==o.who))++[(⟨o.who,o.inc,o.n,out⟩:Pa)]) (by simp;omega);rw[←eP] at cS;clear eP h0;simp only[wC,bg.c,Pl.c,Oc.c,Pa.c,dR,fq,fI,fJ,pq] at cD cS ⊢;refine jy Dz ?_;repeat' ((conv=>whnf);first|with_reducible apply aG|((with_reducible apply fk)<;>intro hc<;>try exact aK)|(apply fB;refine⟨_,_,cD,?_⟩)|(apply fB;refine⟨_,_,cZ (cS) ?_,?_⟩;exact rG)|(((with_reducible apply And.intro);focus (simp only[jS,uF,xA] at *;omega)))|refine aC ?_|fail)
 refine⟨_,_,⟨rfl,rfl⟩,?_⟩;all_goals exact ay
theorem kY (v b:Int)(ch:List Ch)(lg:List Lg)(Q:List Pa)(o:bg)(out:Oc)(hl:Q.length≤100000):∃k,dU prog 36 [.ptr 1 0]
  [(1,.var (wC v b (.pv (jL ch)) (.pv (dO lg)) (.aB 2 0) o (.pv .junk) out)),(2,.arr 68 0 8 (Q.map Pa.c))] (.pv (.dn []))
  [(1,.var (wC (IntKind.u64.wrap (v+1)) b (.pv (jL ch)) (.pv (dO lg)) (.pv (uS (iJ Q o out))) o (.pv .junk) out)),(2,.kE k 8 ((iJ Q o out).map Pa.c))]:=by
 by_cases h0:∀x∈Q,(fun (x:Pa)=>x.who==o.who) x=false
 ·refine⟨1,iw (Pk v b ch lg Q o out h0 hl) [2] ?_⟩;simp only[wC,bg.c,Pl.c,Oc.c,dR,fq,fI,fJ]
  (conv=>whnf)
  refine⟨_,_,⟨rfl,rfl⟩,?_⟩;all_goals exact ay
 refine⟨2,iw (Pm v b ch lg Q o out h0 hl) [2] ?_⟩;simp only[wC,bg.c,Pl.c,Oc.c,dR,fq,fI,fJ]
 (conv=>whnf)
 refine⟨_,_,⟨rfl,rfl⟩,?_⟩;all_goals exact ay
theorem PD (p:Pn)(A:List Ch)(c:Ch)(B:List Ch)(hp:p.channels=A++c::B)(h:rR p):dU prog 30 [.pv (.agg p.c)] [] (.agg [.pv (uu p.version),.pv (uu p.next),.aB 1001 0,.aB 1002 0,.aB 1003 0])
  [(1001,.dN 47 0 9 (A.map Ch.c) (c.c.map .pv) (B.map Ch.c)),(1002,.arr 50 0 6 (p.af.map Lg.c)),(1003,.arr 68 0 8 (p.past.map Pa.c))]:=by
 have h1:=LU p h;have e:p.channels.map Ch.c=A.map Ch.c++c.c::B.map Ch.c:=by rw[hp,List.map_append,List.map_cons]
 rw[e] at h1;refine Oo h1 1001 rfl ?_;refine⟨_,_,⟨rfl,rfl⟩,?_⟩
 (conv=>whnf)
 all_goals exact ay
theorem Wx (p:Pn)(A:List Ch)(c:Ch)(B:List Ch)(hp:p.channels=A++c::B)(LA:List Lg)(x:Lg)(LB:List Lg)(hL:p.af=LA++x::LB)(h:rR p):dU prog 30 [.pv (.agg p.c)] [] (.agg [.pv (uu p.version),.pv (uu p.next),.aB 1001 0,.aB 1002 0,.aB 1003 0])
  [(1001,.dN 47 0 9 (A.map Ch.c) (c.c.map .pv) (B.map Ch.c)),(1002,.dN 50 0 6 (LA.map Lg.c) (x.c.map .pv) (LB.map Lg.c)),(1003,.arr 68 0 8 (p.past.map Pa.c))]:=by
 have h1:=PD p A c B hp h;have e:p.af.map Lg.c=LA.map Lg.c++x.c::LB.map Lg.c:=by rw[hL,List.map_append,List.map_cons]
 rw[e] at h1;refine Oo h1 1002 rfl ?_;refine⟨_,_,⟨rfl,rfl⟩,?_⟩
 (conv=>whnf)
 all_goals exact ay
def uK (k2 k3:Nat)(a b:Int)(ch:List Ch)(L:List Lg)(Q:List Pa)(o:bg)(out:Oc):List (Nat×aA):=
 [(1,.var (wC a b (.pv (jL ch)) (.pv (dO L)) (.aB 4 0) o (.pv .junk) out)),(2,.kE k2 9 (ch.map Ch.c)),(3,.kE k3 6 (L.map Lg.c)),(4,.arr 68 0 8 (Q.map Pa.c))]
theorem qX {F:FuncId}{hp:List (Nat×aA)}{a b:Int}{A:List Ch}{c:Ch}{B:List Ch}{L:List Lg}{Q:List Pa}{o:bg}{out:Oc}{n:Nat}
  (h:dU prog F [.ptr 1 0] hp (.pv (.dn [])) ((1,.var (wC a b (.aB 2 0) (.aB 3 0) (.aB 4 0) o (.bn 2 0 n 0) out))::jv (c.c.map .pv) A B L Q)) :
  dU prog F [.ptr 1 0] hp (.pv (.dn [])) (uK 0 0 a b (A++c::B) L Q o out):=by
 have h1:dU prog F [.ptr 1 0] hp (.pv (.dn [])) ((1,.var (wC a b (.aB 2 0) (.aB 3 0) (.aB 4 0) o (.bn 2 0 n 0) out))::[(2,.arr 47 0 9 ((A++c::B).map Ch.c)),(3,.arr 50 0 6 (L.map Lg.c)),(4,.arr 68 0 8 (Q.map Pa.c))]):=by
  rw[List.map_append,List.map_cons];simp only[wC,jv,bg.c,Pl.c,Ch.c,Oc.c,dR,fq,fI,fJ] at h ⊢;refine jr h 2 rfl rfl rfl rfl ?_;refine⟨_,_,⟨rfl,rfl⟩,?_⟩
  (conv=>whnf)
  all_goals exact ay
 refine iw h1 [2,3] ?_;simp only[uK,wC,bg.c,Pl.c,Oc.c,dR,fq,fI,fJ]
 (conv=>whnf)
 refine⟨_,_,⟨rfl,rfl⟩,?_⟩;all_goals exact ay
theorem Ka:aQ prog 167 f167:=bU func167
theorem R9:aQ prog 204 f204:=bU func204
theorem V8:aQ prog 168 f168:=bU func168
theorem acA (l:Lg)(id w a cl la:Int):bC prog 204 ([]++([.agg l.c]++[.bJ [uu id,ii w,ii a,.junk,ii cl,uu la] 0])) (bl (l.id==id)):=by
 refine PC.le ?_;refine bM R9 ?_;repeat' ((conv=>whnf);first|with_reducible apply aG|((with_reducible apply fk)<;>intro hc<;>try exact aK)|refine aC ?_|fail)
 all_goals exact ay
theorem Pq (w:Int)(f:Fr)(h:f.aN.length≤8796093022208):bC prog 168 [ii w,.agg f.c] (bl (vV w f)):=by
 refine PC.le ?_;have cM:=mY w [{ f with first:=1 }] (by simpa using h);obtain⟨X,hX⟩:∃X,X=vV w f:=⟨_,rfl⟩;rw[←hX];unfold vV at hX;simp only[uR,dR,fq,Fr.c] at cM;generalize fC w [{ f with first:=1 }]=mf at *;clear h;refine bM V8 ?_;repeat' ((conv=>whnf);first|with_reducible apply aG|((with_reducible apply fk)<;>intro hc<;>try exact aK)|(apply aH;refine⟨_,cM,?_⟩)|refine aC ?_|fail)
 all_goals
  simp only[Bool.not_true, *,Bool.true_or,Bool.or_true,Bool.false_or,Bool.or_false,Bool.true_and,Bool.and_true,Bool.false_and,Bool.and_false,Bool.not_true,Bool.not_false,Bool.false_eq_true,↓reduceIte] at hX;subst hX;all_goals exact ay
theorem acB {p:Pn}{o:bg}(h:qz p o=none):(fK p o.channel).isSome=false∨(((fK p o.channel).getD Ip).id==o.aY)=false:=by
 unfold qz at h;split at h
 ·rename_i x hx;split at h
  ·cases h
  rename_i e;rw[hx];exact .inr (by simpa using e)
 rename_i hx;rw[hx];exact .inl rfl
theorem Ui (a b:Int)(A:List Ch)(c:Ch)(B:List Ch)(L:List Lg)(Q:List Pa)(o:bg)(out:Oc)(h:rR (kD a b A c B L Q))(hn:qz (kD a b A c B L Q) o=none):dU prog 167 [.ptr 1 0]
  ((1,.var (wC a b (.aB 2 0) (.aB 3 0) (.aB 4 0) o (.bn 2 0 (A.map Ch.c).length 0) out))::jv (c.c.map .pv) A B L Q) (.pv (.sc (.pointer none)))
  ((1,.var (wC a b (.aB 2 0) (.aB 3 0) (.aB 4 0) o (.bn 2 0 (A.map Ch.c).length 0) out))::jv (c.c.map .pv) A B L Q):=by
 have cO:=Er (kD a b A c B L Q) o.channel h;have e1:(kD a b A c B L Q).c=[uu a,uu b,.sl false 9 (A.map Ch.c++c.c::B.map Ch.c),.sl false 6 (L.map Lg.c),.sl false 8 (Q.map Pa.c)]:=by
  simp only[kD,Pn.c,jL,dO,uS,pq,dR]
 rw[e1] at cO;have hl:=acB hn;generalize (fK (kD a b A c B L Q) o.channel).isSome=is at *;generalize (fK (kD a b A c B L Q) o.channel).getD Ip=x at *;clear h e1 hn;simp only[lgJ,wC,jv,bg.c,Pl.c,Ch.c,Oc.c,dR,fq,fI,fJ] at cO ⊢;refine jy Ka ?_;rcases hl with rfl|hl
 ·skip
  repeat' ((conv=>whnf);first|with_reducible apply aG|((with_reducible apply fk)<;>intro hc<;>try exact aK)|(refine Or.inr ?_;(conv=>whnf);refine⟨_,_,cO,?_⟩)|(apply aH;refine⟨_,cO,?_⟩)|refine aC ?_|fail)
  refine⟨_,_,⟨rfl,rfl⟩,?_⟩;all_goals exact ay
 skip
 have hl2:(x.id != o.aY)=true:=by rw[bne,hl];rfl
 clear hl;cases is
 ·skip
  repeat' ((conv=>whnf);first|with_reducible apply aG|((with_reducible apply fk)<;>intro hc<;>try exact aK)|(refine Or.inr ?_;(conv=>whnf);refine⟨_,_,cO,?_⟩)|(apply aH;refine⟨_,cO,?_⟩)|refine aC ?_|fail)
  refine⟨_,_,⟨rfl,rfl⟩,?_⟩;all_goals exact ay
 skip
 repeat' ((conv=>whnf);first|with_reducible apply aG|((with_reducible apply fk)<;>intro hc<;>try exact aK)|(refine Or.inr ?_;(conv=>whnf);refine⟨_,_,cO,?_⟩)|(apply aH;refine⟨_,cO,?_⟩)|refine aC ?_|fail)
 refine⟨_,_,⟨rfl,rfl⟩,?_⟩;all_goals exact ay
def CG (row:List AV)(A B:List Ch)(ake:List AV)(LA LB:List Lg)(Q:List Pa):List (Nat×aA):=
 [(2,.dN 47 0 9 (A.map Ch.c) row (B.map Ch.c)),(3,.dN 50 0 6 (LA.map Lg.c) ake (LB.map Lg.c)),(4,.arr 68 0 8 (Q.map Pa.c))]
theorem su (a b:Int)(A:List Ch)(c:Ch)(B:List Ch)(LA:List Lg)(x:Lg)(LB:List Lg)(Q:List Pa)(o:bg)(n:Int)(out:Oc):dU prog 34 [.ptr 1 0,.pv (ii n)]
  ((1,.var (wC a b (.aB 2 0) (.aB 3 0) (.aB 4 0) o (.bn 2 0 (A.map Ch.c).length 0) out))::CG (c.c.map .pv) A B (x.c.map .pv) LA LB Q) (.pv (.dn []))
  ((1,.var (wC a b (.aB 2 0) (.aB 3 0) (.aB 4 0) o (.bn 2 0 (A.map Ch.c).length 0) (iX n)))::CG (c.c.map .pv) A B (x.c.map .pv) LA LB Q):=by
 refine jy xU ?_;repeat' ((conv=>whnf);first|with_reducible apply aG|((with_reducible apply fk)<;>intro hc<;>try exact aK)|refine aC ?_|fail)
 refine⟨_,_,⟨rfl,rfl⟩,?_⟩;all_goals exact ay
theorem LZ (a b:Int)(A:List Ch)(c:Ch)(B:List Ch)(LA:List Lg)(x:Lg)(LB:List Lg)(Q:List Pa)(o:bg)(out:Oc)(h:rR (kD a b A c B (LA++x::LB) Q))(ho:fK (kD a b A c B (LA++x::LB) Q) o.channel=some x)(hid:x.id=o.aY)(hix:ql (fun y=>y.id==x.id) (LA++x::LB)=((LA.map Lg.c).length:Int)) :
  dU prog 167 [.ptr 1 0]
  ((1,.var (wC a b (.aB 2 0) (.aB 3 0) (.aB 4 0) o (.bn 2 0 (A.map Ch.c).length 0) out))::CG (c.c.map .pv) A B (x.c.map .pv) LA LB Q) (.bn 3 0 (LA.map Lg.c).length 0)
  ((1,.var (wC a b (.aB 2 0) (.aB 3 0) (.aB 4 0) o (.bn 2 0 (A.map Ch.c).length 0) out))::CG (c.c.map .pv) A B (x.c.map .pv) LA LB Q):=by
 have cO:=Er (kD a b A c B (LA++x::LB) Q) o.channel h;have e1:(kD a b A c B (LA++x::LB) Q).c=[uu a,uu b,.sl false 9 (A.map Ch.c++c.c::B.map Ch.c),.sl false 6 (LA.map Lg.c++x.c::LB.map Lg.c),.sl false 8 (Q.map Pa.c)]:=by
  simp only[kD,Pn.c,jL,dO,uS,pq,dR]
 rw[e1,ho] at cO;simp only[Option.getD_some,Option.isSome_some] at cO;have hne:(x.id != o.aY)=false:=by rw[hid];simp
 have hI:∀y∈LA++x::LB,bC prog 204 ([]++([.agg y.c]++[.bJ [uu x.id,ii x.w,ii x.a,.junk,ii x.closed,uu x.last] 0])) (bl (y.id==x.id)):=fun y _=>acA y _ _ _ _ _
 have cI:=dW (LA++x::LB) 204 [] [.bJ [uu x.id,ii x.w,ii x.a,.junk,ii x.closed,uu x.last] 0] _ hI;rw[hix] at cI;clear hI hix h e1 ho hid;simp only[lgJ,dO,pq,dR,Lg.c,wC,CG,bg.c,Pl.c,Ch.c,Oc.c,fq,fI,fJ] at cO cI ⊢;refine jy Ka ?_;repeat' ((conv=>whnf);first|with_reducible apply aG|((with_reducible apply fk)<;>intro hc<;>try exact aK)|(refine Or.inr ?_;(conv=>whnf);refine⟨_,_,cO,?_⟩)|(apply aH;refine⟨_,cO,?_⟩)|(apply aH;refine⟨_,cI,?_⟩)|(refine sF ?_)|refine aC ?_|fail)
 refine⟨_,_,⟨rfl,rfl⟩,?_⟩;all_goals exact ay
structure WU (p:Pn)(o:bg):Prop where
 h:rR p
 ho:OpB o
 hp:jN p=true
 hw:yh o=true
 hch:dZ o.kind 1=true→1≤o.channel∧o.channel≤3
 ht:tO p.past o=(bQ,false)
 hv:(p.version==4611686018427387903)=false
 hs:kU p o=false
 hpl:p.past.length≤100000
theorem kP (p:Pn)(o:bg)(D:WU p o)(F:FuncId)(nm:Int)(A:List Ch)(c:Ch)(B:List Ch)(hpc:p.channels=A++c::B)(hA:(A.length:Int)=o.channel-1)(nH:bC prog 35 [ii o.kind] (.agg [ii nm,.fn (.func F) [] []]))
  (k2 k3:Nat) (b2:Int) (Sm:List Ch) (L2:List Lg) (out:Oc)
  (hd:dU prog F [.ptr 1 0] ((1,.var (wC p.version p.next (.aB 2 0) (.aB 3 0) (.aB 4 0) o (.bn 2 0 (A.map Ch.c).length 0) bQ))::jv (c.c.map .pv) A B p.af p.past) (.pv (.dn [])) (uK k2 k3 p.version b2 Sm L2 p.past o out)) :
  bC prog 13 [.agg p.c,.agg o.c] (.dn [.agg (⟨IntKind.u64.wrap (p.version+1),b2,Sm,L2,iJ p.past o out⟩:Pn).c,.agg out.c]):=by
 refine PC.le ?_;have c1:=PD p A c B hpc D.h;have c2:=mZ p D.h;have c3:=pY o D.ho.fr D.ho.bk D.ho.sn;have c4:=qW p o D.h.past;have c5:=qJ p o D.h.channels (fG D.hw).1 (fG D.hw).2 D.hch;have c6:=pW o D.ho.fr D.ho.bk D.ho.sn;obtain⟨kr,c7⟩:=kY p.version b2 Sm L2 p.past o out D.hpl;rw[D.hp] at c2;rw[D.hw] at c3;rw[D.ht] at c4;rw[D.hs] at c5;have hv:=D.hv;have hlc:=D.h.channels;have hpl:=D.hpl;rw[hpc] at hlc;simp only[Bu,uF] at hlc;have e1:p.c=[uu p.version,uu p.next,.sl false 9 (A.map Ch.c++c.c::B.map Ch.c),.sl false 6 (p.af.map Lg.c),.sl false 8 (p.past.map Pa.c)]:=by
  simp only[Pn.c,jL,dO,uS,hpc,pq,dR]
 have hgt:decide (o.channel>(((A.map Ch.c).length+(1+(B.map Ch.c).length):Nat):Int))=false:=by simp only[jS,kQ];omega
 have hg0:decide (o.channel>0)=true:=by simp only[gQ];omega
 have hwr:IntKind.i64.wrap (o.channel-1)=((A.map Ch.c).length:Int):=by rw[List.length_map,aJ (by omega) (by omega)];omega
 rw[e1] at c1 c2 c4 c5 ⊢;clear D hpc hA e1 hlc hpl;simp only[uK,wC,jv,bg.c,Pl.c,Ch.c,Oc.c,dR,fq,fI,fJ] at c1 c2 c3 c4 c5 c6 c7 hd ⊢;refine bM gL ?_;repeat' ((conv=>whnf);first|with_reducible apply aG|((with_reducible apply fk)<;>intro hc<;>try exact aK)|rewrite[A8]|rewrite[A9]|rewrite[hwr]|(apply fB;refine⟨_,_,c1,?_⟩)|(apply aH;refine⟨_,c2,?_⟩)|(apply aH;refine⟨_,c3,?_⟩)|(apply aH;refine⟨_,c4,?_⟩)|(apply aH;refine⟨_,c5,?_⟩)|(apply aH;refine⟨_,c6,?_⟩)|(apply aH;refine⟨_,nH,?_⟩)|(apply fB;refine⟨_,_,hd,?_⟩)|(apply fB;refine⟨_,_,c7,?_⟩)|(refine sF ?_)|refine aC ?_|fail)
 all_goals exact ay
theorem xW (p:Pn)(o:bg)(D:WU p o)(F:FuncId)(nm:Int)(A:List Ch)(c:Ch)(B:List Ch)(hpc:p.channels=A++c::B)(LA:List Lg)(x:Lg)(LB:List Lg)(hLc:p.af=LA++x::LB)(hA:(A.length:Int)=o.channel-1)(nH:bC prog 35 [ii o.kind] (.agg [ii nm,.fn (.func F) [] []]))
  (k2 k3:Nat) (b2:Int) (Sm:List Ch) (L2:List Lg) (out:Oc)
  (hd:dU prog F [.ptr 1 0] ((1,.var (wC p.version p.next (.aB 2 0) (.aB 3 0) (.aB 4 0) o (.bn 2 0 (A.map Ch.c).length 0) bQ))::CG (c.c.map .pv) A B (x.c.map .pv) LA LB p.past) (.pv (.dn [])) (uK k2 k3 p.version b2 Sm L2 p.past o out)) :
  bC prog 13 [.agg p.c,.agg o.c] (.dn [.agg (⟨IntKind.u64.wrap (p.version+1),b2,Sm,L2,iJ p.past o out⟩:Pn).c,.agg out.c]):=by
 refine PC.le ?_;have c1:=Wx p A c B hpc LA x LB hLc D.h;have c2:=mZ p D.h;have c3:=pY o D.ho.fr D.ho.bk D.ho.sn;have c4:=qW p o D.h.past;have c5:=qJ p o D.h.channels (fG D.hw).1 (fG D.hw).2 D.hch;have c6:=pW o D.ho.fr D.ho.bk D.ho.sn;obtain⟨kr,c7⟩:=kY p.version b2 Sm L2 p.past o out D.hpl;rw[D.hp] at c2;rw[D.hw] at c3;rw[D.ht] at c4;rw[D.hs] at c5;have hv:=D.hv;have hlc:=D.h.channels;have hpl:=D.hpl;rw[hpc] at hlc;simp only[Bu,uF] at hlc;have e1:p.c=[uu p.version,uu p.next,.sl false 9 (A.map Ch.c++c.c::B.map Ch.c),.sl false 6 (LA.map Lg.c++x.c::LB.map Lg.c),.sl false 8 (p.past.map Pa.c)]:=by
  simp only[Pn.c,jL,dO,uS,hpc,hLc,pq,dR]
 have hgt:decide (o.channel>(((A.map Ch.c).length+(1+(B.map Ch.c).length):Nat):Int))=false:=by simp only[jS,kQ];omega
 have hg0:decide (o.channel>0)=true:=by simp only[gQ];omega
 have hwr:IntKind.i64.wrap (o.channel-1)=((A.map Ch.c).length:Int):=by rw[List.length_map,aJ (by omega) (by omega)];omega
 rw[e1] at c1 c2 c4 c5 ⊢;clear D hpc hLc hA e1 hlc hpl;simp only[uK,wC,jv,CG,Lg.c,bg.c,Pl.c,Ch.c,Oc.c,dR,fq,fI,fJ] at c1 c2 c3 c4 c5 c6 c7 hd ⊢;refine bM gL ?_;repeat' ((conv=>whnf);first|with_reducible apply aG|((with_reducible apply fk)<;>intro hc<;>try exact aK)|rewrite[A8]|rewrite[A9]|rewrite[hwr]|(apply fB;refine⟨_,_,c1,?_⟩)|(apply aH;refine⟨_,c2,?_⟩)|(apply aH;refine⟨_,c3,?_⟩)|(apply aH;refine⟨_,c4,?_⟩)|(apply aH;refine⟨_,c5,?_⟩)|(apply aH;refine⟨_,c6,?_⟩)|(apply aH;refine⟨_,nH,?_⟩)|(apply fB;refine⟨_,_,hd,?_⟩)|(apply fB;refine⟨_,_,c7,?_⟩)|(refine sF ?_)|refine aC ?_|fail)
 all_goals exact ay
theorem Ps:aQ prog 175 f175:=bU func175
theorem Pt:aQ prog 132 f132:=bU func132
theorem Kb:aQ prog 133 f133:=bU func133
def Bv (v:Nat)(row:List AV)(A B:List Ch)(K:List Cu)(L:List Lg)(Q:List Pa):List (Nat×aA):=
 [(2,.dN 47 0 9 (A.map Ch.c) row (B.map Ch.c)),(3,.arr 127 v 2 (K.map Cu.c)),(4,.arr 50 0 6 (L.map Lg.c)),(5,.arr 68 0 8 (Q.map Pa.c))]
theorem ZF (a b:Int)(A:List Ch)(c:Ch)(B:List Ch)(L:List Lg)(Q:List Pa)(o:bg)(out:Oc)(at_:Int)(h0:∀x∈c.au,(fun (x:Cu)=>x.sub==o.sub) x=false)(hl:c.au.length≤100000):dU prog 175 [.ptr 1 0,.pv (uu at_)]
  ((1,.var (wC a b (.aB 2 0) (.aB 4 0) (.aB 5 0) o (.bn 2 0 (A.map Ch.c).length 0) out))::Bv 0 (lM c (.aB 3 0)) A B c.au L Q) (.pv (.dn []))
  ((1,.var (wC a b (.aB 2 0) (.aB 4 0) (.aB 5 0) o (.bn 2 0 (A.map Ch.c).length 0) { out with at_:=at_ }))::Bv 1 (lM c (.aB 3 1)) A B (FV c.au o at_) L Q):=by
 have cD:=Ee a b A c B L Q o out c.au h0 (by omega);have eF:c.au.filter (fun x=>!(x.sub==o.sub))=c.au:=by
  rw[List.filter_eq_self];intro x hx;have:=h0 x hx;simp only at this;rw[this];rfl
 have eP:FV c.au o at_=(iP Cu.sub (c.au++[(⟨o.sub,at_⟩:Cu)]).toArray).toList:=by unfold FV;rw[eF]
 have cS:=Bo (c.au++[(⟨o.sub,at_⟩:Cu)]) (by simp;omega);rw[←eP] at cS;clear eP eF h0;simp only[wC,Bv,lM,bg.c,Pl.c,Oc.c,Cu.c,dR,fq,fI,fJ,pq] at cD cS ⊢;refine jy Ps ?_;repeat' ((conv=>whnf);first|with_reducible apply aG|((with_reducible apply fk)<;>intro hc<;>try exact aK)|rewrite[A8]|rewrite[A9]|(apply fB;refine⟨_,_,cD,?_⟩)|(apply fB;refine⟨_,_,cZ (cS) ?_,?_⟩;exact rG)|(((with_reducible apply And.intro);focus (simp only[jS,uF,xA] at *;omega)))|refine aC ?_|fail)
 refine⟨_,_,⟨rfl,rfl⟩,?_⟩;all_goals exact ay
theorem ZG (a b:Int)(A:List Ch)(c:Ch)(B:List Ch)(L:List Lg)(Q:List Pa)(o:bg)(out:Oc)(at_:Int)(h0:¬∀x∈c.au,(fun (x:Cu)=>x.sub==o.sub) x=false)(hl:c.au.length≤100000):dU prog 175 [.ptr 1 0,.pv (uu at_)]
  ((1,.var (wC a b (.aB 2 0) (.aB 4 0) (.aB 5 0) o (.bn 2 0 (A.map Ch.c).length 0) out))::Bv 0 (lM c (.aB 3 0)) A B c.au L Q) (.pv (.dn []))
  ((1,.var (wC a b (.aB 2 0) (.aB 4 0) (.aB 5 0) o (.bn 2 0 (A.map Ch.c).length 0) { out with at_:=at_ }))::Bv 2 (lM c (.aB 3 2)) A B (FV c.au o at_) L Q):=by
 have cD:=Ef a b A c B L Q o out c.au h0 (by omega);have hfl:=List.length_filter_le (fun (x:Cu)=>!(x.sub==o.sub)) c.au;have eP:FV c.au o at_=(iP Cu.sub ((c.au.filter fun x=>!(x.sub==o.sub))++[(⟨o.sub,at_⟩:Cu)]).toArray).toList:=rfl;have cS:=Bo ((c.au.filter fun x=>!(x.sub==o.sub))++[(⟨o.sub,at_⟩:Cu)]) (by simp;omega);rw[←eP] at cS;clear eP h0;simp only[wC,Bv,lM,bg.c,Pl.c,Oc.c,Cu.c,dR,fq,fI,fJ,pq] at cD cS ⊢;refine jy Ps ?_;repeat' ((conv=>whnf);first|with_reducible apply aG|((with_reducible apply fk)<;>intro hc<;>try exact aK)|rewrite[A8]|rewrite[A9]|(apply fB;refine⟨_,_,cD,?_⟩)|(apply fB;refine⟨_,_,cZ (cS) ?_,?_⟩;exact rG)|(((with_reducible apply And.intro);focus (simp only[jS,uF,xA] at *;omega)))|refine aC ?_|fail)
 refine⟨_,_,⟨rfl,rfl⟩,?_⟩;all_goals exact ay
theorem acC (a b:Int)(A:List Ch)(c:Ch)(B:List Ch)(L:List Lg)(Q:List Pa)(o:bg)(h0:∀x∈c.au,(fun (x:Cu)=>x.sub==o.sub) x=false)(hl:c.au.length≤100000):dU prog 133 [.ptr 1 0]
  ((1,.var (wC a b (.aB 2 0) (.aB 4 0) (.aB 5 0) o (.bn 2 0 (A.map Ch.c).length 0) bQ))::Bv 0 (lM c (.aB 3 0)) A B c.au L Q) (.pv (.dn []))
  ((1,.var (wC a b (.aB 2 0) (.aB 4 0) (.aB 5 0) o (.bn 2 0 (A.map Ch.c).length 0) { bQ with at_:=o.at_ }))::Bv 1 (lM c (.aB 3 1)) A B (FV c.au o o.at_) L Q):=by
 have cP:=ZF a b A c B L Q o bQ o.at_ h0 hl;clear h0;simp only[wC,Bv,lM,bg.c,Pl.c,Oc.c,dR,fq,fI,fJ,pq] at cP ⊢;refine jy Kb ?_;repeat' ((conv=>whnf);first|with_reducible apply aG|((with_reducible apply fk)<;>intro hc<;>try exact aK)|(apply fB;refine⟨_,_,cP,?_⟩)|refine aC ?_|fail)
 refine⟨_,_,⟨rfl,rfl⟩,?_⟩;all_goals exact ay
theorem afB (a b:Int)(A:List Ch)(c:Ch)(B:List Ch)(L:List Lg)(Q:List Pa)(o:bg)(h0:∀x∈c.au,(fun (x:Cu)=>x.sub==o.sub) x=false)(hl:c.au.length≤100000):dU prog 132 [.ptr 1 0]
  ((1,.var (wC a b (.aB 2 0) (.aB 4 0) (.aB 5 0) o (.bn 2 0 (A.map Ch.c).length 0) bQ))::Bv 0 (lM c (.aB 3 0)) A B c.au L Q) (.pv (.dn []))
  ((1,.var (wC a b (.aB 2 0) (.aB 4 0) (.aB 5 0) o (.bn 2 0 (A.map Ch.c).length 0) { bQ with at_:=mo (xI c.au o.sub) o.at_ }))::Bv 1 (lM c (.aB 3 1)) A B (FV c.au o (mo (xI c.au o.sub) o.at_)) L Q):=by
 have cP:=ZF a b A c B L Q o bQ (mo (xI c.au o.sub) o.at_) h0 hl;have cA:=adW a b A c B L Q o bQ (by omega);clear h0;have cA:dU prog 176 [.ptr 1 0] ((1,.var (wC a b (.aB 2 0) (.aB 4 0) (.aB 5 0) o (.bn 2 0 (A.map Ch.c).length 0) bQ))::Bv 0 (lM c (.aB 3 0)) A B c.au L Q) (.pv (uu (xI c.au o.sub)))
  ((1,.var (wC a b (.aB 2 0) (.aB 4 0) (.aB 5 0) o (.bn 2 0 (A.map Ch.c).length 0) bQ))::Bv 0 (lM c (.aB 3 0)) A B c.au L Q):=cA
 obtain⟨m,hm⟩:∃m,m=mo (xI c.au o.sub) o.at_:=⟨_,rfl⟩;rw[←hm] at cP ⊢;unfold mo at hm;generalize xI c.au o.sub=t at *;simp only[wC,Bv,lM,bg.c,Pl.c,Oc.c,dR,fq,fI,fJ,pq] at cP cA ⊢;refine jy Pt ?_;repeat' ((conv=>whnf);first|with_reducible apply aG|((with_reducible apply fk)<;>intro hc<;>try exact aK)|rewrite[A8]|rewrite[A9]|((rewrite[←hm]))|(refine Or.inr ?_;(conv=>whnf);refine⟨_,_,cA,?_⟩)|(apply fB;refine⟨_,_,cP,?_⟩)|refine aC ?_|fail)
 refine⟨_,_,⟨rfl,rfl⟩,?_⟩;all_goals exact ay
theorem acD (a b:Int)(A:List Ch)(c:Ch)(B:List Ch)(L:List Lg)(Q:List Pa)(o:bg)(h0:¬∀x∈c.au,(fun (x:Cu)=>x.sub==o.sub) x=false)(hl:c.au.length≤100000):dU prog 133 [.ptr 1 0]
  ((1,.var (wC a b (.aB 2 0) (.aB 4 0) (.aB 5 0) o (.bn 2 0 (A.map Ch.c).length 0) bQ))::Bv 0 (lM c (.aB 3 0)) A B c.au L Q) (.pv (.dn []))
  ((1,.var (wC a b (.aB 2 0) (.aB 4 0) (.aB 5 0) o (.bn 2 0 (A.map Ch.c).length 0) { bQ with at_:=o.at_ }))::Bv 2 (lM c (.aB 3 2)) A B (FV c.au o o.at_) L Q):=by
 have cP:=ZG a b A c B L Q o bQ o.at_ h0 hl;clear h0;simp only[wC,Bv,lM,bg.c,Pl.c,Oc.c,dR,fq,fI,fJ,pq] at cP ⊢;refine jy Kb ?_;repeat' ((conv=>whnf);first|with_reducible apply aG|((with_reducible apply fk)<;>intro hc<;>try exact aK)|(apply fB;refine⟨_,_,cP,?_⟩)|refine aC ?_|fail)
 refine⟨_,_,⟨rfl,rfl⟩,?_⟩;all_goals exact ay
theorem afC (a b:Int)(A:List Ch)(c:Ch)(B:List Ch)(L:List Lg)(Q:List Pa)(o:bg)(h0:¬∀x∈c.au,(fun (x:Cu)=>x.sub==o.sub) x=false)(hl:c.au.length≤100000):dU prog 132 [.ptr 1 0]
  ((1,.var (wC a b (.aB 2 0) (.aB 4 0) (.aB 5 0) o (.bn 2 0 (A.map Ch.c).length 0) bQ))::Bv 0 (lM c (.aB 3 0)) A B c.au L Q) (.pv (.dn []))
  ((1,.var (wC a b (.aB 2 0) (.aB 4 0) (.aB 5 0) o (.bn 2 0 (A.map Ch.c).length 0) { bQ with at_:=mo (xI c.au o.sub) o.at_ }))::Bv 2 (lM c (.aB 3 2)) A B (FV c.au o (mo (xI c.au o.sub) o.at_)) L Q):=by
 have cP:=ZG a b A c B L Q o bQ (mo (xI c.au o.sub) o.at_) h0 hl;have cA:=adW a b A c B L Q o bQ (by omega);clear h0;have cA:dU prog 176 [.ptr 1 0] ((1,.var (wC a b (.aB 2 0) (.aB 4 0) (.aB 5 0) o (.bn 2 0 (A.map Ch.c).length 0) bQ))::Bv 0 (lM c (.aB 3 0)) A B c.au L Q) (.pv (uu (xI c.au o.sub)))
  ((1,.var (wC a b (.aB 2 0) (.aB 4 0) (.aB 5 0) o (.bn 2 0 (A.map Ch.c).length 0) bQ))::Bv 0 (lM c (.aB 3 0)) A B c.au L Q):=cA
 obtain⟨m,hm⟩:∃m,m=mo (xI c.au o.sub) o.at_:=⟨_,rfl⟩;rw[←hm] at cP ⊢;unfold mo at hm;generalize xI c.au o.sub=t at *;simp only[wC,Bv,lM,bg.c,Pl.c,Oc.c,dR,fq,fI,fJ,pq] at cP cA ⊢;refine jy Pt ?_;repeat' ((conv=>whnf);first|with_reducible apply aG|((with_reducible apply fk)<;>intro hc<;>try exact aK)|rewrite[A8]|rewrite[A9]|((rewrite[←hm]))|(refine Or.inr ?_;(conv=>whnf);refine⟨_,_,cA,?_⟩)|(apply fB;refine⟨_,_,cP,?_⟩)|refine aC ?_|fail)
 refine⟨_,_,⟨rfl,rfl⟩,?_⟩;all_goals exact ay
theorem Pv:aQ prog 127 f127:=bU func127
def Uj (c:Ch)(l:AV):List AV:=[.pv (uu c.aU),.pv (ii c.owner),.pv (uu c.inc),.pv (uu c.eY),.pv (uu c.first),.pv (uu c.trim),l,.pv (rP c.seen),.pv (Hr c.au)]
def WT (v u:Nat)(row:List AV)(A B:List Ch)(I:List Int)(L:List Lg)(Q:List Pa):List (Nat×aA):=
 [(2,.dN 47 0 9 (A.map Ch.c) row (B.map Ch.c)),(3,.arr 23 v 1 (I.map bR)),(4,.arr 50 u 6 (L.map Lg.c)),(5,.arr 68 0 8 (Q.map Pa.c))]
theorem Kc (a b:Int)(A:List Ch)(c:Ch)(B:List Ch)(L:List Lg)(Q:List Pa)(o:bg)(n:Int)(out:Oc):dU prog 34 [.ptr 1 0,.pv (ii n)]
  ((1,.var (wC a b (.aB 2 0) (.aB 4 0) (.aB 5 0) o (.bn 2 0 (A.map Ch.c).length 0) out))::WT 0 0 (Uj c (.aB 3 0)) A B c.af L Q) (.pv (.dn []))
  ((1,.var (wC a b (.aB 2 0) (.aB 4 0) (.aB 5 0) o (.bn 2 0 (A.map Ch.c).length 0) (iX n)))::WT 0 0 (Uj c (.aB 3 0)) A B c.af L Q):=by
 refine jy xU ?_;repeat' ((conv=>whnf);first|with_reducible apply aG|((with_reducible apply fk)<;>intro hc<;>try exact aK)|refine aC ?_|fail)
 refine⟨_,_,⟨rfl,rfl⟩,?_⟩;all_goals exact ay
theorem GZ (a b:Int)(A:List Ch)(c:Ch)(B:List Ch)(L:List Lg)(Q:List Pa)(o:bg)(h:rR (kD a b A c B L Q))(hl:c.af.length≤1000000)(hL:L.length≤1000000)
  (is:Bool) (e:Int) (his:is=(fK (kD a b A c B L Q) o.channel).isSome) (he:e=pE (kD a b A c B L Q) o.channel)
  (X:Bool×Oc) (hX:X=if (is||(c.aU==0)) then (false,iX 5) else if ((((c.af.map bR).length:Int)==8)||decide (b>4611686018427387903))||decide (IntKind.u64.wrap (e+16)>4611686018427387903) then (false,iX 3) else (true,{ bQ with aY:=b })) :
  dU prog 127 [.ptr 1 0]
  ((1,.var (wC a b (.aB 2 0) (.aB 4 0) (.aB 5 0) o (.bn 2 0 (A.map Ch.c).length 0) bQ))::WT 0 0 (Uj c (.aB 3 0)) A B c.af L Q) (.pv (.dn []))
  (match X.1 with
   |true=>((1,.var (wC a (IntKind.u64.wrap (b+1)) (.aB 2 0) (.aB 4 1) (.aB 5 0) o (.bn 2 0 (A.map Ch.c).length 0) X.2))::WT 1 1 (Uj c (.aB 3 1)) A B (c.af++[b]) (L++[(⟨b,o.w,o.a,o.av,0,0⟩:Lg)]) Q)
   |false=>((1,.var (wC a b (.aB 2 0) (.aB 4 0) (.aB 5 0) o (.bn 2 0 (A.map Ch.c).length 0) X.2))::WT 0 0 (Uj c (.aB 3 0)) A B c.af L Q)):=by
 have ZC:=Kc a b A c B L Q o 3 bQ;have ZE:=Kc a b A c B L Q o 5 bQ;have cE:=Gm (kD a b A c B L Q) o.channel h;have cO:=Er (kD a b A c B L Q) o.channel h;have e1:(kD a b A c B L Q).c=[uu a,uu b,.sl false 9 (A.map Ch.c++[uu c.aU,ii c.owner,uu c.inc,uu c.eY,uu c.first,uu c.trim,.sl false 1 (c.af.map bR),rP c.seen,Hr c.au]::B.map Ch.c),.sl false 6 (L.map Lg.c),.sl false 8 (Q.map Pa.c)]:=by
  simp only[kD,Pn.c,jL,dO,uS,pq,dR,Ch.c];rfl
 rw[e1] at cE cO;rw[←his] at cO;rw[←he] at cE;clear his he;generalize (fK (kD a b A c B L Q) o.channel).getD Ip=x at *;clear h e1;simp only[lgJ,wC,WT,Uj,bg.c,Pl.c,Oc.c,dR,fq,fI,fJ,pq,Lg.c,bR,uR] at cE cO ZC ZE ⊢;refine jy Pv ?_;repeat' ((conv=>whnf);first|with_reducible apply aG|((with_reducible apply fk)<;>intro hc<;>try exact fO)|rewrite[A8]|rewrite[A9]|(apply aH;refine⟨_,cE,?_⟩)|(apply aH;refine⟨_,cO,?_⟩)|(apply fB;refine⟨_,_,ZC,?_⟩)|(apply fB;refine⟨_,_,ZE,?_⟩)|(((with_reducible apply And.intro);focus (simp only[jS,uF,xA] at *;omega)))|refine aC ?_|fail)
 all_goals clear cE cO ZC ZE hl hL
 all_goals
  simp only[Bool.not_true, *,Bool.true_or,Bool.or_true,Bool.false_or,Bool.or_false,Bool.true_and,Bool.and_true,Bool.false_and,Bool.and_false,Bool.not_true,Bool.not_false,Bool.false_eq_true,↓reduceIte] at hX;subst hX;refine⟨_,_,⟨rfl,rfl⟩,?_⟩;all_goals exact ay
def uL (k2 k3 k4:Nat)(w3:Nat)(r3:List (List PV))(a b:Int)(ch:List Ch)(L:List Lg)(Q:List Pa)(o:bg)(out:Oc):List (Nat×aA):=
 [(1,.var (wC a b (.pv (jL ch)) (.pv (dO L)) (.aB 5 0) o (.pv .junk) out)),(2,.kE k2 9 (ch.map Ch.c)),(3,.kE k3 w3 r3),(4,.kE k4 6 (L.map Lg.c)),(5,.arr 68 0 8 (Q.map Pa.c))]
theorem ZT (p:Pn)(A:List Ch)(c:Ch)(B:List Ch)(hp:p.channels=A++c::B)(h:rR p):dU prog 30 [.pv (.agg p.c)] [] (.agg [.pv (uu p.version),.pv (uu p.next),.aB 1001 0,.aB 1004 0,.aB 1005 0])
  [(1001,.dN 47 0 9 (A.map Ch.c) (lM c (.aB 1003 0)) (B.map Ch.c)),(1003,.arr 127 0 2 (c.au.map Cu.c)),(1004,.arr 50 0 6 (p.af.map Lg.c)),(1005,.arr 68 0 8 (p.past.map Pa.c))]:=by
 have h1:=Pf p A c B hp h;simp only[Pe] at h1;refine iw h1 [1002] ?_;simp only[lM]
 (conv=>whnf)
 refine⟨_,_,⟨rfl,rfl⟩,?_⟩;all_goals exact ay
theorem ZU (p:Pn)(A:List Ch)(c:Ch)(B:List Ch)(hp:p.channels=A++c::B)(h:rR p):dU prog 30 [.pv (.agg p.c)] [] (.agg [.pv (uu p.version),.pv (uu p.next),.aB 1001 0,.aB 1004 0,.aB 1005 0])
  [(1001,.dN 47 0 9 (A.map Ch.c) (Uj c (.aB 1002 0)) (B.map Ch.c)),(1002,.arr 23 0 1 (c.af.map bR)),(1004,.arr 50 0 6 (p.af.map Lg.c)),(1005,.arr 68 0 8 (p.past.map Pa.c))]:=by
 have h1:=Pf p A c B hp h;simp only[Pe] at h1;refine iw h1 [1003] ?_;simp only[Uj]
 (conv=>whnf)
 refine⟨_,_,⟨rfl,rfl⟩,?_⟩;all_goals exact ay
theorem xV (p:Pn)(o:bg)(D:WU p o)(F:FuncId)(nm:Int)(A:List Ch)(c:Ch)(B:List Ch)(hpc:p.channels=A++c::B)(hA:(A.length:Int)=o.channel-1)(nH:bC prog 35 [ii o.kind] (.agg [ii nm,.fn (.func F) [] []]))
  (k2 k3 k4 w3:Nat) (r3:List (List PV)) (b2:Int) (Sm:List Ch) (L2:List Lg) (out:Oc)
  (hd:dU prog F [.ptr 1 0] ((1,.var (wC p.version p.next (.aB 2 0) (.aB 4 0) (.aB 5 0) o (.bn 2 0 (A.map Ch.c).length 0) bQ))::Bv 0 (lM c (.aB 3 0)) A B c.au p.af p.past) (.pv (.dn [])) (uL k2 k3 k4 w3 r3 p.version b2 Sm L2 p.past o out)) :
  bC prog 13 [.agg p.c,.agg o.c] (.dn [.agg (⟨IntKind.u64.wrap (p.version+1),b2,Sm,L2,iJ p.past o out⟩:Pn).c,.agg out.c]):=by
 refine PC.le ?_;have c1:=ZT p A c B hpc D.h;have c2:=mZ p D.h;have c3:=pY o D.ho.fr D.ho.bk D.ho.sn;have c4:=qW p o D.h.past;have c5:=qJ p o D.h.channels (fG D.hw).1 (fG D.hw).2 D.hch;have c6:=pW o D.ho.fr D.ho.bk D.ho.sn;obtain⟨kr,c7⟩:=kY p.version b2 Sm L2 p.past o out D.hpl;rw[D.hp] at c2;rw[D.hw] at c3;rw[D.ht] at c4;rw[D.hs] at c5;have hv:=D.hv;have hlc:=D.h.channels;have hpl:=D.hpl;rw[hpc] at hlc;simp only[Bu,uF] at hlc;have e1:p.c=[uu p.version,uu p.next,.sl false 9 (A.map Ch.c++[uu c.aU,ii c.owner,uu c.inc,uu c.eY,uu c.first,uu c.trim,l8 c.af,rP c.seen,.sl false 2 (c.au.map Cu.c)]::B.map Ch.c),.sl false 6 (p.af.map Lg.c),.sl false 8 (p.past.map Pa.c)]:=by
  simp only[Pn.c,jL,dO,uS,hpc,pq,dR,Ch.c,Hr]
 have hgt:decide (o.channel>(((A.map Ch.c).length+(1+(B.map Ch.c).length):Nat):Int))=false:=by simp only[jS,kQ];omega
 have hg0:decide (o.channel>0)=true:=by simp only[gQ];omega
 have hwr:IntKind.i64.wrap (o.channel-1)=((A.map Ch.c).length:Int):=by rw[List.length_map,aJ (by omega) (by omega)];omega
 rw[e1] at c1 c2 c4 c5 ⊢;clear D hpc hA e1 hlc hpl;simp only[uL,wC,Bv,lM,Hr,bg.c,Pl.c,Ch.c,Oc.c,dR,fq,fI,fJ] at c1 c2 c3 c4 c5 c6 c7 hd ⊢;refine bM gL ?_;repeat' ((conv=>whnf);first|with_reducible apply aG|((with_reducible apply fk)<;>intro hc<;>try exact aK)|rewrite[A8]|rewrite[A9]|rewrite[hwr]|(apply fB;refine⟨_,_,c1,?_⟩)|(apply aH;refine⟨_,c2,?_⟩)|(apply aH;refine⟨_,c3,?_⟩)|(apply aH;refine⟨_,c4,?_⟩)|(apply aH;refine⟨_,c5,?_⟩)|(apply aH;refine⟨_,c6,?_⟩)|(apply aH;refine⟨_,nH,?_⟩)|(apply fB;refine⟨_,_,hd,?_⟩)|(apply fB;refine⟨_,_,c7,?_⟩)|(refine sF ?_)|refine aC ?_|fail)
 all_goals exact ay
theorem CP (p:Pn)(o:bg)(D:WU p o)(F:FuncId)(nm:Int)(A:List Ch)(c:Ch)(B:List Ch)(hpc:p.channels=A++c::B)(hA:(A.length:Int)=o.channel-1)(nH:bC prog 35 [ii o.kind] (.agg [ii nm,.fn (.func F) [] []]))
  (k2 k3 k4 w3:Nat) (r3:List (List PV)) (b2:Int) (Sm:List Ch) (L2:List Lg) (out:Oc)
  (hd:dU prog F [.ptr 1 0] ((1,.var (wC p.version p.next (.aB 2 0) (.aB 4 0) (.aB 5 0) o (.bn 2 0 (A.map Ch.c).length 0) bQ))::WT 0 0 (Uj c (.aB 3 0)) A B c.af p.af p.past) (.pv (.dn [])) (uL k2 k3 k4 w3 r3 p.version b2 Sm L2 p.past o out)) :
  bC prog 13 [.agg p.c,.agg o.c] (.dn [.agg (⟨IntKind.u64.wrap (p.version+1),b2,Sm,L2,iJ p.past o out⟩:Pn).c,.agg out.c]):=by
 refine PC.le ?_;have c1:=ZU p A c B hpc D.h;have c2:=mZ p D.h;have c3:=pY o D.ho.fr D.ho.bk D.ho.sn;have c4:=qW p o D.h.past;have c5:=qJ p o D.h.channels (fG D.hw).1 (fG D.hw).2 D.hch;have c6:=pW o D.ho.fr D.ho.bk D.ho.sn;obtain⟨kr,c7⟩:=kY p.version b2 Sm L2 p.past o out D.hpl;rw[D.hp] at c2;rw[D.hw] at c3;rw[D.ht] at c4;rw[D.hs] at c5;have hv:=D.hv;have hlc:=D.h.channels;have hpl:=D.hpl;rw[hpc] at hlc;simp only[Bu,uF] at hlc;have e1:p.c=[uu p.version,uu p.next,.sl false 9 (A.map Ch.c++[uu c.aU,ii c.owner,uu c.inc,uu c.eY,uu c.first,uu c.trim,.sl false 1 (c.af.map bR),rP c.seen,Hr c.au]::B.map Ch.c),.sl false 6 (p.af.map Lg.c),.sl false 8 (p.past.map Pa.c)]:=by
  simp only[Pn.c,jL,dO,uS,hpc,pq,dR,Ch.c];rfl
 have hgt:decide (o.channel>(((A.map Ch.c).length+(1+(B.map Ch.c).length):Nat):Int))=false:=by simp only[jS,kQ];omega
 have hg0:decide (o.channel>0)=true:=by simp only[gQ];omega
 have hwr:IntKind.i64.wrap (o.channel-1)=((A.map Ch.c).length:Int):=by rw[List.length_map,aJ (by omega) (by omega)];omega
 rw[e1] at c1 c2 c4 c5 ⊢;clear D hpc hA e1 hlc hpl;simp only[uL,wC,WT,Uj,bg.c,Pl.c,Ch.c,Oc.c,dR,fq,fI,fJ] at c1 c2 c3 c4 c5 c6 c7 hd ⊢;refine bM gL ?_;repeat' ((conv=>whnf);first|with_reducible apply aG|((with_reducible apply fk)<;>intro hc<;>try exact aK)|rewrite[A8]|rewrite[A9]|rewrite[hwr]|(apply fB;refine⟨_,_,c1,?_⟩)|(apply aH;refine⟨_,c2,?_⟩)|(apply aH;refine⟨_,c3,?_⟩)|(apply aH;refine⟨_,c4,?_⟩)|(apply aH;refine⟨_,c5,?_⟩)|(apply aH;refine⟨_,c6,?_⟩)|(apply aH;refine⟨_,nH,?_⟩)|(apply fB;refine⟨_,_,hd,?_⟩)|(apply fB;refine⟨_,_,c7,?_⟩)|(refine sF ?_)|refine aC ?_|fail)
 all_goals exact ay
theorem GV:aQ prog 178 f178:=bU func178
theorem um:aQ prog 135 f135:=bU func135
theorem Po:aQ prog 177 f177:=bU func177
theorem Pp:aQ prog 179 f179:=bU func179
theorem J7 (l:List Pl)(a b:Int):bC prog 178 [xD l,.agg [ii a,uu b]] (ii (ql (fun y=>y==⟨a,b⟩) l)):=by
 refine PC.le (jK GV fun hb=>?_);have hb:l.length≤9223372036854775807:=by simpa[DX,xY,xD] using hb
 refine bM GV ?_;repeat' ((conv=>whnf);first|with_reducible apply aG|((with_reducible apply fk)<;>intro hc<;>try exact aK)|refine aC ?_|fail)
 refine⟨{k:Nat // k≤l.length∧∀j (hj:j<l.length),j<k→(l[j]==⟨a,b⟩)=false},fun⟨k,_⟩=>⟨[(0,.pv (xD l)),(3,.ptr 1003 0),(7,.pv (ii l.length)),(8,.pv (ii k))],1000000000,[(1003,.var [.pv (ii a),.pv (uu b)])]⟩,fun⟨k,_⟩=>l.length-k,⟨⟨0,by simp⟩,aj ?_⟩,?_⟩
 ·repeat' first|apply And.intro|exact ay|fail
  all_goals try (conv=>whnf)
  simp
 rintro⟨k,hk,hn⟩
 repeat' ((conv=>whnf);first|with_reducible apply aG|((with_reducible apply fk)<;>intro hc<;>try exact aK)|refine aC ?_|fail)
 ·have hlt:k<l.length:=by simpa using hc
  refine⟨_,dx _ _ _ hlt,?_⟩;repeat' ((conv=>whnf);first|with_reducible apply aG|((with_reducible apply fk)<;>intro hc<;>try exact aK)|refine aC ?_|fail)
  ·skip
   repeat' first|apply And.intro|exact ay|fail
   all_goals try (conv=>whnf)
   exact (nS _ hlt hn (by rw[←Pl.ag6];exact hc)).symm
  skip
  repeat' ((conv=>whnf);first|with_reducible apply aG|((with_reducible apply fk)<;>intro hc<;>try exact aK)|refine aC ?_|fail)
  refine⟨⟨k+1,hlt,gH hn fun _=>(by rw[←Pl.ag6];exact hc)⟩,dec_lt hlt,aj ?_⟩;repeat' first|apply And.intro|exact ay|fail
  all_goals try (conv=>whnf)
  exact aJ (by omega) (by omega)
 skip
 repeat' first|apply And.intro|exact ay|fail
 all_goals try (conv=>whnf)
 have:k=l.length:=by simp at hc;omega
 subst this;exact (iN _ (tK hn)).symm
theorem GX (a b:Int)(ch lg pa:PV)(o:bg)(c:PV)(out:Oc)(x:Lg):bC prog 177 ([]++([.agg x.c]++[.bJ [.bJ (wV a b ch lg pa o c out) 0] 0])) (bl (nO o x)):=by
 refine PC.le ?_;obtain⟨X,hX⟩:∃X,X=nO o x:=⟨_,rfl⟩;rw[←hX];unfold nO at hX;simp only[wV,bg.c,Pl.c,Oc.c,fI,fJ];refine bM Po ?_;repeat' ((conv=>whnf);first|with_reducible apply aG|((with_reducible apply fk)<;>intro hc<;>try exact aK)|refine aC ?_|fail)
 all_goals
  simp only[Bool.not_true, *,Bool.true_or,Bool.or_true,Bool.false_or,Bool.or_false,Bool.true_and,Bool.and_true,Bool.false_and,Bool.and_false,Bool.not_true,Bool.not_false,Bool.false_eq_true,↓reduceIte] at hX;subst hX;all_goals exact ay
theorem GY (a b:Int)(ch lg pa:PV)(o:bg)(c:PV)(out:Oc)(x:Pl):bC prog 179 ([]++([.agg x.c]++[.bJ [.bJ (wV a b ch lg pa o c out) 0] 0])) (bl (x.node==o.nC.node)):=by
 refine PC.le ?_;simp only[wV,bg.c,Pl.c,Oc.c,fI,fJ];refine bM Pp ?_;repeat' ((conv=>whnf);first|with_reducible apply aG|((with_reducible apply fk)<;>intro hc<;>try exact aK)|refine aC ?_|fail)
 all_goals exact ay
theorem pX {α:Type}(f:α→List PV)(l:List α)(k:Nat)(h:k<l.length):own ((l.drop k).map f)=(true,f l[k])::own ((l.drop (k+1)).map f):=by
 unfold own;rw[List.drop_eq_getElem_cons h];rfl
theorem Ug (a b:List (List PV)):own (a++b)=own a++own b:=by simp[own]
theorem R4 (a b:Int)(ch:List Ch)(A:List Lg)(x:Lg)(B:List Lg)(Q:List Pa)(o:bg)(hA:∀y∈A,nO o y=false)(hx:nO o x=true)(hok:∀f∈x.av,nY o f=false)(hsome:∃f∈x.av,decide (kz o f≥0)=true)
  (hl:x.av.length≤1000000) (hll:(A++x::B).length≤1000000) (hbk:∀f∈x.av,f.aN.length≤1000000):dU prog 135 [.ptr 1 0]
  [(1,.var (wC a b (.pv (jL ch)) (.aB 2 0) (.aB 4 0) o (.pv (.sc (.pointer none))) bQ)),(2,.dN 50 0 6 (A.map Lg.c) [.pv (uu x.id),.pv (ii x.w),.pv (ii x.a),.aB 3 0,.pv (ii x.closed),.pv (uu x.last)] (B.map Lg.c)),(3,.fP 80 0 2 1 36 2 (own (x.av.map Fr.c)) [] []),(4,.arr 68 0 8 (Q.map Pa.c))] (.pv (.dn []))
  [(1,.var (wC a b (.pv (jL ch)) (.aB 2 0) (.aB 4 0) o (.pv (.sc (.pointer none))) bQ)),(2,.dN 50 0 6 (A.map Lg.c) [.pv (uu x.id),.pv (ii x.w),.pv (ii x.a),.aB 3 0,.pv (ii x.closed),.pv (uu x.last)] (B.map Lg.c)),(3,.fP 80 0 2 1 36 2 (own ((x.av.map (jk o)).map Fr.c)) [] []),(4,.arr 68 0 8 (Q.map Pa.c))]:=by
 have hx1:ql (nO o) (A++x::B)=(A.length:Nat):=nS (nO o) (by simp) (fun j hj hja=>by rw[List.getElem_append_left (by omega)];exact hA _ (List.getElem_mem _)) (by simpa using hx);have c1:∀L:PV,bC prog 53 [dO (A++x::B),.fn (.func 177) [] [.bJ [.bJ (wV a b (jL ch) L (uS Q) o (.sc (.pointer none)) bQ) 0] 0]] (ii (A.length:Nat)):=fun L=>by
  have:=dW (A++x::B) 177 [] [.bJ [.bJ (wV a b (jL ch) L (uS Q) o (.sc (.pointer none)) bQ) 0] 0] (nO o) fun y _=>GX a b (jL ch) L (uS Q) o (.sc (.pointer none)) bQ y
  rw[hx1] at this;exact this
 have cI:∀f:Fr,bC prog 178 [xD f.aN,.agg [ii o.from_.node,uu o.from_.dB]] (ii (kz o f)):=fun f=>J7 _ _ _
 have cJ:∀(L:PV) (f:Fr),bC prog 139 [xD f.aN,.fn (.func 179) [] [.bJ [.bJ (wV a b (jL ch) L (uS Q) o (.sc (.pointer none)) bQ) 0] 0]] (ii (NP o f)):=fun L f=>
  mX f.aN 179 [] [.bJ [.bJ (wV a b (jL ch) L (uS Q) o (.sc (.pointer none)) bQ) 0] 0] (fun y=>y.node==o.nC.node) fun y _=>GY a b (jL ch) L (uS Q) o (.sc (.pointer none)) bQ y
 have e2:∀l:List (List PV),(own l).map (·.2)++List.map (·.2) ([]:List (Bool×List PV))=l:=fun l=>by rw[Uc,List.map_nil,List.append_nil]
 have e1:dO (A++x::B)=.sl false 6 (A.map Lg.c++[uu x.id,ii x.w,ii x.a,.sl false 2 ((own (x.av.map Fr.c)).map (·.2)++List.map (·.2) ([]:List (Bool×List PV))),ii x.closed,uu x.last]::B.map Lg.c):=by
  rw[e2];simp only[dO,pq,dR];rfl
 have e3:((own (x.av.map Fr.c)).length:Int)=(x.av.length:Int):=by simp[own]
 have d0:decide (((A.length:Nat):Int)<0)=false:=by simp only[kQ];omega
 rw[e1] at c1;clear hx1 hA hx e1;simp only[wC,wV,bg.c,Pl.c,Oc.c,dR,fq,fI,fJ] at c1 cJ ⊢;refine jy um ?_;repeat' ((conv=>whnf);first|with_reducible apply aG|((with_reducible apply fk)<;>intro hc<;>try exact aK)|(apply aH;refine⟨_,c1 _,?_⟩)|(((with_reducible apply And.intro);focus (simp only[jS,Bu,uF];omega)))|refine aC ?_|fail)
 obtain⟨F,hF⟩:∃F,F=x.av:=⟨_,rfl⟩;rw[←hF] at hok hsome hl hbk e3 ⊢;replace hF:=Hd.mk hF;have hn0:0<F.length:=by obtain⟨f,hf,_⟩:=hsome;exact List.length_pos_of_mem hf
 clear c1;refine⟨{k:Nat // k<F.length} ⊕ Unit,fun i=>match i with
   |.inl ⟨k,hk⟩=>⟨[(1,.ptr 1001 0),(2,.pv (ii (A.length:Nat))),(3,.pv (bl ((F.take (k)).any fun f=>decide (kz o f≥0)))),(30,.aB 3 0),(31,.pv (ii (F.length:Nat))),(32,.pv (ii (k:Nat)))],1000000000,(1001,.var [.ptr 1 0])::(1,.var (wC a b (.pv (jL ch)) (.aB 2 0) (.aB 4 0) o (.pv (.sc (.pointer none))) bQ))::(2,.dN 50 0 6 (A.map Lg.c) [.pv (uu x.id),.pv (ii x.w),.pv (ii x.a),.aB 3 0,.pv (ii x.closed),.pv (uu x.last)] (B.map Lg.c))::(3,.fP 80 0 2 1 36 2 (own ((F.take k).map Fr.c)) [.pv (uu F[k].first),.aB 1005 0] (own ((F.drop (k+1)).map Fr.c)))::(1005,.arr 36 0 2 (F[k].aN.map Pl.c))::[(4,.arr 68 0 8 (Q.map Pa.c))]⟩
   |.inr _=>⟨[(1,.ptr 1001 0),(2,.pv (ii (A.length:Nat))),(3,.pv (bl ((F.take (F.length)).any fun f=>decide (kz o f≥0)))),(30,.aB 3 0),(31,.pv (ii (F.length:Nat))),(32,.pv (ii (F.length:Nat)))],1000000000,(1001,.var [.ptr 1 0])::(1,.var (wC a b (.pv (jL ch)) (.aB 2 0) (.aB 4 0) o (.pv (.sc (.pointer none))) bQ))::(2,.dN 50 0 6 (A.map Lg.c) [.pv (uu x.id),.pv (ii x.w),.pv (ii x.a),.aB 3 0,.pv (ii x.closed),.pv (uu x.last)] (B.map Lg.c))::(3,.fP 80 0 2 1 36 2 (own (F.map Fr.c)) [] ([]))::[(4,.arr 68 0 8 (Q.map Pa.c))]⟩,fun i=>match i with
   |.inl ⟨k,_⟩=>F.length-k
   |.inr _=>0,⟨.inl ⟨0,hn0⟩,?_⟩,?_⟩
 ·simp only[wC,bg.c,Pl.c,Oc.c,dR,fq,fI,fJ];refine eu 3 [] ((true,Fr.c (F[0]'hn0))::own ((F.drop 1).map Fr.c)) rfl ?_ ?_
  ·have:=pX Fr.c F 0 hn0;rw[List.drop_zero] at this;rw[this,List.append_nil];rfl
  refine kW (rr:=(F[0]'hn0).aN.map Pl.c) 3 900000000 rfl rfl rfl ?_;refine aj ?_;repeat' first|apply And.intro|exact ay|fail
  all_goals try (conv=>whnf)
  all_goals first
   |exact e3
   |rfl
   |simp
   |trace_state
 rintro (⟨k,hk⟩|⟨⟩)
 ·simp only[wC,bg.c,Pl.c,Oc.c,dR,fq,fI,fJ];have d1:decide ((k:Int)<(F.length:Int))=true:=by simp only[gQ];omega
  have eW:IntKind.i64.wrap ((k:Int)+1)=((k+1:Nat):Int):=by rw[aJ (by omega) (by omega)];omega
  have hb:=hok _ (List.getElem_mem hk);have hpre:own ((F.take k).map Fr.c)++[(true,Fr.c F[k])]=own ((F.take (k+1)).map Fr.c):=(Pb Fr.c F k hk).symm;have Bp:(F.take (k+1)).any (fun f=>decide (kz o f≥0))=((F.take k).any (fun f=>decide (kz o f≥0))||decide (kz o F[k]≥0)):=by
   rw[List.take_succ_eq_append_getElem hk,List.any_append];simp
  have hcase:decide (kz o F[k]<0)=true∨(decide (kz o F[k]<0)=false∧decide (NP o F[k]≥0)=false)∨(decide (kz o F[k]<0)=false∧decide (NP o F[k]≥0)=true∧(NP o F[k] != kz o F[k])=false):=by
   unfold nY at hb;by_cases h1:kz o F[k]<0
   ·exact .inl (by simpa using h1)
   have h1':decide (kz o F[k]≥0)=true:=by simp only[gQ];omega
   have ah2:decide (kz o F[k]<0)=false:=by simp only[kQ];exact h1
   rw[h1',Bool.true_and] at hb;cases h2:decide (NP o F[k]≥0) with
   |false=>exact .inr (.inl ⟨ah2,rfl⟩)
   |true=>rw[h2,Bool.true_and] at hb;exact .inr (.inr ⟨ah2,rfl,hb⟩)
  clear hb hok hsome;rcases hcase with d2|⟨d2,d3⟩|⟨d2,d3,d4⟩
  ·have hsm:((F.take k).any fun f=>decide (kz o f≥0))=(F.take (k+1)).any fun f=>decide (kz o f≥0):=by
    rw[Bp];have:decide (kz o F[k]≥0)=false:=by simp only[gQ,kQ] at d2 ⊢;omega
    rw[this,Bool.or_false]
   replace hsm:=Hd.mk hsm;clear Bp;repeat' ((conv=>whnf);first|with_reducible apply aG|((with_reducible apply fk)<;>intro hc<;>try exact aK)|(apply aH;refine⟨_,cI _,?_⟩)|(apply aH;refine⟨_,cJ _ _,?_⟩)|(((with_reducible apply And.intro);focus (simp only[own,dJ,jS,List.length_take,List.length_drop,Bu,uF,xA];omega)))|refine aC ?_|fail)
   by_cases hn:k+1<F.length
   ·refine⟨.inl ⟨k+1,hn⟩,by simp only;omega,?_⟩;simp only[wC,bg.c,Pl.c,Oc.c,dR,fq,fI,fJ];refine gY (rr:=F[k].aN.map Pl.c) (vd:=0) 3 _ (Fr.c F[k]) rfl ?_ rfl rfl ?_
    ·exact rfl
    refine eu 3 (own ((F.take (k+1)).map Fr.c)) ((true,Fr.c F[k+1])::own ((F.drop (k+1+1)).map Fr.c)) rfl ?_ ?_
    ·rw[pX Fr.c F (k+1) hn,hpre]
    refine kW (rr:=F[k+1].aN.map Pl.c) 3 900000000 rfl rfl rfl ?_;refine aj ?_;repeat' first|apply And.intro|exact ay|fail
    all_goals try (conv=>whnf)
    all_goals first
     |exact eW
     |exact hsm.out
     |trace_state
   have hke:k+1=F.length:=by omega
   refine⟨.inr (),by simp only;omega,?_⟩;simp only[wC,bg.c,Pl.c,Oc.c,dR,fq,fI,fJ];refine gY (rr:=F[k].aN.map Pl.c) (vd:=0) 3 _ (Fr.c F[k]) rfl ?_ rfl rfl ?_
   ·exact rfl
   refine eu 3 (own (F.map Fr.c)) [] rfl ?_ ?_
   ·rw[List.drop_eq_nil_of_le (by omega),hpre,hke,List.take_length];simp[own]
   refine aj ?_;repeat' first|apply And.intro|exact ay|fail
   all_goals try (conv=>whnf)
   all_goals first
    |(rw[eW,hke])
    |(rw[←hke];exact hsm.out)
    |trace_state
  ·have hsm:true=(F.take (k+1)).any fun f=>decide (kz o f≥0):=by
    rw[Bp];have:decide (kz o F[k]≥0)=true:=by simp only[gQ,kQ] at d2 ⊢;omega
    rw[this,Bool.or_true]
   replace hsm:=Hd.mk hsm;clear Bp;repeat' ((conv=>whnf);first|with_reducible apply aG|((with_reducible apply fk)<;>intro hc<;>try exact aK)|(apply aH;refine⟨_,cI _,?_⟩)|(apply aH;refine⟨_,cJ _ _,?_⟩)|(((with_reducible apply And.intro);focus (simp only[own,dJ,jS,List.length_take,List.length_drop,Bu,uF,xA];omega)))|refine aC ?_|fail)
   by_cases hn:k+1<F.length
   ·refine⟨.inl ⟨k+1,hn⟩,by simp only;omega,?_⟩;simp only[wC,bg.c,Pl.c,Oc.c,dR,fq,fI,fJ];refine gY (rr:=F[k].aN.map Pl.c) (vd:=0) 3 _ (Fr.c F[k]) rfl ?_ rfl rfl ?_
    ·exact rfl
    refine eu 3 (own ((F.take (k+1)).map Fr.c)) ((true,Fr.c F[k+1])::own ((F.drop (k+1+1)).map Fr.c)) rfl ?_ ?_
    ·rw[pX Fr.c F (k+1) hn,hpre]
    refine kW (rr:=F[k+1].aN.map Pl.c) 3 900000000 rfl rfl rfl ?_;refine aj ?_;repeat' first|apply And.intro|exact ay|fail
    all_goals try (conv=>whnf)
    all_goals first
     |exact eW
     |exact hsm.out
     |trace_state
   have hke:k+1=F.length:=by omega
   refine⟨.inr (),by simp only;omega,?_⟩;simp only[wC,bg.c,Pl.c,Oc.c,dR,fq,fI,fJ];refine gY (rr:=F[k].aN.map Pl.c) (vd:=0) 3 _ (Fr.c F[k]) rfl ?_ rfl rfl ?_
   ·exact rfl
   refine eu 3 (own (F.map Fr.c)) [] rfl ?_ ?_
   ·rw[List.drop_eq_nil_of_le (by omega),hpre,hke,List.take_length];simp[own]
   refine aj ?_;repeat' first|apply And.intro|exact ay|fail
   all_goals try (conv=>whnf)
   all_goals first
    |(rw[eW,hke])
    |(rw[←hke];exact hsm.out)
    |trace_state
  have hsm:true=(F.take (k+1)).any fun f=>decide (kz o f≥0):=by
   rw[Bp];have:decide (kz o F[k]≥0)=true:=by simp only[gQ,kQ] at d2 ⊢;omega
   rw[this,Bool.or_true]
  replace hsm:=Hd.mk hsm;clear Bp;repeat' ((conv=>whnf);first|with_reducible apply aG|((with_reducible apply fk)<;>intro hc<;>try exact aK)|(apply aH;refine⟨_,cI _,?_⟩)|(apply aH;refine⟨_,cJ _ _,?_⟩)|(((with_reducible apply And.intro);focus (simp only[own,dJ,jS,List.length_take,List.length_drop,Bu,uF,xA];omega)))|refine aC ?_|fail)
  by_cases hn:k+1<F.length
  ·refine⟨.inl ⟨k+1,hn⟩,by simp only;omega,?_⟩;simp only[wC,bg.c,Pl.c,Oc.c,dR,fq,fI,fJ];refine gY (rr:=F[k].aN.map Pl.c) (vd:=0) 3 _ (Fr.c F[k]) rfl ?_ rfl rfl ?_
   ·exact rfl
   refine eu 3 (own ((F.take (k+1)).map Fr.c)) ((true,Fr.c F[k+1])::own ((F.drop (k+1+1)).map Fr.c)) rfl ?_ ?_
   ·rw[pX Fr.c F (k+1) hn,hpre]
   refine kW (rr:=F[k+1].aN.map Pl.c) 3 900000000 rfl rfl rfl ?_;refine aj ?_;repeat' first|apply And.intro|exact ay|fail
   all_goals try (conv=>whnf)
   all_goals first
    |exact eW
    |exact hsm.out
    |trace_state
  have hke:k+1=F.length:=by omega
  refine⟨.inr (),by simp only;omega,?_⟩;simp only[wC,bg.c,Pl.c,Oc.c,dR,fq,fI,fJ];refine gY (rr:=F[k].aN.map Pl.c) (vd:=0) 3 _ (Fr.c F[k]) rfl ?_ rfl rfl ?_
  ·exact rfl
  refine eu 3 (own (F.map Fr.c)) [] rfl ?_ ?_
  ·rw[List.drop_eq_nil_of_le (by omega),hpre,hke,List.take_length];simp[own]
  refine aj ?_;repeat' first|apply And.intro|exact ay|fail
  all_goals try (conv=>whnf)
  all_goals first
   |(rw[eW,hke])
   |(rw[←hke];exact hsm.out)
   |trace_state
 simp only[wC,bg.c,Pl.c,Oc.c,dR,fq,fI,fJ];have d1:decide (((F.length:Nat):Int)<(F.length:Int))=false:=by simp
 have d3:((F.take F.length).any fun f=>decide (kz o f≥0))=true:=by
  rw[List.take_length,List.any_eq_true];exact hsome
 clear hsome hok;repeat' ((conv=>whnf);first|with_reducible apply aG|((with_reducible apply fk)<;>intro hc<;>try exact fO)|(((with_reducible apply And.intro);focus (simp only[own,dJ,jS,List.length_take,List.length_drop,Bu,uF,xA];omega)))|refine aC ?_|fail)
 clear d3 d1;refine⟨{k:Nat // k<F.length} ⊕ Unit,fun i=>match i with
   |.inl ⟨k,hk⟩=>⟨[(1,.ptr 1001 0),(72,.aB 3 0),(73,.pv (ii (F.length:Nat))),(74,.pv (ii (k:Nat)))],1000000000,(1001,.var [.ptr 1 0])::(1,.var (wC a b (.pv (jL ch)) (.aB 2 0) (.aB 4 0) o (.pv (.sc (.pointer none))) bQ))::(2,.dN 50 0 6 (A.map Lg.c) [.pv (uu x.id),.pv (ii x.w),.pv (ii x.a),.aB 3 0,.pv (ii x.closed),.pv (uu x.last)] (B.map Lg.c))::(3,.fP 80 0 2 1 36 2 (own (((F.take k).map (jk o)).map Fr.c)) [.pv (uu F[k].first),.aB 1005 0] (own ((F.drop (k+1)).map Fr.c)))::(1005,.arr 36 0 2 (F[k].aN.map Pl.c))::[(4,.arr 68 0 8 (Q.map Pa.c))]⟩
   |.inr _=>⟨[(1,.ptr 1001 0),(72,.aB 3 0),(73,.pv (ii (F.length:Nat))),(74,.pv (ii (F.length:Nat)))],1000000000,(1001,.var [.ptr 1 0])::(1,.var (wC a b (.pv (jL ch)) (.aB 2 0) (.aB 4 0) o (.pv (.sc (.pointer none))) bQ))::(2,.dN 50 0 6 (A.map Lg.c) [.pv (uu x.id),.pv (ii x.w),.pv (ii x.a),.aB 3 0,.pv (ii x.closed),.pv (uu x.last)] (B.map Lg.c))::(3,.fP 80 0 2 1 36 2 (own ((F.map (jk o)).map Fr.c)) [] ([]))::[(4,.arr 68 0 8 (Q.map Pa.c))]⟩,fun i=>match i with
   |.inl ⟨k,_⟩=>F.length-k
   |.inr _=>0,⟨.inl ⟨0,hn0⟩,?_⟩,?_⟩
 ·simp only[wC,bg.c,Pl.c,Oc.c,dR,fq,fI,fJ];refine eu 3 [] ((true,Fr.c (F[0]'hn0))::own ((F.drop 1).map Fr.c)) rfl ?_ ?_
  ·have:=pX Fr.c F 0 hn0;rw[List.drop_zero] at this;rw[this,List.append_nil];rfl
  refine kW (rr:=(F[0]'hn0).aN.map Pl.c) 3 900000000 rfl rfl rfl ?_;refine aj ?_;repeat' first|apply And.intro|exact ay|fail
  all_goals try (conv=>whnf)
  all_goals first
   |exact e3
   |rfl
   |simp
   |trace_state
 rintro (⟨k,hk⟩|⟨⟩)
 ·simp only[wC,bg.c,Pl.c,Oc.c,dR,fq,fI,fJ];have d1:decide ((k:Int)<(F.length:Int))=true:=by simp only[gQ];omega
  have eW:IntKind.i64.wrap ((k:Int)+1)=((k+1:Nat):Int):=by rw[aJ (by omega) (by omega)];omega
  cases d2:decide (kz o F[k]≥0) with
  | false=>
    have hpre:own (((F.take k).map (jk o)).map Fr.c)++[(true,Fr.c F[k])]=own (((F.take (k+1)).map (jk o)).map Fr.c):=by
     have e5:jk o F[k]=F[k]:=by unfold jk;rw[d2];rfl
     rw[List.take_succ_eq_append_getElem hk,List.map_append,List.map_append,Ug];simp only[dR,fq,e5];rfl
    repeat' ((conv=>whnf);first|with_reducible apply aG|((with_reducible apply fk)<;>intro hc<;>try exact aK)|(apply aH;refine⟨_,cI _,?_⟩)|(((with_reducible apply And.intro);focus (simp only[own,dJ,jS,List.length_take,List.length_drop,Bu,uF,xA];omega)))|refine aC ?_|fail)
    by_cases hn:k+1<F.length
    ·refine⟨.inl ⟨k+1,hn⟩,by simp only;omega,?_⟩;simp only[wC,bg.c,Pl.c,Oc.c,dR,fq,fI,fJ];refine gY (rr:=F[k].aN.map Pl.c) (vd:=0) 3 _ (Fr.c F[k]) rfl ?_ rfl rfl ?_
     ·exact rfl
     refine eu 3 (own (((F.take (k+1)).map (jk o)).map Fr.c)) ((true,Fr.c F[k+1])::own ((F.drop (k+1+1)).map Fr.c)) rfl ?_ ?_
     ·rw[pX Fr.c F (k+1) hn,hpre]
     refine kW (rr:=F[k+1].aN.map Pl.c) 3 900000000 rfl rfl rfl ?_;refine aj ?_;repeat' first|apply And.intro|exact ay|fail
     all_goals try (conv=>whnf)
     all_goals first
      |exact eW
      |trace_state
    have hke:k+1=F.length:=by omega
    refine⟨.inr (),by simp only;omega,?_⟩;simp only[wC,bg.c,Pl.c,Oc.c,dR,fq,fI,fJ];refine gY (rr:=F[k].aN.map Pl.c) (vd:=0) 3 _ (Fr.c F[k]) rfl ?_ rfl rfl ?_
    ·exact rfl
    refine eu 3 (own ((F.map (jk o)).map Fr.c)) [] rfl ?_ ?_
    ·rw[List.drop_eq_nil_of_le (by omega),hpre,hke,List.take_length];simp[own]
    refine aj ?_;repeat' first|apply And.intro|exact ay|fail
    all_goals try (conv=>whnf)
    all_goals first
     |(rw[eW,hke])
     |trace_state
  | true=>
    have hi0:0≤kz o F[k]:=by simpa using d2
    have hi1:(kz o F[k]).toNat<F[k].aN.length:=by
     rcases nM (fun y=>y==o.from_) F[k].aN with ⟨h1,_⟩|⟨m,hm,h1,_⟩
     ·unfold kz at hi0;omega
     unfold kz;rw[h1];simpa using hm
    have hpre:own (((F.take k).map (jk o)).map Fr.c)++[(true,[uu F[k].first,.sl false 2 ((F[k].aN.map Pl.c).set (kz o F[k]).toNat [ii o.nC.node,uu o.nC.dB])])]=own (((F.take (k+1)).map (jk o)).map Fr.c):=by
     have e5:Fr.c (jk o F[k])=[uu F[k].first,.sl false 2 ((F[k].aN.map Pl.c).set (kz o F[k]).toNat [ii o.nC.node,uu o.nC.dB])]:=by
      unfold jk;rw[d2];simp only[if_true,Fr.c,xD,List.map_set,Pl.c]
     rw[List.take_succ_eq_append_getElem hk,List.map_append,List.map_append,Ug];simp only[dR,fq,e5];rfl
    have hrk:(F[k].aN.map Pl.c)[(kz o F[k]).toNat]? = some (Pl.c (F[k].aN[(kz o F[k]).toNat]'hi1)):=by rw[List.getElem?_map,List.getElem?_eq_getElem hi1];rfl
    have hi:Hd (0≤kz o F[k]∧(kz o F[k]).toNat<F[k].aN.length):=⟨hi0,hi1⟩;clear hi0;repeat' ((conv=>whnf);first|with_reducible apply aG|((with_reducible apply fk)<;>intro hc<;>try exact aK)|(apply aH;refine⟨_,cI _,?_⟩)|((refine⟨_,hrk,?_⟩))|(((with_reducible apply And.intro);focus (exact hi.out.1)))|(((with_reducible apply And.intro);focus (rw[List.length_map];exact hi.out.2)))|(((with_reducible apply And.intro);focus (simp only[own,dJ,jS,List.length_take,List.length_drop,Bu,uF,xA];omega)))|refine aC ?_|fail)
    by_cases hn:k+1<F.length
    ·refine⟨.inl ⟨k+1,hn⟩,by simp only;omega,?_⟩;simp only[wC,bg.c,Pl.c,Oc.c,dR,fq,fI,fJ];refine gY (rr:=(F[k].aN.map Pl.c).set (kz o F[k]).toNat [ii o.nC.node,uu o.nC.dB]) (vd:=0) 3 _ ([uu F[k].first,.sl false 2 ((F[k].aN.map Pl.c).set (kz o F[k]).toNat [ii o.nC.node,uu o.nC.dB])]) rfl ?_ rfl rfl ?_
     ·exact rfl
     refine eu 3 (own (((F.take (k+1)).map (jk o)).map Fr.c)) ((true,Fr.c F[k+1])::own ((F.drop (k+1+1)).map Fr.c)) rfl ?_ ?_
     ·rw[pX Fr.c F (k+1) hn,hpre]
     refine kW (rr:=F[k+1].aN.map Pl.c) 3 900000000 rfl rfl rfl ?_;refine aj ?_;repeat' first|apply And.intro|exact ay|fail
     all_goals try (conv=>whnf)
     all_goals first
      |exact eW
      |trace_state
    have hke:k+1=F.length:=by omega
    refine⟨.inr (),by simp only;omega,?_⟩;simp only[wC,bg.c,Pl.c,Oc.c,dR,fq,fI,fJ];refine gY (rr:=(F[k].aN.map Pl.c).set (kz o F[k]).toNat [ii o.nC.node,uu o.nC.dB]) (vd:=0) 3 _ ([uu F[k].first,.sl false 2 ((F[k].aN.map Pl.c).set (kz o F[k]).toNat [ii o.nC.node,uu o.nC.dB])]) rfl ?_ rfl rfl ?_
    ·exact rfl
    refine eu 3 (own ((F.map (jk o)).map Fr.c)) [] rfl ?_ ?_
    ·rw[List.drop_eq_nil_of_le (by omega),hpre,hke,List.take_length];simp[own]
    refine aj ?_;repeat' first|apply And.intro|exact ay|fail
    all_goals try (conv=>whnf)
    all_goals first
     |(rw[eW,hke])
     |trace_state
 simp only[wC,bg.c,Pl.c,Oc.c,dR,fq,fI,fJ];have d1:decide (((F.length:Nat):Int)<(F.length:Int))=false:=by simp
 repeat' ((conv=>whnf);first|with_reducible apply aG|((with_reducible apply fk)<;>intro hc<;>try exact aK)|(((with_reducible apply And.intro);focus (simp only[own,dJ,jS,List.length_take,List.length_drop,Bu,uF,xA];omega)))|refine aC ?_|fail)
 refine⟨_,_,⟨rfl,rfl⟩,?_⟩;all_goals exact ay
def Uh (Q:List Pa):List (Nat×aA):=[(2,.arr 68 0 8 (Q.map Pa.c))]
theorem J9 (a b:Int)(ch:List Ch)(L:List Lg)(Q:List Pa)(o:bg)(n:Int)(out:Oc):dU prog 34 [.ptr 1 0,.pv (ii n)]
  ((1,.var (wC a b (.pv (jL ch)) (.pv (dO L)) (.aB 2 0) o (.pv (.sc (.pointer none))) out))::Uh Q) (.pv (.dn []))
  ((1,.var (wC a b (.pv (jL ch)) (.pv (dO L)) (.aB 2 0) o (.pv (.sc (.pointer none))) (iX n)))::Uh Q):=by
 refine jy xU ?_;repeat' ((conv=>whnf);first|with_reducible apply aG|((with_reducible apply fk)<;>intro hc<;>try exact aK)|refine aC ?_|fail)
 refine⟨_,_,⟨rfl,rfl⟩,?_⟩;all_goals exact ay
theorem R6 (a b:Int)(ch:List Ch)(L:List Lg)(Q:List Pa)(o:bg)(hl:L.length≤1000000)(Rz:∀x∈L,x.av.length≤1000000)
  (hno:∀x,L.find? (nO o)=some x→x.av.any (nY o)=true∨x.av.any (fun f=>decide (kz o f≥0))=false):dU prog 135 [.ptr 1 0]
  ((1,.var (wC a b (.pv (jL ch)) (.pv (dO L)) (.aB 2 0) o (.pv (.sc (.pointer none))) bQ))::Uh Q) (.pv (.dn []))
  ((1,.var (wC a b (.pv (jL ch)) (.pv (dO L)) (.aB 2 0) o (.pv (.sc (.pointer none))) (iX 5)))::Uh Q):=by
 have cR:=J9 a b ch L Q o 5 bQ;have c1:bC prog 53 [dO L,.fn (.func 177) [] [.bJ [.bJ (wV a b (jL ch) (dO L) (uS Q) o (.sc (.pointer none)) bQ) 0] 0]] (ii (ql (nO o) L)):=
  dW L 177 [] [.bJ [.bJ (wV a b (jL ch) (dO L) (uS Q) o (.sc (.pointer none)) bQ) 0] 0] (nO o) fun y _=>GX a b (jL ch) (dO L) (uS Q) o (.sc (.pointer none)) bQ y
 have cI:∀f:Fr,bC prog 178 [xD f.aN,.agg [ii o.from_.node,uu o.from_.dB]] (ii (kz o f)):=fun f=>J7 _ _ _
 have cJ:∀(f:Fr),bC prog 139 [xD f.aN,.fn (.func 179) [] [.bJ [.bJ (wV a b (jL ch) (dO L) (uS Q) o (.sc (.pointer none)) bQ) 0] 0]] (ii (NP o f)):=fun f=>
  mX f.aN 179 [] [.bJ [.bJ (wV a b (jL ch) (dO L) (uS Q) o (.sc (.pointer none)) bQ) 0] 0] (fun y=>y.node==o.nC.node) fun y _=>GY a b (jL ch) (dO L) (uS Q) o (.sc (.pointer none)) bQ y
 simp only[wC,wV,Uh,bg.c,Pl.c,Oc.c,dR,fq,fI,fJ] at c1 cJ cR ⊢;rcases NJ (nO o) L with ⟨e1,e2⟩|⟨k,hk,e1,e2⟩
 ·rw[e1] at c1;have d0:decide ((-1:Int)<0)=true:=rfl;clear e1 e2 hno Rz cI cJ;refine jy um ?_;repeat' ((conv=>whnf);first|with_reducible apply aG|((with_reducible apply fk)<;>intro hc<;>try exact aK)|rewrite[A8]|rewrite[A9]|(apply aH;refine⟨_,c1,?_⟩)|(apply fB;refine⟨_,_,cR,?_⟩)|refine aC ?_|fail)
  refine⟨_,_,⟨rfl,rfl⟩,?_⟩;all_goals exact ay
 rw[e1] at c1;have d0:decide (((k:Nat):Int)<0)=false:=by simp only[kQ];omega
 have hx:=hno _ e2;have hfl:=Rz _ (List.getElem_mem hk);have hr:=dx Lg.c L k hk;clear e1 e2 hno Rz;generalize hxe:L[k]=x at *;clear hxe;obtain⟨xi,xw,xa,F,xc,xl⟩:=x;simp only[Lg.c] at hx hfl hr;have hm:((F.map Fr.c).length:Int)=(F.length:Int):=by rw[List.length_map]
 refine jy um ?_;repeat' ((conv=>whnf);first|with_reducible apply aG|((with_reducible apply fk)<;>intro hc<;>try exact aK)|(apply aH;refine⟨_,c1,?_⟩)|((refine⟨_,hr,?_⟩))|(refine sF ?_)|refine aC ?_|fail)
 refine⟨{j:Nat // j≤F.length∧∀i (hi:i<F.length),i<j→nY o F[i]=false},fun⟨j,_⟩=>⟨[(1,.ptr 1001 0),(2,.pv (ii (k:Nat))),(3,.pv (bl ((F.take j).any fun f=>decide (kz o f≥0)))),(30,.pv (uR F)),(31,.pv (ii F.length)),(32,.pv (ii j))],1000000000,(1001,.var [.ptr 1 0])::(1,.var (wC a b (.pv (jL ch)) (.pv (dO L)) (.aB 2 0) o (.pv (.sc (.pointer none))) bQ))::Uh Q⟩,fun⟨j,_⟩=>F.length-j,⟨⟨0,by simp⟩,aj ?_⟩,?_⟩
 ·simp only[wC,Uh,bg.c,Pl.c,Oc.c,dR,fq,fI,fJ];repeat' first|apply And.intro|exact ay|fail
  all_goals try (conv=>whnf)
  all_goals exact hm
 rintro⟨j,hj,hn⟩
 simp only[wC,Uh,bg.c,Pl.c,Oc.c,dR,fq,fI,fJ];clear c1 hr d0;by_cases hlt:j<F.length
 ·have d1:decide ((j:Int)<(F.length:Int))=true:=by simp only[gQ];omega
  have eW:IntKind.i64.wrap ((j:Int)+1)=((j+1:Nat):Int):=by rw[aJ (by omega) (by omega)];omega
  have hrow:=dx Fr.c F j hlt;have Bp:(F.take (j+1)).any (fun f=>decide (kz o f≥0))=((F.take j).any (fun f=>decide (kz o f≥0))||decide (kz o F[j]≥0)):=by
   rw[List.take_succ_eq_append_getElem hlt,List.any_append];simp
  have hbad:nY o F[j]=(decide (kz o F[j]≥0)&&(decide (NP o F[j]≥0)&&(NP o F[j] != kz o F[j]))):=rfl;have hge:decide (kz o F[j]≥0) = !decide (kz o F[j]<0):=by
   by_cases h:kz o F[j]<0
   ·simp[h]
   simp[h];omega
  rw[hge] at Bp hbad;have cI:=cI F[j];have cJ:=cJ F[j];have hstep:nY o F[j]=false→∀i (hi:i<F.length),i<j+1→nY o F[i]=false:=fun h=>gH hn fun _=>h
  clear hn hx hge hm;generalize nY o F[j]=bd at *;generalize kz o F[j]=vi at *;generalize NP o F[j]=vj at *;generalize F[j]=f at *;simp only[Fr.c] at hrow;replace hstep:=Hd.mk hstep;generalize hs1:((F.take j).any fun f=>decide (kz o f≥0))=s1 at *;repeat' ((conv=>whnf);first|with_reducible apply aG|((with_reducible apply fk)<;>intro hc<;>try exact aK)|rewrite[A8]|rewrite[A9]|((refine⟨_,hrow,?_⟩))|(apply aH;refine⟨_,cI,?_⟩)|(apply aH;refine⟨_,cJ,?_⟩)|(apply fB;refine⟨_,_,cR,?_⟩)|(refine sF ?_)|refine aC ?_|fail)
  ·have hbf:bd=false:=by rw[hbad];simp only[*,Bool.not_true,Bool.not_false,Bool.false_and,Bool.true_and,Bool.and_false]
   have hs2:((F.take (j+1)).any fun f=>decide (kz o f≥0))=s1:=by rw[Bp];simp only[*,Bool.not_true,Bool.not_false,Bool.or_false,Bool.or_true]
   refine⟨⟨j+1,hlt,hstep.out hbf⟩,dec_lt hlt,aj ?_⟩;simp only[wC,Uh,bg.c,Pl.c,Oc.c,dR,fq,fI,fJ];rw[hs2];clear hs2 hbf Bp hbad;repeat' first|apply And.intro|exact ay|fail
   all_goals try (conv=>whnf)
   all_goals exact eW
  ·refine⟨_,_,⟨rfl,rfl⟩,?_⟩;all_goals exact ay
  ·have hbf:bd=false:=by rw[hbad];simp only[*,Bool.not_true,Bool.not_false,Bool.false_and,Bool.true_and,Bool.and_false]
   have hs2:((F.take (j+1)).any fun f=>decide (kz o f≥0))=true:=by rw[Bp];simp only[*,Bool.not_true,Bool.not_false,Bool.or_false,Bool.or_true]
   refine⟨⟨j+1,hlt,hstep.out hbf⟩,dec_lt hlt,aj ?_⟩;simp only[wC,Uh,bg.c,Pl.c,Oc.c,dR,fq,fI,fJ];rw[hs2];clear hs2 hbf Bp hbad;repeat' first|apply And.intro|exact ay|fail
   all_goals try (conv=>whnf)
   all_goals exact eW
  have hbf:bd=false:=by rw[hbad];simp only[*,Bool.not_true,Bool.not_false,Bool.false_and,Bool.true_and,Bool.and_false]
  have hs2:((F.take (j+1)).any fun f=>decide (kz o f≥0))=true:=by rw[Bp];simp only[*,Bool.not_true,Bool.not_false,Bool.or_false,Bool.or_true]
  refine⟨⟨j+1,hlt,hstep.out hbf⟩,dec_lt hlt,aj ?_⟩;simp only[wC,Uh,bg.c,Pl.c,Oc.c,dR,fq,fI,fJ];rw[hs2];clear hs2 hbf Bp hbad;repeat' first|apply And.intro|exact ay|fail
  all_goals try (conv=>whnf)
  all_goals exact eW
 have hje:j=F.length:=by omega
 subst hje;have d1:decide ((F.length:Int)<(F.length:Int))=false:=by simp
 have hs:((F.take F.length).any fun f=>decide (kz o f≥0))=false:=by
  rw[List.take_length];rcases hx with h|h
  ·obtain⟨f,hf,hb⟩:=List.any_eq_true.1 h;obtain⟨i,hi,rfl⟩:=List.getElem_of_mem hf;rw[hn i hi hi] at hb;cases hb
  exact h
 rw[hs];clear hs hx hn cI cJ;repeat' ((conv=>whnf);first|with_reducible apply aG|((with_reducible apply fk)<;>intro hc<;>try exact aK)|rewrite[A8]|rewrite[A9]|(apply fB;refine⟨_,_,cR,?_⟩)|refine aC ?_|fail)
 refine⟨_,_,⟨rfl,rfl⟩,?_⟩;all_goals exact ay
theorem ZV (p:Pn)(o:bg)(D:WU p o)(hgt:o.channel>(p.channels.length:Int)):bC prog 13 [.agg p.c,.agg o.c] (.dn [.agg ({ p with version:=IntKind.u64.wrap (p.version+1),past:=iJ p.past o (iX 4) }:Pn).c,.agg (iX 4).c]):=by
 refine PC.le ?_;have c1:=LU p D.h;have c2:=mZ p D.h;have c3:=pY o D.ho.fr D.ho.bk D.ho.sn;have c4:=qW p o D.h.past;have c5:=qJ p o D.h.channels (fG D.hw).1 (fG D.hw).2 D.hch;have c6:=pW o D.ho.fr D.ho.bk D.ho.sn;obtain⟨kr,c7⟩:=kY p.version p.next p.channels p.af p.past o (iX 4) D.hpl;rw[D.hp] at c2;rw[D.hw] at c3;rw[D.ht] at c4;rw[D.hs] at c5;have hv:=D.hv;have hlc:=D.h.channels;have hm:((p.channels.map Ch.c).length:Int)=(p.channels.length:Int):=by rw[List.length_map]
 have e1:p.c=[uu p.version,uu p.next,.sl false 9 (p.channels.map Ch.c),.sl false 6 (p.af.map Lg.c),.sl false 8 (p.past.map Pa.c)]:=rfl;have hd:=J9 p.version p.next p.channels p.af p.past o 4 bQ;have hg1:decide (o.channel>((p.channels.map Ch.c).length:Int))=true:=by rw[hm];simpa using hgt
 rw[e1] at c1 c2 c4 c5 ⊢;clear D e1 hlc hm hgt;simp only[wC,Uh,bg.c,Pl.c,Oc.c,dR,fq,fI,fJ] at c1 c2 c3 c4 c5 c6 c7 hd ⊢;refine bM gL ?_;repeat' ((conv=>whnf);first|fail|((with_reducible apply fk)<;>intro hc<;>try exact aK)|rewrite[A8]|rewrite[A9]|(apply fB;refine⟨_,_,c1,?_⟩)|(apply aH;refine⟨_,c2,?_⟩)|(apply aH;refine⟨_,c3,?_⟩)|(apply aH;refine⟨_,c4,?_⟩)|(apply aH;refine⟨_,c5,?_⟩)|(apply aH;refine⟨_,c6,?_⟩)|((with_reducible apply Fs))|((with_reducible apply Fu))|((with_reducible refine (Or.inl ?_:VC _ _ (Code.region 2 _ _) _ _∨_)))|refine aC ?_|fail)
 (conv=>whnf)
 refine Or.inr ⟨Unit,fun _=>⟨[(2,.ptr 1002 0),(3,.ptr 1003 0),(4,.ptr 1004 0),(5,.ptr 1005 0),(9,.ptr 1009 0)],1000000000,[(1002,.var [.pv (uu p.version),.pv (uu p.next),.pv (jL p.channels),.pv (dO p.af),.aB 1010 0]),(1003,.var (o.c.map .pv)),(1004,.var [.pv (uu 0),.pv (uu 0),.pv (.sc (.slice none 0 0)),.pv (.sc (.slice none 0 0)),.pv (.sc (.slice none 0 0))]),(1005,.var (bQ.c.map .pv)),(1009,.var (wC p.version p.next (.pv (jL p.channels)) (.pv (dO p.af)) (.aB 1010 0) o (.pv (.sc (.pointer none))) bQ)),(1010,.arr 68 0 8 (p.past.map Pa.c))]⟩,?_,fun _=>?_⟩
 ·repeat' ((conv=>whnf);first|with_reducible apply aG|((with_reducible apply fk)<;>intro hc<;>try exact aK)|rewrite[A8]|rewrite[A9]|(apply aH;refine⟨_,c6,?_⟩)|refine aC ?_|fail)
  refine⟨(),Cj [1001003001,1002003001] ?_⟩;simp only[wC,bg.c,Pl.c,Oc.c,dR,fq,fI,fJ]
  (conv=>whnf)
  repeat' first|apply And.intro|exact ay|fail
  all_goals try (conv=>whnf)
 simp only[wC,bg.c,Pl.c,Oc.c,dR,fq,fI,fJ];repeat' ((conv=>whnf);first|with_reducible apply aG|((with_reducible apply fk)<;>intro hc<;>try exact aK)|rewrite[A8]|rewrite[A9]|(apply fB;refine⟨_,_,hd,?_⟩)|(apply fB;refine⟨_,_,cZ (c7) ?_,?_⟩;exact rG)|refine aC ?_|fail)
 all_goals exact ay
end Go.Proofs.YtiagceoepkaeoaaGreat.Tb
end
