/-
  Conditions: none. A framework for walks: abstract values, memory, and conditions that suffice; the chapters in plain terms.
-/
import Derived.Test.YtiagceoepkaeoaaGreatAg
import Derived.Test.YtiagceoepkaeoaaGreatAf
set_option linter.unusedSectionVars false
set_option linter.unusedVariables false
set_option linter.unusedSimpArgs false
section
namespace Go.AX
theorem TR {p:Pn}{trim:Int}:∀{ids acc:List Int} {a:Int},(∀x∈ids,(aW p x).id=x) →
  lY p trim acc a ids=(acc++ids.take (dI p trim ids a).1,(ids.drop (dI p trim ids a).1).headD 0,(dI p trim ids a).2)
 |[],acc,a,_=>by simp[lY,dI]
 | id::r,acc,a,h=>by
   unfold lY dI;simp only;split
   ·simp[h id (by simp)]
   rw[TR fun x hx=>h x (by simp[hx]),h id (by simp)];simp
theorem JR {sure:Int}:∀{A B:List Lg} {a:Int},(∀l∈A,NH l)→0≤a→a+8*A.length≤18446744073709551615 →
  ∃s:Int,0≤s∧s≤8*A.length∧eG sure a (A++B)=eG sure a A++eG sure (a+s) B∧s=(A.map (·.last)).sum∧((∀l∈A,l.closed≠0)→((eG sure a A).length:Int)=s)
 |[],B,a,_,_,_=>⟨0,by simp,by simp,by simp[eG],rfl,fun _=>by simp[eG]⟩
 | l::r,B,a,h,h0,h1=>by
   have hl:=(h l (by simp)).last;simp only[List.length_cons] at h1;have e:bV a l.last=a+l.last:=ny (by omega);obtain⟨s,s1,s2,s3,s4,s5⟩:=JR (sure:=sure) (A:=r) (B:=B) (a:=a+l.last) (fun x hx=>h x (by simp[hx])) (by omega) (by omega);refine⟨l.last+s,by omega,by simp only[List.length_cons];omega,?_,by simp[s4],fun hc=>?_⟩
   ·rw[List.cons_append,eG,eG,e,s3,List.append_assoc,Int.add_assoc]
   have h2:=s5 fun x hx=>hc x (by simp[hx])
   rw[eG,e,List.length_append,qo,pG (hc l (by simp))];omega
theorem AR {p:Pn}:∀(ids:List Int),((ids.map (aW p)).map (·.last)).sum=fD (bH p) ids
 |[]=>rfl
 | x::r=>by
   simp only[List.map_cons,List.sum_cons,fD];rw[AR r];rfl
def K8 (n aU aY:Int):bg:=⟨15,4611686018427387903,4611686018427387903,8,n,aU,aY,0,0,0,0,0,[],[],⟨0,0⟩,⟨0,0⟩⟩
theorem abJ {n e g:Int}(h1:1≤n)(h2:n≤3)(h3:e≤4611686018427387903)(h4:g≤4611686018427387903):DZ (K8 n e g)=true:=by
 simp[DZ,K8,bS,cnt,h1,h2,h3,h4,gJ,dZ,Yu,pK,zi,jM,Ca];exact⟨⟨.inl (by decide),.inl (by decide)⟩,by decide,by decide⟩
structure aho (p q:Pn)(n sure:Int)(gone:List Int)(first:Int):Prop where
 ok:gB q
 has:dM q n=true
 fst:(aL q n).first=first
 keep:∀x∈FT q,x∉gone
 Tw:∃m:Nat,m≤(jb p n sure).length∧jb q n sure=(jb p n sure).drop m∧first=(aL p n).first+m
theorem Ru {p:Pn}(h:gB p){n sure:Int}(hn:dM p n=true)(hs:0≤sure)(hpast:∀x∈p.past,x.who≠15)(hv:p.version≤1152921504606846976) :
  ∃q,ic p (K8 n (aL p n).aU (jB p n).2.1)=(q,{ bQ with at_:=(jB p n).2.2 })∧aho p q n sure (jB p n).1 (jB p n).2.2:=by
 obtain⟨g,g0,g1,g2⟩:=h.ch _ (bW hn);have hgl:=g.len;have hg3:=g.e3;have hid:∀x∈(aL p n).af,(aW p x).id=x:=fun x hx=>by
  obtain⟨l,_,e,hf⟩:=h.named (bW hn) hx;unfold aW;rw[hf];exact e
 have hG:jB p n=((aL p n).af.take (dI p (aL p n).trim (aL p n).af (aL p n).first).1,((aL p n).af.drop (dI p (aL p n).trim (aL p n).af (aL p n).first).1).headD 0,(dI p (aL p n).trim (aL p n).af (aL p n).first).2):=by
  unfold jB;rw[if_pos (qC h hn),TR hid];simp
 have hgs:=oM h (aL p n).trim (aL p n).af (aL p n).first g1 (by omega)
 rw[hG];generalize hGG:dI p (aL p n).trim (aL p n).af (aL p n).first=G at *
 obtain⟨s1,s2,s3,s4⟩:=hgs;have hle:((aL p n).af.drop G.1).headD 0≤4611686018427387903:=by
  cases hd:(aL p n).af.drop G.1 with
  |nil=>simp
  | cons x r=>
    have hx:x∈(aL p n).af:=List.mem_of_mem_drop (by rw[hd];simp);have:=Rt h (bW hn) hx;have:=h.n2;simp only[List.headD_cons];omega
 have ahp:1≤n∧n≤3∧n≤(p.channels.length:Int):=by
  have:=h.c2;simp only[dM,Bool.and_eq_true,decide_eq_true_eq] at hn;omega
 have hm:DZ (K8 n (aL p n).aU (((aL p n).af.drop G.1).headD 0))=true:=abJ ahp.1 ahp.2.1 g.e1 hle;generalize hnx:((aL p n).af.drop G.1).headD 0=nx at *;have hnd:(aL p n).af.Nodup:=by
  rw[List.nodup_iff_pairwise_ne];exact g.mq.imp fun h=>by omega
 have hsplit:=List.take_append_drop G.1 (aL p n).af;have NV:∀x,x∈(aL p n).af.drop G.1→x∉(aL p n).af.take G.1:=by
  intro x h1 h2;rw[←hsplit,List.nodup_append] at hnd;exact hnd.2.2 x h2 x h1 rfl
 obtain⟨c',hc'⟩:∃c',c'={ aL p n with af:=(aL p n).af.drop G.1,first:=G.2,seen:=[] }:=⟨_,rfl⟩;obtain⟨L',hL'⟩:∃L',L'=p.af.filter fun l=>!((aL p n).af.take G.1).contains l.id:=⟨_,rfl⟩
 have hk:tZ p (K8 n (aL p n).aU nx)=({ dV p n c' with af:=L' },{ bQ with at_:=G.2 }):=by
  unfold tZ;rw[if_neg (by show ¬n>_;omega)];unfold dG;have e8:(K8 n (aL p n).aU nx).kind=8:=rfl;simp only[e8,Int.reduceEq,if_false,if_true,↓reduceIte];unfold iK nD;have ec:(K8 n (aL p n).aU nx).channel=n:=rfl;have el:(K8 n (aL p n).aU nx).aY=nx:=rfl;have es:(K8 n (aL p n).aU nx).seen=[]:=rfl;have hnm:ku ((aL p n).af.drop G.1) nx=true:=by
   rw[←hnx];cases (aL p n).af.drop G.1 with
   |nil=>rfl
   |cons x r=>simp[ku]
  simp only[ec,el,es,hGG,hnm,List.any_nil,Bool.not_true,Bool.or_self,Bool.false_eq_true,if_false];rw[hc',hL']
 have ht:vU p.past (K8 n (aL p n).aU nx)=none:=told_none hpast;have hst:kU p (K8 n (aL p n).aU nx)=false:=by
  unfold kU;have:(aL p (K8 n (aL p n).aU nx).channel).aU=(K8 n (aL p n).aU nx).aU:=rfl;simp[this]
 have ha:ic p (K8 n (aL p n).aU nx)=doM p (K8 n (aL p n).aU nx):=by
  unfold ic;rw[h.may,hm,ht,hst];simp only[Bool.not_true,Bool.or_self,Bool.false_eq_true,if_false];rw[if_neg (by omega)]
 have hok:=AJ h (o:=K8 n (aL p n).aU nx) (Int.le_refl 0);rw[ha,vZ,hk] at hok ⊢;refine⟨_,rfl,?_⟩;generalize hpa:iJ p.past (K8 n (aL p n).aU nx) { bQ with at_:=G.2 }=pa at *;obtain⟨hi,ei⟩:=gW hn;have hhq:dM { { dV p n c' with af:=L' } with version:=bV p.version 1,past:=pa } n=true:=by
  unfold dM at hn ⊢;simpa[dV] using hn
 have hcq:aL { { dV p n c' with af:=L' } with version:=bV p.version 1,past:=pa } n=c':=by
  unfold aL dV;rw[getElem!_pos _ _ (by simpa using hi)];simp
 have hfq:∀x∈(aL p n).af.drop G.1,aW { { dV p n c' with af:=L' } with version:=bV p.version 1,past:=pa } x=aW p x:=fun x hx=>by
  unfold aW aR;rw[hL'];congr 1
  refine lI fun l _ el=>?_
  rw[el];simpa using NV x hx
 refine⟨hok,hhq,by rw[hcq,hc'],fun x hx=>?_,?_⟩
 ·unfold FT at hx;rw[if_pos hok.may] at hx;obtain⟨l,hl,e⟩:=List.mem_map.1 hx;have hl2:l∈L':=hl;rw[hL',List.mem_filter] at hl2;rw[←e];simpa using hl2.2
 have hdr:∀l∈((aL p n).af.take G.1).map (aW p),NH l:=fun l hl=>by
  obtain⟨x,_,rfl⟩:=List.mem_map.1 hl;exact h.ld x
 have htl:((aL p n).af.take G.1).length≤8:=by rw[List.length_take];omega
 obtain⟨s,t1,t2,t3,t4,t5⟩:=JR (sure:=sure) (A:=((aL p n).af.take G.1).map (aW p)) (B:=((aL p n).af.drop G.1).map (aW p)) (a:=(aL p n).first) hdr g1 (by rw[List.length_map];omega);rw[AR] at t4;have t6:=t5 fun l hl=>by
  obtain⟨x,hx,rfl⟩:=List.mem_map.1 hl;exact s4 x hx
 rw[←List.map_append,hsplit] at t3;have ea:jb p n sure=eG sure (aL p n).first ((aL p n).af.map (aW p)):=Ao (qC h hn) h.xZ
 have eb:jb { { dV p n c' with af:=L' } with version:=bV p.version 1,past:=pa } n sure=eG sure G.2 (((aL p n).af.drop G.1).map (aW p)):=by
  have:=Ao (sure:=sure) (qC hok hhq) hok.xZ;rw[hcq] at this;rw[this,hc'];congr 1
  exact List.map_congr_left hfq
 have e2:G.2=(aL p n).first+s:=by rw[s2,t4]
 refine⟨(eG sure (aL p n).first (((aL p n).af.take G.1).map (aW p))).length,?_,?_,by rw[t6];exact e2⟩
 ·rw[ea,t3,List.length_append];omega
 rw[ea,t3,eb,e2,List.drop_left]
end Go.AX
end
