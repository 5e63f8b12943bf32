/-
  Conditions: none. A framework for walks: abstract values, memory, and conditions that suffice; the chapters in plain terms.
-/
import Derived.Test.YtfoiekbkkbnpkaaGreatAe
set_option linter.unusedSectionVars false
set_option linter.unusedVariables false
set_option linter.unusedSimpArgs false
section
namespace Go.AX
def nW (x:Wt):Int×List UInt8×List Pl:=(x.n,x.body,x.from_)
structure jK (w w':Wr):Prop where
 l:w'.l=w.l
 nx:w'.next=w.next
 su:w'.sure=w.sure
 ch:w'.change=w.change
 wt:w'.waits.map nW=w.waits.map nW
theorem jK.refl (w:Wr):jK w w:=⟨rfl,rfl,rfl,rfl,rfl⟩
theorem jK.trans {a b c:Wr}(h:jK a b)(k:jK b c):jK a c:=⟨k.l.trans h.l,k.nx.trans h.nx,k.su.trans h.su,k.ch.trans h.ch,k.wt.trans h.wt⟩
theorem Gr {l G:List Wt}(h:G.map nW=l.map nW){x:Wt}(J:x∈G):∃y∈l,y.n=x.n∧y.body=x.body∧y.from_=x.from_:=by
 have:nW x∈l.map nW:=by rw[←h];exact List.mem_map.2 ⟨x,J,rfl⟩
 obtain⟨y,K,e⟩:=List.mem_map.1 this;simp only[nW,Prod.mk.injEq] at e;exact⟨y,K,e.1,e.2.1,e.2.2⟩
theorem Q6 {sure:Int}{l J:List Wt}{V:List (List UInt8)}{G:List Hp}(h:J.map nW=l.map nW)(k:qN sure l V G):qN sure J V G:=by
 have hl:J.length=l.length:=by simpa using congrArg List.length h
 refine⟨k.s0,by rw[hl];exact k.len,fun i hi=>?_,fun x Q=>?_,fun x Q p hp=>?_⟩
 ·have:(J.map nW)[i]? = (l.map nW)[i]? :=by rw[h]
  rw[List.getElem?_map,List.getElem?_map,List.getElem?_eq_getElem hi,List.getElem?_eq_getElem (by omega)] at this;have:=congrArg Prod.fst (Option.some.inj this);simp only[nW] at this;rw[this,k.num]
 ·obtain⟨y,S,K,X,_⟩:=Gr h Q;rw[←K,←X];exact k.body y S
 obtain⟨y,S,K,_,e3⟩:=Gr h Q;rw[←K];exact k.from_ y S p (by rw[e3];exact hp)
theorem vW {s:Sg}(h:nA s){w:Wr}(G:jK s.w w):nA { s with w:=w }:=by
 refine⟨?_,by rw[G.nx];exact h.nx,h.hd,h.bq,h.br,by rw[G.ch];exact h.ask,fun J=>?_,by rw[G.l];exact h.pl,fun n K Q=>?_⟩
 ·show qN w.sure w.waits s.bS s.had
  rw[G.su];exact Q6 G.wt h.wk
 ·show w.sure<s.ask.first
  rw[G.su];exact h.Vu J
 show bE (setOf s.DY w.l.w n) w.l.a (bn s.had n)=true
 rw[G.l];exact h.good n K (by rw[←G.su];exact Q)
theorem Gs (w:Wr)(is:Pl→Bool):jK w (vU w is):=⟨rfl,rfl,rfl,rfl,rfl⟩
theorem JG {s:Sg}(h:nA s){l:List Rq}(Q:∀q∈l,jw s.bS q.n q.body):nA (Q0 s l):=by
 refine⟨h.wk,h.nx,h.hd,fun m G J=>?_,fun m G J=>?_,h.ask,h.Vu,h.pl,h.good⟩
 ·rcases List.mem_append.1 G with G|G
  ·exact h.bq m G J
  obtain⟨q,K,rfl⟩:=List.mem_map.1 G;exact Q q (List.mem_of_mem_take K)
 rcases List.mem_append.1 G with G|G
 ·exact h.br m G J
 obtain⟨q,K,rfl⟩:=List.mem_map.1 G;cases J
theorem qh {w:Wr}{x:Wt}{q:Rq}(h:q∈kM w x):q.n=x.n∧q.body=x.body:=by
 obtain⟨p,G,rfl⟩:=List.mem_map.1 h;exact⟨rfl,rfl⟩
theorem ZO {s:Sg}(h:nA s){r:Rs}(hr:r.code=0→r.from_∈bn s.had r.n):nA { s with w:=jf s.w r }∧s.w.sure≤(jf s.w r).sure:=by
 have same:∀w,jK s.w w→nA { s with w:=w }∧s.w.sure≤w.sure:=fun w S=>⟨vW h S,by rw[S.su];exact Int.le_refl _⟩
 unfold jf;split
 ·exact same _ (jK.refl _)
 split
 ·rename_i hc;split
  ·exact same _ (jK.refl _)
  rename_i k X;split
  ·obtain⟨aa,K,_⟩:=List.findIdx?_eq_some_iff_getElem.1 X;have hn:s.w.waits[k].n=r.n:=by simpa using K
   have G:=h.wk;have V:qN (rq s.w r k).sure (rq s.w r k).waits s.bS s.had:=by
    unfold rq;refine⟨G.s0,by rw[List.length_modify];exact G.len,fun i hi=>?_,fun x Q=>?_,fun x Q p J=>?_⟩
    ·rw[List.getElem_modify];rw[List.length_modify] at hi;split
     ·exact G.num i hi
     exact G.num i hi
    ·obtain⟨i,hi,rfl⟩:=List.getElem_of_mem Q;rw[List.length_modify] at hi;rw[List.getElem_modify];have:=G.body _ (List.getElem_mem hi);split<;>exact this
    obtain⟨i,hi,rfl⟩:=List.getElem_of_mem Q;rw[List.length_modify] at hi;rw[List.getElem_modify] at J ⊢;have:=G.from_ _ (List.getElem_mem hi);split at J
    ·rename_i e;subst e;rw[if_pos rfl];rcases List.mem_append.1 J with J|J
     ·exact this p J
     rw[List.mem_singleton] at J;subst J;show r.from_∈bn s.had s.w.waits[k].n
     rw[hn];exact hr hc
    rename_i e;rw[if_neg e];exact this p J
   exact NJ (s:=s) (w:=rq s.w r k) V h.nx h.hd h.bq h.br h.ask h.Vu h.pl h.good
  exact same _ (jK.refl _)
 split
 ·split
  ·exact same _ ⟨rfl,rfl,rfl,rfl,rfl⟩
  exact same _ (jK.refl _)
 split
 ·exact same _ (Gs _ _)
 split
 ·exact same _ (Gs _ _)
 exact same _ (jK.refl _)
theorem ZQ {s:Sg}(h:nA s)(b:List UInt8):nA (TS s b)∧s.w.sure≤(TS s b).w.sure:=by
 unfold TS;simp only;split
 ·rename_i hc;have K:=h.wk;have S:=h.nx;unfold iC at hc ⊢;by_cases V:s.w.fenced=1
  ·rw[if_pos V] at hc;cases hc
  rw[if_neg V] at hc ⊢;by_cases X:(b.length:Int)>2048
  ·rw[if_pos X] at hc;cases hc
  rw[if_neg X] at hc ⊢;by_cases h3:s.w.next>8
  ·rw[if_pos h3] at hc;cases hc
  rw[if_neg h3];have hb:jw (s.bS++[b]) s.w.next b:=by
   refine⟨by omega,by simp only[List.length_append,List.length_singleton];omega,?_⟩;rw[S,show ((s.bS.length:Int)+1-1).toNat=s.bS.length by omega,getElem!_pos _ _ (by simp)];simp
  refine⟨JG ?_ fun q hq=>?_,Int.le_refl _⟩
  ·have hl:=K.len;refine⟨⟨K.s0,by simp only[List.length_append,List.length_singleton];omega,fun i hi=>?_,fun x G=>?_,fun x G p hp=>?_⟩,by simp only[List.length_append,List.length_singleton];omega,fun y hy=>r9 (h.hd y hy),fun m hm ha=>r9 (h.bq m hm ha),h.br,h.ask,h.Vu,h.pl,h.good⟩
   ·simp only[List.length_append,List.length_singleton] at hi;by_cases J:i<s.w.waits.length
    ·rw[List.getElem_append_left J];exact K.num i J
    have Q:i=s.w.waits.length:=by omega
    subst Q;rw[List.getElem_append_right (Nat.le_refl _)];simp only[Nat.sub_self,List.getElem_cons_zero];omega
   ·rcases List.mem_append.1 G with G|G
    ·exact r9 (K.body x G)
    rw[List.mem_singleton] at G;subst G;exact hb
   rcases List.mem_append.1 G with G|G
   ·exact K.from_ x G p hp
   rw[List.mem_singleton] at G;subst G;cases hp
  obtain⟨e1,e2⟩:=qh hq;rw[e1,e2];exact hb
 exact⟨h,Int.le_refl _⟩
theorem Jw (w:Wr)(x:Wt):jK w (Db w x):=by
 unfold Db;generalize fD w x.n=l;induction l generalizing w with
 |nil=>exact jK.refl w
 | cons y l ih=>
   rw[List.foldl_cons];split
   ·exact ih w
   exact (Gs w _).trans (ih _)
theorem VL {α:Type}{l:List α}{i:Nat}{a:α}(h:l[i]? = some a):l.set i a=l:=by
 apply List.ext_getElem?;intro j;rw[List.getElem?_set];split
 ·rename_i e;subst e;split
  ·exact h.symm
  rename_i G;rw[List.getElem?_eq_none (by omega)]
 rfl
theorem BK (now:Int):∀(l:List Nat) (st:Wr×List Rq),(∀i∈l,i<st.1.waits.length)→jK st.1 (l.foldl (mU now) st).1∧∀q∈(l.foldl (mU now) st).2,q∈st.2∨∃x∈st.1.waits,q.n=x.n∧q.body=x.body
 |[],st,_=>⟨jK.refl _,fun q G=>.inl G⟩
 | i::l,st,hi=>by
   have J:=hi i (by simp);have K:jK st.1 (if qd now st.1.waits[i]!.born 9 then Db st.1 st.1.waits[i]! else st.1):=by
    split
    ·exact Jw _ _
    exact jK.refl _
   have S:jK st.1 (mU now st i).1∧∀q∈(mU now st i).2,q∈st.2∨∃x∈st.1.waits,q.n=x.n∧q.body=x.body:=by
    unfold mU;simp only;generalize aa:(if qd now st.1.waits[i]!.born 9 then Db st.1 st.1.waits[i]! else st.1)=w at K;split
    ·refine⟨⟨K.l,K.nx,K.su,K.ch,?_⟩,fun q G=>?_⟩
     ·show (w.waits.set i _).map nW=_
      rw[←K.wt,List.map_set];have e:nW { st.1.waits[i]! with since:=now }=nW st.1.waits[i]! :=rfl;rw[e];have X:w.waits.length=st.1.waits.length:=by simpa using congrArg List.length K.wt
      have Q:(w.waits.map nW)[i]? = some (nW st.1.waits[i]!):=by
       rw[K.wt,List.getElem?_map,List.getElem?_eq_getElem J,getElem!_pos st.1.waits i J];rfl
      exact VL Q
     rcases List.mem_append.1 G with G|G
     ·exact .inl G
     obtain⟨V,Q⟩:=qh G;refine .inr ⟨st.1.waits[i]!,?_,V,Q⟩;rw[getElem!_pos st.1.waits i J];exact List.getElem_mem J
    exact⟨K,fun q G=>.inl G⟩
   rw[List.foldl_cons];have X:(mU now st i).1.waits.length=st.1.waits.length:=by simpa using congrArg List.length S.1.wt
   obtain⟨a,b⟩:=BK now l (mU now st i) fun j hj=>by rw[X];exact hi j (by simp[hj])
   refine⟨S.1.trans a,fun q G=>?_⟩;rcases b q G with G|⟨x,hx,V,Q⟩
   ·exact S.2 q G
   obtain⟨y,hy,g1,g2,_⟩:=Gr S.1.wt hx;exact .inr ⟨y,hy,by rw[V,g1],by rw[Q,g2]⟩
theorem KN {s:Sg}(h:nA s)(now:Int):nA { s with now:=now }:=⟨h.wk,h.nx,h.hd,h.bq,h.br,h.ask,h.Vu,h.pl,h.good⟩
theorem adS {s:Sg}(h:nA s)(e:Int)(known:List Pl):nA (adT s e known)∧s.w.sure≤(adT s e known).w.sure:=by
 unfold adT;simp only;unfold iy;by_cases J:s.w.fenced=1∨s.w.change.first≠0∨s.w.bad=[]
 ·rw[if_pos J];exact⟨vW h (jK.refl _),Int.le_refl _⟩
 rw[if_neg J];split
 ·exact⟨vW h ⟨rfl,rfl,rfl,rfl,rfl⟩,Int.le_refl _⟩
 have Q:s.w.change.first=0:=Classical.byContradiction fun G=>J (.inr (.inl G))
 have K:=h.pl;rw[if_neg (by rw[h.ask];exact fun G=>G.1 Q)] at K;simp only[if_true];refine⟨⟨h.wk,h.nx,h.hd,h.bq,h.br,rfl,fun _=>?_,?_,h.good⟩,Int.le_refl _⟩
 ·show s.w.sure<s.w.sure+1
  omega
 show s.DY=_
 rw[if_neg (fun G=>by have:=G.2;simp at this)];exact K
theorem ZU {s:Sg}(h:nA s):nA (TT s)∧s.w.sure≤(TT s).w.sure:=by
 unfold TT;split
 ·exact⟨h,Int.le_refl _⟩
 rename_i h1;have ha:s.ask.first≠0:=fun e=>h1 (.inl e)
 have hc:s.w.change.first≠0:=by rw[←h.ask];exact ha
 have S:s.DY=(if (s.taken==1)=true then dS s.w.l.af s.w.change else s.w.l.af):=by
  have:=h.pl;rw[h.ask] at this;rw[this];by_cases K:s.taken=1
  ·rw[if_pos ⟨hc,K⟩,if_pos (by simpa using K)]
  rw[if_neg (fun J=>K J.2),if_neg (by simpa using K)]
 have Q:=NJ (s:={ s with ask:=kT }) (w:={ s.w with l:={ s.w.l with af:=if (s.taken==1)=true then dS s.w.l.af s.w.change else s.w.l.af },change:=kT,bad:=[] })
  h.wk h.nx h.hd h.bq h.br rfl (fun J=>absurd rfl J) (by rw[if_neg (fun J=>J.1 rfl)];exact S) h.good
 unfold dP;rw[if_neg hc];have G:jK (jT s.w (s.taken==1)) { jT s.w (s.taken==1) with waits:=(jT s.w (s.taken==1)).waits.map fun x=>{ x with born:=s.now,since:=s.now } }:=⟨rfl,rfl,rfl,rfl,by rw[List.map_map];rfl⟩;have h3:=vW Q.1 G;refine⟨JG h3 fun q V=>?_,Q.2⟩;obtain⟨x,hx,V⟩:=List.mem_flatMap.1 V;obtain⟨X,e2⟩:=qh V;rw[X,e2];exact Q.1.wk.body x hx
theorem ZI {s:Sg}(h:nA s):0≤s.w.sure∧s.w.sure≤(s.bS.length:Int):=by
 have:=h.wk.len;have:=h.wk.s0;omega
def Gt (w:Wr):Sg:=⟨w,w.l.af,kT,0,0,[],[],[]⟩
theorem adU {l:Lg}{e:Int}{w:Wr}(h:Bz l e=some w):nA (Gt w):=by
 unfold Bz at h;split at h
 ·have:=Option.some.inj h;subst this;exact⟨⟨Int.le_refl 0,by simp[Gt],fun i hi=>by simp[Gt] at hi,fun x J=>by simp[Gt] at J,fun x J=>by simp[Gt] at J⟩,by simp[Gt],fun y Q=>by simp[Gt] at Q,fun m G=>by simp[Gt] at G,fun m G=>by simp[Gt] at G,rfl,fun h=>absurd rfl h,by simp[Gt,kT],fun n S K=>by simp[Gt] at K;omega⟩
 cases h
def zh (known l:List Pl):Nat:=(l.filter fun p=>!aW known p).length
theorem ad7 (known a b:List Pl):zh known (a++b)=zh known a+zh known b:=by simp[zh]
theorem nX (known:List Pl)(p:Pl)(l:List Pl):zh known (p::l)=(if aW known p then 0 else 1)+zh known l:=by
 unfold zh;rw[List.filter_cons];cases aW known p<;>simp<;>omega
theorem Ub {known:List Pl}:∀{l:List Pl} {k:Nat} (h:k<l.length) {p:Pl},aW known l[k]=false→aW known p=true→zh known (l.set k p)+1=zh known l
 | x::l,0,h,p,G,J=>by
   rw[List.set_cons_zero,nX,nX,J];simp only[List.getElem_cons_zero] at G;rw[G];simp;omega
 | x::l,k+1,h,p,G,J=>by
   rw[List.set_cons_succ,nX,nX];have:=Ub (l:=l) (k:=k) (by simpa using h) (by simpa using G) J;omega
theorem JH {known:List Pl}:∀{l:List Pl} {k:Nat} (h:k<l.length),aW known l[k]=false→zh known (l.eraseIdx k)+1=zh known l
 | x::l,0,h,G=>by
   simp only[List.getElem_cons_zero] at G;rw[List.eraseIdx_cons_zero,nX,G];simp;omega
 | x::l,k+1,h,G=>by
   rw[List.eraseIdx_cons_succ,nX,nX];have:=JH (l:=l) (k:=k) (by simpa using h) (by simpa using G);omega
theorem Tk {l:List Pl}{p:Pl}(h:p∈l):∃k,∃hk:k<l.length,uI (· == p) l=(k:Nat)∧l[k]=p:=by
 rcases lu (· == p) l with ⟨J,G⟩|⟨k,hk,J,G,K⟩
 ·obtain⟨i,hi,e⟩:=List.getElem_of_mem h;have:=G _ (List.getElem_mem hi);rw[e] at this;simp at this
 exact⟨k,hk,J,by simpa using G⟩
theorem BX {k node:Int}{l:List Pl}:∀{i:Nat},i≤l.length→(qb k node l i=true↔∃j,∃Q:j<l.length,j<i∧(j:Int)≠k∧l[j].node=node)
 |0,_=>by simp[qb]
 | i+1,h=>by
   rw[C8 k node l i (by omega),Bool.or_eq_true,BX (by omega)];constructor
   ·rintro (⟨j,Q,G,J,K⟩|G)
    ·exact⟨j,Q,by omega,J,K⟩
    simp only[Bool.and_eq_true,bne_iff_ne,ne_eq,beq_iff_eq] at G;exact⟨i,by omega,by omega,G.1,G.2⟩
   rintro⟨j,Q,G,J,K⟩
   by_cases e:j=i
   ·subst e;refine .inr ?_;simp[J,K]
   exact .inl ⟨j,Q,by omega,J,K⟩
theorem Bw {f g:Fr}{old p:Pl}(h:l5 f old p=some g)(X:(f.ah.map (·.node)).Nodup):∃k,∃hk:k<f.ah.length,f.ah[k]=old∧g=⟨f.first,f.ah.set k p⟩∧(g.ah.map (·.node)).Nodup:=by
 unfold l5 at h;split at h
 ·cases h
 rename_i hc;split at h
 ·cases h
 rename_i hi;rcases lu (· == old) f.ah with ⟨Q,_⟩|⟨k,hk,Q,h2,_⟩
 ·rw[Q] at hi;exact absurd (by decide) hi
 rw[Q] at h hc;have:=Option.some.inj h;subst this;refine⟨k,hk,by simpa using h2,by simp,?_⟩;simp only[Int.toNat_natCast];rw[BX (Nat.le_refl _)] at hc;rw[List.nodup_iff_pairwise_ne,List.pairwise_iff_getElem] at X ⊢;intro i j G J S;simp only[List.length_map,List.length_set] at G J;have V:=X i j (by simpa using G) (by simpa using J) S;simp only[List.getElem_map] at V ⊢;rw[List.getElem_set,List.getElem_set];split
 ·rename_i e;subst e;rw[if_neg (by omega)];intro K;exact hc ⟨j,J,J,by omega,K.symm⟩
 split
 ·rename_i e;subst e;intro K;exact hc ⟨i,G,G,by omega,K⟩
 exact V
theorem Jb {f:Fr}{old p:Pl}(h:l5 f old p=none){k:Nat}(hk:k<f.ah.length)(G:f.ah[k]=old)(V:(f.ah.map (·.node)).Nodup):∃j,∃hj:j<f.ah.length,j≠k∧f.ah[j].node=p.node:=by
 obtain⟨Q,K,e1,e2⟩:=Tk (l:=f.ah) (p:=old) (by rw[←G];exact List.getElem_mem hk);have S:Q=k:=by
  have X:f.ah[Q].node=f.ah[k].node:=by rw[e2,G]
  rw[List.nodup_iff_pairwise_ne,List.pairwise_iff_getElem] at V;rcases Nat.lt_trichotomy Q k with J|J|J
  ·have:=V Q k (by simpa using K) (by simpa using hk) J;simp only[List.getElem_map] at this;exact absurd X this
  ·exact J
  have:=V k Q (by simpa using hk) (by simpa using K) J;simp only[List.getElem_map] at this;exact absurd X.symm this
 subst S;unfold l5 at h;rw[e1] at h;split at h
 ·rename_i hc;rw[BX (Nat.le_refl _)] at hc;obtain⟨j,hj,_,h2,J⟩:=hc;exact⟨j,hj,by omega,J⟩
 split at h
 ·rename_i hi;omega
 cases h
theorem Ee {f:Fr}{old:Pl}:∀{G:List Pl},(iF f old G).2=true→∃p∈G,l5 f old p=some (iF f old G).1
 |[],h=>by cases h
 | p::r,h=>by
   unfold iF at h ⊢;cases hs:l5 f old p with
   |some g=>exact⟨p,by simp,by simp[hs]⟩
   | none=>
     rw[hs] at h;simp only at h ⊢;obtain⟨q,J,e⟩:=Ee h;exact⟨q,by simp[J],e⟩
theorem Ef {f:Fr}{old:Pl}:∀{J:List Pl},(iF f old J).2=false→(iF f old J).1=f∧∀p∈J,l5 f old p=none
 |[],h=>⟨rfl,fun p K=>by cases K⟩
 | p::r,h=>by
   unfold iF at h ⊢;cases hs:l5 f old p with
   |some g=>rw[hs] at h;cases h
   | none=>
     rw[hs] at h;simp only at h ⊢;obtain⟨a,b⟩:=Ef h;refine⟨a,fun q G=>?_⟩;rcases List.mem_cons.1 G with rfl|G
     ·exact hs
     exact b q G
theorem gZ {l:List Pl}{p:Pl}:aW l p=true↔p∈l:=by simp[aW]
section
variable {w:Int}{bad known:List Pl}(hk:(known.map (·.node)).Nodup)(zX:w≤(known.length:Int))(hbad:∀p,aW bad p=true→aW known p=false)
structure R1 (w:Int)(bad known f0:List Pl)(st:Fr×List Pl×Bool)(todo:List Pl):Prop where
 nd:(st.1.ah.map (·.node)).Nodup
 len:st.1.ah.length=f0.length
 mem:∀p∈st.1.ah,p∈known∨p∈f0
 todo:∀y∈todo,y∈st.1.ah∧y∉st.2.1
 left:∀y∈st.2.1,y∈st.1.ah∧aW bad y=true
 un:zh known st.1.ah≤zh known f0
 un2:st.2.2=true→zh known st.1.ah<zh known f0
 full:st.2.1≠[]→w<(f0.length:Int)
include hk zX hbad
theorem MN {f0:List Pl}{st:Fr×List Pl×Bool}{old:Pl}{todo:List Pl}(h:R1 w bad known f0 st (old::todo))(hn:old∉todo) :
  R1 w bad known f0 (xA bad (fit bad known) st old) todo∧(aW bad old=true→(xA bad (fit bad known) st old).2.2=true∨(xA bad (fit bad known) st old).2.1≠[]) ∧
  (st.2.2=true→(xA bad (fit bad known) st old).2.2=true)∧(st.2.1≠[]→(xA bad (fit bad known) st old).2.1≠[]):=by
 have J:=h.todo old (by simp);by_cases hb:aW bad old=true
 ·have V:bad.any (· == old)=true:=hb;unfold xA;rw[if_pos V];cases hr:(iF st.1 old (fit bad known)).2 with
  | true=>
    rw[if_pos rfl];obtain⟨p,X,hs⟩:=Ee hr;obtain⟨k,K,e1,e2,e3⟩:=Bw hs h.nd;have ae:p∈known:=(List.mem_filter.1 X).1;rw[e2] at e3;simp only[e2];have hu:=Ub (known:=known) K (p:=p) (by rw[e1];exact hbad old hb) (gZ.2 ae);have S:∀y,y≠old→y∈st.1.ah→y∈st.1.ah.set k p:=fun y G Q=>by
     obtain⟨j,hj,rfl⟩:=List.getElem_of_mem Q;rw[List.mem_iff_getElem];refine⟨j,by simpa using hj,?_⟩;rw[List.getElem_set_ne];intro e;subst e;exact G e1
    have al:=h.un;have ad:zh known (st.1.ah.set k p)<zh known f0:=by omega
    refine⟨⟨e3,by simp[h.len],fun q hq=>?_,fun y G=>?_,fun y G=>?_,Nat.le_of_lt ad,fun _=>ad,h.full⟩,fun _=>.inl trivial,fun _=>trivial,fun g=>g⟩
    ·rcases List.mem_or_eq_of_mem_set hq with hq|hq
     ·exact h.mem q hq
     exact .inl (hq▸ae)
    ·have:=h.todo y (by simp[G]);exact⟨S y (fun e=>hn (e▸G)) this.1,this.2⟩
    have:=h.left y G;exact⟨S y (fun e=>J.2 (e▸G)) this.1,this.2⟩
  | false=>
    rw[if_neg (by simp)];obtain⟨e1,e2⟩:=Ef hr;rw[e1];obtain⟨k,K,e3⟩:=List.getElem_of_mem J.1;have aa:∀p∈known,∃j,∃hj:j<st.1.ah.length,j≠k∧st.1.ah[j].node=p.node:=fun p X=>by
     refine Jb (e2 p (List.mem_filter.2 ⟨X,?_⟩)) K e3 h.nd;cases ag:bad.any (· == p) with
     |false=>rfl
     | true=>
       have:=hbad p ag;rw[gZ.2 X] at this;cases this
    have ak:known.length<st.1.ah.length:=by
     have af:∀x∈known.map (·.node),x∈(st.1.ah.eraseIdx k).map (·.node):=fun x hx=>by
      obtain⟨p,X,rfl⟩:=List.mem_map.1 hx;obtain⟨j,hj,ai,e⟩:=aa p X;refine List.mem_map.2 ⟨st.1.ah[j],?_,e⟩;rw[List.mem_eraseIdx_iff_getElem];exact⟨j,hj,ai,rfl⟩
     have:=hk.length_le_of_subset af;rw[List.length_map,List.length_map,List.length_eraseIdx,if_pos K] at this;omega
    have hL:=h.len;refine⟨⟨h.nd,h.len,h.mem,fun y G=>?_,fun y G=>?_,h.un,h.un2,fun _=>by omega⟩,fun _=>.inr (by simp),fun g=>g,fun _=>by simp⟩
    ·have:=h.todo y (by simp[G]);refine⟨this.1,fun Q=>?_⟩;rcases List.mem_append.1 Q with Q|Q
     ·exact this.2 Q
     rw[List.mem_singleton] at Q;exact hn (Q▸G)
    rcases List.mem_append.1 G with G|G
    ·exact h.left y G
    rw[List.mem_singleton] at G;subst G;exact⟨J.1,hb⟩
 have V:¬bad.any (· == old)=true:=hb;unfold xA;rw[if_neg V];exact⟨⟨h.nd,h.len,h.mem,fun y G=>h.todo y (by simp[G]),h.left,h.un,h.un2,h.full⟩,fun g=>absurd g hb,fun g=>g,fun g=>g⟩
theorem NK {f0:List Pl}:∀{todo:List Pl} {st:Fr×List Pl×Bool},R1 w bad known f0 st todo→todo.Nodup →
  R1 w bad known f0 (todo.foldl (xA bad (fit bad known)) st) []∧((∃y∈todo,aW bad y=true)∨st.2.2=true∨st.2.1≠[]→(todo.foldl (xA bad (fit bad known)) st).2.2=true∨(todo.foldl (xA bad (fit bad known)) st).2.1≠[])
 | [],st,h,_=>⟨h,fun g=>by
   rcases g with ⟨y,Q,_⟩|g
   ·cases Q
   exact g⟩
 | old::todo,st,h,G=>by
   rw[List.nodup_cons] at G;obtain⟨a,b,c,d⟩:=MN hk zX hbad h G.1;obtain⟨x,y⟩:=NK a G.2;rw[List.foldl_cons];refine⟨x,fun g=>y ?_⟩;rcases g with ⟨z,K,J⟩|g|g
   ·rcases List.mem_cons.1 K with rfl|K
    ·exact .inr (b J)
    exact .inl ⟨z,K,J⟩
   ·exact .inr (.inl (c g))
   exact .inr (.inr (d g))
structure R2 (w:Int)(known f0:List Pl)(st:List Pl×Bool):Prop where
 nd:(st.1.map (·.node)).Nodup
 lo:w≤(st.1.length:Int)
 hi:st.1.length≤f0.length
 mem:∀p∈st.1,p∈known∨p∈f0
 un:zh known st.1≤zh known f0
 un2:st.2=true→zh known st.1<zh known f0
theorem NM {f0:List Pl}{st:List Pl×Bool}{old:Pl}(h:R2 w known f0 st)(ho:aW bad old=true):R2 w known f0 (DX w st old)∧(st.2=true→(DX w st old).2=true)∧(w<(st.1.length:Int)→old∈st.1→(DX w st old).2=true):=by
 unfold DX;split
 ·rename_i hc;simp only[Bool.and_eq_true,decide_eq_true_eq] at hc;have hm:old∈st.1:=by
   rcases lu (· == old) st.1 with ⟨h1,_⟩|⟨k,G,_,h2,_⟩
   ·rw[h1] at hc;omega
   have:st.1[k]=old:=by simpa using h2
   rw[←this];exact List.getElem_mem G
  obtain⟨k,G,S,V⟩:=Tk hm;rw[S];simp only[Int.toNat_natCast];have hu:=JH (known:=known) G (by rw[V];exact hbad old ho);have ad:=h.un;have X:(st.1.eraseIdx k).length=st.1.length-1:=by rw[List.length_eraseIdx,if_pos G]
  have aa:=h.hi;have Q:zh known (st.1.eraseIdx k)<zh known f0:=by omega
  have K:w≤((st.1.eraseIdx k).length:Int):=by rw[X];omega
  have J:(st.1.eraseIdx k).length≤f0.length:=by rw[X];omega
  refine⟨⟨?_,K,J,fun p hp=>h.mem p (List.mem_of_mem_eraseIdx hp),Nat.le_of_lt Q,fun _=>Q⟩,fun _=>trivial,fun _ _=>trivial⟩;exact h.nd.sublist ((List.eraseIdx_sublist _ _).map _)
 rename_i hc;refine⟨h,fun g=>g,fun g1 g2=>?_⟩;obtain⟨k,G,S,V⟩:=Tk g2;exfalso;apply hc;rw[S];simp only[Bool.and_eq_true,decide_eq_true_eq];omega
theorem Gu {f0:List Pl}:∀{l:List Pl} {st:List Pl×Bool},R2 w known f0 st→(∀y∈l,aW bad y=true)→R2 w known f0 (l.foldl (DX w) st)∧(st.2=true→(l.foldl (DX w) st).2=true)
 |[],st,h,_=>⟨h,fun g=>g⟩
 | old::l,st,h,G=>by
   obtain⟨a,b,_⟩:=NM hk zX hbad h (G old (by simp));obtain⟨x,y⟩:=Gu (l:=l) a fun y J=>G y (by simp[J])
   rw[List.foldl_cons];exact⟨x,fun g=>y (b g)⟩
structure R3 (known f0 b0:List Pl)(b:List Pl):Prop where
 nd:(b.map (·.node)).Nodup
 lo:b0.length≤b.length
 hi:b.length≤5
 mem:∀p∈b,p∈known∨p∈f0
 un:zh known b=zh known b0
omit hk zX hbad in
theorem NP {f0 Q:List Pl}:∀{l:List Pl} {b:List Pl},R3 known f0 Q b→(∀y∈l,y∈known)→R3 known f0 Q (l.foldl (FB 5) b)
 |[],b,h,_=>h
 | p::l,b,h,S=>by
   rw[List.foldl_cons];refine NP ?_ fun y K=>S y (by simp[K])
   have J:=S p (by simp);have V:(if (5:Int)<5 then (5:Int) else 5)=5:=by decide
   unfold FB;rw[V];by_cases hc:(decide ((b.length:Int)<5) && !(b.any fun y=>y.node==p.node))=true
   ·rw[if_pos hc];simp only[Bool.and_eq_true,decide_eq_true_eq,Bool.not_eq_true',List.any_eq_false,beq_iff_eq] at hc;have X:=h.lo;refine⟨?_,by simp only[List.length_append,List.length_singleton];omega,by simp only[List.length_append,List.length_singleton];omega,fun q G=>?_,?_⟩
    ·rw[List.map_append,List.nodup_append];refine⟨h.nd,by simp,fun x hx y K=>?_⟩;obtain⟨q,G,rfl⟩:=List.mem_map.1 hx;simp only[List.map_cons,List.map_nil,List.mem_singleton] at K;subst K;exact hc.2 q G
    ·rcases List.mem_append.1 G with G|G
     ·exact h.mem q G
     rw[List.mem_singleton] at G;exact .inl (G▸J)
    rw[ad7,h.un,nX,gZ.2 J];simp[zh]
   rw[if_neg hc];exact h
theorem YT {f:Fr}(X:(f.ah.map (·.node)).Nodup)(h1:w≤(f.ah.length:Int))(h2:f.ah.length≤5)(hex:∃p∈f.ah,aW bad p=true) :
  (fC f w 5 bad known).2=true∧((fC f w 5 bad known).1.ah.map (·.node)).Nodup∧w≤((fC f w 5 bad known).1.ah.length:Int)∧(fC f w 5 bad known).1.ah.length≤5 ∧
  (∀p∈(fC f w 5 bad known).1.ah,p∈known∨p∈f.ah)∧zh known (fC f w 5 bad known).1.ah<zh known f.ah:=by
 have aa:f.ah.Nodup:=by
  rw[List.nodup_iff_pairwise_ne] at X ⊢;rw[List.pairwise_map] at X;exact X.imp fun h e=>h (by rw[e])
 obtain⟨K,r2⟩:=NK hk zX hbad (f0:=f.ah) (todo:=f.ah) (st:=(f,[],false)) ⟨X,rfl,fun p hp=>.inr hp,fun y J=>⟨J,by simp⟩,fun y J=>(by simp at J),Nat.le_refl _,fun h=>(by cases h),fun h=>absurd rfl h⟩ aa;have r2:=r2 (.inl hex);have S:(fZ f bad (fit bad known)).1.ah.length=f.ah.length:=K.len;have hS:R2 w known f.ah ((fZ f bad (fit bad known)).1.ah,(fZ f bad (fit bad known)).2.2):=⟨K.nd,by show w≤((fZ f bad (fit bad known)).1.ah.length:Int);rw[S];exact h1,Nat.le_of_eq S,K.mem,K.un,K.un2⟩;have Q:(nT w (fZ f bad (fit bad known))).2=true∧R2 w known f.ah (nT w (fZ f bad (fit bad known))):=by
  have hl:∀y∈(fZ f bad (fit bad known)).2.1,aW bad y=true:=fun y J=>(K.left y J).2
  unfold nT;obtain⟨a,b⟩:=Gu hk zX hbad hS hl;refine⟨?_,a⟩;rcases r2 with g|g
  ·exact b g
  cases V:(fZ f bad (fit bad known)).2.1 with
  |nil=>exact absurd V g
  | cons old rest=>
    have ho:old∈(fZ f bad (fit bad known)).2.1:=by rw[V];simp
    have af:=K.len;obtain⟨x,y,z⟩:=NM hk zX hbad hS (hl old ho);have hz:=z (by have:=K.full g;show w<((fZ f bad (fit bad known)).1.ah.length:Int);rw[S];exact this) (K.left old ho).1;rw[List.foldl_cons];exact (Gu hk zX hbad x fun y J=>hl y (by rw[V];simp[J])).2 hz
 have hR:R3 known f.ah (nT w (fZ f bad (fit bad known))).1 (nT w (fZ f bad (fit bad known))).1:=⟨Q.2.nd,Nat.le_refl _,by have:=Q.2.hi;omega,Q.2.mem,rfl⟩;have G:=NP (l:=fit bad known) hR fun y J=>(List.mem_filter.1 J).1
 unfold fC;rw[if_pos Q.1];have:=Q.2.un2 Q.1;have ag:=Q.2.lo;have ae:zh known ((fit bad known).foldl (FB 5) (nT w (fZ f bad (fit bad known))).1)<zh known f.ah:=by rw[G.un];exact this
 have ad:w≤(((fit bad known).foldl (FB 5) (nT w (fZ f bad (fit bad known))).1).length:Int):=by have:=G.lo;omega
 exact⟨rfl,G.nd,ad,G.hi,G.mem,ae⟩
end
structure GoW (m:Int)(w:Wr):Prop where
 Dp:w.fenced=0
 Vu:w.change.first=0
 s0:0≤w.sure
 len:w.sure+w.waits.length=m
 num:∀i (h:i<w.waits.length),w.waits[i].n=w.sure+1+i
 a1:1≤w.l.a
 aw:w.l.a≤w.l.w
 fr:dh w.l.w w.l.af=true
 last:(aL w.l.af).first≤w.sure+1
 head:∀x,w.waits.head? = some x→bE (fD w x.n) w.l.a x.from_=false
structure sF (w w':Wr):Prop where
 l:w'.l=w.l
 bad:w'.bad=w.bad
 ep:w'.ak=w.ak
 su:w.sure≤w'.sure
 wt:∀x'∈w'.waits,∃x∈w.waits,x'.n=x.n∧x'.born=x.born∧x'.since=x.since∧x'.body=x.body∧∀p∈x.from_,p∈x'.from_
theorem sF.refl (w:Wr):sF w w:=⟨rfl,rfl,rfl,Int.le_refl _,fun x G=>⟨x,G,rfl,rfl,rfl,rfl,fun _ h=>h⟩⟩
theorem sF.trans {a b c:Wr}(h:sF a b)(k:sF b c):sF a c:=by
 refine⟨k.l.trans h.l,k.bad.trans h.bad,k.ep.trans h.ep,Int.le_trans h.su k.su,fun x hx=>?_⟩;obtain⟨y,hy,G,J,K,Q,S⟩:=k.wt x hx;obtain⟨z,hz,V,X,g3,g4,g5⟩:=h.wt y hy;exact⟨z,hz,G.trans V,J.trans X,K.trans g3,Q.trans g4,fun p hp=>S p (g5 p hp)⟩
end Go.AX
end
section
namespace Go.AX
end Go.AX
end
section
namespace Go.AX
theorem xQ (x:Rv)(now:Int):(aZ x now).1.af=x.af:=by
 unfold aZ;split
 ·exact iN _ _ _
 rfl
def Rv.z:List AV:=[.pv (uu 0),.pv (ii 0),.pv (ii 0),.pv gB,.pv (ii 0),.pv (uu 0),.pv (uu 0),.pv (ii 0),.pv gB,.pv (uu 0),.pv (uu 0),.pv gB,.pv gB,.pv gB,.pv gB,.pv gB,.pv (uu 0),.pv (uu 0)]
theorem C9 (is:Pl→Bool)(p:Pl):∀(l b:List Pl),b.any (· == p)=true→(aB is b l).any (· == p)=true
 |[],b,h=>h
 | q::r,b,h=>by
   rw[aB];refine C9 is p r _ ?_;split
   ·rw[List.any_append,h,Bool.true_or]
   exact h
theorem yJ (is:Pl→Bool)(p:Pl)(hp:is p=true):∀(l b:List Pl),p∈l→(aB is b l).any (· == p)=true
 |[],b,h=>by cases h
 | q::r,b,h=>by
   rw[aB];by_cases e:p=q
   ·subst e;refine C9 is p r _ ?_;cases G:b.any (· == p) with
    |true=>rw[if_neg (by simp)];exact G
    |false=>rw[if_pos (by simp[hp]),List.any_append];simp
   exact yJ is p hp r _ ((List.mem_cons.1 h).resolve_left e)
theorem Da (is:Pl→Bool):∀(l b:List Pl),(∀p∈l,is p=true→b.any (· == p)=true)→aB is b l=b
 |[],b,h=>rfl
 | q::r,b,h=>by
   rw[aB];have J:¬(is q && !b.any (· == q))=true:=by
    intro hc;simp only[Bool.and_eq_true] at hc;have:=h q (List.mem_cons_self ..) hc.1;rw[this] at hc;exact absurd hc.2 (by simp)
   rw[if_neg J];exact Da is r b fun p G=>h p (List.mem_cons_of_mem _ G)
theorem KL (is:Pl→Bool)(l b:List Pl):aB is (aB is b l) l=aB is b l:=
 Da is l _ fun p G hi=>yJ is p hi l b G
section
variable {y:Rv}{now:Int}{r:Rs}
theorem tw4 (h:y.phase=4):bJ y now r=(y,[]):=by
 have J:(y.phase==2)=false:=by rw[h];rfl
 have K:(y.phase==3)=false:=by rw[h];rfl
 have G:decide (y.phase<4)=false:=by rw[h];rfl
 simp only[bJ,lm,J,K,G,Bool.and_false,Bool.false_and,Bool.false_eq_true,↓reduceIte,ite_self]
theorem twF (K:y.heard.any (· == r.from_)=true)(J:(r.kind==2)=true):bJ y now r=(y,[]):=by
 have S:=gK J (show (2:Int)≠3 by decide);have Q:=gK J (show (2:Int)≠1 by decide);have e:fQ y now r=(y,[]):=by
  cases G:(aS y).ah.any (· == r.from_) with
  |false=>exact yO G
  |true=>exact yP G K
 simp only[bJ,e,S,Q,Bool.false_and,Bool.false_eq_true,↓reduceIte,ite_self]
theorem twN (J:(r.kind==2)=false)(G:(r.n==y.n)=false):bJ y now r=(y,[]):=by
 simp only[bJ,J,G,Bool.and_false,Bool.false_and,Bool.false_eq_true,↓reduceIte,ite_self]
theorem twG (K:(r.kind==2)=false)(Q:(r.kind==3)=true)(p:(y.phase==3)=false)(G:(r.code==0)=false)(h:y.none.any (· == r.from_)=true):bJ y now r=(y,[]):=by
 have J:=gK Q (show (3:Int)≠1 by decide);simp only[bJ,lm,K,J,p,G,h,Bool.not_true,Bool.and_false,Bool.false_and,Bool.false_eq_true,↓reduceIte,ite_self]
theorem twH (J:(r.kind==2)=false)(K:(r.kind==3)=true)(p:(y.phase==2)=false)(h:y.has.any (· == r.from_)=true):bJ y now r=(y,[]):=by
 have G:=gK K (show (3:Int)≠1 by decide);have e:je y now r.from_=(y,[]):=Gb h;simp only[bJ,lm,e,J,G,p,Bool.and_false,Bool.false_and,Bool.false_eq_true,↓reduceIte,ite_self]
theorem tw1 (G:(r.kind==2)=false)(J:(r.kind==3)=false)(h:fI y now r=(y,[])):bJ y now r=(y,[]):=by
 simp only[bJ,h,G,J,Bool.and_false,Bool.false_and,Bool.false_eq_true,↓reduceIte,ite_self]
end
structure RBase (l:Lg)(k:Nat)(x:Rv):Prop where
 hl:x.l=l
 su:0≤x.sure∧x.sure≤8
 he:x.heard.length≤k
 fl:x.af.length≤6
 fr:∀f∈x.af,0≤f.first∧f.first≤9∧f.ah.length≤5
 bs:gU x.born∧gU x.since
structure RInv (l:Lg)(k:Nat)(x:Rv):Prop extends RBase l k x where
 ph:x.phase=1∨x.phase=2∨x.phase=3∨x.phase=4
 n0:0≤x.n∧x.n≤9
 n1:x.phase=1→x.n=0
 n3:x.phase=2∨x.phase=3→x.n≤8
 no:x.none.length≤k
 ha:x.has.length≤k+1
 ba:x.bad.length≤5*k
 bo:x.body.length≤5000
theorem RBase.up {l:Lg}{k:Nat}{x:Rv}(h:RBase l k x):RBase l (k+1) x:=⟨h.hl,h.su,Nat.le_succ_of_le h.he,h.fl,h.fr,h.bs⟩
theorem RInv.up {l:Lg}{k:Nat}{x:Rv}(h:RInv l k x):RInv l (k+1) x:=
 ⟨h.toRBase.up,h.ph,h.n0,h.n1,h.n3,Nat.le_succ_of_le h.no,Nat.le_succ_of_le h.ha,by have:=h.ba;omega,h.bo⟩
theorem Ai {l:Lg}{k:Nat}{y:Rv}(h:RBase l k y){n now:Int}(K:1≤n∧n≤9)(J:gU now):RInv l k (bB y n now).1:=by
 unfold bB;dsimp only
 split
 ·rename_i G;simp only[decide_eq_true_eq] at G;exact⟨⟨h.hl,h.su,h.he,h.fl,h.fr,h.bs⟩,.inr (.inr (.inr rfl)),⟨by show 0≤n;omega,K.2⟩,fun e=>absurd e (by show ¬(4:Int)=1;decide),
   fun e=>(by
    rcases e with e|e
    ·exact absurd e (by show ¬(4:Int)=2;decide)
    exact absurd e (by show ¬(4:Int)=3;decide)),Nat.zero_le _,Nat.zero_le _,Nat.zero_le _,Nat.zero_le _⟩
 rename_i G;simp only[decide_eq_true_eq] at G;exact⟨⟨h.hl,h.su,h.he,h.fl,h.fr,⟨J,J⟩⟩,.inr (.inl rfl),⟨by show 0≤n;omega,K.2⟩,fun e=>absurd e (by show ¬(2:Int)=1;decide),
  fun _=>(by show n≤8;omega),Nat.zero_le _,Nat.zero_le _,Nat.zero_le _,Nat.zero_le _⟩
theorem yH (y:Rv)(n now:Int):(bB y n now).1.n=n:=by unfold bB;dsimp only;split<;>rfl
theorem BH (y:Rv)(n now:Int):(bB y n now).1.sure=y.sure:=by unfold bB;dsimp only;split<;>rfl
structure BI (l:Lg)(k:Nat)(x:Rv)(now:Int)(r:Rs)(R:Rv×List Rq):Prop where
 inv:RInv l (k+1) R.1
 n:x.n≤R.1.n
 sure:x.sure≤R.1.sure
 same:x.phase=4→R.1=x
 xN:bJ R.1 now r=(R.1,[])
section
variable {l:Lg}{k:Nat}{x:Rv}{now:Int}{r:Rs}
theorem ok0 (h:RInv l k x)(e:bJ x now r=(x,[])):BI l k x now r (x,[]):=⟨h.up,Int.le_refl _,Int.le_refl _,fun _=>rfl,e⟩
theorem Aj (b:List Pl)(p:Pl):(b++[p]).any (· == p)=true:=by rw[List.any_append];simp
theorem adL (Q:dN l=true)(h:RInv l k x)(cO:gU now)(hr:0≤r.sure)(hb:r.body.length≤5000):BI l k x now r (bJ x now r):=by
 have ag:∀(f0:Fr),aS x=f0→f0.first≤9:=by
  intro f0 ao;subst ao;simp only[dN,Bool.and_eq_true,dA,decide_eq_true_eq] at Q;obtain⟨⟨a1,a2⟩,⟨a3,a4⟩,a5,a6,⟨a7,a8⟩,a9⟩:=Q;obtain⟨b1,b2,b3,b4⟩:=(j5 _ _).1 a6;rw[←h.hl] at b1;have hm:=rX (x:=x) (by omega);obtain⟨j,hj,e⟩:=List.getElem_of_mem hm;rw[←e];have ap:j<l.af.length:=by rw[←h.hl];exact hj
  have:=b4 j ap;have e2:x.l.af[j]=l.af[j]:=by simp only[h.hl]
  rw[e2];exact this.1
 have hy:RBase l (k+1) { x with heard:=x.heard++[r.from_],sure:=min (max x.sure r.sure) 8 }:=
  ⟨h.hl,by show 0≤min (max x.sure r.sure) 8∧min (max x.sure r.sure) 8≤8;have:=h.su;omega,by show (x.heard++[r.from_]).length≤k+1;rw[List.length_append];have:=h.he;simp;omega,h.fl,h.fr,h.bs⟩
 cases g1:(r.bI != x.l.id) with
 | true=>
   have e:bJ x now r=(x,[]):=by simp only[bJ,g1,Bool.true_or,↓reduceIte]
   rw[e];exact ok0 h e
 |false=>
 cases g2:(r.ak != x.ak) with
 | true=>
   have e:bJ x now r=(x,[]):=by simp only[bJ,g1,g2,Bool.or_true,↓reduceIte]
   rw[e];exact ok0 h e
 |false=>
 cases J:(r.kind==2) with
 | true=>
   have k3:=gK J (show (2:Int)≠3 by decide);have k1:=gK J (show (2:Int)≠1 by decide);cases S:(r.code==0&&decide (x.phase<4)) with
   | false=>
     have e:bJ x now r=(x,[]):=by simp only[bJ,g1,g2,J,k3,k1,S,Bool.or_self,Bool.true_and,Bool.false_and,Bool.false_eq_true,↓reduceIte]
     rw[e];exact ok0 h e
   | true=>
     have V:bJ x now r=fQ x now r:=by simp only[bJ,g1,g2,J,S,Bool.or_self,Bool.and_self,Bool.false_eq_true,↓reduceIte]
     have K:x.phase≠4:=by
      simp only[Bool.and_eq_true,decide_eq_true_eq] at S;omega
     cases h1:(aS x).ah.any (· == r.from_) with
     |false=>have e:=V.trans (yO h1);rw[e];exact ok0 h e
     |true=>
     cases h2:x.heard.any (· == r.from_) with
     |true=>have e:=V.trans (yP h1 h2);rw[e];exact ok0 h e
     |false=>
     have TA:BI l k x now r ({ x with heard:=x.heard++[r.from_],sure:=min (max x.sure r.sure) 8 },[])∧BI l k x now r ({ x with heard:=x.heard++[r.from_],sure:=min (max x.sure r.sure) 8 },[jB x r.from_]):=by
      have hi:RInv l (k+1) { x with heard:=x.heard++[r.from_],sure:=min (max x.sure r.sure) 8 }:=
       ⟨hy,h.ph,h.n0,h.n1,h.n3,Nat.le_succ_of_le h.no,Nat.le_succ_of_le h.ha,by have:=h.ba;show x.bad.length≤_;omega,h.bo⟩
      have hs:x.sure≤min (max x.sure r.sure) 8:=by have:=h.su;omega
      have ht:∀q,bJ ({ x with heard:=x.heard++[r.from_],sure:=min (max x.sure r.sure) 8 },q).1 now r=(({ x with heard:=x.heard++[r.from_],sure:=min (max x.sure r.sure) 8 },q).1,[]):=fun q:List Rq=>twF (Aj _ _) J
      exact⟨⟨hi,Int.le_refl _,hs,fun e=>absurd e K,ht []⟩,⟨hi,Int.le_refl _,hs,fun e=>absurd e K,ht []⟩⟩
     cases p1:(x.phase==1) with
     | true=>
       have p2:=gK p1 (show (1:Int)≠2 by decide);cases h3:eu (aS x) x.l.w x.l.a (x.heard++[r.from_]) with
       |false=>rw[V.trans (Jt h1 h2 p1 p2 h3)];exact TA.1
       | true=>
         rw[V.trans (Ju h1 h2 p1 h3)];have aq:=ag _ rfl;have ar:x.n=0:=h.n1 (by simpa using p1);have tZ:=h.su;refine⟨Ai hy ⟨by omega,by omega⟩ cO,?_,?_,fun e=>absurd e K,?_⟩
         ·rw[yH];omega
         ·rw[BH];show x.sure≤min (max x.sure r.sure) 8;omega
         refine twF ?_ J;rw[iB];exact Aj _ _
     |false=>
     cases p2:(x.phase==2) with
     |false=>rw[V.trans (Jq h1 h2 p1 p2)];exact TA.1
     |true=>
     cases h3:(aC x).any (· == r.from_) with
     |false=>rw[V.trans (Jr h1 h2 p1 p2 h3)];exact TA.1
     |true=>rw[V.trans (Js h1 h2 p1 p2 h3)];exact TA.2
 |false=>
 have ai:∀(X:x.phase=3) (am:(r.n==x.n)=true) (tw:∀y:Rv,y.phase=3→y.n=x.n→y.has.any (· == r.from_)=true→bJ y now r=(y,[])),BI l k x now r (je x now r.from_):=by
  intro X am tw;have K:x.phase≠4:=by omega
  have aa:=h.n3 (.inr X);cases hh:x.has.any (· == r.from_) with
  |true=>rw[Gb hh];exact ok0 h (tw x X rfl hh)
  |false=>
  have G:RBase l (k+1) { x with has:=x.has++[r.from_] }:=⟨h.hl,h.su,Nat.le_succ_of_le h.he,h.fl,h.fr,h.bs⟩;cases yD:bE (aj x) x.l.a (x.has++[r.from_]) with
  | false=>
    rw[QE hh yD];refine⟨⟨G,h.ph,h.n0,h.n1,h.n3,Nat.le_succ_of_le h.no,?_,by have:=h.ba;show x.bad.length≤_;omega,h.bo⟩,Int.le_refl _,Int.le_refl _,fun e=>absurd e K,tw _ X rfl (Aj _ _)⟩;show (x.has++[r.from_]).length≤_
    rw[List.length_append];have:=h.ha;simp;omega
  | true=>
    rw[QG hh yD];refine⟨Ai G ⟨by have:=h.n0;omega,by omega⟩ cO,?_,?_,fun e=>absurd e K,twN J ?_⟩
    ·rw[yH];omega
    ·rw[BH];exact Int.le_refl _
    rw[yH];have:r.n=x.n:=by simpa using am
    rw[this];simp;omega
 cases k3:(r.kind==3) with
 | true=>
   have k1:=gK k3 (show (3:Int)≠1 by decide);cases kn:(r.n==x.n) with
   |false=>rw[twN J kn];exact ok0 h (twN J kn)
   | true=>
     have V:bJ x now r=lm x now r:=by simp only[bJ,g1,g2,J,k3,kn,Bool.or_self,Bool.and_self,Bool.false_and,Bool.false_eq_true,↓reduceIte]
     rw[V];cases c1:(x.phase==2&&(r.code==0&&(aC x).any (· == r.from_))) with
     | true=>
       have e2:lm x now r=((aZ (aN x now r) now).1,aU (aN x now r) (aj (aN x now r))++(aZ (aN x now r) now).2):=by simp only[lm,c1,↓reduceIte]
       rw[e2];simp only[Bool.and_eq_true] at c1;obtain⟨p2,S,h1⟩:=c1;have ad:x.phase=2:=by simpa using p2
       have K:x.phase≠4:=by omega
       have aa:=h.n3 (.inl ad);have G:RBase l (k+1) (aN x now r):=⟨h.hl,h.su,Nat.le_succ_of_le h.he,h.fl,h.fr,⟨cO,cO⟩⟩;cases yD:bE (aj (aN x now r)) x.l.a [r.from_] with
       | false=>
         have e3:aZ (aN x now r) now=(aN x now r,[]):=by
          unfold aZ;exact if_neg (by show ¬(bE (aj (aN x now r)) x.l.a [r.from_]=true);rw[yD];decide)
         rw[e3];refine⟨⟨G,.inr (.inr (.inl rfl)),h.n0,fun e=>absurd e (by show ¬(3:Int)=1;decide),fun _=>aa,Nat.le_succ_of_le h.no,(by show 1≤k+1+1;omega),(by have:=h.ba;show x.bad.length≤_;omega),hb⟩,Int.le_refl _,Int.le_refl _,fun e=>absurd e K,?_⟩;exact twH J k3 rfl (by show [r.from_].any (· == r.from_)=true;simp)
       | true=>
         have e3:aZ (aN x now r) now=bB (aN x now r) (x.n+1) now:=by
          unfold aZ;exact if_pos yD
         rw[e3];refine⟨Ai G ⟨by have:=h.n0;omega,by omega⟩ cO,?_,?_,fun e=>absurd e K,twN J ?_⟩
         ·show x.n≤(bB _ _ _).1.n;rw[yH];omega
         ·show x.sure≤(bB _ _ _).1.sure;rw[BH];exact Int.le_refl _
         show (r.n==(bB _ _ _).1.n)=false
         rw[yH];have:r.n=x.n:=by simpa using kn
         rw[this];simp;omega
     |false=>
     cases c2:(x.phase==2&&(r.code==3&&((aC x).any (· == r.from_)&&(x.heard.any (· == r.from_) && !x.none.any (· == r.from_))))) with
     | true=>
       have e2:lm x now r=(if dL (aC x) x.l.w x.l.a (x.none++[r.from_]) then { x with none:=x.none++[r.from_],phase:=4 } else { x with none:=x.none++[r.from_] },[]):=by
        simp only[lm,c1,c2,Bool.false_eq_true,↓reduceIte]
       rw[e2];simp only[Bool.and_eq_true] at c2;obtain⟨p2,QJ,h1,h2,h3⟩:=c2;have ad:x.phase=2:=by simpa using p2
       have K:x.phase≠4:=by omega
       have aa:=h.n3 (.inl ad);have S:=gK QJ (show (3:Int)≠0 by decide);have ae:(x.none++[r.from_]).length≤k+1:=by rw[List.length_append];have:=h.no;simp;omega
       have G:RBase l (k+1) x:=h.toRBase.up;cases h4:dL (aC x) x.l.w x.l.a (x.none++[r.from_]) with
       | false=>
         rw[if_neg (by decide)];refine⟨⟨⟨G.hl,G.su,G.he,G.fl,G.fr,G.bs⟩,h.ph,h.n0,h.n1,h.n3,ae,Nat.le_succ_of_le h.ha,(by have:=h.ba;show x.bad.length≤_;omega),h.bo⟩,Int.le_refl _,Int.le_refl _,fun e=>absurd e K,?_⟩;exact twG J k3 (by show (x.phase==3)=false;rw[ad];rfl) S (Aj _ _)
       | true=>
         rw[if_pos rfl];refine⟨⟨⟨G.hl,G.su,G.he,G.fl,G.fr,G.bs⟩,.inr (.inr (.inr rfl)),h.n0,fun e=>absurd e (by show ¬(4:Int)=1;decide),fun _=>aa,ae,Nat.le_succ_of_le h.ha,(by have:=h.ba;show x.bad.length≤_;omega),h.bo⟩,Int.le_refl _,Int.le_refl _,fun e=>absurd e K,?_⟩;exact tw4 rfl
     |false=>
     cases c3:(x.phase==3&&(r.code==0&&decide (r.body=x.body))) with
     | false=>
       have e2:lm x now r=(x,[]):=by simp only[lm,c1,c2,c3,Bool.false_eq_true,↓reduceIte]
       rw[e2];exact ok0 h (V.trans e2)
     | true=>
       have e2:lm x now r=je x now r.from_:=by simp only[lm,c1,c2,c3,Bool.false_eq_true,↓reduceIte]
       rw[e2];simp only[Bool.and_eq_true] at c3;exact ai (by simpa using c3.1) kn fun y hy _ hh=>twH J k3 (by rw[hy];rfl) hh
 |false=>
 cases k1:(r.kind==1) with
 | false=>
   have e:bJ x now r=(x,[]):=by simp only[bJ,g1,g2,J,k3,k1,Bool.or_self,Bool.false_and,Bool.false_eq_true,↓reduceIte]
   rw[e];exact ok0 h e
 |true=>
 cases kn:(r.n==x.n) with
 |false=>rw[twN J kn];exact ok0 h (twN J kn)
 |true=>
 cases p3:(x.phase==3) with
 | false=>
   have e:bJ x now r=(x,[]):=by simp only[bJ,g1,g2,J,k3,k1,kn,p3,Bool.or_self,Bool.true_and,Bool.false_and,Bool.and_false,Bool.false_eq_true,↓reduceIte]
   rw[e];exact ok0 h e
 | true=>
   have V:bJ x now r=fI x now r:=by simp only[bJ,g1,g2,J,k3,k1,kn,p3,Bool.or_self,Bool.and_self,Bool.false_and,Bool.false_eq_true,↓reduceIte]
   rw[V];have X:x.phase=3:=by simpa using p3
   have K:x.phase≠4:=by omega
   have Tw:(aj x).length≤5:=by
    have hw:x.l.w≤5:=by
     rw[h.hl];simp only[dN,Bool.and_eq_true,dA,decide_eq_true_eq] at Q;exact Q.2.2.1
    unfold aj setOf;split
    ·simp
    split
    ·simp only[eP,List.length_map,List.length_range];omega
    simp
   have al:∀is:Pl→Bool,(∀y:Rv,y.bad=aB is y.bad (aj y)→fI y now r=(y,[]))→BI l k x now r ({ x with bad:=aB is x.bad (aj x) },[]):=by
    intro is hy;refine⟨⟨⟨h.hl,h.su,Nat.le_succ_of_le h.he,h.fl,h.fr,h.bs⟩,h.ph,h.n0,h.n1,h.n3,Nat.le_succ_of_le h.no,Nat.le_succ_of_le h.ha,?_,h.bo⟩,Int.le_refl _,Int.le_refl _,fun e=>absurd e K,tw1 J k3 (hy _ ?_)⟩
    ·have:=kg is (aj x) x.bad;have:=h.ba;show (aB is x.bad (aj x)).length≤_
     omega
    show aB is x.bad (aj x)=aB is (aB is x.bad (aj x)) (aj x)
    rw[KL]
   cases S:(r.code==0) with
   | true=>
     rw[show fI x now r=je x now r.from_ by simp only[fI,S,↓reduceIte]];exact ai X kn fun y hy _ hh=>tw1 J k3 (by simp only[fI,S,↓reduceIte];exact Gb hh)
   |false=>
   cases GZ:(r.code==2) with
   | true=>
     rw[show fI x now r=({ x with bad:=aB (· == r.from_) x.bad (aj x) },[]) by simp only[fI,S,GZ,Bool.false_eq_true,↓reduceIte]];exact al _ fun y hy=>by
      simp only[fI,S,GZ,Bool.false_eq_true,↓reduceIte];rw[←hy]
   |false=>
   cases k4:(r.code==4) with
   | true=>
     rw[show fI x now r=({ x with bad:=aB (fun y=>y.node==r.from_.node&&y.aH != r.from_.aH) x.bad (aj x) },[]) by simp only[fI,S,GZ,k4,Bool.false_eq_true,↓reduceIte]];exact al _ fun y hy=>by
      simp only[fI,S,GZ,k4,Bool.false_eq_true,↓reduceIte];rw[←hy]
   | false=>
     have e:fI x now r=(x,[]):=by simp only[fI,S,GZ,k4,Bool.false_eq_true,↓reduceIte]
     rw[e];exact ok0 h (V.trans e)
end
theorem mM {l:Lg}(h:dN l=true):0<l.af.length∧l.af.length≤6∧(∀f∈l.af,1≤f.first∧f.first≤9∧f.ah.length≤5)∧1≤l.a∧l.a≤l.w∧l.w≤5:=by
 simp only[dN,Bool.and_eq_true,dA,decide_eq_true_eq] at h;obtain⟨⟨X,a2⟩,⟨J,K⟩,Q,G,⟨a7,a8⟩,a9⟩:=h;simp only[dh,Bool.and_eq_true,dA,decide_eq_true_eq,List.all_eq_true] at G;obtain⟨⟨h1,h2⟩,h3,S,h5⟩:=G;refine⟨by omega,by omega,fun f V=>?_,J,K,Q⟩;have:=S f V;simp only[iK,Bool.and_eq_true,dA,decide_eq_true_eq] at this;omega
theorem jI (G:List Fr){w:Int}(J:w≤5)(n:Int):(setOf G w n).length≤5:=by
 unfold setOf;split
 ·simp
 split
 ·simp only[eP,List.length_map,List.length_range];omega
 simp
theorem TB (e:Int):∀(l b:List Pl),b.length≤5→(l.foldl (FB e) b).length≤5
 |[],b,h=>h
 | p::r,b,h=>by
   rw[List.foldl_cons];refine TB e r _ ?_;unfold FB;by_cases hc:(decide ((b.length:Int)<(if 5<e then 5 else e)) && !(b.any fun y=>y.node==p.node))=true
   ·rw[if_pos hc];simp only[Bool.and_eq_true,decide_eq_true_eq] at hc;rw[List.length_append,List.length_singleton];have G:=hc.1;by_cases J:(5:Int)<e
    ·rw[if_pos J] at G;omega
    rw[if_neg J] at G;omega
   rw[if_neg hc];exact h
theorem qc {f:Fr}(G:f.ah.length≤5)(w e:Int)(bad known:List Pl):(fC f w e bad known).1.ah.length≤5:=by
 unfold fC;split
 ·refine TB e _ _ ?_;unfold nT;refine Nat.le_trans (Eo w _ _) ?_;have:=(Ah bad (fit bad known) f.ah (f,[],false)).1;unfold fZ;rw[this];exact G
 simp[kT]
theorem Zy {l:Lg}{k:Nat}{x:Rv}(h:RBase l k x):(gM x).ah.length≤5:=by
 unfold gM;cases G:eH x.af x.n with
 |none=>simp[kT]
 |some f=>exact (h.fr f (nu _ _ _ G).1).2.2
theorem Zz {x:Rv}(h:x.af.length≤6)(G:(!(((iM x).length:Int)==6))=true):(iM x).length≤5:=by
 have G:¬((iM x).length:Int)=6:=by simpa using G
 have:(iM x).length≤x.af.length:=by
  unfold iM;split
  ·rw[List.length_take];omega
  exact Nat.le_refl _
 omega
theorem QK {l:Lg}{k:Nat}{y:Rv}(h:RInv l k y)(known:List Pl):RInv l k (dH y known).1∧(dH y known).1.n=y.n∧(dH y known).1.phase=y.phase:=by
 unfold dH;split
 ·rename_i hc;simp only[Bool.and_eq_true] at hc;refine⟨⟨⟨h.hl,h.su,h.he,?_,?_,h.bs⟩,h.ph,h.n0,h.n1,h.n3,h.no,h.ha,Nat.zero_le _,h.bo⟩,rfl,rfl⟩
  ·show (iM y++[_]).length≤6
   rw[List.length_append,List.length_singleton];have:=Zz h.fl hc.2;omega
  intro f G;rcases List.mem_append.1 G with G|G
  ·refine h.fr f ?_;unfold iM at G;split at G
   ·exact List.mem_of_mem_take G
   exact G
  simp only[List.mem_singleton] at G;subst G;exact⟨h.n0.1,h.n0.2,qc (Zy h.toRBase) _ _ _ _⟩
 exact⟨⟨⟨h.hl,h.su,h.he,h.fl,h.fr,h.bs⟩,h.ph,h.n0,h.n1,h.n3,h.no,h.ha,Nat.zero_le _,h.bo⟩,rfl,rfl⟩
theorem Vs {l:Lg}{k:Nat}{x:Rv}(G:dN l=true)(h:RInv l k x){now:Int}(J:gU now):RInv l (k+1) (iX x now)∧(iX x now).n=x.n∧(iX x now).phase=x.phase:=by
 unfold iX;split
 ·have K:(aj x).length≤5:=jI _ (by rw[h.hl];exact (mM G).2.2.2.2.2) _;have Q:=kg (fun p=>!x.has.any (· == p)) (aj x) x.bad;have:=h.ba;exact⟨⟨⟨h.hl,h.su,Nat.le_succ_of_le h.he,h.fl,h.fr,⟨J,h.bs.2⟩⟩,h.ph,h.n0,h.n1,h.n3,Nat.le_succ_of_le h.no,Nat.le_succ_of_le h.ha,(by show (aB _ _ _).length≤_;omega),h.bo⟩,rfl,rfl⟩
 exact⟨h.up,rfl,rfl⟩
theorem TF {l:Lg}{k:Nat}{x:Rv}(h:RInv l k x){now:Int}(G:gU now):RInv l k (qz x now).1:=
 ⟨⟨h.hl,h.su,h.he,h.fl,h.fr,⟨h.bs.1,G⟩⟩,h.ph,h.n0,h.n1,h.n3,h.no,h.ha,h.ba,h.bo⟩
structure ZA (l:Lg)(k:Nat)(x y:Rv):Prop where
 inv:RInv l (k+1) y
 n:x.n≤y.n
 same:x.phase=4→y=x
theorem adM {l:Lg}{k:Nat}{x:Rv}(Q:dN l=true)(h:RInv l k x){now:Int}(K:gU now)(known:List Pl):ZA l k x (dJ x now known).1:=by
 by_cases X:x.phase=4
 ·have e0:iX x now=x:=by
   unfold iX;rw[if_neg (by rw[show (x.phase==3)=false by rw[X];rfl];simp)]
  have e:dJ x now known=(x,[]):=by
   unfold dJ;simp only[e0];rw[if_neg (by rw[show (x.phase==3)=false by rw[X];rfl];simp),if_neg (by rw[show (x.phase != 4)=false by rw[X];rfl];simp)]
  rw[e];exact⟨h.up,Int.le_refl _,fun _=>rfl⟩
 obtain⟨hy,S,hyp⟩:=Vs Q h K;unfold dJ;obtain⟨y,ae⟩:∃y,iX x now=y:=⟨_,rfl⟩;rw[ae] at hy S hyp ⊢;simp only;have fin:∀z:Rv,RInv l (k+1) z→x.n≤z.n→ZA l k x z:=fun z h1 h2=>⟨h1,h2,fun e=>absurd e X⟩
 split
 ·rename_i hc;have aa:y.phase=3:=by
   simp only[Bool.and_eq_true] at hc;simpa using hc.1
  obtain⟨G,ad,Tf⟩:=QK hy known;split
  ·have V:RInv l (k+1) { (dH y known).1 with phase:=3,born:=now,since:=now }:=
    ⟨⟨G.hl,G.su,G.he,G.fl,G.fr,⟨K,K⟩⟩,.inr (.inr (.inl rfl)),G.n0,fun e=>absurd e (by show ¬(3:Int)=1;decide),fun _=>G.n3 (.inr (by rw[Tf,aa])),G.no,G.ha,G.ba,G.bo⟩
   obtain⟨z,J⟩:∃z:Rv,{ (dH y known).1 with phase:=3,born:=now,since:=now }=z:=⟨_,rfl⟩;have ag:z.n=x.n:=by rw[←J];show (dH y known).1.n=x.n;rw[ad,S]
   have af:z.phase=3:=by rw[←J]
   rw[J] at V ⊢;refine fin _ ?_ ?_
   ·show RInv l (k+1) (aZ z now).1
    unfold aZ;split
    ·have:=V.n0;have:=V.n3 (.inr af);exact Ai V.toRBase ⟨by omega,by omega⟩ K
    exact V
   show x.n≤(aZ z now).1.n
   unfold aZ;split
   ·rw[yH];omega
   show x.n≤z.n;omega
  split
  ·exact fin _ (TF G K) (by show x.n≤(dH y known).1.n;omega)
  exact fin _ G (by show x.n≤(dH y known).1.n;omega)
 split
 ·exact fin _ (TF hy K) (by show x.n≤y.n;omega)
 exact fin _ hy (by show x.n≤y.n;omega)
theorem RInv.big {l:Lg}{k:Nat}{x:Rv}(J:dN l=true)(h:RInv l k x)(hk:k≤100000):x.big:=by
 obtain⟨V,X,K,m4,m5,Q⟩:=mM J;rw[←h.hl] at V X K m4 m5 Q;have S:=h.fr;have:=h.he;have:=h.no;have:=h.ha;have:=h.ba;have:=h.bo;have:=h.n0;have:=h.fl;exact⟨⟨⟨by omega,fun f G=>by have:=K f G;omega⟩,⟨by omega,fun f G=>by have:=S f G;omega⟩,by omega,by omega,by omega,by omega,by omega⟩,
  fun f G=>by have:=K f G;exact⟨by omega,by omega,by omega⟩,fun f G=>by have:=S f G;exact⟨by omega,by omega,by omega⟩,V,⟨by omega,by omega⟩,h.su.1,⟨by omega,by omega⟩,by omega,
  fun n=>Nat.le_trans (jI _ Q n) (by decide),fun n=>Nat.le_trans (jI _ Q n) (by decide)⟩
theorem agP {l:Lg}{J now:Int}(K:gU now)(h:(oq l J now).2.2=0):dN l=true∧RInv l 0 (oq l J now).1:=by
 unfold oq at h ⊢;split
 ·rename_i hc;rw[if_pos hc] at h;exact absurd h (by show ¬(1:Int)=0;decide)
 rename_i hc;have G:dN l=true:=by
  cases S:dN l with
  |true=>rfl
  |false=>rw[S] at hc;exact absurd hc (by simp)
 obtain⟨m1,V,X,m4,m5,m6⟩:=mM G;exact⟨G,⟨rfl,(by show (0:Int)≤0∧(0:Int)≤8;decide),Nat.zero_le _,V,fun f Q=>by have:=X f Q;exact⟨by omega,by omega,by omega⟩,⟨K,K⟩⟩,.inl rfl,(by show (0:Int)≤0∧(0:Int)≤9;decide),fun _=>rfl,fun e=>(by
  rcases e with e|e
  ·exact absurd e (by show ¬(1:Int)=2;decide)
  exact absurd e (by show ¬(1:Int)=3;decide)),Nat.zero_le _,Nat.zero_le _,Nat.zero_le _,Nat.zero_le _⟩
theorem BV {s Q:AS}(K:List Nat)(h:match JZ s.hp K with|some G=>ada ⟨(s.app G).tm,(s.app G).nx,QY (s.app G).hp (s.app G).hp⟩ Q|none=>False)(c:Ctx)(R:Real)(a:Act)(w:World)(g:bN c R s a w):∃S,bN c S Q a w:=by
 split at h;rotate_left;cases h
 rename_i G J;obtain⟨V,_⟩:=kE g (fun _ _ h=>h) _ _ J;obtain⟨X,_⟩:=JB V;exact aD h c R a w X
structure Lk where
 ask:Bool
 to:Int
 q:Rq
 r:Rs
deriving DecidableEq,Inhabited
structure Fk where
 x:Pl
 ak:Int
 sure:Int
deriving DecidableEq,Inhabited
structure Sk where
 x:Lg
 w:Wr
 r:Rv
 ak:Int
 first:Int
 ask:Fr
 taken:Bool
 now:Int
 bH:List Lk
 has:List Hp
 told:List Hp
 aF:List Fk
 bS:List (List UInt8)
def iq (s:Sk)(to:Int)(l:List Rq):Sk:={ s with bH:=s.bH++(l.take (90-s.bH.length)).map fun q=>⟨true,to,q,O6⟩ }
def iD (l:List Fk)(p:Pl):List Fk:=if l.any (fun f=>f.x==p) then l else l++[⟨p,0,0⟩]
def iW (l:List Fk)(p:Pl):Nat:=(iD l p).findIdx fun f=>f.x==p
def eO (l:List Fk)(p:Pl):Fk:=(iD l p)[iW l p]!
def mK (l:List Hp)(p:Pl)(n:Int):Option Hp:=(l.filter fun h=>h.x==p&&h.n==n).getLast?
def bQ (s:Sk)(q:Rq)(J:Bool):Sk×Rs:=
 let G:=iD s.aF q.to
 let i:=iW s.aF q.to
 let f:=eO s.aF q.to
 let h:=mK s.has q.to q.n
 if q.kind=1 then
  if q.ak<f.ak then ({ s with aF:=G },{ BJ q with code:=1 })
  else ({ s with has:=if h.isNone then s.has++[⟨q.to,q.n,q.body⟩] else s.has,aF:=G.set i { f with sure:=max f.sure q.sure },told:=if J then s.told++[⟨q.to,q.n,q.body⟩] else s.told },BJ q)
 else if q.kind=2 then ({ s with aF:=G.set i { f with ak:=max f.ak q.ak } },{ BJ q with sure:=f.sure })
 else if q.kind=3 then ({ s with aF:=G },match h with
  |some e=>{ BJ q with sure:=f.sure,body:=e.body }
  |none=>{ BJ q with sure:=f.sure,code:=3 })
 else ({ s with aF:=G },BJ q)
def gy (s:Sk)(to:Int)(r:Rs):Sk:=
 if to=0 then { s with w:=jf s.w r }
 else if to=s.ak∧s.ak>s.first then iq { s with r:=(bJ s.r s.now r).1 } to (bJ s.r s.now r).2
 else s
def gQ (s:Sk)(x:Lk):Sk:=
 if x.ask=false then gy s x.to x.r
 else
  let y:=bQ s x.q (x.to==0)
  if (y.1.bH.length:Int)<90 then { y.1 with bH:=y.1.bH++[⟨false,x.to,Xv,y.2⟩] } else y.1
def jv (s:Sk):Sk:=
 let y:=oq s.x (s.ak+1) s.now
 if y.2.2=0 then iq { s with ak:=s.ak+1,r:=y.1 } (s.ak+1) y.2.1 else s
def kF (s:Sk)(e:Int)(known:List Pl):Sk:=
 let y:=iy s.w e known
 if y.2.2=false then { s with w:=y.1 }
 else if s.ak=s.first∧dh s.x.w (dS s.x.af y.2.1)=true then { s with w:=y.1,ask:=y.2.1,taken:=true,x:={ s.x with af:=dS s.x.af y.2.1 } }
 else { s with w:=y.1,ask:=y.2.1,taken:=false }
def vL (s:Sk)(b:List UInt8):Sk:=
 let y:=iC s.w s.now b
 if y.2.2=0 then iq { s with w:=y.1,bS:=s.bS++[b] } 0 y.2.1 else s
def FE (s:Sk)(now:Int):Sk:=iq { s with now:=now,w:=(jJ s.w now).1 } 0 (jJ s.w now).2
def vM (s:Sk):Sk:=
 if s.ask.first>0 then iq { s with w:=(dP s.w s.now s.taken).1,ask:=kT } 0 (dP s.w s.now s.taken).2 else s
def bU (s:Sk)(now:Int)(known:List Pl):Sk:=
 if s.ak>s.first then iq { s with now:=now,r:=(dJ s.r now known).1 } s.ak (dJ s.r now known).2 else { s with now:=now }
def ny (s:Sk)(k:Nat):Sk:={ s with bH:=s.bH.take k++s.bH.drop (k+1) }
def adO (s:Sk)(l:List Hp)(n:Int):Bool:=l.all fun h=>!(h.n==n)||(decide (1≤n)&&(decide (n≤(s.bS.length:Int))&&(h.body==s.bS[(n-1).toNat]!)))
def Vt (s:Sk)(n:Int):Bool:=bE (setOf s.x.af s.x.w n) s.x.a (bn s.told n)
def Nf (s:Sk)(n:Nat):Bool:=(List.range n).all fun i=>Vt s (i+1)
def MO (s:Sk):Bool:=
 if s.ak=s.first∨s.r.phase≠4 then true
 else !(decide (s.r.n-1>(s.bS.length:Int))||(decide (s.r.n-1<s.w.sure) || !dh s.x.w s.r.af)) &&
  (List.range 8).all fun i=>adO s s.told (i+1)&&(adO s s.has (i+1)&&(!(decide ((i:Int)+1>s.r.n-1)&&Nf s (i+1))&&(!decide ((i:Int)+1≤s.r.n-1)||bE (setOf s.r.af s.x.w (i+1)) s.x.a (bn s.has (i+1)))))
theorem ZE (w:Wr)(r:Rs):(jf w r).l=w.l∧(jf w r).ak=w.ak:=by
 unfold jf;split
 ·exact⟨rfl,rfl⟩
 split
 ·split
  ·exact⟨rfl,rfl⟩
  split
  ·exact⟨rfl,rfl⟩
  exact⟨rfl,rfl⟩
 split
 ·split
  ·exact⟨rfl,rfl⟩
  exact⟨rfl,rfl⟩
 split
 ·exact⟨rfl,rfl⟩
 split
 ·exact⟨rfl,rfl⟩
 exact⟨rfl,rfl⟩
theorem TG (x:Wt):∀(l:List Pl) (w:Wr),(l.foldl (fun w y=>if aW x.from_ y then w else vU w fun z=>z==y) w).ak=w.ak
 |[],w=>rfl
 | y::l,w=>by
   rw[List.foldl_cons,TG x l];split
   ·rfl
   rfl
theorem Gd {w:Wr}{x:Wt}{q:Rq}(h:q∈kM w x):q.kind=1∧q.ak=w.ak∧q.sure=w.sure:=by
 obtain⟨p,G,rfl⟩:=List.mem_map.1 h;exact⟨rfl,rfl,rfl⟩
theorem TH (now:Int):∀(l:List Nat) (st:Wr×List Rq),(∀i∈l,i<st.1.waits.length)→(l.foldl (mU now) st).1.ak=st.1.ak∧∀q∈(l.foldl (mU now) st).2,q∈st.2∨(q.kind=1∧q.ak=st.1.ak∧q.sure=st.1.sure)
 |[],st,_=>⟨rfl,fun q G=>.inl G⟩
 | i::l,st,hi=>by
   have hs:=(BK now [i] st (fun j K=>hi j (by simp at K;simp[K]))).1;simp only[List.foldl_cons,List.foldl_nil] at hs;have hw:∀w,w=(if qd now st.1.waits[i]!.born 9 then Db st.1 st.1.waits[i]! else st.1)→w.ak=st.1.ak∧w.sure=st.1.sure:=by
    rintro w rfl
    split
    ·exact⟨TG _ _ _,(Jw _ _).su⟩
    exact⟨rfl,rfl⟩
   have J:(mU now st i).1.ak=st.1.ak∧(mU now st i).1.sure=st.1.sure∧∀q∈(mU now st i).2,q∈st.2∨(q.kind=1∧q.ak=st.1.ak∧q.sure=st.1.sure):=by
    unfold mU;simp only;generalize V:(if qd now st.1.waits[i]!.born 9 then Db st.1 st.1.waits[i]! else st.1)=w;obtain⟨Q,S⟩:=hw w V.symm;split
    ·refine⟨Q,S,fun q G=>?_⟩;rcases List.mem_append.1 G with G|G
     ·exact .inl G
     obtain⟨X,k2,k3⟩:=Gd G;exact .inr ⟨X,by rw[k2,Q],by rw[k3,S]⟩
    exact⟨Q,S,fun q G=>.inl G⟩
   rw[List.foldl_cons];have hl:(mU now st i).1.waits.length=st.1.waits.length:=by simpa using congrArg List.length hs.wt
   obtain⟨a,b⟩:=TH now l (mU now st i) fun j K=>by rw[hl];exact hi j (by simp[K])
   refine⟨a.trans J.1,fun q G=>?_⟩;rcases b q G with G|⟨X,k2,k3⟩
   ·exact J.2.2 q G
   exact .inr ⟨X,k2.trans J.1,k3.trans J.2.1⟩
theorem ZF (w:Wr)(now:Int):jK w (jJ w now).1∧(jJ w now).1.ak=w.ak∧∀q∈(jJ w now).2,(q.kind=1∧q.ak=w.ak∧q.sure=w.sure)∧∃x∈w.waits,q.n=x.n∧q.body=x.body:=by
 unfold jJ;split
 ·exact⟨jK.refl _,rfl,fun q G=>by cases G⟩
 obtain⟨a,b⟩:=BK now (List.range w.waits.length) (w,[]) fun i hi=>List.mem_range.1 hi
 obtain⟨c,d⟩:=TH now (List.range w.waits.length) (w,[]) fun i hi=>List.mem_range.1 hi
 refine⟨a,c,fun q G=>⟨?_,?_⟩⟩
 ·rcases d q G with G|G
  ·cases G
  exact G
 rcases b q G with G|G
 ·cases G
 exact G
theorem Ng {set f g:List Pl}(h:∀p,p∈f→p∉g):∀k,lJ set f k+lJ set g k≤k
 |0=>Nat.le_refl _
 | k+1=>by
   have ih:=Ng (set:=set) h k;simp only[lJ];split
   ·rename_i X;by_cases G:(f.any (· == set[k]) && !(set.take k).any (· == set[k]))=true
    ·have K:¬(g.any (· == set[k]) && !(set.take k).any (· == set[k]))=true:=by
      simp only[Bool.and_eq_true,List.any_eq_true,beq_iff_eq] at G ⊢;obtain⟨⟨x,Q,e⟩,V⟩:=G;rintro⟨⟨y,S,J⟩,_⟩
      subst e;subst J;exact h _ Q S
     rw[if_pos G,if_neg K];omega
    rw[if_neg G];split<;>omega
   omega
theorem FQ (l:List Fr)(w n:Int):(setOf l w n).length≤w.toNat:=by
 unfold setOf;split
 ·simp
 split
 ·simp[eP]
 simp
theorem ZG {l:List Fr}{w a n:Int}{f g:List Pl}(S:1≤a∧a≤w)(J:∀p,p∈f→p∉g)(G:dL (setOf l w n) w a f=true):bE (setOf l w n) a g=false:=by
 cases h:bE (setOf l w n) a g with
 |false=>rfl
 | true=>
   exfalso;simp only[dL,bE,Bool.or_eq_true,Bool.and_eq_true,decide_eq_true_eq] at G h;have K:=Ng (set:=setOf l w n) J (setOf l w n).length;have Q:=FQ l w n;unfold yF at G h;omega
theorem KM {set f:List Pl}:∀k,0<lJ set f k→∃p,p∈f
 |0,h=>by simp[lJ] at h
 | k+1,h=>by
   simp only[lJ] at h;split at h
   ·rename_i K;by_cases G:(f.any (· == set[k]) && !(set.take k).any (· == set[k]))=true
    ·simp only[Bool.and_eq_true,List.any_eq_true] at G;obtain⟨⟨x,J,_⟩,_⟩:=G;exact⟨x,J⟩
    rw[if_neg G] at h;exact KM k (by omega)
   exact KM k (by omega)
theorem QN {set f:List Pl}{a:Int}(h:bE set a f=true):∃p,p∈f:=by
 simp only[bE,Bool.and_eq_true,decide_eq_true_eq] at h;refine KM (set:=set) set.length ?_;unfold yF at h;omega
theorem mem_places {l:List Hp}{p:Pl}{n:Int}:p∈bn l n↔∃h∈l,h.n=n∧h.x=p:=by
 unfold bn;simp only[List.mem_map,List.mem_filter,beq_iff_eq];constructor
 ·rintro⟨h,⟨a,b⟩,c⟩;exact⟨h,a,b,c⟩
 rintro⟨h,a,b,c⟩;exact⟨h,⟨a,b⟩,c⟩
theorem QO {l:List Hp}{p:Pl}{n:Int}(h:mK l p n=none):p∉bn l n:=by
 unfold mK at h;rw[List.getLast?_eq_none_iff,List.filter_eq_nil_iff] at h;rw[mem_places];rintro⟨e,K,G,J⟩
 exact h e K (by simp[G,J])
theorem yQ {l:List Hp}{p:Pl}{n:Int}{e:Hp}(h:mK l p n=some e):e∈l∧e.x=p∧e.n=n:=by
 unfold mK at h;have:=List.mem_filter.1 (List.mem_of_getLast? h);simp only[Bool.and_eq_true,beq_iff_eq] at this;exact⟨this.1,this.2.1,this.2.2⟩
def iT (l:List Fk)(p:Pl):Int:=((l.find? fun f=>f.x==p).map (·.ak)).getD 0
theorem Nh {a:List Fk}{f:Fk}{b:List Fk}{p:Pl}(G:∀y∈a,y.x≠p)(J:f.x=p):(a++f::b).find? (fun f=>f.x==p)=some f:=by
 rw[List.find?_append,List.find?_eq_none.2 (fun y K=>by simp[G y K])];simp[J]
theorem qf (l:List Fk)(p:Pl):∃a f b,iD l p=a++f::b∧(∀y∈a,y.x≠p)∧f.x=p∧iW l p=a.length∧eO l p=f∧(f∈l∨(f=⟨p,0,0⟩∧iT l p=0)):=by
 have key:∀m:List Fk,(∃f∈m,f.x=p)→∃a f b,m=a++f::b∧(∀y∈a,y.x≠p)∧f.x=p:=by
  intro m;induction m with
  |nil=>rintro⟨f,K,_⟩;cases K
  | cons g m ih=>
    rintro⟨f,K,e⟩
    by_cases h:g.x=p
    ·exact⟨[],g,m,rfl,fun y J=>(by cases J),h⟩
    have:∃f∈m,f.x=p:=by
     rcases List.mem_cons.1 K with rfl|K
     ·exact absurd e h
     exact⟨f,K,e⟩
    obtain⟨a,f',b,Q,V,X⟩:=ih this;exact⟨g::a,f',b,by rw[Q];rfl,fun y J=>by
     rcases List.mem_cons.1 J with rfl|J
     ·exact h
     exact V y J,X⟩
 have hex:∃f∈iD l p,f.x=p:=by
  unfold iD;split
  ·rename_i h;obtain⟨f,K,e⟩:=List.any_eq_true.1 h;exact⟨f,K,by simpa using e⟩
  exact⟨⟨p,0,0⟩,by simp,rfl⟩
 obtain⟨a,f,b,Q,V,X⟩:=key _ hex;have S:iW l p=a.length:=by
  unfold iW;rw[Q,List.findIdx_append,List.findIdx_eq_length.2 (fun y J=>by simp[V y J])];simp[List.findIdx_cons,X]
 refine⟨a,f,b,Q,V,X,S,?_,?_⟩
 ·unfold eO;rw[S,Q,getElem!_pos _ _ (by simp)];simp
 have G:f∈iD l p:=by rw[Q];simp
 unfold iD at G;split at G
 ·exact .inl G
 rename_i h;rcases List.mem_append.1 G with G|G
 ·exact .inl G
 rw[List.mem_singleton] at G;refine .inr ⟨G,?_⟩;unfold iT;rw[List.find?_eq_none.2 (fun y J=>by
  intro aa;exact h (List.any_eq_true.2 ⟨y,J,aa⟩))]
 rfl
theorem rU (l:List Fk)(p q:Pl):iT (iD l p) q=iT l q:=by
 unfold iD;split
 ·rfl
 unfold iT;rw[List.find?_append];cases h:l.find? (fun f=>f.x==q) with
 |some f=>rfl
 | none=>
   simp only[Option.none_or,List.find?_cons,List.find?_nil];cases (p==q) with
   |true=>rfl
   |false=>rfl
theorem qK (l:List Fk)(p:Pl):(eO l p).ak=iT l p:=by
 obtain⟨a,f,b,G,J,K,S,Q,V⟩:=qf l p;rw[Q,←rU l p p];unfold iT;rw[G,Nh J K];rfl
theorem pW (l:List Fk)(p:Pl)(g:Fk)(J:g.x=p)(q:Pl):iT ((iD l p).set (iW l p) g) q=if q=p then g.ak else iT l q:=by
 obtain⟨a,f,b,G,K,Q,S,e5,e6⟩:=qf l p;have hs:(iD l p).set (iW l p) g=a++g::b:=by
  rw[S,G,List.set_append_right _ _ (Nat.le_refl _)];simp
 rw[hs];split
 ·rename_i h;subst h;unfold iT;rw[Nh K J];rfl
 rename_i h;rw[←rU l p q,G];unfold iT;rw[List.find?_append,List.find?_append];have V:(g.x==q)=false:=by rw[J,beq_eq_false_iff_ne];exact fun e=>h e.symm
 have X:(f.x==q)=false:=by rw[Q,beq_eq_false_iff_ne];exact fun e=>h e.symm
 simp only[List.find?_cons,V,X]
theorem TJ {l:List Fk}{i:Nat}{g f:Fk}(h:f∈l.set i g):f∈l∨f=g:=List.mem_or_eq_of_mem_set h
theorem Ni {l:List Fk}{p:Pl}{f:Fk}(h:f∈iD l p):f∈l∨f=⟨p,0,0⟩:=by
 unfold iD at h;split at h
 ·exact .inl h
 rcases List.mem_append.1 h with h|h
 ·exact .inl h
 exact .inr (List.mem_singleton.1 h)
theorem tO (l:List Fk)(p:Pl):(eO l p).x=p:=by
 obtain⟨a,f,b,K,Q,G,S,J,V⟩:=qf l p;rw[J];exact G
theorem QR {l:List Fk}{p:Pl}{k:Int}(h:∀f∈l,f.sure≤k)(K:0≤k):(eO l p).sure≤k:=by
 obtain⟨a,f,b,Q,S,V,X,J,G⟩:=qf l p;rw[J];rcases G with G|G
 ·exact h f G
 rw[G.1];exact K
def Gf (l:List Lk):List Lt:=(l.filter fun m=>m.to==0).map fun m=>⟨m.ask,m.q,m.r⟩
def rY (s:Sk):Sg:=⟨s.w,s.x.af,s.ask,if s.taken then 1 else 2,s.now,Gf s.bH,s.told,s.bS⟩
structure rZ (s:Sk)(to:Int)(q:Rq):Prop where
 su:q.sure≤s.w.sure
 bo:q.kind=1→jw s.bS q.n q.body
 w0:to=0→q.ak=s.first∧q.kind=1
 ep:to≠0→q.ak=to
 fe:q.kind=3→to≤iT s.aF q.to
structure yG (s:Sk)(to:Int)(r:Rs):Prop where
 su:r.sure≤s.w.sure
 w0:to=0→r.kind=1
 f2:r.kind=2→r.code=0→r.ak≤iT s.aF r.from_
 no:r.kind=3→r.code=3→s.first<r.ak∧r.ak≤iT s.aF r.from_∧r.from_∉bn s.told r.n
 ok:r.kind=3→r.code=0→r.from_∈bn s.has r.n∧jw s.bS r.n r.body
 ad:r.kind=1→r.code=0→r.from_∈bn s.has r.n
structure YX (s:Sk)(m:Lk):Prop where
 rng:m.to=0∨(s.first<m.to∧m.to≤s.ak)
 q:m.ask=true→rZ s m.to m.q
 r:m.ask=false→yG s m.to m.r
structure kS (s:Sk):Prop where
 l:s.r.l=s.x
 may:dN s.x=true
 ep:s.r.ak=s.ak
 su:0≤s.r.sure∧s.r.sure≤s.w.sure
 he:∀p∈s.r.heard,s.ak≤iT s.aF p
 no:∀p∈s.r.none,s.ak≤iT s.aF p∧p∉bn s.told s.r.n
 ph:s.r.phase=1∨s.r.phase=2∨s.r.phase=3∨s.r.phase=4
 p1:s.r.phase=1→s.r.af=s.x.af
 n1:s.r.phase≠1→1≤s.r.n∧s.r.n≤9
 n2:s.r.phase=2∨s.r.phase=3→s.r.n≤8∧(aL s.r.af).first≤s.r.n
 hs:s.r.phase=3→(∀p∈s.r.has,p∈bn s.has s.r.n)∧jw s.bS s.r.n s.r.body
 gd:s.r.phase≠1→∀n,1≤n→n<s.r.n→bE (setOf s.r.af s.x.w n) s.x.a (bn s.has n)=true
 fr:dh s.x.w s.r.af=true
 en:s.r.phase=4→s.r.n≤8→dL (setOf s.x.af s.x.w s.r.n) s.x.w s.x.a s.r.none=true
structure fB (s:Sk):Prop where
 S:nA (rY s)
 wl:s.w.l.w=s.x.w∧s.w.l.a=s.x.a∧s.w.ak=s.first
 f0:0≤s.first
 ln:s.bS.length≤8
 ep:s.first≤s.ak
 hb:∀h∈s.has,jw s.bS h.n h.body
 ht:∀p n,p∈bn s.told n→p∈bn s.has n
 fs:∀f∈s.aF,f.sure≤s.w.sure
 lt:∀m∈s.bH,YX s m
 lp:(aL s.x.af).first≤s.w.sure+1
 rv:s.first<s.ak→kS s
structure xO (s t:Sk):Prop where
 fi:t.first=s.first
 ep:s.ak≤t.ak
 su:s.w.sure≤t.w.sure
 fe:∀p,iT s.aF p≤iT t.aF p
 ha:∀p n,p∈bn s.has n→p∈bn t.has n
 to:∀p n,s.first<iT s.aF p→p∈bn t.told n→p∈bn s.told n
 se:∀n b,jw s.bS n b→jw t.bS n b
theorem xO.rfl' {s t:Sk}(G:t.first=s.first)(X:t.ak=s.ak)(J:s.w.sure≤t.w.sure)(K:t.aF=s.aF)(Q:t.has=s.has)(S:t.told=s.told)(V:t.bS=s.bS):xO s t:=
 ⟨G,by omega,J,fun p=>by rw[K];exact Int.le_refl _,fun p n h=>by rw[Q];exact h,fun p n _ h=>by rw[←S];exact h,fun n b h=>by rw[V];exact h⟩
theorem Ep {s t:Sk}(u:xO s t){to:Int}{q:Rq}(h:rZ s to q):rZ t to q:=
 ⟨Int.le_trans h.su u.su,fun e=>u.se _ _ (h.bo e),fun e=>by rw[u.fi];exact h.w0 e,h.ep,fun e=>Int.le_trans (h.fe e) (u.fe _)⟩
theorem tV {s t:Sk}(u:xO s t){to:Int}{r:Rs}(h:yG s to r):yG t to r:=by
 refine⟨Int.le_trans h.su u.su,h.w0,fun e c=>Int.le_trans (h.f2 e c) (u.fe _),fun e c=>?_,fun e c=>?_,fun e c=>u.ha _ _ (h.ad e c)⟩
 ·obtain⟨a,b,d⟩:=h.no e c;exact⟨by rw[u.fi];exact a,Int.le_trans b (u.fe _),fun G=>d (u.to _ _ (by omega) G)⟩
 obtain⟨a,b⟩:=h.ok e c;exact⟨u.ha _ _ a,u.se _ _ b⟩
theorem kG {s t:Sk}(u:xO s t){m:Lk}(h:YX s m):YX t m:=by
 refine⟨?_,fun e=>Ep u (h.q e),fun e=>tV u (h.r e)⟩;rcases h.rng with e|⟨a,b⟩
 ·exact .inl e
 exact .inr ⟨by rw[u.fi];exact a,Int.le_trans b u.ep⟩
theorem ZH {set:List Pl}{a:Int}{f g:List Pl}(h:∀p,p∈f→p∈g)(k:bE set a f=true):bE set a g=true:=qg h k
theorem uf {s t:Sk}(u:xO s t)(J:t.r=s.r)(K:t.x=s.x)(Q:t.ak=s.ak)(X:s.first<s.ak)(h:kS s):kS t:=by
 refine⟨by rw[J,K];exact h.l,by rw[K];exact h.may,by rw[J,Q];exact h.ep,by rw[J];exact⟨h.su.1,Int.le_trans h.su.2 u.su⟩,fun p G=>?_,fun p G=>?_,by rw[J];exact h.ph,by rw[J,K];exact h.p1,by rw[J];exact h.n1,by rw[J];exact h.n2,fun G=>?_,fun G n V S=>?_,by rw[J,K];exact h.fr,by rw[J,K];exact h.en⟩
 ·rw[J] at G;rw[Q];exact Int.le_trans (h.he p G) (u.fe _)
 ·rw[J] at G ⊢;rw[Q];obtain⟨a,b⟩:=h.no p G;exact⟨Int.le_trans a (u.fe _),fun hq=>b (u.to _ _ (by omega) hq)⟩
 ·rw[J] at G ⊢;obtain⟨a,b⟩:=h.hs G;exact⟨fun p G=>u.ha _ _ (a p G),u.se _ _ b⟩
 rw[J] at G S ⊢;rw[K];exact ZH (fun p G=>u.ha _ _ G) (h.gd G n V S)
theorem o8 {l:List Lk}{m:Lt}(h:m∈Gf l):∃y∈l,y.to=0∧m=⟨y.ask,y.q,y.r⟩:=by
 obtain⟨y,G,rfl⟩:=List.mem_map.1 h;have:=List.mem_filter.1 G;exact⟨y,this.1,by simpa using this.2,rfl⟩
theorem vV {s:Sg}(h:nA s){b:List Lt}(G:∀m∈b,m.ask=true→jw s.bS m.q.n m.q.body)(J:∀m∈b,m.ask=false→m.r.code=0→m.r.from_∈bn s.had m.r.n):nA { s with bH:=b }:=
 ⟨h.wk,h.nx,h.hd,G,J,h.ask,h.Vu,h.pl,h.good⟩
theorem wZ (s:Sk)(h:fB s):0≤s.w.sure∧s.w.sure≤(s.bS.length:Int):=ZI h.S
theorem nC {s:Sk}(h:fB s){to:Int}{l:List Rq}(hr:to=0∨(s.first<to∧to≤s.ak))(hl:∀q∈l,rZ s to q):fB (iq s to l):=by
 have J:∀m∈(iq s to l).bH,m∈s.bH∨(m.ask=true∧m.to=to∧m.q∈l):=by
  intro m J;rcases List.mem_append.1 J with J|J
  ·exact .inl J
  obtain⟨q,hq,rfl⟩:=List.mem_map.1 J;exact .inr ⟨rfl,rfl,List.mem_of_mem_take hq⟩
 have u:xO s (iq s to l):=xO.rfl' rfl rfl (Int.le_refl _) rfl rfl rfl rfl;refine⟨?_,h.wl,h.f0,h.ln,h.ep,h.hb,h.ht,h.fs,fun m G=>?_,h.lp,fun X=>uf u rfl rfl rfl X (h.rv X)⟩
 ·refine vV h.S (b:=Gf (iq s to l).bH) (fun m G V=>?_) (fun m G V hc=>?_)
  ·obtain⟨y,K,h0,rfl⟩:=o8 G;rcases J y K with K|⟨e1,Q,e3⟩
   ·have:=h.S.bq ⟨y.ask,y.q,y.r⟩ (List.mem_map.2 ⟨y,List.mem_filter.2 ⟨K,by simp[h0]⟩,rfl⟩) V;exact this
   have hq:=hl _ e3;exact hq.bo (hq.w0 (by rw[←Q];exact h0)).2
  obtain⟨y,K,h0,rfl⟩:=o8 G;rcases J y K with K|⟨e1,Q,e3⟩
  ·exact h.S.br ⟨y.ask,y.q,y.r⟩ (List.mem_map.2 ⟨y,List.mem_filter.2 ⟨K,by simp[h0]⟩,rfl⟩) V hc
  rw[e1] at V;cases V
 rcases J m G with G|⟨e1,Q,e3⟩
 ·exact kG u (h.lt m G)
 refine⟨by rw[Q];exact hr,fun _=>?_,fun e=>by rw[e1] at e;cases e⟩;rw[Q];exact Ep u (hl _ e3)
theorem FW {s:Sk}(h:fB s){b:List Lk}(V:∀m∈b,m∈s.bH):fB { s with bH:=b }:=by
 have u:xO s { s with bH:=b }:=xO.rfl' rfl rfl (Int.le_refl _) rfl rfl rfl rfl;refine⟨?_,h.wl,h.f0,h.ln,h.ep,h.hb,h.ht,h.fs,fun m G=>kG u (h.lt m (V m G)),h.lp,fun J=>uf u rfl rfl rfl J (h.rv J)⟩;refine vV h.S (b:=Gf b) (fun m G Q=>?_) (fun m G Q hc=>?_)
 ·obtain⟨y,X,K,rfl⟩:=o8 G;exact h.S.bq ⟨y.ask,y.q,y.r⟩ (List.mem_map.2 ⟨y,List.mem_filter.2 ⟨V y X,by simp[K]⟩,rfl⟩) Q
 obtain⟨y,X,K,rfl⟩:=o8 G;exact h.S.br ⟨y.ask,y.q,y.r⟩ (List.mem_map.2 ⟨y,List.mem_filter.2 ⟨V y X,by simp[K]⟩,rfl⟩) Q hc
theorem BL {s:Sk}(h:fB s)(k:Nat):fB (ny s k):=
 FW h fun m G=>by
  rcases List.mem_append.1 G with G|G
  ·exact List.mem_of_mem_take G
  exact List.mem_of_mem_drop G
theorem Vv {s:Sk}(h:fB s){to:Int}{r:Rs}(hr:to=0∨(s.first<to∧to≤s.ak))(X:yG s to r)(hw:to=0→r.code=0→r.from_∈bn s.told r.n):fB { s with bH:=s.bH++[⟨false,to,Xv,r⟩] }:=by
 have u:xO s { s with bH:=s.bH++[⟨false,to,Xv,r⟩] }:=xO.rfl' rfl rfl (Int.le_refl _) rfl rfl rfl rfl;refine⟨?_,h.wl,h.f0,h.ln,h.ep,h.hb,h.ht,h.fs,fun m G=>?_,h.lp,fun K=>uf u rfl rfl rfl K (h.rv K)⟩
 ·refine vV h.S (b:=Gf (s.bH++[⟨false,to,Xv,r⟩])) (fun m G V=>?_) (fun m G V hc=>?_)
  ·obtain⟨y,J,Q,rfl⟩:=o8 G;rcases List.mem_append.1 J with J|J
   ·exact h.S.bq ⟨y.ask,y.q,y.r⟩ (List.mem_map.2 ⟨y,List.mem_filter.2 ⟨J,by simp[Q]⟩,rfl⟩) V
   rw[List.mem_singleton] at J;subst J;cases V
  obtain⟨y,J,Q,rfl⟩:=o8 G;rcases List.mem_append.1 J with J|J
  ·exact h.S.br ⟨y.ask,y.q,y.r⟩ (List.mem_map.2 ⟨y,List.mem_filter.2 ⟨J,by simp[Q]⟩,rfl⟩) V hc
  rw[List.mem_singleton] at J;subst J;exact hw Q hc
 rcases List.mem_append.1 G with G|G
 ·exact kG u (h.lt m G)
 rw[List.mem_singleton] at G;subst G;exact⟨hr,fun e=>(by cases e),fun _=>tV u X⟩
end Go.AX
end
section
namespace Go.AX
end Go.AX
end
section
namespace Go.AX
theorem Q7 {l:List Fr}{f:Fr}{n:Int}(h:l.getLast? = some f)(G:f.first≤n):eH l n=some f:=by
 obtain⟨r,J⟩:=List.getLast?_eq_some_iff.1 h;unfold eH iY;rw[J,List.foldl_append];simp[G]
theorem Q8 {b:List Pl}(K:b.Nodup){k W:Nat}(S:0<b.length)(hW:W≤b.length):(eP b k W).Nodup:=by
 unfold eP;rw[List.nodup_iff_pairwise_ne,List.pairwise_map];rw[List.nodup_iff_pairwise_ne,List.pairwise_iff_getElem] at K;have:(List.range W).Pairwise (· < ·):=List.pairwise_lt_range;refine List.Pairwise.imp_of_mem (fun {i j} hi hj X e=>?_) this;rw[List.mem_range] at hi hj;have G:=Nat.mod_lt (k+i) S;have J:=Nat.mod_lt (k+j) S;rw[getElem!_pos b _ G,getElem!_pos b _ J] at e;have Q:(k+i)%b.length≠(k+j)%b.length:=by
  intro V;have:=Nat.sub_mod_eq_zero_of_mod_eq V.symm;rw[show k+j-(k+i)=j-i by omega,Nat.mod_eq_of_lt (by omega)] at this;omega
 rcases Nat.lt_or_gt_of_ne Q with h|h
 ·exact K _ _ G J h e
 exact K _ _ J G h e.symm
theorem ad8 {set f:List Pl}(G:set.Nodup)(hall:∀p∈set,p∈f):yF set f=set.length:=by
 have:∀k,k≤set.length→lJ set f k=k:=by
  intro k;induction k with
  |zero=>intro _;rfl
  | succ k ih=>
    intro K;rw[wS set f k (by omega),ih (by omega),if_pos];rw[Bool.and_eq_true];refine⟨?_,?_⟩
    ·rw[List.any_eq_true];exact⟨set[k],hall _ (List.getElem_mem _),by simp⟩
    rw[Bool.not_eq_true',List.any_eq_false];intro x J e;obtain⟨i,hi,rfl⟩:=List.getElem_of_mem J;rw[List.length_take] at hi;rw[List.getElem_take] at e;rw[List.nodup_iff_pairwise_ne,List.pairwise_iff_getElem] at G;exact G i k (by omega) (by omega) (by omega) (by simpa using e)
 exact this _ (Nat.le_refl _)
theorem Dq {l:List Fr}{w:Int}(h:dh w l=true):∃f,l.getLast? = some f∧aL l=f∧f∈l∧iK w f=true:=by
 simp only[dh,Bool.and_eq_true,dA,decide_eq_true_eq,List.all_eq_true] at h;obtain⟨⟨J,Q⟩,S,K,V⟩:=h;cases G:l.getLast? with
 | none=>
   have:l=[]:=by simpa using G
   rw[this] at J;simp at J
 |some f=>exact⟨f,rfl,by simp[aL,G],List.mem_of_getLast? G,K f (List.mem_of_getLast? G)⟩
theorem blocked {m:Int}{w:Wr}(h:GoW m w){x:Wt}(J:w.waits.head? = some x):∃y∈fD w x.n,y∉x.from_∧y∈(aL w.l.af).ah:=by
 obtain⟨f,hf,e,hm,hg⟩:=Dq h.fr;have al:x.n=w.sure+1:=by
  cases V:w.waits with
  |nil=>rw[V] at J;cases J
  | cons y r=>
    have ag:0<w.waits.length:=by rw[V];simp
    have:=h.num 0 ag;have e0:w.waits[0]=x:=by
     rw[V] at J;simp only[List.head?_cons,Option.some.injEq] at J;simp only[V,List.getElem_cons_zero];exact J
    rw[e0] at this;omega
 simp only[iK,Bool.and_eq_true,dA,decide_eq_true_eq,List.all_eq_true] at hg;obtain⟨⟨g1,g2⟩,⟨g3,g4⟩,g5,X⟩:=hg;have ae:=h.last;rw[e] at ae;have h1:=h.a1;have h2:=h.aw;have aa:eH w.l.af x.n=some f:=Q7 hf (by omega);have G:fD w x.n=eP f.ah ((x.n-f.first)%f.ah.length).toNat w.l.w.toNat:=by
  unfold fD setOf;rw[aa];simp only;rw[if_pos ⟨by omega,g3⟩]
 have hb:f.ah.Nodup:=by
  rw[List.nodup_iff_pairwise_ne] at X ⊢;rw[List.pairwise_map] at X;exact X.imp fun h e=>h (by rw[e])
 have ad:∀y∈fD w x.n,y∈(aL w.l.af).ah:=fun y K=>by
  rw[G] at K;unfold eP at K;obtain⟨i,_,rfl⟩:=List.mem_map.1 K;rw[e,getElem!_pos f.ah _ (Nat.mod_lt _ (by omega))];exact List.getElem_mem _
 refine Classical.byContradiction fun ak=>?_
 have Q:∀y∈fD w x.n,y∈x.from_:=fun y K=>Classical.byContradiction fun hn=>ak ⟨y,K,hn,ad y K⟩
 have ai:(fD w x.n).Nodup:=by rw[G];exact Q8 hb (by omega) (by omega)
 have hc:=ad8 ai Q;have S:(fD w x.n).length=w.l.w.toNat:=by rw[G];simp[eP]
 have:=h.head x J;unfold bE at this;rw[hc,S,Bool.and_eq_false_iff,decide_eq_false_iff_not,decide_eq_false_iff_not] at this;rcases this with g|g<;>omega
theorem F3 (l:List Fr)(f:Fr):aL (dS l f)=f:=by unfold dS aL;simp
theorem adz (l:List Fr)(f:Fr):(dS l f).length≤l.length+1:=by
 unfold dS;split<;>simp
theorem adQ {w:Int}{l:List Fr}{f:Fr}(h:dh w l=true)(hf:iK w f=true)(aa:(aL l).first≤f.first)(ad:(dS l f).length≤6):dh w (dS l f)=true:=by
 obtain⟨g,hg,e,hm,_⟩:=Dq h;obtain⟨r,V⟩:=List.getLast?_eq_some_iff.1 hg;simp only[dh,Bool.and_eq_true,dA,decide_eq_true_eq,List.all_eq_true] at h ⊢;obtain⟨⟨h1,h2⟩,Q,X,K⟩:=h;rw[e] at aa;have ae:1≤(dS l f).length:=by unfold dS;simp
 refine⟨⟨by omega,by omega⟩,?_⟩;unfold dS;rw[e];split
 ·rename_i he;rw[beq_iff_eq] at he;rw[V,List.dropLast_concat];rw[V] at Q X K;rw[List.pairwise_append] at K;refine⟨?_,fun x G=>?_,?_⟩
  ·cases r with
   | nil=>
     simp only[List.nil_append,q9,beq_iff_eq] at Q ⊢;omega
   |cons a r=>exact Q
  ·rcases List.mem_append.1 G with G|G
   ·exact X x (List.mem_append_left _ G)
   rw[List.mem_singleton] at G;subst G;exact hf
  rw[List.pairwise_append];refine⟨K.1,by simp,fun a J b S=>?_⟩;rw[List.mem_singleton] at S;subst S;have:=K.2.2 a J g (by simp);omega
 rename_i he;rw[beq_iff_eq] at he;refine⟨?_,fun x G=>?_,?_⟩
 ·rw[V] at Q ⊢;cases r with
  |nil=>exact Q
  |cons a r=>exact Q
 ·rcases List.mem_append.1 G with G|G
  ·exact X x G
  rw[List.mem_singleton] at G;subst G;exact hf
 rw[List.pairwise_append];refine⟨K,by simp,fun a J b S=>?_⟩;rw[List.mem_singleton] at S;subst S;rw[V] at K J;rw[List.pairwise_append] at K;rcases List.mem_append.1 J with J|J
 ·have:=K.2.2 a J g (by simp);omega
 rw[List.mem_singleton] at J;subst J;omega
structure N1 (known f0:List Pl)(l:List Pl):Prop where
 nd:(l.map (·.node)).Nodup
 mem:∀p∈l,p∈known∨p∈f0
theorem TK {known f0:List Pl}{f:Fr}(h:N1 known f0 f.ah){J:List Pl}(S:∀p∈J,p∈known)(old:Pl):N1 known f0 (iF f old J).1.ah:=by
 cases e:(iF f old J).2 with
 | false=>
   rw[(Ef e).1];exact h
 | true=>
   obtain⟨p,X,hs⟩:=Ee e;obtain⟨k,V,e1,K,Q⟩:=Bw hs h.nd;refine⟨Q,fun q G=>?_⟩;rw[K] at G;rcases List.mem_or_eq_of_mem_set G with G|G
   ·exact h.mem q G
   exact .inl (G▸S p X)
theorem TL {known f0 bad J:List Pl}(G:∀p∈J,p∈known):∀(l:List Pl) (st:Fr×List Pl×Bool),N1 known f0 st.1.ah→N1 known f0 (l.foldl (xA bad J) st).1.ah
 |[],st,h=>h
 | old::l,st,h=>by
   rw[List.foldl_cons];refine TL G l _ ?_;unfold xA;split
   ·split
    ·exact TK h G old
    exact TK h G old
   exact h
theorem TM {known f0:List Pl}{w:Int}:∀(l:List Pl) (st:List Pl×Bool),N1 known f0 st.1→w≤(st.1.length:Int)→N1 known f0 (l.foldl (DX w) st).1∧w≤((l.foldl (DX w) st).1.length:Int)∧(l.foldl (DX w) st).1.length≤st.1.length
 |[],st,h,K=>⟨h,K,Nat.le_refl _⟩
 | old::l,st,h,K=>by
   rw[List.foldl_cons];have G:N1 known f0 (DX w st old).1∧w≤((DX w st old).1.length:Int)∧(DX w st old).1.length≤st.1.length:=by
    unfold DX;split
    ·rename_i hc;simp only[Bool.and_eq_true,decide_eq_true_eq] at hc;have J:=List.length_eraseIdx_le st.1 (uI (· == old) st.1).toNat;have Q:st.1.length-1≤(st.1.eraseIdx (uI (· == old) st.1).toNat).length:=by rw[List.length_eraseIdx];split<;>omega
     exact⟨⟨h.nd.sublist ((List.eraseIdx_sublist _ _).map _),fun p S=>h.mem p (List.mem_of_mem_eraseIdx S)⟩,by show w≤((st.1.eraseIdx _).length:Int);omega,J⟩
    exact⟨h,K,Nat.le_refl _⟩
   obtain⟨a,b,c⟩:=TM l _ G.1 G.2.1;exact⟨a,b,Nat.le_trans c G.2.2⟩
theorem TN {known f0:List Pl}{e:Int}:∀(l b:List Pl),N1 known f0 b→(∀y∈l,y∈known)→b.length≤5→N1 known f0 (l.foldl (FB e) b)∧b.length≤(l.foldl (FB e) b).length∧(l.foldl (FB e) b).length≤5
 |[],b,h,_,Q=>⟨h,Nat.le_refl _,Q⟩
 | p::l,b,h,S,Q=>by
   rw[List.foldl_cons];have K:N1 known f0 (FB e b p)∧b.length≤(FB e b p).length∧(FB e b p).length≤5:=by
    unfold FB;by_cases hc:(decide ((b.length:Int)<(if 5<e then 5 else e)) && !(b.any fun y=>y.node==p.node))=true
    ·rw[if_pos hc];simp only[Bool.and_eq_true,decide_eq_true_eq,Bool.not_eq_true',List.any_eq_false,beq_iff_eq] at hc;refine⟨⟨?_,fun q G=>?_⟩,by rw[List.length_append];omega,?_⟩
     ·rw[List.map_append,List.nodup_append];refine⟨h.nd,by simp,fun x X y J=>?_⟩;obtain⟨q,G,rfl⟩:=List.mem_map.1 X;simp only[List.map_cons,List.map_nil,List.mem_singleton] at J;subst J;exact hc.2 q G
     ·rcases List.mem_append.1 G with G|G
      ·exact h.mem q G
      rw[List.mem_singleton] at G;exact .inl (G▸S p (by simp))
     rw[List.length_append,List.length_singleton];have:=hc.1;split at this<;>omega
    rw[if_neg hc];exact⟨h,Nat.le_refl _,Q⟩
   obtain⟨a,V,c⟩:=TN l _ K.1 (fun y J=>S y (by simp[J])) K.2.2;exact⟨a,Nat.le_trans K.2.1 V,c⟩
theorem QS {f:Fr}{w e:Int}{bad known:List Pl}(hf:(f.ah.map (·.node)).Nodup)(h1:w≤(f.ah.length:Int))(h2:f.ah.length≤5)(J:(fC f w e bad known).2=true) :
  N1 known f.ah (fC f w e bad known).1.ah∧w≤((fC f w e bad known).1.ah.length:Int)∧(fC f w e bad known).1.ah.length≤5:=by
 have S:∀p∈fit bad known,p∈known:=fun p G=>(List.mem_filter.1 G).1
 have V:N1 known f.ah (fZ f bad (fit bad known)).1.ah:=TL S _ _ ⟨hf,fun p G=>.inr G⟩;have X:=(Ah bad (fit bad known) f.ah (f,[],false)).1;change (fZ f bad (fit bad known)).1.ah.length=f.ah.length at X
 obtain⟨b1,K,Q⟩:=TM (w:=w) (fZ f bad (fit bad known)).2.1 ((fZ f bad (fit bad known)).1.ah,(fZ f bad (fit bad known)).2.2) V (by show w≤((fZ f bad (fit bad known)).1.ah.length:Int);omega);have Q:(nT w (fZ f bad (fit bad known))).1.length≤(fZ f bad (fit bad known)).1.ah.length:=Q;obtain⟨c1,c2,c3⟩:=TN (e:=e) (fit bad known) (nT w (fZ f bad (fit bad known))).1 b1 S (by omega);unfold fC at J ⊢;split
 ·refine⟨c1,?_,c3⟩;have K:w≤((nT w (fZ f bad (fit bad known))).1.length:Int):=K;show w≤(((fit bad known).foldl (FB e) (nT w (fZ f bad (fit bad known))).1).length:Int)
  omega
 rename_i hc;rw[if_neg hc] at J;cases J
def pY (known:List Pl):Prop:=∀p∈known,vR p=true
theorem Nk {f:Fr}{w e n:Int}{bad known:List Pl}(K:iK w f=true)(hk:pY known)(hn:1≤n∧n≤9)(hr:(fC f w e bad known).2=true):iK w ⟨n,(fC f w e bad known).1.ah⟩=true:=by
 simp only[iK,Bool.and_eq_true,dA,decide_eq_true_eq,List.all_eq_true] at K ⊢;obtain⟨⟨a1,a2⟩,⟨Q,a4⟩,S,V⟩:=K;obtain⟨J,X,b3⟩:=QS V Q (by omega) hr;refine⟨hn,⟨X,by omega⟩,fun p G=>?_,J.nd⟩;rcases J.mem p G with G|G
 ·exact hk p G
 exact S p G
theorem QT {q:Fr→Bool}{l:List Fr}{f:Fr}(h:q f=true):iY q (l++[f])=some f:=by
 unfold iY;rw[List.foldl_append];simp[h]
theorem qL {l:List Fr}(K:0<l.length){n:Int}(h:(aL l).first≤n):eH l n=some (aL l):=by
 obtain⟨g,G⟩:∃g,l.getLast? = some g:=by
  cases J:l.getLast? with
  |none=>rw[List.getLast?_eq_none_iff] at J;subst J;simp at K
  |some g=>exact⟨g,rfl⟩
 obtain⟨r,Q⟩:=List.getLast?_eq_some_iff.1 G;have e:aL l=g:=by unfold aL;rw[G];rfl
 rw[e] at h ⊢;rw[Q];unfold eH;exact QT (by simpa using h)
theorem vN {x:Rv}(G:0<x.l.af.length):aS x=aL x.l.af:=by
 unfold aS aL;rw[getElem!_pos x.l.af _ (by omega),List.getLast?_eq_getElem?,List.getElem?_eq_getElem (by omega)];rfl
theorem iU {l:List Fr}(J:0<l.length):aL l∈l:=by
 cases G:l.getLast? with
 |none=>rw[List.getLast?_eq_none_iff] at G;subst G;simp at J
 | some g=>
   have e:aL l=g:=by unfold aL;rw[G];rfl
   rw[e];exact List.mem_of_getLast? G
theorem dO {w:Int}{l:List Fr}(h:dh w l=true):(0<l.length∧l.length≤6)∧∀f∈l,iK w f=true:=by
 simp only[dh,Bool.and_eq_true,dA,decide_eq_true_eq,List.all_eq_true] at h;exact⟨⟨by omega,by omega⟩,h.2.2.1⟩
theorem lX {l:Lg}(h:dN l=true):dh l.w l.af=true∧1≤l.a∧l.a≤l.w:=by
 simp only[dN,Bool.and_eq_true,dA,decide_eq_true_eq] at h;exact⟨h.2.2.2.1,h.2.1.1,h.2.1.2⟩
theorem Jm {x:Rv}(G:0<x.af.length)(h:(aL x.af).first≤x.n)(b:List Pl):iM x++[⟨x.n,b⟩]=dS x.af ⟨x.n,b⟩:=by
 unfold iM dS gM;rw[qL G h];simp only[Option.getD_some];have J:decide ((x.af.length:Int)>0)=true:=by simp;omega
 simp only[J,Bool.and_true,List.dropLast_eq_take]
structure RvB (s:Sk)(y:Rv):Prop where
 l:y.l=s.x
 may:dN s.x=true
 ep:y.ak=s.ak
 su:0≤y.sure∧y.sure≤s.w.sure
 he:∀p∈y.heard,s.ak≤iT s.aF p
 fr:dh s.x.w y.af=true
theorem ug {s:Sk}{y:Rv}(h:kS { s with r:=y }):RvB s y:=⟨h.l,h.may,h.ep,h.su,h.he,h.fr⟩
theorem Aa {l:List Pl}{p:Pl}(h:l.any (· == p)=true):p∈l:=by
 obtain⟨x,G,e⟩:=List.any_eq_true.1 h;have:x=p:=by simpa using e
 exact this▸G
section
variable {s:Sk}(hf:0≤s.first)(hlt:s.first<s.ak)
include hf hlt
theorem ZJ {y:Rv}(h:RvB s y)(p:Pl):rZ s s.ak (FM y p):=
 ⟨(by show (0:Int)≤_;exact Int.le_trans h.su.1 h.su.2),(fun e=>absurd e (by show ¬(2:Int)=1;decide)),(fun e=>by omega),(fun _=>h.ep),(fun e=>absurd e (by show ¬(2:Int)=3;decide))⟩
theorem Nl {y:Rv}(h:RvB s y){p:Pl}(hp:s.ak≤iT s.aF p):rZ s s.ak (jB y p):=
 ⟨(by show (0:Int)≤_;exact Int.le_trans h.su.1 h.su.2),(fun e=>absurd e (by show ¬(3:Int)=1;decide)),(fun e=>by omega),(fun _=>h.ep),(fun _=>hp)⟩
theorem adP {y:Rv}(h:RvB s y)(G:jw s.bS y.n y.body)(p:Pl):rZ s s.ak (xP y p):=
 ⟨h.su.2,(fun _=>G),(fun e=>by omega),(fun _=>h.ep),(fun e=>absurd e (by show ¬(1:Int)=3;decide))⟩
theorem Jy {y:Rv}(h:RvB s y)(l:List Pl):∀q∈ic y l,rZ s s.ak q:=fun q G=>by
 obtain⟨p,_,rfl⟩:=List.mem_map.1 G;exact ZJ hf hlt h p
theorem TP {y:Rv}(h:RvB s y)(l:List Pl):∀q∈gF y l,rZ s s.ak q:=fun q J=>by
 obtain⟨p,G,rfl⟩:=List.mem_map.1 J;have:=(List.mem_filter.1 G).2;simp only[Bool.and_eq_true] at this;exact Nl hf hlt h (h.he p (Aa this.1))
theorem BM {y:Rv}(h:RvB s y)(G:jw s.bS y.n y.body)(l:List Pl):∀q∈aU y l,rZ s s.ak q:=fun q J=>by
 obtain⟨p,_,rfl⟩:=List.mem_map.1 J;exact adP hf hlt h G p
theorem TQ {y:Rv}(h:RvB s y){n now:Int}(X:1≤n∧n≤9)(hl:n≤8→(aL y.af).first≤n)(V:∀k,1≤k→k<n→bE (setOf y.af s.x.w k) s.x.a (bn s.has k)=true) :
  kS { s with r:=(bB y n now).1 }∧∀q∈(bB y n now).2,rZ s s.ak q:=by
 unfold bB;dsimp only
 split
 ·rename_i K;simp only[decide_eq_true_eq] at K;refine⟨⟨h.l,h.may,h.ep,h.su,h.he,(fun p Q=>by cases Q),.inr (.inr (.inr rfl)),(fun e=>absurd e (by show ¬(4:Int)=1;decide)),(fun _=>X),(fun e=>?_),(fun e=>absurd e (by show ¬(4:Int)=3;decide)),(fun _ k G J=>V k G J),h.fr,(fun _ e=>?_)⟩,fun q hq=>by cases hq⟩
  ·rcases e with e|e
   ·exact absurd e (by show ¬(4:Int)=2;decide)
   exact absurd e (by show ¬(4:Int)=3;decide)
  have e:n≤8:=e;omega
 rename_i K;simp only[decide_eq_true_eq] at K;have S:n≤8:=by omega
 refine⟨⟨h.l,h.may,h.ep,h.su,h.he,(fun p Q=>by cases Q),.inr (.inl rfl),(fun e=>absurd e (by show ¬(2:Int)=1;decide)),(fun _=>X),(fun _=>⟨S,hl S⟩),(fun e=>absurd e (by show ¬(2:Int)=3;decide)),(fun _ k G J=>V k G J),h.fr,(fun e=>absurd e (by show ¬(2:Int)=4;decide))⟩,?_⟩;exact TP hf hlt (y:={ y with n:=n,none:=[],has:=[],body:=[],bad:=[],phase:=2,born:=now,since:=now }) ⟨h.l,h.may,h.ep,h.su,h.he,h.fr⟩ _
theorem BN {z:Rv}(h:kS { s with r:=z })(G:z.phase=3)(now:Int) :
  kS { s with r:=(aZ z now).1 }∧∀q∈(aZ z now).2,rZ s s.ak q:=by
 unfold aZ;split
 ·rename_i J;have hz:z.l=s.x:=h.l;have K:=h.n1 (by show z.phase≠1;rw[G];decide);have Q:=h.n2 (.inr G);have hs:=h.hs G;change 1≤z.n∧z.n≤9 at K
  change z.n≤8∧(aL z.af).first≤z.n at Q
  refine TQ hf hlt (ug h) ⟨by omega,by omega⟩ (fun _=>by omega) (fun k S h2=>?_);by_cases V:k<z.n
  ·exact h.gd (by show z.phase≠1;rw[G];decide) k S V
  have:k=z.n:=by omega
  subst this;unfold aj at J;rw[hz] at J;exact qg hs.1 J
 exact⟨h,fun q X=>by cases X⟩
theorem ZK {z:Rv}(h:kS { s with r:=z })(K:z.phase=3)(now:Int){p:Pl}(hp:p∈bn s.has z.n) :
  kS { s with r:=(je z now p).1 }∧∀q∈(je z now p).2,rZ s s.ak q:=by
 unfold je;split
 ·exact⟨h,fun q J=>by cases J⟩
 refine BN hf hlt (z:={ z with has:=z.has++[p] }) ⟨h.l,h.may,h.ep,h.su,h.he,h.no,h.ph,h.p1,h.n1,h.n2,(fun e=>⟨fun x G=>?_,(h.hs e).2⟩),h.gd,h.fr,h.en⟩ K now;rcases List.mem_append.1 G with G|G
 ·exact (h.hs e).1 x G
 rw[List.mem_singleton] at G;subst G;exact hp
omit hf hlt in
theorem yK {x:Rv}(h:kS { s with r:=x })(b:List Pl)(born since:Int):kS { s with r:={ x with bad:=b,born:=born,since:=since } }:=
 ⟨h.l,h.may,h.ep,h.su,h.he,h.no,h.ph,h.p1,h.n1,h.n2,h.hs,h.gd,h.fr,h.en⟩
end
def wU (y:Rv)(now:Int)(r:Rs):Rv×List Rq:=
 if y.phase==1&&eu (aS y) y.l.w y.l.a y.heard then bB y (max (y.sure+1) (aS y).first) now
 else if y.phase==2&&(aC y).any (· == r.from_) then (y,[jB y r.from_])
 else (y,[])
theorem pX (x:Rv)(now:Int)(r:Rs):fQ x now r=if !(aS x).ah.any (· == r.from_)||x.heard.any (· == r.from_) then (x,[]) else wU { x with heard:=x.heard++[r.from_],sure:=min (max x.sure r.sure) 8 } now r:=rfl
section
variable {s:Sk}(H:fB s)(hlt:s.first<s.ak)
include H hlt
theorem Jg {r:Rs}(hr:yG s s.ak r)(he:r.ak=s.r.ak)(hk:r.kind=2)(hc:r.code=0)(now:Int) :
  kS { s with r:=(fQ s.r now r).1 }∧∀q∈(fQ s.r now r).2,rZ s s.ak q:=by
 have h:=H.rv hlt;have Kz:s.ak≤iT s.aF r.from_:=by have:=hr.f2 hk hc;rw[he,h.ep] at this;exact this
 rw[pX];split
 ·exact⟨h,fun q V=>by cases V⟩
 have tZ:0≤min (max s.r.sure r.sure) 8∧min (max s.r.sure r.sure) 8≤s.w.sure:=by
  have h1:=h.su;have h2:=hr.su;omega
 obtain⟨y,hy⟩:∃y:Rv,y={ s.r with heard:=s.r.heard++[r.from_],sure:=min (max s.r.sure r.sure) 8 }:=⟨_,rfl⟩;have Q:kS { s with r:=y }:=by
  rw[hy];refine⟨h.l,h.may,h.ep,tZ,fun p J=>?_,h.no,h.ph,h.p1,h.n1,h.n2,h.hs,h.gd,h.fr,h.en⟩;rcases List.mem_append.1 J with J|J
  ·exact h.he p J
  rw[List.mem_singleton] at J;subst J;exact Kz
 rw[←hy];have hf:=H.f0;unfold wU;split
 ·rename_i K;simp only[Bool.and_eq_true,beq_iff_eq] at K;have X:y.af=s.x.af:=Q.p1 K.1;have aa:y.l=s.x:=Q.l;obtain⟨m1,m2,m3⟩:=lX h.may;have G:=(dO m1).1;have ae:aS y=aL s.x.af:=by
   have:=vN (x:=y) (by rw[aa];exact G.1);rw[this,aa]
  have ag:y.sure=min (max s.r.sure r.sure) 8:=by rw[hy]
  have ai:=H.lp;have al:=wZ s H;have ah:=H.ln;have ad:=(dO m1).2 _ (iU G.1);simp only[iK,Bool.and_eq_true,dA,decide_eq_true_eq] at ad;rw[ae,ag];refine TQ hf hlt (ug Q) ⟨by omega,by omega⟩ (fun _=>by rw[X];omega) (fun k h1 h2=>?_);rw[X];have hk:k≤s.w.sure:=by omega
  have hg:=H.S.good k h1 hk;change bE (setOf s.x.af s.w.l.w k) s.w.l.a (bn s.told k)=true at hg
  rw[H.wl.1,H.wl.2.1] at hg;exact qg (fun p J=>H.ht p k J) hg
 split
 ·rename_i K;refine⟨Q,fun q V=>?_⟩;rw[List.mem_singleton] at V;subst V;exact Nl hf hlt (ug Q) Kz
 exact⟨Q,fun q V=>by cases V⟩
theorem agS {r:Rs}(hr:yG s s.ak r)(he:r.ak=s.r.ak)(hk:r.kind=3)(hn:r.n=s.r.n)(now:Int) :
  kS { s with r:=(lm s.r now r).1 }∧∀q∈(lm s.r now r).2,rZ s s.ak q:=by
 have h:=H.rv hlt;have hf:=H.f0;unfold lm;split
 ·rename_i hc;simp only[Bool.and_eq_true,beq_iff_eq] at hc;obtain⟨S,Q⟩:=hr.ok hk hc.2.1;rw[hn] at S Q;have K:=h.n1 (by rw[hc.1];decide);have V:=h.n2 (.inl hc.1);have hZ:kS { s with r:=aN s.r now r }:=by
   refine⟨h.l,h.may,h.ep,h.su,h.he,h.no,.inr (.inr (.inl rfl)),(fun e=>absurd e (by show ¬(3:Int)=1;decide)),(fun _=>K),(fun _=>V),(fun _=>⟨fun p G=>?_,Q⟩),(fun _=>h.gd (by rw[hc.1];decide)),h.fr,(fun e=>absurd e (by show ¬(3:Int)=4;decide))⟩;have G:p∈[r.from_]:=G;rw[List.mem_singleton] at G;subst G;exact S
  obtain⟨a,b⟩:=BN hf hlt hZ rfl now;refine⟨a,fun q J=>?_⟩;rcases List.mem_append.1 J with J|J
  ·exact BM hf hlt (ug hZ) Q _ q J
  exact b q J
 split
 ·rename_i hc;simp only[Bool.and_eq_true,beq_iff_eq] at hc;obtain⟨S,Q,o3⟩:=hr.no hk hc.2.1;rw[he,h.ep] at Q;rw[hn] at o3;have K:=h.n1 (by rw[hc.1];decide);have V:=h.n2 (.inl hc.1);have aa:=h.gd (by rw[hc.1];decide);have X:∀p∈s.r.none++[r.from_],s.ak≤iT s.aF p∧p∉bn s.told s.r.n:=fun p G=>by
   rcases List.mem_append.1 G with G|G
   ·exact h.no p G
   rw[List.mem_singleton] at G;subst G;exact⟨Q,o3⟩
  refine⟨?_,fun q J=>by cases J⟩;dsimp only
  split
  ·rename_i hm;unfold aC at hm;rw[h.l] at hm;exact⟨h.l,h.may,h.ep,h.su,h.he,X,.inr (.inr (.inr rfl)),(fun e=>absurd e (by show ¬(4:Int)=1;decide)),(fun _=>K),(fun e=>by
    rcases e with e|e
    ·exact absurd e (by show ¬(4:Int)=2;decide)
    exact absurd e (by show ¬(4:Int)=3;decide)),(fun e=>absurd e (by show ¬(4:Int)=3;decide)),(fun _=>aa),h.fr,(fun _ _=>hm)⟩
  exact⟨h.l,h.may,h.ep,h.su,h.he,X,h.ph,h.p1,h.n1,h.n2,h.hs,h.gd,h.fr,(fun e=>by
   have e:s.r.phase=4:=e;rw[hc.1] at e;cases e)⟩
 split
 ·rename_i hc;simp only[Bool.and_eq_true,beq_iff_eq] at hc;obtain⟨S,Q⟩:=hr.ok hk hc.2.1;rw[hn] at S;exact ZK hf hlt h hc.1 now S
 exact⟨h,fun q J=>by cases J⟩
theorem ZL {r:Rs}(S:yG s s.ak r)(K:r.kind=1)(Q:r.n=s.r.n)(J:s.r.phase=3)(now:Int) :
  kS { s with r:=(fI s.r now r).1 }∧∀q∈(fI s.r now r).2,rZ s s.ak q:=by
 have h:=H.rv hlt;have hf:=H.f0;unfold fI;split
 ·rename_i hc;rw[beq_iff_eq] at hc;have o:=S.ad K hc;rw[Q] at o;exact ZK hf hlt h J now o
 split
 ·exact⟨yK h _ _ _,fun q G=>by cases G⟩
 split
 ·exact⟨yK h _ _ _,fun q G=>by cases G⟩
 exact⟨h,fun q G=>by cases G⟩
theorem ZM {r:Rs}(K:yG s s.ak r)(now:Int) :
  kS { s with r:=(bJ s.r now r).1 }∧∀q∈(bJ s.r now r).2,rZ s s.ak q:=by
 have h:=H.rv hlt;unfold bJ;split
 ·exact⟨h,fun q J=>by cases J⟩
 rename_i hc;simp only[Bool.or_eq_true,bne_iff_ne,not_or,Decidable.not_not,ne_eq] at hc;split
 ·rename_i G;simp only[Bool.and_eq_true,beq_iff_eq] at G;exact Jg H hlt K hc.2 G.1 G.2.1 now
 split
 ·rename_i G;simp only[Bool.and_eq_true,beq_iff_eq] at G;exact agS H hlt K hc.2 G.1 G.2 now
 split
 ·rename_i G;simp only[Bool.and_eq_true,beq_iff_eq] at G;exact ZL H hlt K G.1 G.2.1 G.2.2 now
 exact⟨h,fun q J=>by cases J⟩
omit H hlt in
theorem Jl {y:Rv}(h:kS { s with r:=y })(J:y.phase=3){known:List Pl}(hk:pY known):kS { s with r:=(dH y known).1 }∧(dH y known).1.phase=3:=by
 unfold dH;split
 ·rename_i hc;simp only[Bool.and_eq_true,Bool.not_eq_true',beq_eq_false_iff_ne] at hc;refine⟨?_,J⟩;have V:=h.n1 (by show y.phase≠1;rw[J];decide);have G:=h.n2 (.inr J);change 1≤y.n∧y.n≤9 at V
  change y.n≤8∧(aL y.af).first≤y.n at G
  have Q:dh s.x.w y.af=true:=h.fr;obtain⟨⟨l0,l6⟩,hm⟩:=dO Q;have ad:y.l=s.x:=h.l;have aa:gM y=aL y.af:=by unfold gM;rw[qL l0 G.2];rfl
  have X:=Jm l0 G.2 (dx y known).1.ah;have S:(dS y.af ⟨y.n,(dx y known).1.ah⟩).length≤6:=by
   rw[←X,List.length_append,List.length_singleton];have:(iM y).length≤y.af.length:=by
    unfold iM;split
    ·rw[List.length_take];omega
    exact Nat.le_refl _
   have h6:((iM y).length:Int)≠6:=hc.2;omega
  have zf:iK s.x.w ⟨y.n,(dx y known).1.ah⟩=true:=by
   have K:=hc.1;unfold dx at K ⊢;rw[aa,ad] at K ⊢;exact Nk (hm _ (iU l0)) hk V K
  refine⟨h.l,h.may,h.ep,h.su,h.he,h.no,h.ph,(fun e=>by rw[J] at e;cases e),h.n1,(fun e=>⟨G.1,?_⟩),h.hs,(fun e k K h2=>?_),?_,(fun e=>by
   have e:y.phase=4:=e;rw[J] at e;cases e)⟩
  ·show (aL (iM y++[⟨y.n,(dx y known).1.ah⟩])).first≤y.n
   rw[X,F3];exact Int.le_refl _
  ·show bE (setOf (iM y++[⟨y.n,(dx y known).1.ah⟩]) s.x.w k) s.x.a (bn s.has k)=true
   have h2:k<y.n:=h2;rw[X,BO (by exact h2)];exact h.gd e k K h2
  show dh s.x.w (iM y++[⟨y.n,(dx y known).1.ah⟩])=true
  rw[X];exact adQ Q zf G.2 S
 exact⟨yK h _ _ _,J⟩
omit H in
theorem TR (hf:0≤s.first){y:Rv}(h:kS { s with r:=y })(now:Int):kS { s with r:=(qz y now).1 }∧∀q∈(qz y now).2,rZ s s.ak q:=by
 refine⟨yK h _ _ _,?_⟩;unfold qz;dsimp only
 split
 ·exact Jy hf hlt (ug h) _
 split
 ·exact TP hf hlt (ug h) _
 split
 ·rename_i G;exact BM hf hlt (ug h) (h.hs (by simpa using G)).2 _
 exact fun q J=>by cases J
theorem ZN (now:Int){known:List Pl}(V:pY known) :
  kS { s with r:=(dJ s.r now known).1 }∧∀q∈(dJ s.r now known).2,rZ s s.ak q:=by
 have h:=H.rv hlt;have hf:=H.f0;have J:kS { s with r:=iX s.r now }:=by
  unfold iX;split
  ·exact yK h _ _ _
  exact h
 unfold dJ;generalize iX s.r now=y at J;dsimp only
 split
 ·rename_i hc;simp only[Bool.and_eq_true,beq_iff_eq] at hc;obtain⟨K,S⟩:=Jl J hc.1 V;split
  ·have Q:kS { s with r:={ (dH y known).1 with phase:=3,born:=now,since:=now } }:=by
    have e:({ (dH y known).1 with phase:=3,born:=now,since:=now }:Rv)={ (dH y known).1 with bad:=(dH y known).1.bad,born:=now,since:=now }:=by
     generalize (dH y known).1=z at S;cases z;simp only at S;subst S;rfl
    rw[e];exact yK K _ _ _
   obtain⟨a,b⟩:=BN hf hlt Q rfl now;refine⟨a,fun q G=>?_⟩;rcases List.mem_append.1 G with G|G
   ·exact BM hf hlt (ug Q) (Q.hs rfl).2 _ q G
   exact b q G
  split
  ·exact TR hlt hf K now
  exact⟨K,fun q G=>by cases G⟩
 split
 ·exact TR hlt hf J now
 exact⟨J,fun q G=>by cases G⟩
end
theorem Dc {s:Sk}(H:fB s){fs:List Fk}(K:∀p,iT s.aF p≤iT fs p)(J:∀f∈fs,f.sure≤s.w.sure):fB { s with aF:=fs }∧xO s { s with aF:=fs }:=by
 have u:xO s { s with aF:=fs }:=⟨rfl,Int.le_refl _,Int.le_refl _,K,fun _ _ h=>h,fun _ _ _ h=>h,fun _ _ h=>h⟩;exact⟨⟨H.S,H.wl,H.f0,H.ln,H.ep,H.hb,H.ht,J,fun m Q=>kG u (H.lt m Q),H.lp,fun G=>uf u rfl rfl rfl G (H.rv G)⟩,u⟩
theorem Jz {s:Sk}(H:fB s)(p:Pl):∀f∈iD s.aF p,f.sure≤s.w.sure:=fun f G=>by
 rcases Ni G with G|G
 ·exact H.fs f G
 rw[G];exact (wZ s H).1
theorem Df {s:Sk}(H:fB s)(p:Pl)(i:Nat){g:Fk}(J:g.sure≤s.w.sure):∀f∈(iD s.aF p).set i g,f.sure≤s.w.sure:=fun f G=>by
 rcases TJ G with G|G
 ·exact Jz H p f G
 rw[G];exact J
structure ajs (s:Sk)(to:Int)(y:Sk×Rs):Prop where
 inv:fB y.1
 rs:yG y.1 to y.2
 told:to=0→y.2.code=0→y.2.from_∈bn y.1.told y.2.n
 rng:y.1.first=s.first∧y.1.ak=s.ak
theorem Vw {s:Sk}(H:fB s){to:Int}{q:Rq}(hr:to=0∨(s.first<to∧to≤s.ak))(hq:rZ s to q):ajs s to (bQ s q (to==0)):=by
 have h0:=(wZ s H).1;have af:(eO s.aF q.to).sure≤s.w.sure:=QR H.fs h0;have hF:=Dc H (fs:=iD s.aF q.to) (fun p=>by rw[rU];exact Int.le_refl _) (Jz H q.to);unfold bQ;dsimp only
 split
 ·rename_i J;split
  ·rename_i ah;exact⟨hF.1,tV hF.2 ⟨h0,(fun _=>J),(fun e=>absurd (J.symm.trans e) (by decide)),(fun e=>absurd (J.symm.trans e) (by decide)),(fun e=>absurd (J.symm.trans e) (by decide)),(fun _ e=>absurd e (by show ¬(1:Int)=0;decide))⟩,(fun _ e=>absurd e (by show ¬(1:Int)=0;decide)),rfl,rfl⟩
  rename_i ao;obtain⟨hs,Ed⟩:∃hs,hs=(if (mK s.has q.to q.n).isNone=true then s.has++[⟨q.to,q.n,q.body⟩] else s.has):=⟨_,rfl⟩;obtain⟨td,ae⟩:∃td,td=(if (to==0)=true then s.told++[⟨q.to,q.n,q.body⟩] else s.told):=⟨_,rfl⟩;obtain⟨fs,ag⟩:∃fs,fs=(iD s.aF q.to).set (iW s.aF q.to) { eO s.aF q.to with sure:=max (eO s.aF q.to).sure q.sure }:=⟨_,rfl⟩;rw[←Ed,←ae,←ag];have uJ:=hq.bo J;have al:q.to∈bn hs q.n:=by
   rw[Ed];split
   ·exact Dg _ _ _ _
   rename_i aa;cases hx:mK s.has q.to q.n with
   |none=>rw[hx] at aa;exact absurd rfl aa
   | some e=>
     obtain⟨Q,e2,e3⟩:=yQ hx;exact mem_places.2 ⟨e,Q,e3,e2⟩
  have am:∀p n,p∈bn s.has n→p∈bn hs n:=fun p n G=>by
   rw[Ed];split
   ·exact Dh G
   exact G
  have ai:∀p n,p∈bn td n→p∈bn s.told n∨(to=0∧p=q.to∧n=q.n):=fun p n G=>by
   rw[ae] at G;split at G
   ·rename_i e0;obtain⟨h,hm,Q,e2⟩:=mem_places.1 G;rcases List.mem_append.1 hm with hm|hm
    ·exact .inl (mem_places.2 ⟨h,hm,Q,e2⟩)
    rw[List.mem_singleton] at hm;subst hm;exact .inr ⟨by simpa using e0,e2.symm,Q.symm⟩
   exact .inl G
  have Kz:∀p,iT s.aF p≤iT fs p:=fun p=>by
   rw[ag,pW s.aF q.to { eO s.aF q.to with sure:=max (eO s.aF q.to).sure q.sure } (tO _ _) p];split
   ·rename_i e;subst e;show _≤(eO s.aF q.to).ak
    rw[qK];exact Int.le_refl _
   exact Int.le_refl _
  have u:xO s { s with has:=hs,aF:=fs,told:=td }:=⟨rfl,Int.le_refl _,Int.le_refl _,Kz,am,fun p n hl G=>by
   rcases ai p n G with G|⟨e0,Q,e2⟩
   ·exact G
   exfalso;have e3:=(hq.w0 e0).1;rw[qK] at ao;subst Q;omega,fun _ _ h=>h⟩
  have hS:nA (rY { s with has:=hs,aF:=fs,told:=td }):=by
   have h:=H.S;have hw:=h.wk;have ad:∀p n,p∈bn s.told n→p∈bn td n:=fun p n G=>by
    rw[ae];split
    ·exact Dh G
    exact G
   refine⟨⟨hw.s0,hw.len,hw.num,hw.body,fun y K p G=>ad _ _ (hw.from_ y K p G)⟩,h.nx,fun y K=>?_,h.bq,fun m hm ha hc=>ad _ _ (h.br m hm ha hc),h.ask,h.Vu,h.pl,fun n h1 h2=>qg (fun p G=>ad _ _ G) (h.good n h1 h2)⟩;have K:y∈td:=K;rw[ae] at K;split at K
   ·rcases List.mem_append.1 K with K|K
    ·exact h.hd y K
    rw[List.mem_singleton] at K;subst K;exact uJ
   exact h.hd y K
  refine⟨⟨hS,H.wl,H.f0,H.ln,H.ep,fun h V=>?_,fun p n G=>?_,?_,fun m hm=>kG u (H.lt m hm),H.lp,fun ah=>uf u rfl rfl rfl ah (H.rv ah)⟩,?_,fun e0 _=>?_,rfl,rfl⟩
  ·have V:h∈hs:=V;rw[Ed] at V;split at V
   ·rcases List.mem_append.1 V with V|V
    ·exact H.hb h V
    rw[List.mem_singleton] at V;subst V;exact uJ
   exact H.hb h V
  ·rcases ai p n G with G|⟨_,Q,e2⟩
   ·exact am p n (H.ht p n G)
   subst Q;subst e2;exact al
  ·have:=Df H q.to (iW s.aF q.to) (g:={ eO s.aF q.to with sure:=max (eO s.aF q.to).sure q.sure }) (by have:=hq.su;show max _ _≤_;omega);rw[←ag] at this;exact this
  ·exact⟨h0,(fun _=>J),(fun e=>absurd (J.symm.trans e) (by decide)),(fun e=>absurd (J.symm.trans e) (by decide)),(fun e=>absurd (J.symm.trans e) (by decide)),(fun _ _=>al)⟩
  show q.to∈bn td q.n
  rw[ae,if_pos (by simp[e0])];exact Dg _ _ _ _
 have X:q.kind≠1→to≠0:=fun hk e=>hk (hq.w0 e).2
 split
 ·rename_i J k2;have hS:=Dc H (fs:=(iD s.aF q.to).set (iW s.aF q.to) { eO s.aF q.to with ak:=max (eO s.aF q.to).ak q.ak }) (fun p=>by
   rw[pW s.aF q.to { eO s.aF q.to with ak:=max (eO s.aF q.to).ak q.ak } (tO _ _) p];split
   ·rename_i e;subst e;show _≤max (eO s.aF q.to).ak q.ak
    rw[qK];exact Int.le_max_left _ _
   exact Int.le_refl _) (Df H q.to _ af)
  refine⟨hS.1,⟨af,(fun e=>absurd e (X J)),(fun _ _=>?_),(fun e=>absurd (k2.symm.trans e) (by decide)),(fun e=>absurd (k2.symm.trans e) (by decide)),(fun e=>absurd (k2.symm.trans e) (by decide))⟩,(fun e=>absurd e (X J)),rfl,rfl⟩;show q.ak≤iT ((iD s.aF q.to).set (iW s.aF q.to) { eO s.aF q.to with ak:=max (eO s.aF q.to).ak q.ak }) q.to
  rw[pW s.aF q.to { eO s.aF q.to with ak:=max (eO s.aF q.to).ak q.ak } (tO _ _) q.to,if_pos rfl];exact Int.le_max_right _ _
 split
 ·rename_i J k2 k3;have ht:=X J;cases hx:mK s.has q.to q.n with
  | some e=>
    obtain⟨Q,e2,e3⟩:=yQ hx;refine⟨hF.1,tV hF.2 ⟨af,(fun e=>absurd e ht),(fun e=>absurd e k2),(fun _ e=>absurd e (by show ¬(0:Int)=3;decide)),(fun _ _=>⟨mem_places.2 ⟨e,Q,e3,e2⟩,?_⟩),(fun e=>absurd e J)⟩,(fun e=>absurd e ht),rfl,rfl⟩;have:=H.hb e Q;rw[e3] at this;exact this
  | none=>
    have hn:=QO hx;rcases hr with hr|hr
    ·exact absurd hr ht
    have Eg:=hq.ep ht;refine⟨hF.1,tV hF.2 ⟨af,(fun e=>absurd e ht),(fun e=>absurd e k2),(fun _ _=>⟨?_,?_,fun G=>hn (H.ht _ _ G)⟩),(fun _ e=>absurd e (by show ¬(3:Int)=0;decide)),(fun e=>absurd e J)⟩,(fun e=>absurd e ht),rfl,rfl⟩
    ·show s.first<q.ak
     omega
    show q.ak≤iT s.aF q.to
    rw[Eg];exact hq.fe k3
 rename_i J k2 k3;exact⟨hF.1,tV hF.2 ⟨h0,(fun e=>absurd e (X J)),(fun e=>absurd e k2),(fun e=>absurd e k3),(fun e=>absurd e k3),(fun e=>absurd e J)⟩,(fun e=>absurd e (X J)),rfl,rfl⟩
theorem BP {s t:Sk}(H:fB s)(hS:nA (rY t))(S:t.x=s.x)(e2:t.r=s.r)(Q:t.ak=s.ak)(J:t.first=s.first)(e5:t.bH=s.bH)(V:t.has=s.has)(e7:t.told=s.told)(e8:t.aF=s.aF)
  (hw:t.w.l.w=s.w.l.w∧t.w.l.a=s.w.l.a∧t.w.ak=s.w.ak) (tZ:s.w.sure≤t.w.sure) (K:∀n b,jw s.bS n b→jw t.bS n b) (X:t.bS.length≤8):fB t∧xO s t:=by
 have u:xO s t:=⟨J,by rw[Q];exact Int.le_refl _,tZ,fun p=>by rw[e8];exact Int.le_refl _,fun p n h=>by rw[V];exact h,fun p n _ h=>by rw[←e7];exact h,K⟩;refine⟨⟨hS,by rw[hw.1,hw.2.1,hw.2.2,S,J];exact H.wl,by rw[J];exact H.f0,X,by rw[Q,J];exact H.ep,fun h hh=>?_,fun p n hp=>?_,fun f hf=>?_,fun m hm=>?_,?_,fun G=>?_⟩,u⟩
 ·rw[V] at hh;exact K _ _ (H.hb h hh)
 ·rw[e7] at hp;rw[V];exact H.ht p n hp
 ·rw[e8] at hf;exact Int.le_trans (H.fs f hf) tZ
 ·rw[e5] at hm;exact kG u (H.lt m hm)
 ·rw[S];have:=H.lp;omega
 rw[Q,J] at G;exact uf u e2 S Q G (H.rv G)
theorem Vx {s:Sk}(H:fB s){r:Rs}(J:r.code=0→r.from_∈bn s.told r.n):fB { s with w:=jf s.w r }:=by
 obtain⟨a,b⟩:=ZO H.S (r:=r) J;have G:=ZE s.w r;exact (BP H (t:={ s with w:=jf s.w r }) a rfl rfl rfl rfl rfl rfl rfl rfl (by show (jf s.w r).l.w=_∧(jf s.w r).l.a=_∧(jf s.w r).ak=_;rw[G.1,G.2];exact⟨rfl,rfl,rfl⟩) b (fun _ _ h=>h) H.ln).1
theorem ZP {s:Sk}(H:fB s)(b:List UInt8):fB (vL s b):=by
 unfold vL;dsimp only
 split
 ·rename_i hc;have G:=ZQ H.S b;have J:(iC (rY s).w (rY s).now b).2.2=0:=hc;unfold TS at G;dsimp only at G
  rw[if_pos J] at G;have K:s.w.next=s.bS.length+1:=H.S.nx;have V:(iC s.w s.now b).1.l=s.w.l∧(iC s.w s.now b).1.ak=s.w.ak∧(iC s.w s.now b).1.sure=s.w.sure∧s.w.next≤8∧(iC s.w s.now b).2.1=kM s.w ⟨s.w.next,b,[],s.now,s.now⟩:=by
   unfold iC at hc ⊢;by_cases X:s.w.fenced=1
   ·rw[if_pos X] at hc;cases hc
   rw[if_neg X] at hc ⊢;by_cases g2:(b.length:Int)>2048
   ·rw[if_pos g2] at hc;cases hc
   rw[if_neg g2] at hc ⊢;by_cases g3:s.w.next>8
   ·rw[if_pos g3] at hc;cases hc
   rw[if_neg g3];exact⟨rfl,rfl,rfl,by omega,rfl⟩
  obtain⟨k1,k2,k3,k4,k5⟩:=V;have hb:jw (s.bS++[b]) s.w.next b:=by
   refine⟨by omega,by simp only[List.length_append,List.length_singleton];omega,?_⟩;rw[K,show ((s.bS.length:Int)+1-1).toNat=s.bS.length by omega,getElem!_pos _ _ (by simp)];simp
  have hS:=vV G.1 (b:=Gf s.bH) (fun m hm ha=>r9 (H.S.bq m hm ha)) H.S.br;obtain⟨a,u⟩:=BP H (t:={ s with w:=(iC s.w s.now b).1,bS:=s.bS++[b] }) hS rfl rfl rfl rfl rfl rfl rfl rfl (by show (iC s.w s.now b).1.l.w=_∧(iC s.w s.now b).1.l.a=_∧(iC s.w s.now b).1.ak=_;rw[k1,k2];exact⟨rfl,rfl,rfl⟩) (by show s.w.sure≤(iC s.w s.now b).1.sure;rw[k3];exact Int.le_refl _) (fun _ _ h=>r9 h) (by simp only[List.length_append,List.length_singleton];omega);refine nC a (.inl rfl) fun q Q=>?_
  rw[k5] at Q;obtain⟨p1,p2,p3⟩:=Gd Q;obtain⟨p4,p5⟩:=qh Q;refine⟨by show q.sure≤(iC s.w s.now b).1.sure;rw[p3,k3];exact Int.le_refl _,fun _=>by rw[p4,p5];exact hb,fun _=>⟨by rw[p2];exact H.wl.2.2,p1⟩,fun e=>absurd rfl e,fun e=>by rw[p1] at e;cases e⟩
 exact H
theorem ZR {s:Sk}(H:fB s)(now:Int):fB (FE s now):=by
 obtain⟨G,K,Q⟩:=ZF s.w now;have V:nA (rY { s with now:=now,w:=(jJ s.w now).1 }):=vW (KN H.S now) G;obtain⟨a,u⟩:=BP H (t:={ s with now:=now,w:=(jJ s.w now).1 }) V rfl rfl rfl rfl rfl rfl rfl rfl (by show (jJ s.w now).1.l.w=_∧(jJ s.w now).1.l.a=_∧(jJ s.w now).1.ak=_;rw[G.l,K];exact⟨rfl,rfl,rfl⟩) (by show s.w.sure≤(jJ s.w now).1.sure;rw[G.su];exact Int.le_refl _) (fun _ _ h=>h) H.ln;unfold FE;refine nC a (.inl rfl) fun q X=>?_
 obtain⟨⟨J,p2,p3⟩,x,hx,p4,p5⟩:=Q q X;refine⟨by show q.sure≤(jJ s.w now).1.sure;rw[p3,G.su];exact Int.le_refl _,fun _=>by rw[p4,p5];exact H.S.wk.body x hx,fun _=>⟨by rw[p2];exact H.wl.2.2,J⟩,fun e=>absurd rfl e,fun e=>by rw[J] at e;cases e⟩
theorem ZT {s:Sk}(H:fB s):fB (vM s):=by
 unfold vM;split
 ·rename_i h0;have J:s.ask.first≠0:=by omega
  have aa:s.w.change.first≠0:=by have:=H.S.ask;change s.ask=s.w.change at this;rw[←this];exact J
  have Q:=ZU H.S;unfold TT at Q;have ht:(rY s).taken≠0:=by
   show (if s.taken=true then (1:Int) else 2)≠0
   split<;>decide
  have X:((rY s).taken==1)=s.taken:=by
   show ((if s.taken=true then (1:Int) else 2)==1)=s.taken
   cases s.taken<;>rfl
  rw[if_neg (by
   rintro (e|e)
   ·exact J e
   exact ht e),X] at Q
  have hS:=vV Q.1 (b:=Gf s.bH) H.S.bq H.S.br;have G:(dP s.w s.now s.taken).1={ jT s.w s.taken with waits:=(jT s.w s.taken).waits.map fun x=>{ x with born:=s.now,since:=s.now } }∧(dP s.w s.now s.taken).2=(jT s.w s.taken).waits.flatMap (kM (jT s.w s.taken)):=by
   unfold dP;rw[if_neg aa];exact⟨rfl,rfl⟩
  obtain⟨a,u⟩:=BP H (t:={ s with w:=(dP s.w s.now s.taken).1,ask:=kT }) hS rfl rfl rfl rfl rfl rfl rfl rfl (by show (dP s.w s.now s.taken).1.l.w=_∧(dP s.w s.now s.taken).1.l.a=_∧(dP s.w s.now s.taken).1.ak=_;rw[G.1];exact⟨rfl,rfl,rfl⟩) Q.2 (fun _ _ h=>h) H.ln;refine nC a (.inl rfl) fun q K=>?_
  rw[G.2] at K;obtain⟨x,hx,K⟩:=List.mem_flatMap.1 K;obtain⟨p1,p2,p3⟩:=Gd K;obtain⟨p4,p5⟩:=qh K;have V:jw s.bS x.n x.body:=by
   have:=hS.wk.body { x with born:=s.now,since:=s.now } (by
    show _∈(dP s.w s.now s.taken).1.waits
    rw[G.1];exact List.mem_map.2 ⟨x,hx,rfl⟩)
   exact this
  refine⟨by show q.sure≤(dP s.w s.now s.taken).1.sure;rw[p3,G.1];exact Int.le_refl _,fun _=>by rw[p4,p5];exact V,fun _=>⟨by rw[p2];exact H.wl.2.2,p1⟩,fun e=>absurd rfl e,fun e=>by rw[p1] at e;cases e⟩
 exact H
theorem adR (w:Wr)(e:Int)(known:List Pl):(iy w e known).1.l=w.l∧(iy w e known).1.ak=w.ak∧(iy w e known).1.sure=w.sure∧((iy w e known).2.2=true→(iy w e known).2.1.first=w.sure+1):=by
 unfold iy;split
 ·exact⟨rfl,rfl,rfl,fun e=>by cases e⟩
 split
 ·exact⟨rfl,rfl,rfl,fun e=>by cases e⟩
 exact⟨rfl,rfl,rfl,fun _=>rfl⟩
theorem QU {s:Sk}(H:fB s)(e:Int)(known:List Pl):fB (kF s e known):=by
 obtain⟨k1,k2,k3,k4⟩:=adR s.w e known;have Q:=adS H.S e known;unfold adT at Q;dsimp only at Q
 have hw:(iy s.w e known).1.l.w=s.w.l.w∧(iy s.w e known).1.l.a=s.w.l.a∧(iy s.w e known).1.ak=s.w.ak:=by rw[k1,k2];exact⟨rfl,rfl,rfl⟩
 have X:s.w.sure≤(iy s.w e known).1.sure:=by rw[k3];exact Int.le_refl _
 unfold kF;dsimp only
 split
 ·rename_i hc;have K:¬(iy (rY s).w e known).2.2=true:=by show ¬(iy s.w e known).2.2=true;rw[hc];decide
  rw[if_neg K] at Q;exact (BP H (t:={ s with w:=(iy s.w e known).1 }) Q.1 rfl rfl rfl rfl rfl rfl rfl rfl hw X (fun _ _ h=>h) H.ln).1
 rename_i hc;have hc:(iy s.w e known).2.2=true:=by simpa using hc
 have K:(iy (rY s).w e known).2.2=true:=hc;rw[if_pos K] at Q;have G:=Q.1;have J:=G.pl;rw[if_neg (fun h2=>by have:=h2.2;simp at this)] at J;have hf:=k4 hc;split
 ·rename_i ht;have h0:=(wZ s H).1;have hT:nA (rY { s with w:=(iy s.w e known).1,ask:=(iy s.w e known).2.1,taken:=true,x:={ s.x with af:=dS s.x.af (iy s.w e known).2.1 } }):=by
   refine⟨G.wk,G.nx,G.hd,G.bq,G.br,G.ask,G.Vu,?_,fun n g1 g2=>?_⟩
   ·show dS s.x.af (iy s.w e known).2.1=if (iy s.w e known).2.1.first≠0∧(1:Int)=1 then dS (iy s.w e known).1.l.af (iy s.w e known).2.1 else _
    rw[if_pos ⟨by omega,rfl⟩];have J:s.x.af=(iy s.w e known).1.l.af:=J;rw[←J]
   show bE (setOf (dS s.x.af (iy s.w e known).2.1) _ n) _ _=true
   have g2:n≤(iy s.w e known).1.sure:=g2;rw[BO (by omega)];exact G.good n g1 g2
  have u:xO s { s with w:=(iy s.w e known).1,ask:=(iy s.w e known).2.1,taken:=true,x:={ s.x with af:=dS s.x.af (iy s.w e known).2.1 } }:=⟨rfl,Int.le_refl _,X,fun _=>Int.le_refl _,fun _ _ h=>h,fun _ _ _ h=>h,fun _ _ h=>h⟩;refine⟨hT,?_,H.f0,H.ln,H.ep,H.hb,H.ht,fun f hf=>Int.le_trans (H.fs f hf) X,fun m hm=>kG u (H.lt m hm),?_,fun V=>?_⟩
  ·show (iy s.w e known).1.l.w=s.x.w∧(iy s.w e known).1.l.a=s.x.a∧(iy s.w e known).1.ak=s.first
   rw[k1,k2];exact H.wl
  ·show (aL (dS s.x.af (iy s.w e known).2.1)).first≤(iy s.w e known).1.sure+1
   rw[F3,hf,k3];exact Int.le_refl _
  have V:s.first<s.ak:=V
  omega
 have hT:nA (rY { s with w:=(iy s.w e known).1,ask:=(iy s.w e known).2.1,taken:=false }):=by
  refine⟨G.wk,G.nx,G.hd,G.bq,G.br,G.ask,G.Vu,?_,G.good⟩;show s.x.af=if (iy s.w e known).2.1.first≠0∧(2:Int)=1 then _ else _
  rw[if_neg (fun h2=>by have:=h2.2;simp at this)];exact J
 exact (BP H (t:={ s with w:=(iy s.w e known).1,ask:=(iy s.w e known).2.1,taken:=false }) hT rfl rfl rfl rfl rfl rfl rfl rfl hw X (fun _ _ h=>h) H.ln).1
theorem ZV {s:Sk}(H:fB s)(now:Int){y:Rv}(h:kS { s with r:=y }):fB { s with now:=now,r:=y }∧xO s { s with now:=now,r:=y }:=
 ⟨⟨KN H.S now,H.wl,H.f0,H.ln,H.ep,H.hb,H.ht,H.fs,fun m G=>kG (xO.rfl' (s:=s) (t:={ s with now:=now,r:=y }) rfl rfl (Int.le_refl _) rfl rfl rfl rfl) (H.lt m G),H.lp,fun _=>⟨h.l,h.may,h.ep,h.su,h.he,h.no,h.ph,h.p1,h.n1,h.n2,h.hs,h.gd,h.fr,h.en⟩⟩,xO.rfl' rfl rfl (Int.le_refl _) rfl rfl rfl rfl⟩
theorem Jh {s:Sk}(H:fB s){to:Int}{r:Rs}(Q:yG s to r)(J:to=0→r.code=0→r.from_∈bn s.told r.n):fB (gy s to r):=by
 unfold gy;split
 ·rename_i e;exact Vx H (J e)
 split
 ·rename_i S G;have e:=G.1;subst e;obtain⟨a,b⟩:=ZM H G.2 Q s.now;obtain⟨c,u⟩:=ZV H s.now a;exact nC c (.inr ⟨G.2,Int.le_refl _⟩) fun q K=>Ep u (b q K)
 exact H
theorem Jj {s:Sk}(H:fB s){x:Lk}(J:YX s x)(K:x.ask=false→x.to=0→x.r.code=0→x.r.from_∈bn s.told x.r.n):fB (gQ s x):=by
 unfold gQ;split
 ·rename_i G;exact Jh H (J.r G) (K G)
 rename_i G;have G:x.ask=true:=by simpa using G
 have k:=Vw H J.rng (J.q G);dsimp only
 split
 ·refine Vv k.inv ?_ k.rs k.told;rw[k.rng.1,k.rng.2];exact J.rng
 exact k.inv
theorem Jk {s:Sk}(H:fB s)(now:Int){known:List Pl}(J:pY known):fB (bU s now known):=by
 unfold bU;split
 ·rename_i h;obtain⟨a,b⟩:=ZN H h now J;obtain⟨c,u⟩:=ZV H now a;exact nC c (.inr ⟨h,Int.le_refl _⟩) fun q Q=>Ep u (b q Q)
 exact⟨KN H.S now,H.wl,H.f0,H.ln,H.ep,H.hb,H.ht,H.fs,fun m K=>kG (xO.rfl' (s:=s) (t:={ s with now:=now }) rfl rfl (Int.le_refl _) rfl rfl rfl rfl) (H.lt m K),H.lp,fun G=>uf (xO.rfl' (s:=s) (t:={ s with now:=now }) rfl rfl (Int.le_refl _) rfl rfl rfl rfl) rfl rfl rfl G (H.rv G)⟩
theorem FJ {s:Sk}(H:fB s):fB (jv s):=by
 unfold jv;dsimp only
 split
 ·rename_i hc;unfold oq at hc ⊢;split at hc
  ·cases hc
  rename_i K;rw[if_neg K];dsimp only
  simp only[Bool.or_eq_true,Bool.not_eq_true',not_or,Bool.not_eq_false] at K;have G:dN s.x=true:=K.1.1.1;obtain⟨m1,m2,m3⟩:=lX G;have Eg:=H.ep;have h0:=(wZ s H).1;obtain⟨y,X⟩:∃y:Rv,y=⟨s.x,s.ak+1,1,[],0,0,[],[],[],s.x.af,[],s.now,s.now⟩:=⟨_,rfl⟩;rw[←X];have u:xO s { s with ak:=s.ak+1,r:=y }:=⟨rfl,by show s.ak≤s.ak+1;omega,Int.le_refl _,fun _=>Int.le_refl _,fun _ _ h=>h,fun _ _ _ h=>h,fun _ _ h=>h⟩;have V:kS { s with ak:=s.ak+1,r:=y }:=by
   rw[X];exact⟨rfl,G,rfl,⟨Int.le_refl _,h0⟩,(fun p Q=>by cases Q),(fun p Q=>by cases Q),.inl rfl,(fun _=>rfl),(fun e=>absurd rfl e),(fun e=>by
    rcases e with e|e
    ·exact absurd e (by show ¬(1:Int)=2;decide)
    exact absurd e (by show ¬(1:Int)=3;decide)),(fun e=>absurd e (by show ¬(1:Int)=3;decide)),(fun e=>absurd rfl e),m1,(fun e=>absurd e (by show ¬(1:Int)=4;decide))⟩
  have J:s.first<s.ak+1:=by omega
  have hI:fB { s with ak:=s.ak+1,r:=y }:=⟨H.S,H.wl,H.f0,H.ln,Int.le_of_lt J,H.hb,H.ht,H.fs,fun m hm=>kG u (H.lt m hm),H.lp,fun _=>V⟩;exact nC hI (.inr ⟨J,Int.le_refl _⟩) (Jy (s:={ s with ak:=s.ak+1,r:=y }) H.f0 J (ug (s:={ s with ak:=s.ak+1,r:=y }) V) _)
 exact H
def FD (x:Lg)(w:Wr)(G:Int):Sk:=⟨x,w,⟨⟨0,0,0,[],0,0⟩,0,0,[],0,0,[],[],[],[],[],0,0⟩,G,G,kT,false,0,[],[],[],[],[]⟩
theorem ZW {x:Lg}{w:Wr}{J:Int}(hl:x.af.length≤1)(h:Bz x J=some w):fB (FD x w J):=by
 have G:=adU h;unfold Bz at h;split at h
 ·rename_i hc;have:=Option.some.inj h;subst this;simp only[Bool.and_eq_true,dA,decide_eq_true_eq] at hc;obtain⟨K,m2,m3⟩:=lX hc.1;have X:=dO K;have h1:(aL x.af).first≤1:=by
   obtain⟨f,S⟩:∃f,x.af=[f]:=List.length_eq_one_iff.1 (by omega);rw[S] at K ⊢;simp only[dh,Bool.and_eq_true,q9,beq_iff_eq] at K;show f.first≤1
   rw[K.2.1];exact Int.le_refl _
  have Q:nA (rY (FD x ⟨x,J,1,0,[],[],kT,0⟩ J)):=
   ⟨G.wk,G.nx,G.hd,G.bq,G.br,G.ask,G.Vu,(if_neg (fun h=>h.1 rfl)).symm,G.good⟩
  exact⟨Q,⟨rfl,rfl,rfl⟩,by show (0:Int)≤J;omega,Nat.zero_le _,Int.le_refl _,(fun h hh=>by cases hh),(fun p n hp=>by cases hp),(fun f S=>by cases S),(fun m X=>by cases X),h1,(fun V=>absurd V (by show ¬J<J;omega))⟩
 cases h
theorem TU {s:Sk}{l:List Hp}(h:∀y∈l,jw s.bS y.n y.body)(n:Int):adO s l n=true:=by
 unfold adO;rw[List.all_eq_true];intro y Q;by_cases e:y.n=n
 ·obtain⟨G,J,K⟩:=h y Q;rw[e] at G J K;simp[e,G,J,K]
 simp[e]
theorem KA {s:Sk}(H:fB s):MO s=true:=by
 unfold MO;split
 ·rfl
 rename_i hc;have ai:s.ak≠s.first:=fun e=>hc (.inl e)
 have G:s.r.phase=4:=Classical.byContradiction fun e=>hc (.inr e)
 have ad:s.first<s.ak:=by have:=H.ep;omega
 have R:=H.rv ad;have hn:=R.n1 (by rw[G];decide);have K:=R.gd (by rw[G];decide);obtain⟨m1,m2,m3⟩:=lX R.may;have am:=wZ s H;have ah:=H.ln;have J:s.r.n≤8→Vt s s.r.n=false:=fun Q=>by
  have hm:=R.en G Q;exact ZG ⟨m2,m3⟩ (fun p G=>(R.no p G).2) hm
 have ae:s.w.sure≤s.r.n-1:=by
  refine Classical.byContradiction fun al=>?_
  have Q:s.r.n≤8:=by omega
  have V:=H.S.good s.r.n hn.1 (by show s.r.n≤s.w.sure;omega);change bE (setOf s.x.af s.w.l.w s.r.n) s.w.l.a (bn s.told s.r.n)=true at V
  rw[H.wl.1,H.wl.2.1] at V;have:=J Q;unfold Vt at this;rw[V] at this;cases this
 have ag:s.r.n-1≤(s.bS.length:Int):=by
  by_cases h1:s.r.n=1
  ·rw[h1];omega
  obtain⟨p,G⟩:=QN (K (s.r.n-1) (by omega) (by omega));obtain⟨h,hh,e1,e2⟩:=mem_places.1 G;have:=H.hb h hh;rw[e1] at this;exact this.2.1
 rw[Bool.and_eq_true];refine⟨?_,?_⟩
 ·rw[Bool.not_eq_true',Bool.or_eq_false_iff,Bool.or_eq_false_iff];refine⟨by simp only[decide_eq_false_iff_not];omega,by simp only[decide_eq_false_iff_not];omega,?_⟩;rw[R.fr];rfl
 rw[List.all_eq_true];intro i hi;have hi:i<8:=List.mem_range.1 hi;rw[Bool.and_eq_true,Bool.and_eq_true,Bool.and_eq_true];refine⟨TU H.S.hd _,TU H.hb _,?_,?_⟩
 ·rw[Bool.not_eq_true',Bool.and_eq_false_iff];by_cases X:(i:Int)+1>s.r.n-1
  ·refine .inr ?_;unfold Nf;rw[List.all_eq_false];refine⟨(s.r.n-1).toNat,List.mem_range.2 (by omega),?_⟩;have e:(((s.r.n-1).toNat:Nat):Int)+1=s.r.n:=by omega
   rw[e,J (by omega)];decide
  exact .inl (by simp only[decide_eq_false_iff_not];exact X)
 by_cases aa:(i:Int)+1≤s.r.n-1
 ·rw[Bool.or_eq_true];exact .inr (K _ (by omega) (by omega))
 rw[Bool.or_eq_true];refine .inl ?_;simp only[Bool.not_eq_true',decide_eq_false_iff_not];exact aa
def Ap (b:List UInt8):List PV:=[.sc (.string ⟨b.toArray⟩)]
def Hp.c (h:Hp):List PV:=[ii h.x.node,uu h.x.aH,uu h.n,.sc (.string ⟨h.body.toArray⟩)]
def Lt.c (m:Lt):List PV:=[bl m.ask,ii m.q.to.node,uu m.q.to.aH,ii m.q.kind,uu m.q.bI,uu m.q.n,uu m.q.ak,uu m.q.sure,ii m.q.copy,CR m.q.body,slU m.q.keep,ii m.r.from_.node,uu m.r.from_.aH,ii m.r.kind,ii m.r.code,uu m.r.bI,uu m.r.n,uu m.r.ak,uu m.r.sure,CR m.r.body]
structure Stp where
 what:Int
 which:Int
 xN:Int
 code:Int
 GX:Int
 e:Int
 body:List UInt8
 known:List Pl
def Stp.c (x:Stp):List PV:=[ii x.what,ii x.which,ii x.xN,ii x.code,ii x.GX,ii x.e,CR x.body,av x.known]
def xB (a b:Int):Int:=IntKind.i64.wrap ((BitVec.toNat (BitVec.ofInt IntKind.i64.bits a &&& BitVec.ofInt IntKind.i64.bits b):Nat):Int)
def Lk.c (m:Lk):List PV:=[bl m.ask,uu m.to,ii m.q.to.node,uu m.q.to.aH,ii m.q.kind,uu m.q.bI,uu m.q.n,uu m.q.ak,uu m.q.sure,ii m.q.copy,CR m.q.body,slU m.q.keep,ii m.r.from_.node,uu m.r.from_.aH,ii m.r.kind,ii m.r.code,uu m.r.bI,uu m.r.n,uu m.r.ak,uu m.r.sure,CR m.r.body]
def Fk.c (f:Fk):List PV:=[ii f.x.node,uu f.x.aH,uu f.ak,uu f.sure]
structure sP where
 what:Int
 which:Int
 xN:Int
 GX:Int
 e:Int
 body:List UInt8
 known:List Pl
def sP.c (x:sP):List PV:=[ii x.what,ii x.which,ii x.xN,ii x.GX,ii x.e,CR x.body,av x.known]
def Nn (l:List sP):PV:=.sl false 7 (l.map sP.c)
def skA (s:Sk)(B H T F S:AV):List AV:=[.pv (uu s.x.id),.pv (ii s.x.w),.pv (ii s.x.a),.pv (cB s.x.af),.pv (ii s.x.closed),.pv (uu s.x.last),.pv (uu s.w.l.id),.pv (ii s.w.l.w),.pv (ii s.w.l.a),.pv (cB s.w.l.af),.pv (ii s.w.l.closed),.pv (uu s.w.l.last),.pv (uu s.w.ak),.pv (uu s.w.next),.pv (uu s.w.sure),.pv (sj s.w.waits),.pv (av s.w.bad),.pv (uu s.w.change.first),.pv (av s.w.change.ah),.pv (ii s.w.fenced),.pv (uu s.r.l.id),.pv (ii s.r.l.w),.pv (ii s.r.l.a),.pv (cB s.r.l.af),.pv (ii s.r.l.closed),.pv (uu s.r.l.last),.pv (uu s.r.ak),.pv (ii s.r.phase),.pv (av s.r.heard),.pv (uu s.r.sure),.pv (uu s.r.n),.pv (av s.r.none),.pv (av s.r.has),.pv (CR s.r.body),.pv (cB s.r.af),.pv (av s.r.bad),.pv (uu s.r.born),.pv (uu s.r.since),.pv (uu s.ak),.pv (uu s.first),.pv (uu s.ask.first),.pv (av s.ask.ah),.pv (bl s.taken),.pv (uu s.now),B,H,T,F,S]
def lkQ (to:Int)(q:Rq):Lk:=⟨true,to,q,O6⟩
structure Mk where
 producer:Int
 seq:Int
 offset:Int
deriving DecidableEq,Inhabited
def Mk.c (x:Mk):List PV:=[ii x.producer,uu x.seq,uu x.offset]
def slM (l:List Mk):PV:=.sl false 3 (l.map Mk.c)
structure Cu where
 sub:Int
 at_:Int
deriving DecidableEq,Inhabited
def Cu.c (x:Cu):List PV:=[ii x.sub,uu x.at_]
def slK (l:List Cu):PV:=.sl false 2 (l.map Cu.c)
structure Ch where
 ak:Int
 owner:Int
 inc:Int
 tN:Int
 first:Int
 trim:Int
 ja:List Int
 seen:List Mk
 Er:List Cu
deriving DecidableEq,Inhabited
def Ch.c (x:Ch):List PV:=[uu x.ak,ii x.owner,uu x.inc,uu x.tN,uu x.first,uu x.trim,slU x.ja,slM x.seen,slK x.Er]
def slH (l:List Ch):PV:=.sl false 9 (l.map Ch.c)
def alu (l:List Lg):PV:=.sl false 6 (l.map Lg.c)
structure Oc where
 code:Int
 ak:Int
 at_:Int
 bI:Int
 owner:Int
deriving DecidableEq,Inhabited
def Oc.c (x:Oc):List PV:=[ii x.code,uu x.ak,uu x.at_,uu x.bI,ii x.owner]
structure Pa where
 who:Int
 inc:Int
 n:Int
 out:Oc
deriving DecidableEq,Inhabited
def Pa.c (x:Pa):List PV:=[ii x.who,uu x.inc,uu x.n,ii x.out.code,uu x.out.ak,uu x.out.at_,uu x.out.bI,ii x.out.owner]
def slA (l:List Pa):PV:=.sl false 8 (l.map Pa.c)
structure Pn where
 version:Int
 next:Int
 channels:List Ch
 ja:List Lg
 past:List Pa
deriving DecidableEq,Inhabited
def Pn.c (x:Pn):List PV:=[uu x.version,uu x.next,slH x.channels,alu x.ja,slA x.past]
def cnt (n:Int):Bool:=!decide (n>4611686018427387903)
def lg0:Lg:=⟨0,0,0,[],0,0⟩
def Z4 (p:Pn)(id:Int):Option Lg:=p.ja.find? fun l=>l.id==id
def aju (p:Pn):List Int:=p.ja.map (·.id)
def agV (p:Pn):List Int:=p.channels.flatMap (·.ja)
def agW (a b:Int):Int:=IntKind.u64.wrap (a+b)
def agX (p:Pn)(c:Ch):Int:=c.ja.foldl (fun e id=>agW e ((Z4 p id).getD lg0).last) c.first
def ajv (p:Pn)(c:Ch):Option Lg:=
 match c.ja.getLast? with
 |none=>none
 | some id=>match Z4 p id with
   |none=>none
   |some l=>if l.closed==0 then some l else none
def chP (p:Pn)(n:Int):Ch:=p.channels[(n-1).toNat]!
def agY (c:Ch):Bool:=
 if c.ak==0 then (c.owner==0&&(c.inc==0&&decide ((c.ja.length:Int)=0))) else dA c.owner 1 15&&dA c.inc 1 4611686018427387903
def Nr (l:List Int):Bool:=decide (l.Pairwise (· < ·))
def ajw (l:List Int):List Int:=l.mergeSort fun x y=>decide (x≤y)
def agZ (c:Ch)(x:Mk):Bool:=dA x.producer 1 15&&(dA x.seq 1 4611686018427387903&&decide (x.offset<c.first))
def ajx (c:Ch):Bool:=decide ((c.seen.length:Int)≤6)&&(Nr (c.seen.map (·.producer))&&(decide (c.seen.map (·.offset)).Nodup&&c.seen.all (agZ c)))
def ag0 (x:Cu):Bool:=dA x.sub 1 3&&cnt x.at_
def Z5 (p:Pn):List Int→Bool
 |[]=>true
 | id::r=>(match Z4 p id with
   |none=>false
   |some l=>!(l.closed==0 && !r.isEmpty))&&Z5 p r
def ajy (p:Pn)(c:Ch):Int:=if (ajv p c).isSome then agW (agX p c) 8 else agX p c
def ag1 (p:Pn)(c:Ch):Bool:=
 (cnt c.ak&&(cnt c.tN&&cnt c.first))&&(agY c&&(decide ((c.ja.length:Int)≤8)&&(Nr c.ja&&(dA c.trim c.first (ajy p c)&&(cnt (agW (agX p c) 8) &&
 (Z5 p c.ja&&(ajx c&&(decide ((c.Er.length:Int)≤3)&&(Nr (c.Er.map (·.sub))&&c.Er.all ag0)))))))))
def ag2 (x:Pa):Bool:=dA x.who 1 15&&(dA x.inc 1 4611686018427387903&&(dA x.n 1 4611686018427387903&&(dA x.out.code 0 9&&(dA x.out.owner 0 15&&(cnt x.out.ak&&(cnt x.out.at_&&cnt x.out.bI))))))
def ajz (p:Pn):Bool:=
 cnt p.version&&(dA p.next 1 4611686018427387904&&(dA p.channels.length 1 3&&(p.ja.all (fun l=>dN l&&decide (l.id<p.next))&&(Nr (aju p)&&(decide (ajw (agV p)=aju p) &&
 (p.channels.all (ag1 p)&&(Nr (p.past.map (·.who))&&p.past.all ag2)))))))
structure Sp where
 offset:Int
 bI:Int
 n:Int
deriving DecidableEq,Inhabited
def Sp.c (x:Sp):List PV:=[uu x.offset,uu x.bI,uu x.n]
def alv (p:Pn)(n:Int):Bool:=decide (n≥1)&&(decide (n≤(p.channels.length:Int))&&ajz p)
def alx (p:Pn):Prop:=∀l∈p.ja,gU l.last
section
variable {p:Pn}{n sure:Int}(hh:alv p n=true)(hr:alx p)(h0:0≤(chP p n).first)(hs:0≤sure)
include hh hr
include h0 hs
end
structure LgB (l:Lg):Prop where
 af:l.af.length≤1000000
 ah:∀f∈l.af,f.ah.length≤1000000
theorem LgB.ok {l:Lg}(h:LgB l):l.ok:=fun x G=>by have:=h.ah x G;omega
end Go.AX
end
section
namespace Go.AX
end Go.AX
end
section
namespace Go.AX
theorem Sp.aly (a b:Sp)(h:(!(a.offset==b.offset&&(a.bI==b.bI&&a.n==b.n)))=false):a=b:=by
 cases a;cases b;simp at h;simp[h]
theorem Int.aly (a b:Int)(h:(a != b)=false):a=b:=by simpa using h
end Go.AX
end
section
namespace Go.AX
end Go.AX
end
section
namespace Go.AX
end Go.AX
end
section
namespace Go.AX
theorem Vy {l:List Fk}{p:Pl}{k:Nat}(h:k<l.length)(J:l[k].x=p)(Q:∀j (K:j<l.length),j<k→(l[j].x==p)=false):iD l p=l∧iW l p=k:=by
 have G:iD l p=l:=by
  unfold iD;rw[if_pos (List.any_eq_true.2 ⟨l[k],List.getElem_mem h,by simpa using J⟩)]
 refine⟨G,?_⟩;unfold iW;rw[G,List.findIdx_eq h];exact⟨by simpa using J,fun j K=>Q j (by omega) K⟩
theorem adV {l:List Fk}{p:Pl}(K:∀j (G:j<l.length),(l[j].x==p)=false):iD l p=l++[⟨p,0,0⟩]∧iW l p=l.length:=by
 have Q:l.any (fun f=>f.x==p)=false:=by
  rw[List.any_eq_false];intro x S;obtain⟨j,G,rfl⟩:=List.getElem_of_mem S;rw[K j G];decide
 have J:iD l p=l++[⟨p,0,0⟩]:=by unfold iD;rw[if_neg (by rw[Q];decide)]
 refine⟨J,?_⟩;unfold iW;rw[J,List.findIdx_append,List.findIdx_eq_length.2 (fun y V=>by
  obtain⟨j,G,rfl⟩:=List.getElem_of_mem V;exact K j G)]
 simp[List.findIdx_cons]
theorem TV (l:List Fk)(p:Pl):∃h:iW l p<(iD l p).length,(iD l p)[iW l p]=eO l p:=by
 obtain⟨a,f,b,G,K,Q,J,S,V⟩:=qf l p;have h:iW l p<(iD l p).length:=by rw[J,G];simp
 exact⟨h,by unfold eO;rw[getElem!_pos (iD l p) (iW l p) h]⟩
theorem Np (l:List Fk)(p:Pl):(iD l p).length≤l.length+1:=by
 unfold iD;split
 ·omega
 simp
def ZX (l:List Hp)(p:Pl)(n:Int)(k:Nat)(G:Int):Prop:=(G = -1∧mK (l.take k) p n=none)∨∃i:Nat,∃h:i<l.length,G=i∧i<k∧mK (l.take k) p n=some l[i]
theorem agU (l:List Hp)(p:Pl)(n:Int):ZX l p n 0 (-1):=.inl ⟨rfl,by simp[mK]⟩
theorem Vz {l:List Hp}{p:Pl}{n:Int}{k:Nat}{G:Int}(h:ZX l p n k G)(K:k<l.length):ZX l p n (k+1) (if l[k].x==p&&l[k].n==n then (k:Int) else G):=by
 have e:(l.take (k+1)).filter (fun h=>h.x==p&&h.n==n)=(l.take k).filter (fun h=>h.x==p&&h.n==n)++(if l[k].x==p&&l[k].n==n then [l[k]] else []):=by
  rw[List.take_succ_eq_append_getElem K,List.filter_append];congr 1
  cases J:(l[k].x==p&&l[k].n==n)<;>simp[J]
 cases J:(l[k].x==p&&l[k].n==n) with
 | true=>
   rw[J] at e;simp only[↓reduceIte] at e ⊢;refine .inr ⟨k,K,rfl,by omega,?_⟩;unfold mK;rw[e];simp
 | false=>
   rw[J] at e;simp only[Bool.false_eq_true,↓reduceIte,List.append_nil] at e ⊢;rcases h with ⟨a,b⟩|⟨i,hi,a,b,c⟩
   ·refine .inl ⟨a,?_⟩;unfold mK at b ⊢;rw[e];exact b
   refine .inr ⟨i,hi,a,by omega,?_⟩;unfold mK at c ⊢;rw[e];exact c
def rsA (r:Rs):List AV:=[.pv (ii r.from_.node),.pv (uu r.from_.aH),.pv (ii r.kind),.pv (ii r.code),.pv (uu r.bI),.pv (uu r.n),.pv (uu r.ak),.pv (uu r.sure),.pv (CR r.body)]
end Go.AX
namespace Go.AX
def rqA (q:Rq):List AV:=[.pv (ii q.to.node),.pv (uu q.to.aH),.pv (ii q.kind),.pv (uu q.bI),.pv (uu q.n),.pv (uu q.ak),.pv (uu q.sure),.pv (ii q.copy),.pv (CR q.body),.pv (slU q.keep)]
def rsZ:List AV:=[.pv (ii 0),.pv (uu 0),.pv (ii 0),.pv (ii 0),.pv (uu 0),.pv (uu 0),.pv (uu 0),.pv (uu 0),.pv gB]
def KO (s:Sk)(q:Rq)(J:Bool)(G:List Fk)(i:Nat)(f:Fk)(h:Option Hp):Sk×Rs:=
 if q.kind=1 then
  if q.ak<f.ak then ({ s with aF:=G },{ BJ q with code:=1 })
  else ({ s with has:=if h.isNone then s.has++[⟨q.to,q.n,q.body⟩] else s.has,aF:=G.set i ⟨f.x,f.ak,if q.sure>f.sure then q.sure else f.sure⟩,told:=if J then s.told++[⟨q.to,q.n,q.body⟩] else s.told },BJ q)
 else if q.kind=2 then ({ s with aF:=G.set i ⟨f.x,if q.ak>f.ak then q.ak else f.ak,f.sure⟩ },{ BJ q with sure:=f.sure })
 else if q.kind=3 then ({ s with aF:=G },match h with
  |some e=>{ BJ q with sure:=f.sure,body:=e.body }
  |none=>{ BJ q with sure:=f.sure,code:=3 })
 else ({ s with aF:=G },BJ q)
theorem ZY (a b:Int):max a b=if b>a then b else a:=by
 rw[Int.max_def];split<;>split<;>omega
theorem QV (s:Sk)(q:Rq)(G:Bool):bQ s q G=KO s q G (iD s.aF q.to) (iW s.aF q.to) (eO s.aF q.to) (mK s.has q.to q.n):=by
 unfold bQ KO;dsimp only
 rw[ZY,ZY];all_goals rfl
theorem rW (x:Rv)(l:List Pl):(gF x l).length≤l.length:=by
 unfold gF;rw[List.length_map];exact List.length_filter_le _ _
theorem lY (x:Rv)(l:List Pl):(aU x l).length≤l.length:=by
 unfold aU;rw[List.length_map];exact List.length_filter_le _ _
theorem Di (x:Rv)(l:List Pl):(ic x l).length≤l.length:=by
 unfold ic;rw[List.length_map];exact List.length_filter_le _ _
section
variable {k:Nat}
theorem Nq {y:Rv}(h:∀n,(setOf y.l.af y.l.w n).length≤k)(n now:Int):(bB y n now).2.length≤k:=by
 unfold bB;dsimp only
 split
 ·exact Nat.zero_le _
 exact Nat.le_trans (rW _ _) (h n)
theorem tX {y:Rv}(h:∀n,(setOf y.l.af y.l.w n).length≤k)(now:Int):(aZ y now).2.length≤k:=by
 unfold aZ;split
 ·exact Nq h _ _
 exact Nat.zero_le _
theorem TW {y:Rv}(h:∀n,(setOf y.l.af y.l.w n).length≤k)(now:Int)(p:Pl):(je y now p).2.length≤k:=by
 unfold je;split
 ·exact Nat.zero_le _
 exact tX (y:={ y with has:=y.has++[p] }) h now
theorem VA {y:Rv}(h:∀n,(setOf y.l.af y.l.w n).length≤k)(G:∀n,(setOf y.af y.l.w n).length≤k)(now:Int)(r:Rs):(bJ y now r).2.length≤k+k+1:=by
 unfold bJ;split
 ·exact Nat.zero_le _
 split
 ·rw[pX];split
  ·exact Nat.zero_le _
  unfold wU;split
  ·exact Nat.le_trans (Nq (by exact h) _ _) (by omega)
  split
  ·show 1≤k+k+1;omega
  exact Nat.zero_le _
 split
 ·unfold lm;split
  ·rw[List.length_append];have J:=lY (aN y now r) (aj (aN y now r));have K:(aj (aN y now r)).length≤k:=G y.n;have Q:=tX (y:=aN y now r) (k:=k) h now;omega
  split
  ·exact Nat.zero_le _
  split
  ·exact Nat.le_trans (TW h _ _) (by omega)
  exact Nat.zero_le _
 split
 ·unfold fI;split
  ·exact Nat.le_trans (TW h _ _) (by omega)
  split
  ·exact Nat.zero_le _
  split
  ·exact Nat.zero_le _
  exact Nat.zero_le _
 exact Nat.zero_le _
end
end Go.AX
end
section
namespace Go.AX
end Go.AX
end
section
namespace Go.AX
theorem vK {l:List Pl}(h:(l.map (·.node)).Nodup){i j:Nat}(hi:i<l.length)(J:j<l.length)(e:l[i].node=l[j].node):i=j:=by
 have G:=(List.nodup_iff_pairwise_ne.1 h);rw[List.pairwise_iff_getElem] at G;rcases Nat.lt_trichotomy i j with g|g|g
 ·exact absurd (by rw[List.getElem_map,List.getElem_map];exact e) (G i j (by simpa using hi) (by simpa using J) g)
 ·exact g
 exact absurd (by rw[List.getElem_map,List.getElem_map];exact e.symm) (G j i (by simpa using J) (by simpa using hi) g)
theorem Kw {l:List Pl}(h:(l.map (·.node)).Nodup){x y:Pl}(J:x∈l)(K:y∈l)(e:x.node=y.node):x=y:=by
 obtain⟨i,hi,rfl⟩:=List.getElem_of_mem J;obtain⟨j,G,rfl⟩:=List.getElem_of_mem K;have:=vK h hi G e;subst this;rfl
theorem Ky {l b:List Pl}(K:(b.map (·.node)).Nodup)(J:l.Nodup)(hs:∀x∈l,x∈b):(l.map (·.node)).Nodup:=by
 rw[List.nodup_iff_pairwise_ne,List.pairwise_map];rw[List.nodup_iff_pairwise_ne] at J;exact J.imp_of_mem fun Q S G e=>G (Kw K (hs _ Q) (hs _ S) e)
section
variable {w:Int}{bad known:List Pl}(hk:(known.map (·.node)).Nodup)(zX:w≤(known.length:Int))(hbad:∀p,aW bad p=true→aW known p=false)
structure R1c (bad known f0:List Pl)(st:Fr×List Pl×Bool)(todo:List Pl):Prop where
 rest:∀p∈st.1.ah,aW bad p=true→p∈todo∨p∈st.2.1
 left:∀y∈st.2.1,∀k∈known,k.node≠y.node
 lnd:st.2.1.Nodup
 cnt:st.2.1≠[]→known.length+st.2.1.length≤f0.length
include hk zX hbad
theorem Vb {p:Pl}(h:p∈known):p∈fit bad known:=by
 refine List.mem_filter.2 ⟨h,?_⟩;cases e:bad.any (· == p) with
 |false=>rfl
 | true=>
   have:=hbad p e;rw[gZ.2 h] at this;cases this
theorem aiX {f0:List Pl}{st:Fr×List Pl×Bool}{old:Pl}{todo:List Pl}(h:R1 w bad known f0 st (old::todo))(c:R1c bad known f0 st (old::todo))(hn:old∉todo) :
  R1c bad known f0 (xA bad (fit bad known) st old) todo:=by
 have X:=h.todo old (by simp);obtain⟨k,ad,aa⟩:=List.getElem_of_mem X.1;unfold xA;by_cases hb:aW bad old=true
 ·rw[if_pos (show bad.any (· == old)=true from hb)];cases hr:(iF st.1 old (fit bad known)).2 with
  | true=>
    rw[if_pos rfl];obtain⟨p,hp,hs⟩:=Ee hr;obtain⟨k2,ak,e1,e2,e3⟩:=Bw hs h.nd;have ar:k2=k:=vK h.nd ak ad (by rw[e1,aa]);refine⟨fun q hq K=>?_,c.left,c.lnd,fun g=>c.cnt g⟩;have hq:q∈(iF st.1 old (fit bad known)).1.ah:=hq;rw[e2] at hq;obtain⟨j,hj,S⟩:=List.getElem_of_mem hq;rw[List.getElem_set] at S;split at S
    ·subst S;have:=hbad _ K;rw[gZ.2 (List.mem_filter.1 hp).1] at this;cases this
    rename_i ap;have ag:j<st.1.ah.length:=by simpa using hj
    rcases c.rest q (by rw[←S];exact List.getElem_mem ag) K with g|g
    ·rcases List.mem_cons.1 g with g|g
     ·exfalso;have:j=k2:=vK h.nd ag ak (by rw[S,e1,g]);exact ap this.symm
     exact .inl g
    exact .inr g
  | false=>
    rw[if_neg (by decide)];obtain⟨e1,e2⟩:=Ef hr;have YR:∀Q∈known,Q.node≠old.node∧Q.node∈st.1.ah.map (·.node):=fun Q J=>by
     obtain⟨j,hj,al,ai⟩:=Jb (e2 Q (Vb hk zX hbad J)) ad aa h.nd;refine⟨fun e=>al (vK h.nd hj ad (by rw[ai,e,aa])),?_⟩;rw[←ai];exact List.mem_map.2 ⟨_,List.getElem_mem hj,rfl⟩
    have V:∀y∈st.2.1++[old],∀Q∈known,Q.node≠y.node:=fun y G Q J=>by
     rcases List.mem_append.1 G with G|G
     ·exact c.left y G Q J
     rw[List.mem_singleton] at G;subst G;exact (YR Q J).1
    have af:(st.2.1++[old]).Nodup:=by
     rw[List.nodup_append];refine⟨c.lnd,by simp,fun x hx y G e=>?_⟩;rw[List.mem_singleton] at G;subst G;subst e;exact X.2 hx
    refine⟨fun q hq K=>?_,V,af,fun _=>?_⟩
    ·have hq:q∈(iF st.1 old (fit bad known)).1.ah:=hq;rw[e1] at hq;rcases c.rest q hq K with g|g
     ·rcases List.mem_cons.1 g with g|g
      ·exact .inr (by rw[g];simp)
      exact .inl g
     exact .inr (List.mem_append_left _ g)
    have ae:∀y∈st.2.1++[old],y∈st.1.ah:=fun y G=>by
     rcases List.mem_append.1 G with G|G
     ·exact (h.left y G).1
     rw[List.mem_singleton] at G;subst G;exact X.1
    have ao:(known.map (·.node)++(st.2.1++[old]).map (·.node)).Nodup:=by
     rw[List.nodup_append];refine⟨hk,Ky h.nd af ae,fun x hx y G e=>?_⟩;obtain⟨Q,J,rfl⟩:=List.mem_map.1 hx;obtain⟨z,hz,rfl⟩:=List.mem_map.1 G;exact V z hz Q J e
    have am:=ao.length_le_of_subset (l₂:=st.1.ah.map (·.node)) (fun x hx=>by
     rcases List.mem_append.1 hx with hx|hx
     ·obtain⟨Q,J,rfl⟩:=List.mem_map.1 hx;exact (YR Q J).2
     obtain⟨z,hz,rfl⟩:=List.mem_map.1 hx;exact List.mem_map.2 ⟨z,ae z hz,rfl⟩)
    have aq:=h.len;simp only[List.length_append,List.length_map,List.length_singleton] at am ⊢;omega
 rw[if_neg (show ¬bad.any (· == old)=true from hb)];refine⟨fun q hq K=>?_,c.left,c.lnd,c.cnt⟩;rcases c.rest q hq K with g|g
 ·rcases List.mem_cons.1 g with g|g
  ·subst g;exact absurd K hb
  exact .inl g
 exact .inr g
theorem Jc {f0:List Pl}:∀{todo:List Pl} {st:Fr×List Pl×Bool},R1 w bad known f0 st todo→R1c bad known f0 st todo→todo.Nodup →
  R1 w bad known f0 (todo.foldl (xA bad (fit bad known)) st) []∧R1c bad known f0 (todo.foldl (xA bad (fit bad known)) st) []
 |[],st,h,c,_=>⟨h,c⟩
 | old::todo,st,h,c,G=>by
   rw[List.nodup_cons] at G;rw[List.foldl_cons];exact Jc (MN hk zX hbad h G.1).1 (aiX hk zX hbad h c G.1) G.2
omit hk zX hbad in
theorem afk:∀(todo:List Pl) (st:List Pl×Bool),(st.1.map (·.node)).Nodup→(∀p∈st.1,aW bad p=true→p∈todo)→(∀y∈todo,y∈st.1)→todo.Nodup→(todo≠[]→w+(todo.length:Int)≤(st.1.length:Int)) →
  ∀p∈(todo.foldl (DX w) st).1,p∈st.1∧aW bad p=false
 | [],st,nd,hr,hs,_,_=>fun p J=>⟨J,by
   cases e:aW bad p with
   |false=>rfl
   |true=>exact absurd (hr p J e) (by simp)⟩
 | old::todo,st,nd,hr,hs,K,hc=>by
   rw[List.nodup_cons] at K;have X:=hs old (by simp);obtain⟨k,V,e1,e2⟩:=Tk X;have hc:=hc (by simp);simp only[List.length_cons] at hc;have S:DX w st old=(st.1.eraseIdx k,true):=by
    unfold DX;rw[e1,if_pos (by simp only[Bool.and_eq_true,decide_eq_true_eq];omega)];simp
   rw[List.foldl_cons,S];have G:∀p,p∈st.1.eraseIdx k↔p∈st.1∧p≠old:=fun p=>by
    rw[List.mem_eraseIdx_iff_getElem];constructor
    ·rintro⟨i,hi,Q,rfl⟩
     refine⟨List.getElem_mem hi,fun e=>Q ?_⟩;exact vK nd hi V (by rw[e,e2])
    rintro⟨J,Q⟩
    obtain⟨i,hi,rfl⟩:=List.getElem_of_mem J;exact⟨i,hi,fun e=>Q (by subst e;exact e2),rfl⟩
   have ih:=afk todo (st.1.eraseIdx k,true) (nd.sublist ((List.eraseIdx_sublist _ _).map _)) (fun p J hb=>by
     obtain⟨g1,g2⟩:=(G p).1 J;exact (List.mem_cons.1 (hr p g1 hb)).resolve_left g2) (fun y hy=>(G y).2 ⟨hs y (by simp[hy]),fun e=>K.1 (by rw[←e];exact hy)⟩) K.2 (fun _=>by
     show w+_≤((st.1.eraseIdx k).length:Int)
     rw[List.length_eraseIdx,if_pos V];omega)
   intro p J;obtain⟨g1,g2⟩:=ih p J;exact⟨((G p).1 g1).1,g2⟩
theorem Qn {f:Fr}{e:Int}(Q:(f.ah.map (·.node)).Nodup)(h1:w≤(f.ah.length:Int))(h2:f.ah.length≤5)(hex:∃p∈f.ah,aW bad p=true) :
  (fC f w e bad known).2=true∧∀p∈(fC f w e bad known).1.ah,p∈known∨(p∈f.ah∧aW bad p=false):=by
 have J:=(YT hk zX hbad Q h1 h2 hex).1;have aa:(nT w (fZ f bad (fit bad known))).2=true:=by
  unfold fC at J;split at J
  ·assumption
  cases J
 have X:f.ah.Nodup:=by
  rw[List.nodup_iff_pairwise_ne] at Q ⊢;rw[List.pairwise_map] at Q;exact Q.imp fun h e=>h (by rw[e])
 obtain⟨S,V⟩:=Jc hk zX hbad (f0:=f.ah) (todo:=f.ah) (st:=(f,[],false)) ⟨Q,rfl,fun p G=>.inr G,fun y K=>⟨K,by simp⟩,fun y K=>(by simp at K),Nat.le_refl _,fun h=>(by cases h),fun h=>absurd rfl h⟩ ⟨fun p G _=>.inl G,fun y K=>(by simp at K),by simp,fun h=>absurd rfl h⟩ X;change R1 w bad known f.ah (fZ f bad (fit bad known)) [] at S
 change R1c bad known f.ah (fZ f bad (fit bad known)) [] at V
 have ad:=S.len;have hm:=afk (w:=w) (bad:=bad) (fZ f bad (fit bad known)).2.1 ((fZ f bad (fit bad known)).1.ah,(fZ f bad (fit bad known)).2.2) S.nd (fun p G hb=>(V.rest p G hb).resolve_left (by simp)) (fun y K=>(S.left y K).1) V.lnd (fun g=>by
  have:=V.cnt g;show w+_≤((fZ f bad (fit bad known)).1.ah.length:Int)
  omega)
 change ∀p∈(nT w (fZ f bad (fit bad known))).1,_ at hm
 have h3:∀(l b:List Pl) (p:Pl),p∈l.foldl (FB e) b→p∈l∨p∈b:=by
  intro l;induction l with
  |nil=>exact fun b p G=>.inr G
  | cons x l ih=>
    intro b p G;rw[List.foldl_cons] at G;rcases ih _ p G with g|g
    ·exact .inl (by simp[g])
    unfold FB at g;by_cases hc:(decide ((b.length:Int)<(if 5<e then 5 else e)) && !(b.any fun y=>y.node==x.node))=true
    ·rw[if_pos hc] at g;rcases List.mem_append.1 g with g|g
     ·exact .inr g
     rw[List.mem_singleton] at g;exact .inl (by simp[g])
    rw[if_neg hc] at g;exact .inr g
 unfold fC;rw[if_pos aa];refine⟨rfl,fun p G=>?_⟩;rcases h3 _ _ p G with g|g
 ·exact .inl (List.mem_filter.1 g).1
 obtain⟨g1,g2⟩:=hm p g;rcases S.mem p g1 with g|g
 ·exact .inl g
 exact .inr ⟨g,g2⟩
end
theorem Qt {l:List Pl}{k w:Nat}(G:0<l.length):∀p∈eP l k w,p∈l:=by
 intro p J;obtain⟨i,hi,rfl⟩:=List.mem_map.1 J;have:(k+i)%l.length<l.length:=Nat.mod_lt _ G;rw[getElem!_pos l _ this];exact List.getElem_mem this
theorem KD {l:List Pl}{k w:Nat}(hw:w≤l.length)(hn:l.Nodup):(eP l k w).Nodup:=by
 unfold eP;rw[List.nodup_iff_pairwise_ne,List.pairwise_map];have hr:(List.range w).Nodup:=List.nodup_range;rw[List.nodup_iff_pairwise_ne] at hr;refine hr.imp_of_mem fun {a b} ha hb K e=>K ?_
 have ha:=List.mem_range.1 ha;have hb:=List.mem_range.1 hb;have V:0<l.length:=by omega
 have G:(k+a)%l.length<l.length:=Nat.mod_lt _ V;have J:(k+b)%l.length<l.length:=Nat.mod_lt _ V;rw[getElem!_pos l _ G,getElem!_pos l _ J] at e;have e2:(k+a)%l.length=(k+b)%l.length:=by
  have Q:=List.nodup_iff_pairwise_ne.1 hn;rw[List.pairwise_iff_getElem] at Q;rcases Nat.lt_trichotomy ((k+a)%l.length) ((k+b)%l.length) with g|g|g
  ·exact absurd e (Q _ _ G J g)
  ·exact g
  exact absurd e.symm (Q _ _ J G g)
 have S:=Nat.div_add_mod (k+a) l.length;have d2:=Nat.div_add_mod (k+b) l.length;rw[e2] at S;obtain⟨X,hX⟩:∃X,X=(k+a) / l.length:=⟨_,rfl⟩;obtain⟨Y,hY⟩:∃Y,Y=(k+b) / l.length:=⟨_,rfl⟩;rw[←hX] at S;rw[←hY] at d2;rcases Nat.lt_trichotomy X Y with g|g|g
 ·have:l.length*(X+1)≤l.length*Y:=Nat.mul_le_mul_left _ g;rw[Nat.mul_succ] at this;omega
 ·subst g;omega
 have:l.length*(Y+1)≤l.length*X:=Nat.mul_le_mul_left _ g;rw[Nat.mul_succ] at this;omega
theorem vP {l:List Pl}(h:(l.map (·.node)).Nodup):l.Nodup:=by
 rw[List.nodup_iff_pairwise_ne] at h ⊢;rw[List.pairwise_map] at h;exact h.imp fun h e=>h (by rw[e])
structure Jd (S B:List Pl)(w:Int):Prop where
 len:(S.length:Int)=w
 nd:S.Nodup
 sub:∀p∈S,p∈B
theorem Je {B:List Pl}{w:Int}(k:Nat)(J:1≤w)(K:w≤(B.length:Int))(G:B.Nodup):Jd (eP B k w.toNat) B w:=
 ⟨by simp[eP];omega,KD (by omega) G,Qt (by omega)⟩
theorem Y4 {l:List Fr}{w n:Int}(V:dh w l=true)(J:1≤w)(S:(aL l).first≤n):Jd (setOf l w n) (aL l).ah w:=by
 obtain⟨⟨K,X⟩,Q⟩:=dO V;have G:=Q _ (iU K);simp only[iK,Bool.and_eq_true,dA,decide_eq_true_eq] at G;unfold setOf;rw[qL K S];simp only;rw[if_pos ⟨J,G.2.1.1⟩];exact Je _ J G.2.1.1 (vP G.2.2.2)
theorem CP {S g:List Pl}(Q:S.Nodup):∀k,k≤S.length→lJ S g k=((S.take k).filter (aW g)).length
 |0,_=>by simp[lJ]
 | k+1,hk=>by
   have ih:=CP (g:=g) Q k (by omega);have G:k<S.length:=by omega
   rw[wS S g k G,ih,List.take_succ_eq_append_getElem G,List.filter_append,List.length_append];congr 1
   have J:(S.take k).any (· == S[k])=false:=by
    rw[List.any_eq_false];intro x X e;have e:x=S[k]:=by simpa using e
    obtain⟨i,hi,rfl⟩:=List.getElem_of_mem X;rw[List.getElem_take] at e;have K:i<k:=by rw[List.length_take] at hi;omega
    have V:=List.nodup_iff_pairwise_ne.1 Q;rw[List.pairwise_iff_getElem] at V;exact V i k (by omega) G K e
   rw[J];have:g.any (· == S[k])=aW g S[k]:=rfl;rw[this];cases e:aW g S[k]<;>simp[e]
theorem CQ {S g:List Pl}(G:S.Nodup):yF S g=(S.filter (aW g)).length:=by
 unfold yF;rw[CP G _ (Nat.le_refl _),List.take_length]
def zY (up l:List Pl):List Pl:=l.filter fun p=>!aW up p
theorem tQ (q:Pl→Bool):∀l:List Pl,(l.filter q).length+(l.filter fun p=>!q p).length=l.length
 |[]=>rfl
 | x::l=>by
   have:=tQ q l;cases e:q x<;>simp[e]<;>omega
theorem filter_mono {q r:Pl→Bool}:∀{l:List Pl},(∀p∈l,q p=true→r p=true)→(l.filter q).length≤(l.filter r).length
 |[],_=>Nat.le_refl _
 | x::l,h=>by
   have ih:=filter_mono (l:=l) fun p J=>h p (by simp[J])
   have K:=h x (by simp);cases e:q x with
   |true=>simp[e,K e];exact ih
   |false=>cases G:r x<;>simp[e,G]<;>omega
theorem agA {up S B:List Pl}(G:S.Nodup)(hs:∀p∈S,p∈B):(zY up S).length≤(zY up B).length:=by
 refine (G.sublist (List.filter_sublist)).length_le_of_subset fun p J=>?_
 obtain⟨a,b⟩:=List.mem_filter.1 J;exact List.mem_filter.2 ⟨hs p a,b⟩
theorem Tn {S B up none:List Pl}{w a:Int}(h:Jd S B w)(J:((zY up B).length:Int)≤a-1)(Q:∀p∈S,aW up p=true→p∈none):dL S w a none=true:=by
 have G:=agA (up:=up) h.nd h.sub;have V:=tQ (aW up) S;have X:=filter_mono (q:=aW up) (r:=aW none) (l:=S) fun p K e=>gZ.2 (Q p K e)
 have h4:=h.len;simp only[dL,Bool.or_eq_true,decide_eq_true_eq];rw[CQ h.nd];unfold zY at G J;omega
theorem Y5 {S B up has:List Pl}{w a:Int}(h:Jd S B w)(Q:1≤a)(G:bE S a has=false):w-a+1≤((S.filter fun p=>!aW has p).length:Int):=by
 have J:=tQ (aW has) S;have K:=h.len;simp only[bE,Bool.and_eq_false_iff,decide_eq_false_iff_not] at G;rw[CQ h.nd] at G;omega
theorem Qr {f:Fr}{up G:List Pl}{w a:Int}(K:1≤w)(Q:w≤(f.ah.length:Int))(hn:f.ah.Nodup)(X:((zY up f.ah).length:Int)≤a-1)(hu:∀p∈f.ah,aW up p=true→p∈G):eu f w a G=true:=by
 unfold eu;rw[if_neg (by simp only[Bool.or_eq_true,decide_eq_true_eq];omega),List.all_eq_true];intro S V;obtain⟨k,_,rfl⟩:=List.mem_map.1 V;have J:=Je k K Q hn;exact Tn J X fun p hp e=>hu p (J.sub p hp) e
theorem MP {f:Fr}{w a:Int}(G:1≤w)(J:w≤(f.ah.length:Int))(K:a≤w):eu f w a []=false:=by
 unfold eu;rw[if_neg (by simp only[Bool.or_eq_true,decide_eq_true_eq];omega),List.all_eq_false];refine⟨eP f.ah 0 w.toNat,List.mem_map.2 ⟨0,List.mem_range.2 (by omega),rfl⟩,?_⟩;have hc:∀S:List Pl,yF S []=0:=fun S=>by
  unfold yF;have:∀k,lJ S [] k=0:=by
   intro k;induction k with
   |zero=>rfl
   |succ k ih=>rw[lJ,ih];simp
  exact this _
 unfold dL;rw[hc];simp;omega
end Go.AX
end
