/-
  Conditions: none. A framework for walks: abstract values, memory, and conditions that suffice; the chapters in plain terms.
-/
import Derived.Test.YtfoiekbkkbnpkaaGreatAf
import Derived.Test.YtfoiekbkkbnpkaaGreatAe
import Derived.ProofKit
import Derived.OpenShut
set_option linter.unusedSectionVars false
set_option linter.unusedVariables false
set_option linter.unusedSimpArgs false
section
namespace Go.AX
theorem lZ {l:Lg}(h:d9 l=true):0<l.af.length∧l.af.length≤6∧(∀f∈l.af,1≤f.first∧f.first≤9∧f.ah.length≤5)∧1≤l.a∧l.a≤l.w∧l.w≤5:=by
 simp only[d9,Bool.and_eq_true,dI,decide_eq_true_eq] at h;obtain⟨⟨a1,a2⟩,⟨a3,a4⟩,a5,a6,⟨a7,a8⟩,a9⟩:=h;simp only[dA,Bool.and_eq_true,dI,decide_eq_true_eq,List.all_eq_true] at a6;obtain⟨⟨h1,h2⟩,h3,h4,h5⟩:=a6;refine⟨by omega,by omega,fun f hf=>?_,a3,a4,a5⟩;have:=h4 f hf;simp only[kW,Bool.and_eq_true,dI,decide_eq_true_eq] at this;omega
theorem jr (fr:List Fr){w:Int}(hw:w≤5)(n:Int):(setOf fr w n).length≤5:=by
 unfold setOf;split
 ·simp
 split
 ·simp only[fF,List.length_map,List.length_range];omega
 simp
theorem RL (e:Int):∀(l b:List Pl),b.length≤5→(l.foldl (Ma e) b).length≤5
 |[],b,h=>h
 | p::r,b,h=>by
   rw[List.foldl_cons];refine RL e r _ ?_;unfold Ma;by_cases hc:(decide ((b.length:Int)<(if 5<e then 5 else e)) && !(b.any fun y=>y.node==p.node))=true
   ·rw[if_pos hc];simp only[Bool.and_eq_true,decide_eq_true_eq] at hc;rw[List.length_append,List.length_singleton];have h1:=hc.1;by_cases h5:(5:Int)<e
    ·rw[if_pos h5] at h1;omega
    rw[if_neg h5] at h1;omega
   rw[if_neg hc];exact h
theorem pz {f:Fr}(hf:f.ah.length≤5)(w e:Int)(bad known:List Pl):(jI f w e bad known).1.ah.length≤5:=by
 unfold jI;split
 ·refine RL e _ _ ?_;unfold Cz;refine Nat.le_trans (DR w _ _) ?_;have:=(zH bad (fit bad known) f.ah (f,[],false)).1;unfold nO;rw[this];exact hf
 simp[kQ]
theorem XY {l:Lg}{k:Nat}{x:Rv}(h:RBase l k x):(gJ x).ah.length≤5:=by
 unfold gJ;cases hf:eD x.af x.n with
 |none=>simp[kQ]
 |some f=>exact (h.fr f (mM _ _ _ hf).1).2.2
theorem XZ {x:Rv}(h:x.af.length≤6)(h6:(!(((jq x).length:Int)==6))=true):(jq x).length≤5:=by
 have h6:¬((jq x).length:Int)=6:=by simpa using h6
 have:(jq x).length≤x.af.length:=by
  unfold jq;split
  ·rw[List.length_take];omega
  exact Nat.le_refl _
 omega
theorem Pt {l:Lg}{k:Nat}{y:Rv}(h:RInv l k y)(known:List Pl):RInv l k (dW y known).1∧(dW y known).1.n=y.n∧(dW y known).1.phase=y.phase:=by
 unfold dW;split
 ·rename_i hc;simp only[Bool.and_eq_true] at hc;refine⟨⟨⟨h.hl,h.su,h.he,?_,?_,h.bs⟩,h.ph,h.n0,h.n1,h.n3,h.no,h.ha,Nat.zero_le _,h.bo⟩,rfl,rfl⟩
  ·show (jq y++[_]).length≤6
   rw[List.length_append,List.length_singleton];have:=XZ h.fl hc.2;omega
  intro f hf;rcases List.mem_append.1 hf with hf|hf
  ·refine h.fr f ?_;unfold jq at hf;split at hf
   ·exact List.mem_of_mem_take hf
   exact hf
  simp only[List.mem_singleton] at hf;subst hf;exact⟨h.n0.1,h.n0.2,pz (XY h.toRBase) _ _ _ _⟩
 exact⟨⟨⟨h.hl,h.su,h.he,h.fl,h.fr,h.bs⟩,h.ph,h.n0,h.n1,h.n3,h.no,h.ha,Nat.zero_le _,h.bo⟩,rfl,rfl⟩
theorem Uh {l:Lg}{k:Nat}{x:Rv}(hmay:d9 l=true)(h:RInv l k x){now:Int}(dx:gF now):RInv l (k+1) (jM x now)∧(jM x now).n=x.n∧(jM x now).phase=x.phase:=by
 unfold jM;split
 ·have h5:(aj x).length≤5:=jr _ (by rw[h.hl];exact (lZ hmay).2.2.2.2.2) _;have hb:=jZ (fun p=>!x.has.any (· == p)) (aj x) x.bad;have:=h.ba;exact⟨⟨⟨h.hl,h.su,Nat.le_succ_of_le h.he,h.fl,h.fr,⟨dx,h.bs.2⟩⟩,h.ph,h.n0,h.n1,h.n3,Nat.le_succ_of_le h.no,Nat.le_succ_of_le h.ha,(by show (aD _ _ _).length≤_;omega),h.bo⟩,rfl,rfl⟩
 exact⟨h.up,rfl,rfl⟩
theorem RN {l:Lg}{k:Nat}{x:Rv}(h:RInv l k x){now:Int}(dx:gF now):RInv l k (vz x now).1:=
 ⟨⟨h.hl,h.su,h.he,h.fl,h.fr,⟨h.bs.1,dx⟩⟩,h.ph,h.n0,h.n1,h.n3,h.no,h.ha,h.ba,h.bo⟩
structure X0 (l:Lg)(k:Nat)(x y:Rv):Prop where
 inv:RInv l (k+1) y
 n:x.n≤y.n
 same:x.phase=4→y=x
theorem abR {l:Lg}{k:Nat}{x:Rv}(hmay:d9 l=true)(h:RInv l k x){now:Int}(dx:gF now)(known:List Pl):X0 l k x (dO x now known).1:=by
 by_cases h4:x.phase=4
 ·have e0:jM x now=x:=by
   unfold jM;rw[if_neg (by rw[show (x.phase==3)=false by rw[h4];rfl];simp)]
  have e:dO x now known=(x,[]):=by
   unfold dO;simp only[e0];rw[if_neg (by rw[show (x.phase==3)=false by rw[h4];rfl];simp),if_neg (by rw[show (x.phase != 4)=false by rw[h4];rfl];simp)]
  rw[e];exact⟨h.up,Int.le_refl _,fun _=>rfl⟩
 obtain⟨hy,hyn,hyp⟩:=Uh hmay h dx;unfold dO;obtain⟨y,hye⟩:∃y,jM x now=y:=⟨_,rfl⟩;rw[hye] at hy hyn hyp ⊢;simp only;have fin:∀z:Rv,RInv l (k+1) z→x.n≤z.n→X0 l k x z:=fun z h1 h2=>⟨h1,h2,fun e=>absurd e h4⟩
 split
 ·rename_i hc;have hp3:y.phase=3:=by
   simp only[Bool.and_eq_true] at hc;simpa using hc.1
  obtain⟨hr,hrn,Ry⟩:=Pt hy known;split
  ·have hz:RInv l (k+1) { (dW y known).1 with phase:=3,born:=now,since:=now }:=
    ⟨⟨hr.hl,hr.su,hr.he,hr.fl,hr.fr,⟨dx,dx⟩⟩,.inr (.inr (.inl rfl)),hr.n0,fun e=>absurd e (by show ¬(3:Int)=1;decide),fun _=>hr.n3 (.inr (by rw[Ry,hp3])),hr.no,hr.ha,hr.ba,hr.bo⟩
   obtain⟨z,hze⟩:∃z:Rv,{ (dW y known).1 with phase:=3,born:=now,since:=now }=z:=⟨_,rfl⟩;have hzn:z.n=x.n:=by rw[←hze];show (dW y known).1.n=x.n;rw[hrn,hyn]
   have hz3:z.phase=3:=by rw[←hze]
   rw[hze] at hz ⊢;refine fin _ ?_ ?_
   ·show RInv l (k+1) (bO z now).1
    unfold bO;split
    ·have:=hz.n0;have:=hz.n3 (.inr hz3);exact zJ hz.toRBase ⟨by omega,by omega⟩ dx
    exact hz
   show x.n≤(bO z now).1.n
   unfold bO;split
   ·rw[Be];omega
   show x.n≤z.n;omega
  split
  ·exact fin _ (RN hr dx) (by show x.n≤(dW y known).1.n;omega)
  exact fin _ hr (by show x.n≤(dW y known).1.n;omega)
 split
 ·exact fin _ (RN hy dx) (by show x.n≤y.n;omega)
 exact fin _ hy (by show x.n≤y.n;omega)
theorem RInv.big {l:Lg}{k:Nat}{x:Rv}(hmay:d9 l=true)(h:RInv l k x)(hk:k≤1000):x.big:=by
 obtain⟨m1,m2,m3,m4,m5,m6⟩:=lZ hmay;rw[←h.hl] at m1 m2 m3 m4 m5 m6;have hb:=h.fr;have:=h.he;have:=h.no;have:=h.ha;have:=h.ba;have:=h.bo;have:=h.n0;have:=h.fl;exact⟨⟨⟨by omega,fun f hf=>by have:=m3 f hf;omega⟩,⟨by omega,fun f hf=>by have:=hb f hf;omega⟩,by omega,by omega,by omega,by omega,by omega⟩,
  fun f hf=>by have:=m3 f hf;exact⟨by omega,by omega,by omega⟩,fun f hf=>by have:=hb f hf;exact⟨by omega,by omega,by omega⟩,m1,⟨by omega,by omega⟩,h.su.1,⟨by omega,by omega⟩,by omega,
  fun n=>Nat.le_trans (jr _ m6 n) (by decide),fun n=>Nat.le_trans (jr _ m6 n) (by decide)⟩
theorem aeD {l:Lg}{au now:Int}(dx:gF now)(h:(pu l au now).2.2=0):d9 l=true∧RInv l 0 (pu l au now).1:=by
 unfold pu at h ⊢;split
 ·rename_i hc;rw[if_pos hc] at h;exact absurd h (by show ¬(1:Int)=0;decide)
 rename_i hc;have hmay:d9 l=true:=by
  cases hm:d9 l with
  |true=>rfl
  |false=>rw[hm] at hc;exact absurd hc (by simp)
 obtain⟨m1,m2,m3,m4,m5,m6⟩:=lZ hmay;exact⟨hmay,⟨rfl,(by show (0:Int)≤0∧(0:Int)≤8;decide),Nat.zero_le _,m2,fun f hf=>by have:=m3 f hf;exact⟨by omega,by omega,by omega⟩,⟨dx,dx⟩⟩,.inl rfl,(by show (0:Int)≤0∧(0:Int)≤9;decide),fun _=>rfl,fun e=>(by
  rcases e with e|e
  ·exact absurd e (by show ¬(1:Int)=2;decide)
  exact absurd e (by show ¬(1:Int)=3;decide)),Nat.zero_le _,Nat.zero_le _,Nat.zero_le _,Nat.zero_le _⟩
theorem BB {s s':AS}(ids:List Nat)(h:match Je s.hp ids with|some fs=>abv ⟨(s.app fs).tm,(s.app fs).nx,PU (s.app fs).hp (s.app fs).hp⟩ s'|none=>False)(c:Ctx)(R:Real)(a:Act)(w:World)(g:bG c R s a w):∃R',bG c R' s' a w:=by
 split at h;rotate_left;cases h
 rename_i fs hfs;obtain⟨g1,_⟩:=ku g (fun _ _ h=>h) _ _ hfs;obtain⟨g2,_⟩:=IK g1;exact aH h c R a w g2
structure Lk where
 ask:Bool
 to:Int
 q:Rq
 r:Rs
deriving DecidableEq,Inhabited
structure Fk where
 x:Pl
 au:Int
 sure:Int
deriving DecidableEq,Inhabited
structure Sk where
 x:Lg
 w:Wr
 r:Rv
 au:Int
 first:Int
 ask:Fr
 taken:Bool
 now:Int
 eG:List Lk
 has:List Hp
 told:List Hp
 aQ:List Fk
 bT:List (List UInt8)
def jJ (s:Sk)(to:Int)(l:List Rq):Sk:={ s with eG:=s.eG++(l.take (90-s.eG.length)).map fun q=>⟨true,to,q,rs0⟩ }
def iN (l:List Fk)(p:Pl):List Fk:=if l.any (fun f=>f.x==p) then l else l++[⟨p,0,0⟩]
def jN (l:List Fk)(p:Pl):Nat:=(iN l p).findIdx fun f=>f.x==p
def iL (l:List Fk)(p:Pl):Fk:=(iN l p)[jN l p]!
def nA (l:List Hp)(p:Pl)(n:Int):Option Hp:=(l.filter fun h=>h.x==p&&h.n==n).getLast?
def eB (s:Sk)(q:Rq)(nP:Bool):Sk×Rs:=
 let fs:=iN s.aQ q.to
 let i:=jN s.aQ q.to
 let f:=iL s.aQ q.to
 let h:=nA s.has q.to q.n
 if q.kind=1 then
  if q.au<f.au then ({ s with aQ:=fs },{ Bh q with code:=1 })
  else ({ s with has:=if h.isNone then s.has++[⟨q.to,q.n,q.body⟩] else s.has,aQ:=fs.set i { f with sure:=max f.sure q.sure },told:=if nP then s.told++[⟨q.to,q.n,q.body⟩] else s.told },Bh q)
 else if q.kind=2 then ({ s with aQ:=fs.set i { f with au:=max f.au q.au } },{ Bh q with sure:=f.sure })
 else if q.kind=3 then ({ s with aQ:=fs },match h with
  |some e=>{ Bh q with sure:=f.sure,body:=e.body }
  |none=>{ Bh q with sure:=f.sure,code:=3 })
 else ({ s with aQ:=fs },Bh q)
def kN (s:Sk)(to:Int)(r:Rs):Sk:=
 if to=0 then { s with w:=iT s.w r }
 else if to=s.au∧s.au>s.first then jJ { s with r:=(bX s.r s.now r).1 } to (bX s.r s.now r).2
 else s
def pE (s:Sk)(x:Lk):Sk:=
 if x.ask=false then kN s x.to x.r
 else
  let y:=eB s x.q (x.to==0)
  if (y.1.eG.length:Int)<90 then { y.1 with eG:=y.1.eG++[⟨false,x.to,rq0,y.2⟩] } else y.1
def zM (s:Sk):Sk:=
 let y:=pu s.x (s.au+1) s.now
 if y.2.2=0 then jJ { s with au:=s.au+1,r:=y.1 } (s.au+1) y.2.1 else s
def nV (s:Sk)(e:Int)(known:List Pl):Sk:=
 let y:=gL s.w e known
 if y.2.2=false then { s with w:=y.1 }
 else if s.au=s.first∧dA s.x.w (dX s.x.af y.2.1)=true then { s with w:=y.1,ask:=y.2.1,taken:=true,x:={ s.x with af:=dX s.x.af y.2.1 } }
 else { s with w:=y.1,ask:=y.2.1,taken:=false }
def Fb (s:Sk)(b:List UInt8):Sk:=
 let y:=gP s.w s.now b
 if y.2.2=0 then jJ { s with w:=y.1,bT:=s.bT++[b] } 0 y.2.1 else s
def Ir (s:Sk)(now:Int):Sk:=jJ { s with now:=now,w:=(jv s.w now).1 } 0 (jv s.w now).2
def Fe (s:Sk):Sk:=
 if s.ask.first>0 then jJ { s with w:=(dK s.w s.now s.taken).1,ask:=kQ } 0 (dK s.w s.now s.taken).2 else s
def x9 (s:Sk)(now:Int)(known:List Pl):Sk:=
 if s.au>s.first then jJ { s with now:=now,r:=(dO s.r now known).1 } s.au (dO s.r now known).2 else { s with now:=now }
def tu (s:Sk)(k:Nat):Sk:={ s with eG:=s.eG.take k++s.eG.drop (k+1) }
def abT (s:Sk)(l:List Hp)(n:Int):Bool:=l.all fun h=>!(h.n==n)||(decide (1≤n)&&(decide (n≤(s.bT.length:Int))&&(h.body==s.bT[(n-1).toNat]!)))
def Ui (s:Sk)(n:Int):Bool:=bI (setOf s.x.af s.x.w n) s.x.a (bB s.told n)
def Me (s:Sk)(n:Nat):Bool:=(List.range n).all fun i=>Ui s (i+1)
def X6 (s:Sk):Bool:=
 if s.au=s.first∨s.r.phase≠4 then true
 else !(decide (s.r.n-1>(s.bT.length:Int))||(decide (s.r.n-1<s.w.sure) || !dA s.x.w s.r.af)) &&
  (List.range 8).all fun i=>abT s s.told (i+1)&&(abT s s.has (i+1)&&(!(decide ((i:Int)+1>s.r.n-1)&&Me s (i+1))&&(!decide ((i:Int)+1≤s.r.n-1)||bI (setOf s.r.af s.x.w (i+1)) s.x.a (bB s.has (i+1)))))
theorem X7 (w:Wr)(r:Rs):(iT w r).l=w.l∧(iT w r).au=w.au:=by
 unfold iT;split
 ·exact⟨rfl,rfl⟩
 split
 ·split
  ·exact⟨rfl,rfl⟩
  split
  ·exact⟨rfl,rfl⟩
  exact⟨rfl,rfl⟩
 split
 ·split
  ·exact⟨rfl,rfl⟩
  exact⟨rfl,rfl⟩
 split
 ·exact⟨rfl,rfl⟩
 split
 ·exact⟨rfl,rfl⟩
 exact⟨rfl,rfl⟩
theorem RO (x:Wt):∀(l:List Pl) (w:Wr),(l.foldl (fun w y=>if gY x.from_ y then w else vB w fun z=>z==y) w).au=w.au
 |[],w=>rfl
 | y::l,w=>by
   rw[List.foldl_cons,RO x l];split
   ·rfl
   rfl
theorem Ff {w:Wr}{x:Wt}{q:Rq}(h:q∈kJ w x):q.kind=1∧q.au=w.au∧q.sure=w.sure:=by
 obtain⟨p,hp,rfl⟩:=List.mem_map.1 h;exact⟨rfl,rfl,rfl⟩
theorem RP (now:Int):∀(l:List Nat) (st:Wr×List Rq),(∀i∈l,i<st.1.waits.length)→(l.foldl (mq now) st).1.au=st.1.au∧∀q∈(l.foldl (mq now) st).2,q∈st.2∨(q.kind=1∧q.au=st.1.au∧q.sure=st.1.sure)
 |[],st,_=>⟨rfl,fun q hq=>.inl hq⟩
 | i::l,st,hi=>by
   have hs:=(Bj now [i] st (fun j hj=>hi j (by simp at hj;simp[hj]))).1;simp only[List.foldl_cons,List.foldl_nil] at hs;have hw:∀w,w=(if pF now st.1.waits[i]!.born 9 then CG st.1 st.1.waits[i]! else st.1)→w.au=st.1.au∧w.sure=st.1.sure:=by
    rintro w rfl
    split
    ·exact⟨RO _ _ _,(Iu _ _).su⟩
    exact⟨rfl,rfl⟩
   have h1:(mq now st i).1.au=st.1.au∧(mq now st i).1.sure=st.1.sure∧∀q∈(mq now st i).2,q∈st.2∨(q.kind=1∧q.au=st.1.au∧q.sure=st.1.sure):=by
    unfold mq;simp only;generalize hw2:(if pF now st.1.waits[i]!.born 9 then CG st.1 st.1.waits[i]! else st.1)=w;obtain⟨e1,e2⟩:=hw w hw2.symm;split
    ·refine⟨e1,e2,fun q hq=>?_⟩;rcases List.mem_append.1 hq with hq|hq
     ·exact .inl hq
     obtain⟨k1,k2,k3⟩:=Ff hq;exact .inr ⟨k1,by rw[k2,e1],by rw[k3,e2]⟩
    exact⟨e1,e2,fun q hq=>.inl hq⟩
   rw[List.foldl_cons];have hl:(mq now st i).1.waits.length=st.1.waits.length:=by simpa using congrArg List.length hs.wt
   obtain⟨a,b⟩:=RP now l (mq now st i) fun j hj=>by rw[hl];exact hi j (by simp[hj])
   refine⟨a.trans h1.1,fun q hq=>?_⟩;rcases b q hq with hq|⟨k1,k2,k3⟩
   ·exact h1.2.2 q hq
   exact .inr ⟨k1,k2.trans h1.1,k3.trans h1.2.1⟩
theorem X8 (w:Wr)(now:Int):jw w (jv w now).1∧(jv w now).1.au=w.au∧∀q∈(jv w now).2,(q.kind=1∧q.au=w.au∧q.sure=w.sure)∧∃x∈w.waits,q.n=x.n∧q.body=x.body:=by
 unfold jv;split
 ·exact⟨jw.refl _,rfl,fun q hq=>by cases hq⟩
 obtain⟨a,b⟩:=Bj now (List.range w.waits.length) (w,[]) fun i hi=>List.mem_range.1 hi
 obtain⟨c,d⟩:=RP now (List.range w.waits.length) (w,[]) fun i hi=>List.mem_range.1 hi
 refine⟨a,c,fun q hq=>⟨?_,?_⟩⟩
 ·rcases d q hq with hq|hq
  ·cases hq
  exact hq
 rcases b q hq with hq|hq
 ·cases hq
 exact hq
theorem Mf {set f g:List Pl}(h:∀p,p∈f→p∉g):∀k,nL set f k+nL set g k≤k
 |0=>Nat.le_refl _
 | k+1=>by
   have ih:=Mf (set:=set) h k;simp only[nL];split
   ·rename_i hk;by_cases h1:(f.any (· == set[k]) && !(set.take k).any (· == set[k]))=true
    ·have h2:¬(g.any (· == set[k]) && !(set.take k).any (· == set[k]))=true:=by
      simp only[Bool.and_eq_true,List.any_eq_true,beq_iff_eq] at h1 ⊢;obtain⟨⟨x,hx,e⟩,h3⟩:=h1;rintro⟨⟨y,hy,e2⟩,_⟩
      subst e;subst e2;exact h _ hx hy
     rw[if_pos h1,if_neg h2];omega
    rw[if_neg h1];split<;>omega
   omega
theorem Px (l:List Fr)(w n:Int):(setOf l w n).length≤w.toNat:=by
 unfold setOf;split
 ·simp
 split
 ·simp[fF]
 simp
theorem X9 {l:List Fr}{w a n:Int}{f g:List Pl}(ha:1≤a∧a≤w)(hd:∀p,p∈f→p∉g)(hm:fG (setOf l w n) w a f=true):bI (setOf l w n) a g=false:=by
 cases h:bI (setOf l w n) a g with
 |false=>rfl
 | true=>
   exfalso;simp only[fG,bI,Bool.or_eq_true,Bool.and_eq_true,decide_eq_true_eq] at hm h;have h1:=Mf (set:=setOf l w n) hd (setOf l w n).length;have h2:=Px l w n;unfold JP at hm h;omega
theorem JU {set f:List Pl}:∀k,0<nL set f k→∃p,p∈f
 |0,h=>by simp[nL] at h
 | k+1,h=>by
   simp only[nL] at h;split at h
   ·rename_i hk;by_cases h1:(f.any (· == set[k]) && !(set.take k).any (· == set[k]))=true
    ·simp only[Bool.and_eq_true,List.any_eq_true] at h1;obtain⟨⟨x,hx,_⟩,_⟩:=h1;exact⟨x,hx⟩
    rw[if_neg h1] at h;exact JU k (by omega)
   exact JU k (by omega)
theorem Py {set f:List Pl}{a:Int}(h:bI set a f=true):∃p,p∈f:=by
 simp only[bI,Bool.and_eq_true,decide_eq_true_eq] at h;refine JU (set:=set) set.length ?_;unfold JP at h;omega
theorem mem_places {l:List Hp}{p:Pl}{n:Int}:p∈bB l n↔∃h∈l,h.n=n∧h.x=p:=by
 unfold bB;simp only[List.mem_map,List.mem_filter,beq_iff_eq];constructor
 ·rintro⟨h,⟨a,b⟩,c⟩;exact⟨h,a,b,c⟩
 rintro⟨h,a,b,c⟩;exact⟨h,⟨a,b⟩,c⟩
theorem Pz {l:List Hp}{p:Pl}{n:Int}(h:nA l p n=none):p∉bB l n:=by
 unfold nA at h;rw[List.getLast?_eq_none_iff,List.filter_eq_nil_iff] at h;rw[mem_places];rintro⟨e,he,e1,e2⟩
 exact h e he (by simp[e1,e2])
theorem yc {l:List Hp}{p:Pl}{n:Int}{e:Hp}(h:nA l p n=some e):e∈l∧e.x=p∧e.n=n:=by
 unfold nA at h;have:=List.mem_filter.1 (List.mem_of_getLast? h);simp only[Bool.and_eq_true,beq_iff_eq] at this;exact⟨this.1,this.2.1,this.2.2⟩
def l5 (l:List Fk)(p:Pl):Int:=((l.find? fun f=>f.x==p).map (·.au)).getD 0
theorem Mg {a:List Fk}{f:Fk}{b:List Fk}{p:Pl}(ha:∀y∈a,y.x≠p)(hf:f.x=p):(a++f::b).find? (fun f=>f.x==p)=some f:=by
 rw[List.find?_append,List.find?_eq_none.2 (fun y hy=>by simp[ha y hy])];simp[hf]
theorem pG (l:List Fk)(p:Pl):∃a f b,iN l p=a++f::b∧(∀y∈a,y.x≠p)∧f.x=p∧jN l p=a.length∧iL l p=f∧(f∈l∨(f=⟨p,0,0⟩∧l5 l p=0)):=by
 have key:∀m:List Fk,(∃f∈m,f.x=p)→∃a f b,m=a++f::b∧(∀y∈a,y.x≠p)∧f.x=p:=by
  intro m;induction m with
  |nil=>rintro⟨f,hf,_⟩;cases hf
  | cons g m ih=>
    rintro⟨f,hf,e⟩
    by_cases h:g.x=p
    ·exact⟨[],g,m,rfl,fun y hy=>(by cases hy),h⟩
    have:∃f∈m,f.x=p:=by
     rcases List.mem_cons.1 hf with rfl|hf
     ·exact absurd e h
     exact⟨f,hf,e⟩
    obtain⟨a,f',b,e1,e2,e3⟩:=ih this;exact⟨g::a,f',b,by rw[e1];rfl,fun y hy=>by
     rcases List.mem_cons.1 hy with rfl|hy
     ·exact h
     exact e2 y hy,e3⟩
 have hex:∃f∈iN l p,f.x=p:=by
  unfold iN;split
  ·rename_i h;obtain⟨f,hf,e⟩:=List.any_eq_true.1 h;exact⟨f,hf,by simpa using e⟩
  exact⟨⟨p,0,0⟩,by simp,rfl⟩
 obtain⟨a,f,b,e1,e2,e3⟩:=key _ hex;have hix:jN l p=a.length:=by
  unfold jN;rw[e1,List.findIdx_append,List.findIdx_eq_length.2 (fun y hy=>by simp[e2 y hy])];simp[List.findIdx_cons,e3]
 refine⟨a,f,b,e1,e2,e3,hix,?_,?_⟩
 ·unfold iL;rw[hix,e1,getElem!_pos _ _ (by simp)];simp
 have hm:f∈iN l p:=by rw[e1];simp
 unfold iN at hm;split at hm
 ·exact .inl hm
 rename_i h;rcases List.mem_append.1 hm with hm|hm
 ·exact .inl hm
 rw[List.mem_singleton] at hm;refine .inr ⟨hm,?_⟩;unfold l5;rw[List.find?_eq_none.2 (fun y hy=>by
  intro hy2;exact h (List.any_eq_true.2 ⟨y,hy,hy2⟩))]
 rfl
theorem Bl (l:List Fk)(p q:Pl):l5 (iN l p) q=l5 l q:=by
 unfold iN;split
 ·rfl
 unfold l5;rw[List.find?_append];cases h:l.find? (fun f=>f.x==q) with
 |some f=>rfl
 | none=>
   simp only[Option.none_or,List.find?_cons,List.find?_nil];cases (p==q) with
   |true=>rfl
   |false=>rfl
theorem JV (l:List Fk)(p:Pl):(iL l p).au=l5 l p:=by
 obtain⟨a,f,b,e1,e2,e3,e4,e5,e6⟩:=pG l p;rw[e5,←Bl l p p];unfold l5;rw[e1,Mg e2 e3];rfl
theorem Fg (l:List Fk)(p:Pl)(g:Fk)(hg:g.x=p)(q:Pl):l5 ((iN l p).set (jN l p) g) q=if q=p then g.au else l5 l q:=by
 obtain⟨a,f,b,e1,e2,e3,e4,e5,e6⟩:=pG l p;have hs:(iN l p).set (jN l p) g=a++g::b:=by
  rw[e4,e1,List.set_append_right _ _ (Nat.le_refl _)];simp
 rw[hs];split
 ·rename_i h;subst h;unfold l5;rw[Mg e2 hg];rfl
 rename_i h;rw[←Bl l p q,e1];unfold l5;rw[List.find?_append,List.find?_append];have h1:(g.x==q)=false:=by rw[hg,beq_eq_false_iff_ne];exact fun e=>h e.symm
 have h2:(f.x==q)=false:=by rw[e3,beq_eq_false_iff_ne];exact fun e=>h e.symm
 simp only[List.find?_cons,h1,h2]
theorem RQ {l:List Fk}{i:Nat}{g f:Fk}(h:f∈l.set i g):f∈l∨f=g:=List.mem_or_eq_of_mem_set h
theorem Mh {l:List Fk}{p:Pl}{f:Fk}(h:f∈iN l p):f∈l∨f=⟨p,0,0⟩:=by
 unfold iN at h;split at h
 ·exact .inl h
 rcases List.mem_append.1 h with h|h
 ·exact .inl h
 exact .inr (List.mem_singleton.1 h)
theorem JW (l:List Fk)(p:Pl):(iL l p).x=p:=by
 obtain⟨a,f,b,e1,e2,e3,e4,e5,e6⟩:=pG l p;rw[e5];exact e3
theorem PD {l:List Fk}{p:Pl}{k:Int}(h:∀f∈l,f.sure≤k)(h0:0≤k):(iL l p).sure≤k:=by
 obtain⟨a,f,b,e1,e2,e3,e4,e5,e6⟩:=pG l p;rw[e5];rcases e6 with e6|e6
 ·exact h f e6
 rw[e6.1];exact h0
def Fh (l:List Lk):List Lt:=(l.filter fun m=>m.to==0).map fun m=>⟨m.ask,m.q,m.r⟩
def rE (s:Sk):Sg:=⟨s.w,s.x.af,s.ask,if s.taken then 1 else 2,s.now,Fh s.eG,s.told,s.bT⟩
structure rF (s:Sk)(to:Int)(q:Rq):Prop where
 su:q.sure≤s.w.sure
 bo:q.kind=1→jd s.bT q.n q.body
 w0:to=0→q.au=s.first∧q.kind=1
 ep:to≠0→q.au=to
 fe:q.kind=3→to≤l5 s.aQ q.to
structure Gz (s:Sk)(to:Int)(r:Rs):Prop where
 su:r.sure≤s.w.sure
 w0:to=0→r.kind=1
 f2:r.kind=2→r.code=0→r.au≤l5 s.aQ r.from_
 no:r.kind=3→r.code=3→s.first<r.au∧r.au≤l5 s.aQ r.from_∧r.from_∉bB s.told r.n
 ok:r.kind=3→r.code=0→r.from_∈bB s.has r.n∧jd s.bT r.n r.body
 ad:r.kind=1→r.code=0→r.from_∈bB s.has r.n
structure abU (s:Sk)(m:Lk):Prop where
 rng:m.to=0∨(s.first<m.to∧m.to≤s.au)
 q:m.ask=true→rF s m.to m.q
 r:m.ask=false→Gz s m.to m.r
structure nC (s:Sk):Prop where
 l:s.r.l=s.x
 may:d9 s.x=true
 ep:s.r.au=s.au
 su:0≤s.r.sure∧s.r.sure≤s.w.sure
 he:∀p∈s.r.heard,s.au≤l5 s.aQ p
 no:∀p∈s.r.none,s.au≤l5 s.aQ p∧p∉bB s.told s.r.n
 ph:s.r.phase=1∨s.r.phase=2∨s.r.phase=3∨s.r.phase=4
 p1:s.r.phase=1→s.r.af=s.x.af
 n1:s.r.phase≠1→1≤s.r.n∧s.r.n≤9
 n2:s.r.phase=2∨s.r.phase=3→s.r.n≤8∧(bH s.r.af).first≤s.r.n
 hs:s.r.phase=3→(∀p∈s.r.has,p∈bB s.has s.r.n)∧jd s.bT s.r.n s.r.body
 gd:s.r.phase≠1→∀n,1≤n→n<s.r.n→bI (setOf s.r.af s.x.w n) s.x.a (bB s.has n)=true
 fr:dA s.x.w s.r.af=true
 en:s.r.phase=4→s.r.n≤8→fG (setOf s.x.af s.x.w s.r.n) s.x.w s.x.a s.r.none=true
structure fK (s:Sk):Prop where
 S:mO (rE s)
 wl:s.w.l.w=s.x.w∧s.w.l.a=s.x.a∧s.w.au=s.first
 f0:0≤s.first
 ln:s.bT.length≤8
 ep:s.first≤s.au
 hb:∀h∈s.has,jd s.bT h.n h.body
 ht:∀p n,p∈bB s.told n→p∈bB s.has n
 fs:∀f∈s.aQ,f.sure≤s.w.sure
 lt:∀m∈s.eG,abU s m
 lp:(bH s.x.af).first≤s.w.sure+1
 rv:s.first<s.au→nC s
structure Bn (s t:Sk):Prop where
 fi:t.first=s.first
 ep:s.au≤t.au
 su:s.w.sure≤t.w.sure
 fe:∀p,l5 s.aQ p≤l5 t.aQ p
 ha:∀p n,p∈bB s.has n→p∈bB t.has n
 to:∀p n,s.first<l5 s.aQ p→p∈bB t.told n→p∈bB s.told n
 se:∀n b,jd s.bT n b→jd t.bT n b
theorem Bn.rfl' {s t:Sk}(h1:t.first=s.first)(h2:t.au=s.au)(h3:s.w.sure≤t.w.sure)(h4:t.aQ=s.aQ)(h5:t.has=s.has)(h6:t.told=s.told)(h7:t.bT=s.bT):Bn s t:=
 ⟨h1,by omega,h3,fun p=>by rw[h4];exact Int.le_refl _,fun p n h=>by rw[h5];exact h,fun p n _ h=>by rw[←h6];exact h,fun n b h=>by rw[h7];exact h⟩
theorem DU {s t:Sk}(u:Bn s t){to:Int}{q:Rq}(h:rF s to q):rF t to q:=
 ⟨Int.le_trans h.su u.su,fun e=>u.se _ _ (h.bo e),fun e=>by rw[u.fi];exact h.w0 e,h.ep,fun e=>Int.le_trans (h.fe e) (u.fe _)⟩
theorem wF {s t:Sk}(u:Bn s t){to:Int}{r:Rs}(h:Gz s to r):Gz t to r:=by
 refine⟨Int.le_trans h.su u.su,h.w0,fun e c=>Int.le_trans (h.f2 e c) (u.fe _),fun e c=>?_,fun e c=>?_,fun e c=>u.ha _ _ (h.ad e c)⟩
 ·obtain⟨a,b,d⟩:=h.no e c;exact⟨by rw[u.fi];exact a,Int.le_trans b (u.fe _),fun hp=>d (u.to _ _ (by omega) hp)⟩
 obtain⟨a,b⟩:=h.ok e c;exact⟨u.ha _ _ a,u.se _ _ b⟩
theorem l7 {s t:Sk}(u:Bn s t){m:Lk}(h:abU s m):abU t m:=by
 refine⟨?_,fun e=>DU u (h.q e),fun e=>wF u (h.r e)⟩;rcases h.rng with e|⟨a,b⟩
 ·exact .inl e
 exact .inr ⟨by rw[u.fi];exact a,Int.le_trans b u.ep⟩
theorem Ya {set:List Pl}{a:Int}{f g:List Pl}(h:∀p,p∈f→p∈g)(k:bI set a f=true):bI set a g=true:=pI h k
theorem tC {s t:Sk}(u:Bn s t)(e1:t.r=s.r)(e2:t.x=s.x)(e3:t.au=s.au)(hlt:s.first<s.au)(h:nC s):nC t:=by
 refine⟨by rw[e1,e2];exact h.l,by rw[e2];exact h.may,by rw[e1,e3];exact h.ep,by rw[e1];exact⟨h.su.1,Int.le_trans h.su.2 u.su⟩,fun p hp=>?_,fun p hp=>?_,by rw[e1];exact h.ph,by rw[e1,e2];exact h.p1,by rw[e1];exact h.n1,by rw[e1];exact h.n2,fun hp=>?_,fun hp n h1 h2=>?_,by rw[e1,e2];exact h.fr,by rw[e1,e2];exact h.en⟩
 ·rw[e1] at hp;rw[e3];exact Int.le_trans (h.he p hp) (u.fe _)
 ·rw[e1] at hp ⊢;rw[e3];obtain⟨a,b⟩:=h.no p hp;exact⟨Int.le_trans a (u.fe _),fun hq=>b (u.to _ _ (by omega) hq)⟩
 ·rw[e1] at hp ⊢;obtain⟨a,b⟩:=h.hs hp;exact⟨fun p hp=>u.ha _ _ (a p hp),u.se _ _ b⟩
 rw[e1] at hp h2 ⊢;rw[e2];exact Ya (fun p hp=>u.ha _ _ hp) (h.gd hp n h1 h2)
theorem oz {l:List Lk}{m:Lt}(h:m∈Fh l):∃y∈l,y.to=0∧m=⟨y.ask,y.q,y.r⟩:=by
 obtain⟨y,hy,rfl⟩:=List.mem_map.1 h;have:=List.mem_filter.1 hy;exact⟨y,this.1,by simpa using this.2,rfl⟩
theorem vC {s:Sg}(h:mO s){b:List Lt}(h1:∀m∈b,m.ask=true→jd s.bT m.q.n m.q.body)(h2:∀m∈b,m.ask=false→m.r.code=0→m.r.from_∈bB s.had m.r.n):mO { s with eG:=b }:=
 ⟨h.wk,h.nx,h.hd,h1,h2,h.ask,h.Uj,h.pl,h.good⟩
theorem wG (s:Sk)(h:fK s):0≤s.w.sure∧s.w.sure≤(s.bT.length:Int):=Yb h.S
theorem mP {s:Sk}(h:fK s){to:Int}{l:List Rq}(hr:to=0∨(s.first<to∧to≤s.au))(hl:∀q∈l,rF s to q):fK (jJ s to l):=by
 have hm:∀m∈(jJ s to l).eG,m∈s.eG∨(m.ask=true∧m.to=to∧m.q∈l):=by
  intro m hm;rcases List.mem_append.1 hm with hm|hm
  ·exact .inl hm
  obtain⟨q,hq,rfl⟩:=List.mem_map.1 hm;exact .inr ⟨rfl,rfl,List.mem_of_mem_take hq⟩
 have u:Bn s (jJ s to l):=Bn.rfl' rfl rfl (Int.le_refl _) rfl rfl rfl rfl;refine⟨?_,h.wl,h.f0,h.ln,h.ep,h.hb,h.ht,h.fs,fun m hm'=>?_,h.lp,fun hlt=>tC u rfl rfl rfl hlt (h.rv hlt)⟩
 ·refine vC h.S (b:=Fh (jJ s to l).eG) (fun m hm' ha=>?_) (fun m hm' ha hc=>?_)
  ·obtain⟨y,hy,h0,rfl⟩:=oz hm';rcases hm y hy with hy|⟨e1,e2,e3⟩
   ·have:=h.S.bq ⟨y.ask,y.q,y.r⟩ (List.mem_map.2 ⟨y,List.mem_filter.2 ⟨hy,by simp[h0]⟩,rfl⟩) ha;exact this
   have hq:=hl _ e3;exact hq.bo (hq.w0 (by rw[←e2];exact h0)).2
  obtain⟨y,hy,h0,rfl⟩:=oz hm';rcases hm y hy with hy|⟨e1,e2,e3⟩
  ·exact h.S.br ⟨y.ask,y.q,y.r⟩ (List.mem_map.2 ⟨y,List.mem_filter.2 ⟨hy,by simp[h0]⟩,rfl⟩) ha hc
  rw[e1] at ha;cases ha
 rcases hm m hm' with hm'|⟨e1,e2,e3⟩
 ·exact l7 u (h.lt m hm')
 refine⟨by rw[e2];exact hr,fun _=>?_,fun e=>by rw[e1] at e;cases e⟩;rw[e2];exact DU u (hl _ e3)
theorem Yc {s:Sk}(h:fK s){b:List Lk}(hb:∀m∈b,m∈s.eG):fK { s with eG:=b }:=by
 have u:Bn s { s with eG:=b }:=Bn.rfl' rfl rfl (Int.le_refl _) rfl rfl rfl rfl;refine⟨?_,h.wl,h.f0,h.ln,h.ep,h.hb,h.ht,h.fs,fun m hm'=>l7 u (h.lt m (hb m hm')),h.lp,fun hlt=>tC u rfl rfl rfl hlt (h.rv hlt)⟩;refine vC h.S (b:=Fh b) (fun m hm' ha=>?_) (fun m hm' ha hc=>?_)
 ·obtain⟨y,hy,h0,rfl⟩:=oz hm';exact h.S.bq ⟨y.ask,y.q,y.r⟩ (List.mem_map.2 ⟨y,List.mem_filter.2 ⟨hb y hy,by simp[h0]⟩,rfl⟩) ha
 obtain⟨y,hy,h0,rfl⟩:=oz hm';exact h.S.br ⟨y.ask,y.q,y.r⟩ (List.mem_map.2 ⟨y,List.mem_filter.2 ⟨hb y hy,by simp[h0]⟩,rfl⟩) ha hc
theorem Uk {s:Sk}(h:fK s)(k:Nat):fK (tu s k):=
 Yc h fun m hm=>by
  rcases List.mem_append.1 hm with hm|hm
  ·exact List.mem_of_mem_take hm
  exact List.mem_of_mem_drop hm
theorem Ul {s:Sk}(h:fK s){to:Int}{r:Rs}(hr:to=0∨(s.first<to∧to≤s.au))(ho:Gz s to r)(hw:to=0→r.code=0→r.from_∈bB s.told r.n):fK { s with eG:=s.eG++[⟨false,to,rq0,r⟩] }:=by
 have u:Bn s { s with eG:=s.eG++[⟨false,to,rq0,r⟩] }:=Bn.rfl' rfl rfl (Int.le_refl _) rfl rfl rfl rfl;refine⟨?_,h.wl,h.f0,h.ln,h.ep,h.hb,h.ht,h.fs,fun m hm'=>?_,h.lp,fun hlt=>tC u rfl rfl rfl hlt (h.rv hlt)⟩
 ·refine vC h.S (b:=Fh (s.eG++[⟨false,to,rq0,r⟩])) (fun m hm' ha=>?_) (fun m hm' ha hc=>?_)
  ·obtain⟨y,hy,h0,rfl⟩:=oz hm';rcases List.mem_append.1 hy with hy|hy
   ·exact h.S.bq ⟨y.ask,y.q,y.r⟩ (List.mem_map.2 ⟨y,List.mem_filter.2 ⟨hy,by simp[h0]⟩,rfl⟩) ha
   rw[List.mem_singleton] at hy;subst hy;cases ha
  obtain⟨y,hy,h0,rfl⟩:=oz hm';rcases List.mem_append.1 hy with hy|hy
  ·exact h.S.br ⟨y.ask,y.q,y.r⟩ (List.mem_map.2 ⟨y,List.mem_filter.2 ⟨hy,by simp[h0]⟩,rfl⟩) ha hc
  rw[List.mem_singleton] at hy;subst hy;exact hw h0 hc
 rcases List.mem_append.1 hm' with hm'|hm'
 ·exact l7 u (h.lt m hm')
 rw[List.mem_singleton] at hm';subst hm';exact⟨hr,fun e=>(by cases e),fun _=>wF u ho⟩
end Go.AX
end
section
namespace Go.AX
end Go.AX
end
section
namespace Go.AX
theorem P5 {l:List Fr}{f:Fr}{n:Int}(h:l.getLast? = some f)(hf:f.first≤n):eD l n=some f:=by
 obtain⟨r,hr⟩:=List.getLast?_eq_some_iff.1 h;unfold eD iK;rw[hr,List.foldl_append];simp[hf]
theorem P6 {b:List Pl}(hb:b.Nodup){k W:Nat}(h0:0<b.length)(hW:W≤b.length):(fF b k W).Nodup:=by
 unfold fF;rw[List.nodup_iff_pairwise_ne,List.pairwise_map];rw[List.nodup_iff_pairwise_ne,List.pairwise_iff_getElem] at hb;have:(List.range W).Pairwise (· < ·):=List.pairwise_lt_range;refine List.Pairwise.imp_of_mem (fun {i j} hi hj hij e=>?_) this;rw[List.mem_range] at hi hj;have hi2:=Nat.mod_lt (k+i) h0;have hj2:=Nat.mod_lt (k+j) h0;rw[getElem!_pos b _ hi2,getElem!_pos b _ hj2] at e;have hne:(k+i)%b.length≠(k+j)%b.length:=by
  intro e2;have:=Nat.sub_mod_eq_zero_of_mod_eq e2.symm;rw[show k+j-(k+i)=j-i by omega,Nat.mod_eq_of_lt (by omega)] at this;omega
 rcases Nat.lt_or_gt_of_ne hne with h|h
 ·exact hb _ _ hi2 hj2 h e
 exact hb _ _ hj2 hi2 h e.symm
theorem acj {set f:List Pl}(hnd:set.Nodup)(hall:∀p∈set,p∈f):JP set f=set.length:=by
 have:∀k,k≤set.length→nL set f k=k:=by
  intro k;induction k with
  |zero=>intro _;rfl
  | succ k ih=>
    intro hk;rw[Bd set f k (by omega),ih (by omega),if_pos];rw[Bool.and_eq_true];refine⟨?_,?_⟩
    ·rw[List.any_eq_true];exact⟨set[k],hall _ (List.getElem_mem _),by simp⟩
    rw[Bool.not_eq_true',List.any_eq_false];intro x hx e;obtain⟨i,hi,rfl⟩:=List.getElem_of_mem hx;rw[List.length_take] at hi;rw[List.getElem_take] at e;rw[List.nodup_iff_pairwise_ne,List.pairwise_iff_getElem] at hnd;exact hnd i k (by omega) (by omega) (by omega) (by simpa using e)
 exact this _ (Nat.le_refl _)
theorem C8 {l:List Fr}{w:Int}(h:dA w l=true):∃f,l.getLast? = some f∧bH l=f∧f∈l∧kW w f=true:=by
 simp only[dA,Bool.and_eq_true,dI,decide_eq_true_eq,List.all_eq_true] at h;obtain⟨⟨h1,h2⟩,h3,h4,h5⟩:=h;cases hl:l.getLast? with
 | none=>
   have:l=[]:=by simpa using hl
   rw[this] at h1;simp at h1
 |some f=>exact⟨f,rfl,by simp[bH,hl],List.mem_of_getLast? hl,h4 f (List.mem_of_getLast? hl)⟩
theorem blocked {m:Int}{w:Wr}(h:GoW m w){x:Wt}(hx:w.waits.head? = some x):∃y∈eT w x.n,y∉x.from_∧y∈(bH w.l.af).ah:=by
 obtain⟨f,hf,e,hm,hg⟩:=C8 h.fr;have hxn:x.n=w.sure+1:=by
  cases hw:w.waits with
  |nil=>rw[hw] at hx;cases hx
  | cons y r=>
    have hlt:0<w.waits.length:=by rw[hw];simp
    have:=h.num 0 hlt;have e0:w.waits[0]=x:=by
     rw[hw] at hx;simp only[List.head?_cons,Option.some.injEq] at hx;simp only[hw,List.getElem_cons_zero];exact hx
    rw[e0] at this;omega
 simp only[kW,Bool.and_eq_true,dI,decide_eq_true_eq,List.all_eq_true] at hg;obtain⟨⟨g1,g2⟩,⟨g3,g4⟩,g5,g6⟩:=hg;have hla:=h.last;rw[e] at hla;have h1:=h.a1;have h2:=h.aw;have hfa:eD w.l.af x.n=some f:=P5 hf (by omega);have hset:eT w x.n=fF f.ah ((x.n-f.first)%f.ah.length).toNat w.l.w.toNat:=by
  unfold eT setOf;rw[hfa];simp only;rw[if_pos ⟨by omega,g3⟩]
 have hb:f.ah.Nodup:=by
  rw[List.nodup_iff_pairwise_ne] at g6 ⊢;rw[List.pairwise_map] at g6;exact g6.imp fun h e=>h (by rw[e])
 have hin:∀y∈eT w x.n,y∈(bH w.l.af).ah:=fun y hy=>by
  rw[hset] at hy;unfold fF at hy;obtain⟨i,_,rfl⟩:=List.mem_map.1 hy;rw[e,getElem!_pos f.ah _ (Nat.mod_lt _ (by omega))];exact List.getElem_mem _
 refine Classical.byContradiction fun hno=>?_
 have hall:∀y∈eT w x.n,y∈x.from_:=fun y hy=>Classical.byContradiction fun hn=>hno ⟨y,hy,hn,hin y hy⟩
 have hnd:(eT w x.n).Nodup:=by rw[hset];exact P6 hb (by omega) (by omega)
 have hc:=acj hnd hall;have hlen:(eT w x.n).length=w.l.w.toNat:=by rw[hset];simp[fF]
 have:=h.head x hx;unfold bI at this;rw[hc,hlen,Bool.and_eq_false_iff,decide_eq_false_iff_not,decide_eq_false_iff_not] at this;rcases this with g|g<;>omega
theorem Mr (l:List Fr)(f:Fr):bH (dX l f)=f:=by unfold dX bH;simp
theorem abY {w:Int}{l:List Fr}{f:Fr}(h:dA w l=true)(hf:kW w f=true)(hle:(bH l).first≤f.first)(hlen:(dX l f).length≤6):dA w (dX l f)=true:=by
 obtain⟨g,hg,e,hm,_⟩:=C8 h;obtain⟨r,hr⟩:=List.getLast?_eq_some_iff.1 hg;simp only[dA,Bool.and_eq_true,dI,decide_eq_true_eq,List.all_eq_true] at h ⊢;obtain⟨⟨h1,h2⟩,h3,h4,h5⟩:=h;rw[e] at hle;have hpos:1≤(dX l f).length:=by unfold dX;simp
 refine⟨⟨by omega,by omega⟩,?_⟩;unfold dX;rw[e];split
 ·rename_i he;rw[beq_iff_eq] at he;rw[hr,List.dropLast_concat];rw[hr] at h3 h4 h5;rw[List.pairwise_append] at h5;refine⟨?_,fun x hx=>?_,?_⟩
  ·cases r with
   | nil=>
     simp only[List.nil_append,qE,beq_iff_eq] at h3 ⊢;omega
   |cons a r=>exact h3
  ·rcases List.mem_append.1 hx with hx|hx
   ·exact h4 x (List.mem_append_left _ hx)
   rw[List.mem_singleton] at hx;subst hx;exact hf
  rw[List.pairwise_append];refine⟨h5.1,by simp,fun a ha b hb=>?_⟩;rw[List.mem_singleton] at hb;subst hb;have:=h5.2.2 a ha g (by simp);omega
 rename_i he;rw[beq_iff_eq] at he;refine⟨?_,fun x hx=>?_,?_⟩
 ·rw[hr] at h3 ⊢;cases r with
  |nil=>exact h3
  |cons a r=>exact h3
 ·rcases List.mem_append.1 hx with hx|hx
  ·exact h4 x hx
  rw[List.mem_singleton] at hx;subst hx;exact hf
 rw[List.pairwise_append];refine⟨h5,by simp,fun a ha b hb=>?_⟩;rw[List.mem_singleton] at hb;subst hb;rw[hr] at h5 ha;rw[List.pairwise_append] at h5;rcases List.mem_append.1 ha with ha|ha
 ·have:=h5.2.2 a ha g (by simp);omega
 rw[List.mem_singleton] at ha;subst ha;omega
structure N1 (known f0:List Pl)(l:List Pl):Prop where
 nd:(l.map (·.node)).Nodup
 mem:∀p∈l,p∈known∨p∈f0
theorem RS {known f0:List Pl}{f:Fr}(h:N1 known f0 f.ah){kn:List Pl}(hk:∀p∈kn,p∈known)(old:Pl):N1 known f0 (jc f old kn).1.ah:=by
 cases e:(jc f old kn).2 with
 | false=>
   rw[(RU e).1];exact h
 | true=>
   obtain⟨p,hp,hs⟩:=RV e;obtain⟨k,hkl,e1,e2,e3⟩:=Um hs h.nd;refine⟨e3,fun q hq=>?_⟩;rw[e2] at hq;rcases List.mem_or_eq_of_mem_set hq with hq|hq
   ·exact h.mem q hq
   exact .inl (hq▸hk p hp)
theorem RX {known f0 bad kn:List Pl}(hk:∀p∈kn,p∈known):∀(l:List Pl) (st:Fr×List Pl×Bool),N1 known f0 st.1.ah→N1 known f0 (l.foldl (JR bad kn) st).1.ah
 |[],st,h=>h
 | old::l,st,h=>by
   rw[List.foldl_cons];refine RX hk l _ ?_;unfold JR;split
   ·split
    ·exact RS h hk old
    exact RS h hk old
   exact h
theorem RY {known f0:List Pl}{w:Int}:∀(l:List Pl) (st:List Pl×Bool),N1 known f0 st.1→w≤(st.1.length:Int)→N1 known f0 (l.foldl (NU w) st).1∧w≤((l.foldl (NU w) st).1.length:Int)∧(l.foldl (NU w) st).1.length≤st.1.length
 |[],st,h,hw=>⟨h,hw,Nat.le_refl _⟩
 | old::l,st,h,hw=>by
   rw[List.foldl_cons];have h1:N1 known f0 (NU w st old).1∧w≤((NU w st old).1.length:Int)∧(NU w st old).1.length≤st.1.length:=by
    unfold NU;split
    ·rename_i hc;simp only[Bool.and_eq_true,decide_eq_true_eq] at hc;have hle:=List.length_eraseIdx_le st.1 (uE (· == old) st.1).toNat;have hge:st.1.length-1≤(st.1.eraseIdx (uE (· == old) st.1).toNat).length:=by rw[List.length_eraseIdx];split<;>omega
     exact⟨⟨h.nd.sublist ((List.eraseIdx_sublist _ _).map _),fun p hp=>h.mem p (List.mem_of_mem_eraseIdx hp)⟩,by show w≤((st.1.eraseIdx _).length:Int);omega,hle⟩
    exact⟨h,hw,Nat.le_refl _⟩
   obtain⟨a,b,c⟩:=RY l _ h1.1 h1.2.1;exact⟨a,b,Nat.le_trans c h1.2.2⟩
theorem RZ {known f0:List Pl}{e:Int}:∀(l b:List Pl),N1 known f0 b→(∀y∈l,y∈known)→b.length≤5→N1 known f0 (l.foldl (Ma e) b)∧b.length≤(l.foldl (Ma e) b).length∧(l.foldl (Ma e) b).length≤5
 |[],b,h,_,h5=>⟨h,Nat.le_refl _,h5⟩
 | p::l,b,h,hl,h5=>by
   rw[List.foldl_cons];have h1:N1 known f0 (Ma e b p)∧b.length≤(Ma e b p).length∧(Ma e b p).length≤5:=by
    unfold Ma;by_cases hc:(decide ((b.length:Int)<(if 5<e then 5 else e)) && !(b.any fun y=>y.node==p.node))=true
    ·rw[if_pos hc];simp only[Bool.and_eq_true,decide_eq_true_eq,Bool.not_eq_true',List.any_eq_false,beq_iff_eq] at hc;refine⟨⟨?_,fun q hq=>?_⟩,by rw[List.length_append];omega,?_⟩
     ·rw[List.map_append,List.nodup_append];refine⟨h.nd,by simp,fun x hx y hy=>?_⟩;obtain⟨q,hq,rfl⟩:=List.mem_map.1 hx;simp only[List.map_cons,List.map_nil,List.mem_singleton] at hy;subst hy;exact hc.2 q hq
     ·rcases List.mem_append.1 hq with hq|hq
      ·exact h.mem q hq
      rw[List.mem_singleton] at hq;exact .inl (hq▸hl p (by simp))
     rw[List.length_append,List.length_singleton];have:=hc.1;split at this<;>omega
    rw[if_neg hc];exact⟨h,Nat.le_refl _,h5⟩
   obtain⟨a,b',c⟩:=RZ l _ h1.1 (fun y hy=>hl y (by simp[hy])) h1.2.2;exact⟨a,Nat.le_trans h1.2.1 b',c⟩
theorem PE {f:Fr}{w e:Int}{bad known:List Pl}(hf:(f.ah.map (·.node)).Nodup)(h1:w≤(f.ah.length:Int))(h2:f.ah.length≤5)(hr:(jI f w e bad known).2=true) :
  N1 known f.ah (jI f w e bad known).1.ah∧w≤((jI f w e bad known).1.ah.length:Int)∧(jI f w e bad known).1.ah.length≤5:=by
 have hk:∀p∈fit bad known,p∈known:=fun p hp=>(List.mem_filter.1 hp).1
 have a1:N1 known f.ah (nO f bad (fit bad known)).1.ah:=RX hk _ _ ⟨hf,fun p hp=>.inr hp⟩;have al:=(zH bad (fit bad known) f.ah (f,[],false)).1;change (nO f bad (fit bad known)).1.ah.length=f.ah.length at al
 obtain⟨b1,b2,b3⟩:=RY (w:=w) (nO f bad (fit bad known)).2.1 ((nO f bad (fit bad known)).1.ah,(nO f bad (fit bad known)).2.2) a1 (by show w≤((nO f bad (fit bad known)).1.ah.length:Int);omega);have b3:(Cz w (nO f bad (fit bad known))).1.length≤(nO f bad (fit bad known)).1.ah.length:=b3;obtain⟨c1,c2,c3⟩:=RZ (e:=e) (fit bad known) (Cz w (nO f bad (fit bad known))).1 b1 hk (by omega);unfold jI at hr ⊢;split
 ·refine⟨c1,?_,c3⟩;have b2:w≤((Cz w (nO f bad (fit bad known))).1.length:Int):=b2;show w≤(((fit bad known).foldl (Ma e) (Cz w (nO f bad (fit bad known))).1).length:Int)
  omega
 rename_i hc;rw[if_neg hc] at hr;cases hr
def Bo (known:List Pl):Prop:=∀p∈known,vg p=true
theorem Mj {f:Fr}{w e n:Int}{bad known:List Pl}(hf:kW w f=true)(hk:Bo known)(hn:1≤n∧n≤9)(hr:(jI f w e bad known).2=true):kW w ⟨n,(jI f w e bad known).1.ah⟩=true:=by
 simp only[kW,Bool.and_eq_true,dI,decide_eq_true_eq,List.all_eq_true] at hf ⊢;obtain⟨⟨a1,a2⟩,⟨a3,a4⟩,a5,a6⟩:=hf;obtain⟨b1,b2,b3⟩:=PE a6 a3 (by omega) hr;refine⟨hn,⟨b2,by omega⟩,fun p hp=>?_,b1.nd⟩;rcases b1.mem p hp with hp|hp
 ·exact hk p hp
 exact a5 p hp
theorem PG {q:Fr→Bool}{l:List Fr}{f:Fr}(h:q f=true):iK q (l++[f])=some f:=by
 unfold iK;rw[List.foldl_append];simp[h]
theorem CJ {l:List Fr}(h0:0<l.length){n:Int}(h:(bH l).first≤n):eD l n=some (bH l):=by
 obtain⟨g,hg⟩:∃g,l.getLast? = some g:=by
  cases hl:l.getLast? with
  |none=>rw[List.getLast?_eq_none_iff] at hl;subst hl;simp at h0
  |some g=>exact⟨g,rfl⟩
 obtain⟨r,hr⟩:=List.getLast?_eq_some_iff.1 hg;have e:bH l=g:=by unfold bH;rw[hg];rfl
 rw[e] at h ⊢;rw[hr];unfold eD;exact PG (by simpa using h)
theorem Ml {x:Rv}(h0:0<x.l.af.length):aW x=bH x.l.af:=by
 unfold aW bH;rw[getElem!_pos x.l.af _ (by omega),List.getLast?_eq_getElem?,List.getElem?_eq_getElem (by omega)];rfl
theorem yg {l:List Fr}(h0:0<l.length):bH l∈l:=by
 cases hl:l.getLast? with
 |none=>rw[List.getLast?_eq_none_iff] at hl;subst hl;simp at h0
 | some g=>
   have e:bH l=g:=by unfold bH;rw[hl];rfl
   rw[e];exact List.mem_of_getLast? hl
theorem j3 {w:Int}{l:List Fr}(h:dA w l=true):(0<l.length∧l.length≤6)∧∀f∈l,kW w f=true:=by
 simp only[dA,Bool.and_eq_true,dI,decide_eq_true_eq,List.all_eq_true] at h;exact⟨⟨by omega,by omega⟩,h.2.2.1⟩
theorem rG {l:Lg}(h:d9 l=true):dA l.w l.af=true∧1≤l.a∧l.a≤l.w:=by
 simp only[d9,Bool.and_eq_true,dI,decide_eq_true_eq] at h;exact⟨h.2.2.2.1,h.2.1.1,h.2.1.2⟩
theorem Un {x:Rv}(h0:0<x.af.length)(h:(bH x.af).first≤x.n)(b:List Pl):jq x++[⟨x.n,b⟩]=dX x.af ⟨x.n,b⟩:=by
 unfold jq dX gJ;rw[CJ h0 h];simp only[Option.getD_some];have h1:decide ((x.af.length:Int)>0)=true:=by simp;omega
 simp only[h1,Bool.and_true,List.dropLast_eq_take]
structure RvB (s:Sk)(y:Rv):Prop where
 l:y.l=s.x
 may:d9 s.x=true
 ep:y.au=s.au
 su:0≤y.sure∧y.sure≤s.w.sure
 he:∀p∈y.heard,s.au≤l5 s.aQ p
 fr:dA s.x.w y.af=true
theorem tF {s:Sk}{y:Rv}(h:nC { s with r:=y }):RvB s y:=⟨h.l,h.may,h.ep,h.su,h.he,h.fr⟩
theorem abV {l:List Pl}{p:Pl}(h:l.any (· == p)=true):p∈l:=by
 obtain⟨x,hx,e⟩:=List.any_eq_true.1 h;have:x=p:=by simpa using e
 exact this▸hx
section
variable {s:Sk}(hf:0≤s.first)(hlt:s.first<s.au)
include hf hlt
theorem Yd {y:Rv}(h:RvB s y)(p:Pl):rF s s.au (JQ y p):=
 ⟨(by show (0:Int)≤_;exact Int.le_trans h.su.1 h.su.2),(fun e=>absurd e (by show ¬(2:Int)=1;decide)),(fun e=>by omega),(fun _=>h.ep),(fun e=>absurd e (by show ¬(2:Int)=3;decide))⟩
theorem Mq {y:Rv}(h:RvB s y){p:Pl}(hp:s.au≤l5 s.aQ p):rF s s.au (jH y p):=
 ⟨(by show (0:Int)≤_;exact Int.le_trans h.su.1 h.su.2),(fun e=>absurd e (by show ¬(3:Int)=1;decide)),(fun e=>by omega),(fun _=>h.ep),(fun _=>hp)⟩
theorem abW {y:Rv}(h:RvB s y)(hb:jd s.bT y.n y.body)(p:Pl):rF s s.au (Cv y p):=
 ⟨h.su.2,(fun _=>hb),(fun e=>by omega),(fun _=>h.ep),(fun e=>absurd e (by show ¬(1:Int)=3;decide))⟩
theorem Iw {y:Rv}(h:RvB s y)(l:List Pl):∀q∈jL y l,rF s s.au q:=fun q hq=>by
 obtain⟨p,_,rfl⟩:=List.mem_map.1 hq;exact Yd hf hlt h p
theorem R4 {y:Rv}(h:RvB s y)(l:List Pl):∀q∈gN y l,rF s s.au q:=fun q hq=>by
 obtain⟨p,hp,rfl⟩:=List.mem_map.1 hq;have:=(List.mem_filter.1 hp).2;simp only[Bool.and_eq_true] at this;exact Mq hf hlt h (h.he p (abV this.1))
theorem Bp {y:Rv}(h:RvB s y)(hb:jd s.bT y.n y.body)(l:List Pl):∀q∈bn y l,rF s s.au q:=fun q hq=>by
 obtain⟨p,_,rfl⟩:=List.mem_map.1 hq;exact abW hf hlt h hb p
theorem R6 {y:Rv}(h:RvB s y){n now:Int}(hn:1≤n∧n≤9)(hl:n≤8→(bH y.af).first≤n)(hg:∀k,1≤k→k<n→bI (setOf y.af s.x.w k) s.x.a (bB s.has k)=true) :
  nC { s with r:=(bQ y n now).1 }∧∀q∈(bQ y n now).2,rF s s.au q:=by
 unfold bQ;dsimp only
 split
 ·rename_i hd;simp only[decide_eq_true_eq] at hd;refine⟨⟨h.l,h.may,h.ep,h.su,h.he,(fun p hp=>by cases hp),.inr (.inr (.inr rfl)),(fun e=>absurd e (by show ¬(4:Int)=1;decide)),(fun _=>hn),(fun e=>?_),(fun e=>absurd e (by show ¬(4:Int)=3;decide)),(fun _ k h1 h2=>hg k h1 h2),h.fr,(fun _ e=>?_)⟩,fun q hq=>by cases hq⟩
  ·rcases e with e|e
   ·exact absurd e (by show ¬(4:Int)=2;decide)
   exact absurd e (by show ¬(4:Int)=3;decide)
  have e:n≤8:=e;omega
 rename_i hd;simp only[decide_eq_true_eq] at hd;have h8:n≤8:=by omega
 refine⟨⟨h.l,h.may,h.ep,h.su,h.he,(fun p hp=>by cases hp),.inr (.inl rfl),(fun e=>absurd e (by show ¬(2:Int)=1;decide)),(fun _=>hn),(fun _=>⟨h8,hl h8⟩),(fun e=>absurd e (by show ¬(2:Int)=3;decide)),(fun _ k h1 h2=>hg k h1 h2),h.fr,(fun e=>absurd e (by show ¬(2:Int)=4;decide))⟩,?_⟩;exact R4 hf hlt (y:={ y with n:=n,none:=[],has:=[],body:=[],bad:=[],phase:=2,born:=now,since:=now }) ⟨h.l,h.may,h.ep,h.su,h.he,h.fr⟩ _
theorem Bq {z:Rv}(h:nC { s with r:=z })(p3:z.phase=3)(now:Int) :
  nC { s with r:=(bO z now).1 }∧∀q∈(bO z now).2,rF s s.au q:=by
 unfold bO;split
 ·rename_i ha;have hz:z.l=s.x:=h.l;have hn1:=h.n1 (by show z.phase≠1;rw[p3];decide);have hn2:=h.n2 (.inr p3);have hs:=h.hs p3;change 1≤z.n∧z.n≤9 at hn1
  change z.n≤8∧(bH z.af).first≤z.n at hn2
  refine R6 hf hlt (tF h) ⟨by omega,by omega⟩ (fun _=>by omega) (fun k h1 h2=>?_);by_cases hk:k<z.n
  ·exact h.gd (by show z.phase≠1;rw[p3];decide) k h1 hk
  have:k=z.n:=by omega
  subst this;unfold aj at ha;rw[hz] at ha;exact pI hs.1 ha
 exact⟨h,fun q hq=>by cases hq⟩
theorem Ye {z:Rv}(h:nC { s with r:=z })(p3:z.phase=3)(now:Int){p:Pl}(hp:p∈bB s.has z.n) :
  nC { s with r:=(lY z now p).1 }∧∀q∈(lY z now p).2,rF s s.au q:=by
 unfold lY;split
 ·exact⟨h,fun q hq=>by cases hq⟩
 refine Bq hf hlt (z:={ z with has:=z.has++[p] }) ⟨h.l,h.may,h.ep,h.su,h.he,h.no,h.ph,h.p1,h.n1,h.n2,(fun e=>⟨fun x hx=>?_,(h.hs e).2⟩),h.gd,h.fr,h.en⟩ p3 now;rcases List.mem_append.1 hx with hx|hx
 ·exact (h.hs e).1 x hx
 rw[List.mem_singleton] at hx;subst hx;exact hp
omit hf hlt in
theorem Br {x:Rv}(h:nC { s with r:=x })(b:List Pl)(born since:Int):nC { s with r:={ x with bad:=b,born:=born,since:=since } }:=
 ⟨h.l,h.may,h.ep,h.su,h.he,h.no,h.ph,h.p1,h.n1,h.n2,h.hs,h.gd,h.fr,h.en⟩
end
def JX (y:Rv)(now:Int)(r:Rs):Rv×List Rq:=
 if y.phase==1&&fH (aW y) y.l.w y.l.a y.heard then bQ y (max (y.sure+1) (aW y).first) now
 else if y.phase==2&&(aJ y).any (· == r.from_) then (y,[jH y r.from_])
 else (y,[])
theorem Fj (x:Rv)(now:Int)(r:Rs):gB x now r=if !(aW x).ah.any (· == r.from_)||x.heard.any (· == r.from_) then (x,[]) else JX { x with heard:=x.heard++[r.from_],sure:=min (max x.sure r.sure) 8 } now r:=rfl
section
variable {s:Sk}(H:fK s)(hlt:s.first<s.au)
include H hlt
theorem Uo {r:Rs}(hr:Gz s s.au r)(he:r.au=s.r.au)(hk:r.kind=2)(hc:r.code=0)(now:Int) :
  nC { s with r:=(gB s.r now r).1 }∧∀q∈(gB s.r now r).2,rF s s.au q:=by
 have h:=H.rv hlt;have hfe:s.au≤l5 s.aQ r.from_:=by have:=hr.f2 hk hc;rw[he,h.ep] at this;exact this
 rw[Fj];split
 ·exact⟨h,fun q hq=>by cases hq⟩
 have tq:0≤min (max s.r.sure r.sure) 8∧min (max s.r.sure r.sure) 8≤s.w.sure:=by
  have h1:=h.su;have h2:=hr.su;omega
 obtain⟨y,hy⟩:∃y:Rv,y={ s.r with heard:=s.r.heard++[r.from_],sure:=min (max s.r.sure r.sure) 8 }:=⟨_,rfl⟩;have hY:nC { s with r:=y }:=by
  rw[hy];refine⟨h.l,h.may,h.ep,tq,fun p hp=>?_,h.no,h.ph,h.p1,h.n1,h.n2,h.hs,h.gd,h.fr,h.en⟩;rcases List.mem_append.1 hp with hp|hp
  ·exact h.he p hp
  rw[List.mem_singleton] at hp;subst hp;exact hfe
 rw[←hy];have hf:=H.f0;unfold JX;split
 ·rename_i hcv;simp only[Bool.and_eq_true,beq_iff_eq] at hcv;have hp1:y.af=s.x.af:=hY.p1 hcv.1;have hyl:y.l=s.x:=hY.l;obtain⟨m1,m2,m3⟩:=rG h.may;have hlen:=(j3 m1).1;have hlF:aW y=bH s.x.af:=by
   have:=Ml (x:=y) (by rw[hyl];exact hlen.1);rw[this,hyl]
  have hys:y.sure=min (max s.r.sure r.sure) 8:=by rw[hy]
  have hlp:=H.lp;have hss:=wG s H;have hln:=H.ln;have ajc:=(j3 m1).2 _ (yg hlen.1);simp only[kW,Bool.and_eq_true,dI,decide_eq_true_eq] at ajc;rw[hlF,hys];refine R6 hf hlt (tF hY) ⟨by omega,by omega⟩ (fun _=>by rw[hp1];omega) (fun k h1 h2=>?_);rw[hp1];have hk:k≤s.w.sure:=by omega
  have hg:=H.S.good k h1 hk;change bI (setOf s.x.af s.w.l.w k) s.w.l.a (bB s.told k)=true at hg
  rw[H.wl.1,H.wl.2.1] at hg;exact pI (fun p hp=>H.ht p k hp) hg
 split
 ·rename_i hcv;refine⟨hY,fun q hq=>?_⟩;rw[List.mem_singleton] at hq;subst hq;exact Mq hf hlt (tF hY) hfe
 exact⟨hY,fun q hq=>by cases hq⟩
theorem aeG {r:Rs}(hr:Gz s s.au r)(he:r.au=s.r.au)(hk:r.kind=3)(hn:r.n=s.r.n)(now:Int) :
  nC { s with r:=(ny s.r now r).1 }∧∀q∈(ny s.r now r).2,rF s s.au q:=by
 have h:=H.rv hlt;have hf:=H.f0;unfold ny;split
 ·rename_i hc;simp only[Bool.and_eq_true,beq_iff_eq] at hc;obtain⟨o1,o2⟩:=hr.ok hk hc.2.1;rw[hn] at o1 o2;have hn1:=h.n1 (by rw[hc.1];decide);have hn2:=h.n2 (.inl hc.1);have hZ:nC { s with r:=aT s.r now r }:=by
   refine⟨h.l,h.may,h.ep,h.su,h.he,h.no,.inr (.inr (.inl rfl)),(fun e=>absurd e (by show ¬(3:Int)=1;decide)),(fun _=>hn1),(fun _=>hn2),(fun _=>⟨fun p hp=>?_,o2⟩),(fun _=>h.gd (by rw[hc.1];decide)),h.fr,(fun e=>absurd e (by show ¬(3:Int)=4;decide))⟩;have hp:p∈[r.from_]:=hp;rw[List.mem_singleton] at hp;subst hp;exact o1
  obtain⟨a,b⟩:=Bq hf hlt hZ rfl now;refine⟨a,fun q hq=>?_⟩;rcases List.mem_append.1 hq with hq|hq
  ·exact Bp hf hlt (tF hZ) o2 _ q hq
  exact b q hq
 split
 ·rename_i hc;simp only[Bool.and_eq_true,beq_iff_eq] at hc;obtain⟨o1,o2,o3⟩:=hr.no hk hc.2.1;rw[he,h.ep] at o2;rw[hn] at o3;have hn1:=h.n1 (by rw[hc.1];decide);have hn2:=h.n2 (.inl hc.1);have hgd:=h.gd (by rw[hc.1];decide);have hno:∀p∈s.r.none++[r.from_],s.au≤l5 s.aQ p∧p∉bB s.told s.r.n:=fun p hp=>by
   rcases List.mem_append.1 hp with hp|hp
   ·exact h.no p hp
   rw[List.mem_singleton] at hp;subst hp;exact⟨o2,o3⟩
  refine⟨?_,fun q hq=>by cases hq⟩;dsimp only
  split
  ·rename_i hm;unfold aJ at hm;rw[h.l] at hm;exact⟨h.l,h.may,h.ep,h.su,h.he,hno,.inr (.inr (.inr rfl)),(fun e=>absurd e (by show ¬(4:Int)=1;decide)),(fun _=>hn1),(fun e=>by
    rcases e with e|e
    ·exact absurd e (by show ¬(4:Int)=2;decide)
    exact absurd e (by show ¬(4:Int)=3;decide)),(fun e=>absurd e (by show ¬(4:Int)=3;decide)),(fun _=>hgd),h.fr,(fun _ _=>hm)⟩
  exact⟨h.l,h.may,h.ep,h.su,h.he,hno,h.ph,h.p1,h.n1,h.n2,h.hs,h.gd,h.fr,(fun e=>by
   have e:s.r.phase=4:=e;rw[hc.1] at e;cases e)⟩
 split
 ·rename_i hc;simp only[Bool.and_eq_true,beq_iff_eq] at hc;obtain⟨o1,o2⟩:=hr.ok hk hc.2.1;rw[hn] at o1;exact Ye hf hlt h hc.1 now o1
 exact⟨h,fun q hq=>by cases hq⟩
theorem Yf {r:Rs}(hr:Gz s s.au r)(hk:r.kind=1)(hn:r.n=s.r.n)(h3:s.r.phase=3)(now:Int) :
  nC { s with r:=(fT s.r now r).1 }∧∀q∈(fT s.r now r).2,rF s s.au q:=by
 have h:=H.rv hlt;have hf:=H.f0;unfold fT;split
 ·rename_i hc;rw[beq_iff_eq] at hc;have o:=hr.ad hk hc;rw[hn] at o;exact Ye hf hlt h h3 now o
 split
 ·exact⟨Br h _ _ _,fun q hq=>by cases hq⟩
 split
 ·exact⟨Br h _ _ _,fun q hq=>by cases hq⟩
 exact⟨h,fun q hq=>by cases hq⟩
theorem Yg {r:Rs}(hr:Gz s s.au r)(now:Int) :
  nC { s with r:=(bX s.r now r).1 }∧∀q∈(bX s.r now r).2,rF s s.au q:=by
 have h:=H.rv hlt;unfold bX;split
 ·exact⟨h,fun q hq=>by cases hq⟩
 rename_i hc;simp only[Bool.or_eq_true,bne_iff_ne,not_or,Decidable.not_not,ne_eq] at hc;split
 ·rename_i h1;simp only[Bool.and_eq_true,beq_iff_eq] at h1;exact Uo H hlt hr hc.2 h1.1 h1.2.1 now
 split
 ·rename_i h1;simp only[Bool.and_eq_true,beq_iff_eq] at h1;exact aeG H hlt hr hc.2 h1.1 h1.2 now
 split
 ·rename_i h1;simp only[Bool.and_eq_true,beq_iff_eq] at h1;exact Yf H hlt hr h1.1 h1.2.1 h1.2.2 now
 exact⟨h,fun q hq=>by cases hq⟩
omit H hlt in
theorem Uq {y:Rv}(h:nC { s with r:=y })(p3:y.phase=3){known:List Pl}(hk:Bo known):nC { s with r:=(dW y known).1 }∧(dW y known).1.phase=3:=by
 unfold dW;split
 ·rename_i hc;simp only[Bool.and_eq_true,Bool.not_eq_true',beq_eq_false_iff_ne] at hc;refine⟨?_,p3⟩;have hn1:=h.n1 (by show y.phase≠1;rw[p3];decide);have hn2:=h.n2 (.inr p3);change 1≤y.n∧y.n≤9 at hn1
  change y.n≤8∧(bH y.af).first≤y.n at hn2
  have hfr:dA s.x.w y.af=true:=h.fr;obtain⟨⟨l0,l6⟩,hm⟩:=j3 hfr;have hyl:y.l=s.x:=h.l;have hfN:gJ y=bH y.af:=by unfold gJ;rw[CJ l0 hn2.2];rfl
  have abX:=Un l0 hn2.2 (dG y known).1.ah;have hlen:(dX y.af ⟨y.n,(dG y known).1.ah⟩).length≤6:=by
   rw[←abX,List.length_append,List.length_singleton];have:(jq y).length≤y.af.length:=by
    unfold jq;split
    ·rw[List.length_take];omega
    exact Nat.le_refl _
   have h6:((jq y).length:Int)≠6:=hc.2;omega
  have Iy:kW s.x.w ⟨y.n,(dG y known).1.ah⟩=true:=by
   have h1:=hc.1;unfold dG at h1 ⊢;rw[hfN,hyl] at h1 ⊢;exact Mj (hm _ (yg l0)) hk hn1 h1
  refine⟨h.l,h.may,h.ep,h.su,h.he,h.no,h.ph,(fun e=>by rw[p3] at e;cases e),h.n1,(fun e=>⟨hn2.1,?_⟩),h.hs,(fun e k h1 h2=>?_),?_,(fun e=>by
   have e:y.phase=4:=e;rw[p3] at e;cases e)⟩
  ·show (bH (jq y++[⟨y.n,(dG y known).1.ah⟩])).first≤y.n
   rw[abX,Mr];exact Int.le_refl _
  ·show bI (setOf (jq y++[⟨y.n,(dG y known).1.ah⟩]) s.x.w k) s.x.a (bB s.has k)=true
   have h2:k<y.n:=h2;rw[abX,Bt (by exact h2)];exact h.gd e k h1 h2
  show dA s.x.w (jq y++[⟨y.n,(dG y known).1.ah⟩])=true
  rw[abX];exact abY hfr Iy hn2.2 hlen
 exact⟨Br h _ _ _,p3⟩
omit H in
theorem R9 (hf:0≤s.first){y:Rv}(h:nC { s with r:=y })(now:Int):nC { s with r:=(vz y now).1 }∧∀q∈(vz y now).2,rF s s.au q:=by
 refine⟨Br h _ _ _,?_⟩;unfold vz;dsimp only
 split
 ·exact Iw hf hlt (tF h) _
 split
 ·exact R4 hf hlt (tF h) _
 split
 ·rename_i h3;exact Bp hf hlt (tF h) (h.hs (by simpa using h3)).2 _
 exact fun q hq=>by cases hq
theorem Yh (now:Int){known:List Pl}(hk:Bo known) :
  nC { s with r:=(dO s.r now known).1 }∧∀q∈(dO s.r now known).2,rF s s.au q:=by
 have h:=H.rv hlt;have hf:=H.f0;have hY:nC { s with r:=jM s.r now }:=by
  unfold jM;split
  ·exact Br h _ _ _
  exact h
 unfold dO;generalize jM s.r now=y at hY;dsimp only
 split
 ·rename_i hc;simp only[Bool.and_eq_true,beq_iff_eq] at hc;obtain⟨hR,hp⟩:=Uq hY hc.1 hk;split
  ·have hZ:nC { s with r:={ (dW y known).1 with phase:=3,born:=now,since:=now } }:=by
    have e:({ (dW y known).1 with phase:=3,born:=now,since:=now }:Rv)={ (dW y known).1 with bad:=(dW y known).1.bad,born:=now,since:=now }:=by
     generalize (dW y known).1=z at hp;cases z;simp only at hp;subst hp;rfl
    rw[e];exact Br hR _ _ _
   obtain⟨a,b⟩:=Bq hf hlt hZ rfl now;refine⟨a,fun q hq=>?_⟩;rcases List.mem_append.1 hq with hq|hq
   ·exact Bp hf hlt (tF hZ) (hZ.hs rfl).2 _ q hq
   exact b q hq
  split
  ·exact R9 hlt hf hR now
  exact⟨hR,fun q hq=>by cases hq⟩
 split
 ·exact R9 hlt hf hY now
 exact⟨hY,fun q hq=>by cases hq⟩
end
theorem CK {s:Sk}(H:fK s){fs:List Fk}(hfe:∀p,l5 s.aQ p≤l5 fs p)(hfs:∀f∈fs,f.sure≤s.w.sure):fK { s with aQ:=fs }∧Bn s { s with aQ:=fs }:=by
 have u:Bn s { s with aQ:=fs }:=⟨rfl,Int.le_refl _,Int.le_refl _,hfe,fun _ _ h=>h,fun _ _ _ h=>h,fun _ _ h=>h⟩;exact⟨⟨H.S,H.wl,H.f0,H.ln,H.ep,H.hb,H.ht,hfs,fun m hm=>l7 u (H.lt m hm),H.lp,fun hlt=>tC u rfl rfl rfl hlt (H.rv hlt)⟩,u⟩
theorem Iz {s:Sk}(H:fK s)(p:Pl):∀f∈iN s.aQ p,f.sure≤s.w.sure:=fun f hf=>by
 rcases Mh hf with hf|hf
 ·exact H.fs f hf
 rw[hf];exact (wG s H).1
theorem CO {s:Sk}(H:fK s)(p:Pl)(i:Nat){g:Fk}(hg:g.sure≤s.w.sure):∀f∈(iN s.aQ p).set i g,f.sure≤s.w.sure:=fun f hf=>by
 rcases RQ hf with hf|hf
 ·exact Iz H p f hf
 rw[hf];exact hg
structure agS (s:Sk)(to:Int)(y:Sk×Rs):Prop where
 inv:fK y.1
 rs:Gz y.1 to y.2
 told:to=0→y.2.code=0→y.2.from_∈bB y.1.told y.2.n
 rng:y.1.first=s.first∧y.1.au=s.au
theorem Ur {s:Sk}(H:fK s){to:Int}{q:Rq}(hr:to=0∨(s.first<to∧to≤s.au))(hq:rF s to q):agS s to (eB s q (to==0)):=by
 have h0:=(wG s H).1;have hfa:(iL s.aQ q.to).sure≤s.w.sure:=PD H.fs h0;have hF:=CK H (fs:=iN s.aQ q.to) (fun p=>by rw[Bl];exact Int.le_refl _) (Iz H q.to);unfold eB;dsimp only
 split
 ·rename_i k1;split
  ·rename_i hlt;exact⟨hF.1,wF hF.2 ⟨h0,(fun _=>k1),(fun e=>absurd (k1.symm.trans e) (by decide)),(fun e=>absurd (k1.symm.trans e) (by decide)),(fun e=>absurd (k1.symm.trans e) (by decide)),(fun _ e=>absurd e (by show ¬(1:Int)=0;decide))⟩,(fun _ e=>absurd e (by show ¬(1:Int)=0;decide)),rfl,rfl⟩
  rename_i hge;obtain⟨hs,Wd⟩:∃hs,hs=(if (nA s.has q.to q.n).isNone=true then s.has++[⟨q.to,q.n,q.body⟩] else s.has):=⟨_,rfl⟩;obtain⟨td,htd⟩:∃td,td=(if (to==0)=true then s.told++[⟨q.to,q.n,q.body⟩] else s.told):=⟨_,rfl⟩;obtain⟨fs,hfs⟩:∃fs,fs=(iN s.aQ q.to).set (jN s.aQ q.to) { iL s.aQ q.to with sure:=max (iL s.aQ q.to).sure q.sure }:=⟨_,rfl⟩;rw[←Wd,←htd,←hfs];have uj:=hq.bo k1;have hin:q.to∈bB hs q.n:=by
   rw[Wd];split
   ·exact CP _ _ _ _
   rename_i hsome;cases hx:nA s.has q.to q.n with
   |none=>rw[hx] at hsome;exact absurd rfl hsome
   | some e=>
     obtain⟨e1,e2,e3⟩:=yc hx;exact mem_places.2 ⟨e,e1,e3,e2⟩
  have hup:∀p n,p∈bB s.has n→p∈bB hs n:=fun p n hp=>by
   rw[Wd];split
   ·exact CQ hp
   exact hp
  have adC:∀p n,p∈bB td n→p∈bB s.told n∨(to=0∧p=q.to∧n=q.n):=fun p n hp=>by
   rw[htd] at hp;split at hp
   ·rename_i e0;obtain⟨h,hm,e1,e2⟩:=mem_places.1 hp;rcases List.mem_append.1 hm with hm|hm
    ·exact .inl (mem_places.2 ⟨h,hm,e1,e2⟩)
    rw[List.mem_singleton] at hm;subst hm;exact .inr ⟨by simpa using e0,e2.symm,e1.symm⟩
   exact .inl hp
  have hfe:∀p,l5 s.aQ p≤l5 fs p:=fun p=>by
   rw[hfs,Fg s.aQ q.to { iL s.aQ q.to with sure:=max (iL s.aQ q.to).sure q.sure } (JW _ _) p];split
   ·rename_i e;subst e;show _≤(iL s.aQ q.to).au
    rw[JV];exact Int.le_refl _
   exact Int.le_refl _
  have u:Bn s { s with has:=hs,aQ:=fs,told:=td }:=⟨rfl,Int.le_refl _,Int.le_refl _,hfe,hup,fun p n hl hp=>by
   rcases adC p n hp with hp|⟨e0,e1,e2⟩
   ·exact hp
   exfalso;have e3:=(hq.w0 e0).1;rw[JV] at hge;subst e1;omega,fun _ _ h=>h⟩
  have hS:mO (rE { s with has:=hs,aQ:=fs,told:=td }):=by
   have h:=H.S;have hw:=h.wk;have hsub:∀p n,p∈bB s.told n→p∈bB td n:=fun p n hp=>by
    rw[htd];split
    ·exact CQ hp
    exact hp
   refine⟨⟨hw.s0,hw.len,hw.num,hw.body,fun y hy p hp=>hsub _ _ (hw.from_ y hy p hp)⟩,h.nx,fun y hy=>?_,h.bq,fun m hm ha hc=>hsub _ _ (h.br m hm ha hc),h.ask,h.Uj,h.pl,fun n h1 h2=>pI (fun p hp=>hsub _ _ hp) (h.good n h1 h2)⟩;have hy:y∈td:=hy;rw[htd] at hy;split at hy
   ·rcases List.mem_append.1 hy with hy|hy
    ·exact h.hd y hy
    rw[List.mem_singleton] at hy;subst hy;exact uj
   exact h.hd y hy
  refine⟨⟨hS,H.wl,H.f0,H.ln,H.ep,fun h hh=>?_,fun p n hp=>?_,?_,fun m hm=>l7 u (H.lt m hm),H.lp,fun hlt=>tC u rfl rfl rfl hlt (H.rv hlt)⟩,?_,fun e0 _=>?_,rfl,rfl⟩
  ·have hh:h∈hs:=hh;rw[Wd] at hh;split at hh
   ·rcases List.mem_append.1 hh with hh|hh
    ·exact H.hb h hh
    rw[List.mem_singleton] at hh;subst hh;exact uj
   exact H.hb h hh
  ·rcases adC p n hp with hp|⟨_,e1,e2⟩
   ·exact hup p n (H.ht p n hp)
   subst e1;subst e2;exact hin
  ·have:=CO H q.to (jN s.aQ q.to) (g:={ iL s.aQ q.to with sure:=max (iL s.aQ q.to).sure q.sure }) (by have:=hq.su;show max _ _≤_;omega);rw[←hfs] at this;exact this
  ·exact⟨h0,(fun _=>k1),(fun e=>absurd (k1.symm.trans e) (by decide)),(fun e=>absurd (k1.symm.trans e) (by decide)),(fun e=>absurd (k1.symm.trans e) (by decide)),(fun _ _=>hin)⟩
  show q.to∈bB td q.n
  rw[htd,if_pos (by simp[e0])];exact CP _ _ _ _
 have hne:q.kind≠1→to≠0:=fun hk e=>hk (hq.w0 e).2
 split
 ·rename_i k1 k2;have hS:=CK H (fs:=(iN s.aQ q.to).set (jN s.aQ q.to) { iL s.aQ q.to with au:=max (iL s.aQ q.to).au q.au }) (fun p=>by
   rw[Fg s.aQ q.to { iL s.aQ q.to with au:=max (iL s.aQ q.to).au q.au } (JW _ _) p];split
   ·rename_i e;subst e;show _≤max (iL s.aQ q.to).au q.au
    rw[JV];exact Int.le_max_left _ _
   exact Int.le_refl _) (CO H q.to _ hfa)
  refine⟨hS.1,⟨hfa,(fun e=>absurd e (hne k1)),(fun _ _=>?_),(fun e=>absurd (k2.symm.trans e) (by decide)),(fun e=>absurd (k2.symm.trans e) (by decide)),(fun e=>absurd (k2.symm.trans e) (by decide))⟩,(fun e=>absurd e (hne k1)),rfl,rfl⟩;show q.au≤l5 ((iN s.aQ q.to).set (jN s.aQ q.to) { iL s.aQ q.to with au:=max (iL s.aQ q.to).au q.au }) q.to
  rw[Fg s.aQ q.to { iL s.aQ q.to with au:=max (iL s.aQ q.to).au q.au } (JW _ _) q.to,if_pos rfl];exact Int.le_max_right _ _
 split
 ·rename_i k1 k2 k3;have ht:=hne k1;cases hx:nA s.has q.to q.n with
  | some e=>
    obtain⟨e1,e2,e3⟩:=yc hx;refine⟨hF.1,wF hF.2 ⟨hfa,(fun e=>absurd e ht),(fun e=>absurd e k2),(fun _ e=>absurd e (by show ¬(0:Int)=3;decide)),(fun _ _=>⟨mem_places.2 ⟨e,e1,e3,e2⟩,?_⟩),(fun e=>absurd e k1)⟩,(fun e=>absurd e ht),rfl,rfl⟩;have:=H.hb e e1;rw[e3] at this;exact this
  | none=>
    have hn:=Pz hx;rcases hr with hr|hr
    ·exact absurd hr ht
    have hep:=hq.ep ht;refine⟨hF.1,wF hF.2 ⟨hfa,(fun e=>absurd e ht),(fun e=>absurd e k2),(fun _ _=>⟨?_,?_,fun hp=>hn (H.ht _ _ hp)⟩),(fun _ e=>absurd e (by show ¬(3:Int)=0;decide)),(fun e=>absurd e k1)⟩,(fun e=>absurd e ht),rfl,rfl⟩
    ·show s.first<q.au
     omega
    show q.au≤l5 s.aQ q.to
    rw[hep];exact hq.fe k3
 rename_i k1 k2 k3;exact⟨hF.1,wF hF.2 ⟨h0,(fun e=>absurd e (hne k1)),(fun e=>absurd e k2),(fun e=>absurd e k3),(fun e=>absurd e k3),(fun e=>absurd e k1)⟩,(fun e=>absurd e (hne k1)),rfl,rfl⟩
theorem Bu {s t:Sk}(H:fK s)(hS:mO (rE t))(e1:t.x=s.x)(e2:t.r=s.r)(e3:t.au=s.au)(e4:t.first=s.first)(e5:t.eG=s.eG)(e6:t.has=s.has)(e7:t.told=s.told)(e8:t.aQ=s.aQ)
  (hw:t.w.l.w=s.w.l.w∧t.w.l.a=s.w.l.a∧t.w.au=s.w.au) (tq:s.w.sure≤t.w.sure) (hse:∀n b,jd s.bT n b→jd t.bT n b) (hln:t.bT.length≤8):fK t∧Bn s t:=by
 have u:Bn s t:=⟨e4,by rw[e3];exact Int.le_refl _,tq,fun p=>by rw[e8];exact Int.le_refl _,fun p n h=>by rw[e6];exact h,fun p n _ h=>by rw[←e7];exact h,hse⟩;refine⟨⟨hS,by rw[hw.1,hw.2.1,hw.2.2,e1,e4];exact H.wl,by rw[e4];exact H.f0,hln,by rw[e3,e4];exact H.ep,fun h hh=>?_,fun p n hp=>?_,fun f hf=>?_,fun m hm=>?_,?_,fun hlt=>?_⟩,u⟩
 ·rw[e6] at hh;exact hse _ _ (H.hb h hh)
 ·rw[e7] at hp;rw[e6];exact H.ht p n hp
 ·rw[e8] at hf;exact Int.le_trans (H.fs f hf) tq
 ·rw[e5] at hm;exact l7 u (H.lt m hm)
 ·rw[e1];have:=H.lp;omega
 rw[e3,e4] at hlt;exact tC u e2 e1 e3 hlt (H.rv hlt)
theorem Us {s:Sk}(H:fK s){r:Rs}(hr:r.code=0→r.from_∈bB s.told r.n):fK { s with w:=iT s.w r }:=by
 obtain⟨a,b⟩:=Yi H.S (r:=r) hr;have hl:=X7 s.w r;exact (Bu H (t:={ s with w:=iT s.w r }) a rfl rfl rfl rfl rfl rfl rfl rfl (by show (iT s.w r).l.w=_∧(iT s.w r).l.a=_∧(iT s.w r).au=_;rw[hl.1,hl.2];exact⟨rfl,rfl,rfl⟩) b (fun _ _ h=>h) H.ln).1
theorem Yj {s:Sk}(H:fK s)(b:List UInt8):fK (Fb s b):=by
 unfold Fb;dsimp only
 split
 ·rename_i hc;have h1:=Yk H.S b;have hc':(gP (rE s).w (rE s).now b).2.2=0:=hc;unfold Sb at h1;dsimp only at h1
  rw[if_pos hc'] at h1;have hnx:s.w.next=s.bT.length+1:=H.S.nx;have hsw:(gP s.w s.now b).1.l=s.w.l∧(gP s.w s.now b).1.au=s.w.au∧(gP s.w s.now b).1.sure=s.w.sure∧s.w.next≤8∧(gP s.w s.now b).2.1=kJ s.w ⟨s.w.next,b,[],s.now,s.now⟩:=by
   unfold gP at hc ⊢;by_cases g1:s.w.fenced=1
   ·rw[if_pos g1] at hc;cases hc
   rw[if_neg g1] at hc ⊢;by_cases g2:(b.length:Int)>2048
   ·rw[if_pos g2] at hc;cases hc
   rw[if_neg g2] at hc ⊢;by_cases g3:s.w.next>8
   ·rw[if_pos g3] at hc;cases hc
   rw[if_neg g3];exact⟨rfl,rfl,rfl,by omega,rfl⟩
  obtain⟨k1,k2,k3,k4,k5⟩:=hsw;have hb:jd (s.bT++[b]) s.w.next b:=by
   refine⟨by omega,by simp only[List.length_append,List.length_singleton];omega,?_⟩;rw[hnx,show ((s.bT.length:Int)+1-1).toNat=s.bT.length by omega,getElem!_pos _ _ (by simp)];simp
  have hS:=vC h1.1 (b:=Fh s.eG) (fun m hm ha=>rH (H.S.bq m hm ha)) H.S.br;obtain⟨a,u⟩:=Bu H (t:={ s with w:=(gP s.w s.now b).1,bT:=s.bT++[b] }) hS rfl rfl rfl rfl rfl rfl rfl rfl (by show (gP s.w s.now b).1.l.w=_∧(gP s.w s.now b).1.l.a=_∧(gP s.w s.now b).1.au=_;rw[k1,k2];exact⟨rfl,rfl,rfl⟩) (by show s.w.sure≤(gP s.w s.now b).1.sure;rw[k3];exact Int.le_refl _) (fun _ _ h=>rH h) (by simp only[List.length_append,List.length_singleton];omega);refine mP a (.inl rfl) fun q hq=>?_
  rw[k5] at hq;obtain⟨p1,p2,p3⟩:=Ff hq;obtain⟨p4,p5⟩:=pJ hq;refine⟨by show q.sure≤(gP s.w s.now b).1.sure;rw[p3,k3];exact Int.le_refl _,fun _=>by rw[p4,p5];exact hb,fun _=>⟨by rw[p2];exact H.wl.2.2,p1⟩,fun e=>absurd rfl e,fun e=>by rw[p1] at e;cases e⟩
 exact H
theorem Yl {s:Sk}(H:fK s)(now:Int):fK (Ir s now):=by
 obtain⟨h1,h2,h3⟩:=X8 s.w now;have hS:mO (rE { s with now:=now,w:=(jv s.w now).1 }):=vD (JY H.S now) h1;obtain⟨a,u⟩:=Bu H (t:={ s with now:=now,w:=(jv s.w now).1 }) hS rfl rfl rfl rfl rfl rfl rfl rfl (by show (jv s.w now).1.l.w=_∧(jv s.w now).1.l.a=_∧(jv s.w now).1.au=_;rw[h1.l,h2];exact⟨rfl,rfl,rfl⟩) (by show s.w.sure≤(jv s.w now).1.sure;rw[h1.su];exact Int.le_refl _) (fun _ _ h=>h) H.ln;unfold Ir;refine mP a (.inl rfl) fun q hq=>?_
 obtain⟨⟨p1,p2,p3⟩,x,hx,p4,p5⟩:=h3 q hq;refine⟨by show q.sure≤(jv s.w now).1.sure;rw[p3,h1.su];exact Int.le_refl _,fun _=>by rw[p4,p5];exact H.S.wk.body x hx,fun _=>⟨by rw[p2];exact H.wl.2.2,p1⟩,fun e=>absurd rfl e,fun e=>by rw[p1] at e;cases e⟩
theorem Ym {s:Sk}(H:fK s):fK (Fe s):=by
 unfold Fe;split
 ·rename_i h0;have hne:s.ask.first≠0:=by omega
  have hwc:s.w.change.first≠0:=by have:=H.S.ask;change s.ask=s.w.change at this;rw[←this];exact hne
  have h1:=Yn H.S;unfold Sc at h1;have ht:(rE s).taken≠0:=by
   show (if s.taken=true then (1:Int) else 2)≠0
   split<;>decide
  have htk:((rE s).taken==1)=s.taken:=by
   show ((if s.taken=true then (1:Int) else 2)==1)=s.taken
   cases s.taken<;>rfl
  rw[if_neg (by
   rintro (e|e)
   ·exact hne e
   exact ht e),htk] at h1
  have hS:=vC h1.1 (b:=Fh s.eG) H.S.bq H.S.br;have hch:(dK s.w s.now s.taken).1={ jO s.w s.taken with waits:=(jO s.w s.taken).waits.map fun x=>{ x with born:=s.now,since:=s.now } }∧(dK s.w s.now s.taken).2=(jO s.w s.taken).waits.flatMap (kJ (jO s.w s.taken)):=by
   unfold dK;rw[if_neg hwc];exact⟨rfl,rfl⟩
  obtain⟨a,u⟩:=Bu H (t:={ s with w:=(dK s.w s.now s.taken).1,ask:=kQ }) hS rfl rfl rfl rfl rfl rfl rfl rfl (by show (dK s.w s.now s.taken).1.l.w=_∧(dK s.w s.now s.taken).1.l.a=_∧(dK s.w s.now s.taken).1.au=_;rw[hch.1];exact⟨rfl,rfl,rfl⟩) h1.2 (fun _ _ h=>h) H.ln;refine mP a (.inl rfl) fun q hq=>?_
  rw[hch.2] at hq;obtain⟨x,hx,hq⟩:=List.mem_flatMap.1 hq;obtain⟨p1,p2,p3⟩:=Ff hq;obtain⟨p4,p5⟩:=pJ hq;have hbx:jd s.bT x.n x.body:=by
   have:=hS.wk.body { x with born:=s.now,since:=s.now } (by
    show _∈(dK s.w s.now s.taken).1.waits
    rw[hch.1];exact List.mem_map.2 ⟨x,hx,rfl⟩)
   exact this
  refine⟨by show q.sure≤(dK s.w s.now s.taken).1.sure;rw[p3,hch.1];exact Int.le_refl _,fun _=>by rw[p4,p5];exact hbx,fun _=>⟨by rw[p2];exact H.wl.2.2,p1⟩,fun e=>absurd rfl e,fun e=>by rw[p1] at e;cases e⟩
 exact H
theorem abZ (w:Wr)(e:Int)(known:List Pl):(gL w e known).1.l=w.l∧(gL w e known).1.au=w.au∧(gL w e known).1.sure=w.sure∧((gL w e known).2.2=true→(gL w e known).2.1.first=w.sure+1):=by
 unfold gL;split
 ·exact⟨rfl,rfl,rfl,fun e=>by cases e⟩
 split
 ·exact⟨rfl,rfl,rfl,fun e=>by cases e⟩
 exact⟨rfl,rfl,rfl,fun _=>rfl⟩
theorem PI {s:Sk}(H:fK s)(e:Int)(known:List Pl):fK (nV s e known):=by
 obtain⟨k1,k2,k3,k4⟩:=abZ s.w e known;have h1:=ab0 H.S e known;unfold ab1 at h1;dsimp only at h1
 have hw:(gL s.w e known).1.l.w=s.w.l.w∧(gL s.w e known).1.l.a=s.w.l.a∧(gL s.w e known).1.au=s.w.au:=by rw[k1,k2];exact⟨rfl,rfl,rfl⟩
 have tq:s.w.sure≤(gL s.w e known).1.sure:=by rw[k3];exact Int.le_refl _
 unfold nV;dsimp only
 split
 ·rename_i hc;have hc':¬(gL (rE s).w e known).2.2=true:=by show ¬(gL s.w e known).2.2=true;rw[hc];decide
  rw[if_neg hc'] at h1;exact (Bu H (t:={ s with w:=(gL s.w e known).1 }) h1.1 rfl rfl rfl rfl rfl rfl rfl rfl hw tq (fun _ _ h=>h) H.ln).1
 rename_i hc;have hc:(gL s.w e known).2.2=true:=by simpa using hc
 have hc':(gL (rE s).w e known).2.2=true:=hc;rw[if_pos hc'] at h1;have hS:=h1.1;have hpl:=hS.pl;rw[if_neg (fun h2=>by have:=h2.2;simp at this)] at hpl;have hf:=k4 hc;split
 ·rename_i ht;have h0:=(wG s H).1;have hT:mO (rE { s with w:=(gL s.w e known).1,ask:=(gL s.w e known).2.1,taken:=true,x:={ s.x with af:=dX s.x.af (gL s.w e known).2.1 } }):=by
   refine⟨hS.wk,hS.nx,hS.hd,hS.bq,hS.br,hS.ask,hS.Uj,?_,fun n g1 g2=>?_⟩
   ·show dX s.x.af (gL s.w e known).2.1=if (gL s.w e known).2.1.first≠0∧(1:Int)=1 then dX (gL s.w e known).1.l.af (gL s.w e known).2.1 else _
    rw[if_pos ⟨by omega,rfl⟩];have hpl:s.x.af=(gL s.w e known).1.l.af:=hpl;rw[←hpl]
   show bI (setOf (dX s.x.af (gL s.w e known).2.1) _ n) _ _=true
   have g2:n≤(gL s.w e known).1.sure:=g2;rw[Bt (by omega)];exact hS.good n g1 g2
  have u:Bn s { s with w:=(gL s.w e known).1,ask:=(gL s.w e known).2.1,taken:=true,x:={ s.x with af:=dX s.x.af (gL s.w e known).2.1 } }:=⟨rfl,Int.le_refl _,tq,fun _=>Int.le_refl _,fun _ _ h=>h,fun _ _ _ h=>h,fun _ _ h=>h⟩;refine⟨hT,?_,H.f0,H.ln,H.ep,H.hb,H.ht,fun f hf=>Int.le_trans (H.fs f hf) tq,fun m hm=>l7 u (H.lt m hm),?_,fun hlt=>?_⟩
  ·show (gL s.w e known).1.l.w=s.x.w∧(gL s.w e known).1.l.a=s.x.a∧(gL s.w e known).1.au=s.first
   rw[k1,k2];exact H.wl
  ·show (bH (dX s.x.af (gL s.w e known).2.1)).first≤(gL s.w e known).1.sure+1
   rw[Mr,hf,k3];exact Int.le_refl _
  have hlt:s.first<s.au:=hlt
  omega
 have hT:mO (rE { s with w:=(gL s.w e known).1,ask:=(gL s.w e known).2.1,taken:=false }):=by
  refine⟨hS.wk,hS.nx,hS.hd,hS.bq,hS.br,hS.ask,hS.Uj,?_,hS.good⟩;show s.x.af=if (gL s.w e known).2.1.first≠0∧(2:Int)=1 then _ else _
  rw[if_neg (fun h2=>by have:=h2.2;simp at this)];exact hpl
 exact (Bu H (t:={ s with w:=(gL s.w e known).1,ask:=(gL s.w e known).2.1,taken:=false }) hT rfl rfl rfl rfl rfl rfl rfl rfl hw tq (fun _ _ h=>h) H.ln).1
theorem Yo {s:Sk}(H:fK s)(now:Int){y:Rv}(h:nC { s with r:=y }):fK { s with now:=now,r:=y }∧Bn s { s with now:=now,r:=y }:=
 ⟨⟨JY H.S now,H.wl,H.f0,H.ln,H.ep,H.hb,H.ht,H.fs,fun m hm=>l7 (Bn.rfl' (s:=s) (t:={ s with now:=now,r:=y }) rfl rfl (Int.le_refl _) rfl rfl rfl rfl) (H.lt m hm),H.lp,fun _=>⟨h.l,h.may,h.ep,h.su,h.he,h.no,h.ph,h.p1,h.n1,h.n2,h.hs,h.gd,h.fr,h.en⟩⟩,Bn.rfl' rfl rfl (Int.le_refl _) rfl rfl rfl rfl⟩
theorem Ut {s:Sk}(H:fK s){to:Int}{r:Rs}(hr:Gz s to r)(h0:to=0→r.code=0→r.from_∈bB s.told r.n):fK (kN s to r):=by
 unfold kN;split
 ·rename_i e;exact Us H (h0 e)
 split
 ·rename_i h1 h2;have e:=h2.1;subst e;obtain⟨a,b⟩:=Yg H h2.2 hr s.now;obtain⟨c,u⟩:=Yo H s.now a;exact mP c (.inr ⟨h2.2,Int.le_refl _⟩) fun q hq=>DU u (b q hq)
 exact H
theorem Uu {s:Sk}(H:fK s){x:Lk}(hx:abU s x)(h0:x.ask=false→x.to=0→x.r.code=0→x.r.from_∈bB s.told x.r.n):fK (pE s x):=by
 unfold pE;split
 ·rename_i ha;exact Ut H (hx.r ha) (h0 ha)
 rename_i ha;have ha:x.ask=true:=by simpa using ha
 have k:=Ur H hx.rng (hx.q ha);dsimp only
 split
 ·refine Ul k.inv ?_ k.rs k.told;rw[k.rng.1,k.rng.2];exact hx.rng
 exact k.inv
theorem Uv {s:Sk}(H:fK s)(now:Int){known:List Pl}(hk:Bo known):fK (x9 s now known):=by
 unfold x9;split
 ·rename_i h;obtain⟨a,b⟩:=Yh H h now hk;obtain⟨c,u⟩:=Yo H now a;exact mP c (.inr ⟨h,Int.le_refl _⟩) fun q hq=>DU u (b q hq)
 exact⟨JY H.S now,H.wl,H.f0,H.ln,H.ep,H.hb,H.ht,H.fs,fun m hm=>l7 (Bn.rfl' (s:=s) (t:={ s with now:=now }) rfl rfl (Int.le_refl _) rfl rfl rfl rfl) (H.lt m hm),H.lp,fun hlt=>tC (Bn.rfl' (s:=s) (t:={ s with now:=now }) rfl rfl (Int.le_refl _) rfl rfl rfl rfl) rfl rfl rfl hlt (H.rv hlt)⟩
theorem Yp {s:Sk}(H:fK s):fK (zM s):=by
 unfold zM;dsimp only
 split
 ·rename_i hc;unfold pu at hc ⊢;split at hc
  ·cases hc
  rename_i hn;rw[if_neg hn];dsimp only
  simp only[Bool.or_eq_true,Bool.not_eq_true',not_or,Bool.not_eq_false] at hn;have hmay:d9 s.x=true:=hn.1.1.1;obtain⟨m1,m2,m3⟩:=rG hmay;have hep:=H.ep;have h0:=(wG s H).1;obtain⟨y,hy⟩:∃y:Rv,y=⟨s.x,s.au+1,1,[],0,0,[],[],[],s.x.af,[],s.now,s.now⟩:=⟨_,rfl⟩;rw[←hy];have u:Bn s { s with au:=s.au+1,r:=y }:=⟨rfl,by show s.au≤s.au+1;omega,Int.le_refl _,fun _=>Int.le_refl _,fun _ _ h=>h,fun _ _ _ h=>h,fun _ _ h=>h⟩;have hR:nC { s with au:=s.au+1,r:=y }:=by
   rw[hy];exact⟨rfl,hmay,rfl,⟨Int.le_refl _,h0⟩,(fun p hp=>by cases hp),(fun p hp=>by cases hp),.inl rfl,(fun _=>rfl),(fun e=>absurd rfl e),(fun e=>by
    rcases e with e|e
    ·exact absurd e (by show ¬(1:Int)=2;decide)
    exact absurd e (by show ¬(1:Int)=3;decide)),(fun e=>absurd e (by show ¬(1:Int)=3;decide)),(fun e=>absurd rfl e),m1,(fun e=>absurd e (by show ¬(1:Int)=4;decide))⟩
  have hlt:s.first<s.au+1:=by omega
  have hI:fK { s with au:=s.au+1,r:=y }:=⟨H.S,H.wl,H.f0,H.ln,Int.le_of_lt hlt,H.hb,H.ht,H.fs,fun m hm=>l7 u (H.lt m hm),H.lp,fun _=>hR⟩;exact mP hI (.inr ⟨hlt,Int.le_refl _⟩) (Iw (s:={ s with au:=s.au+1,r:=y }) H.f0 hlt (tF (s:={ s with au:=s.au+1,r:=y }) hR) _)
 exact H
def JZ (x:Lg)(w:Wr)(au:Int):Sk:=⟨x,w,⟨⟨0,0,0,[],0,0⟩,0,0,[],0,0,[],[],[],[],[],0,0⟩,au,au,kQ,false,0,[],[],[],[],[]⟩
theorem Yq {x:Lg}{w:Wr}{au:Int}(hl:x.af.length≤1)(h:Fp x au=some w):fK (JZ x w au):=by
 have hS:=ab2 h;unfold Fp at h;split at h
 ·rename_i hc;have:=Option.some.inj h;subst this;simp only[Bool.and_eq_true,dI,decide_eq_true_eq] at hc;obtain⟨m1,m2,m3⟩:=rG hc.1;have hm:=j3 m1;have h1:(bH x.af).first≤1:=by
   obtain⟨f,hf⟩:∃f,x.af=[f]:=List.length_eq_one_iff.1 (by omega);rw[hf] at m1 ⊢;simp only[dA,Bool.and_eq_true,qE,beq_iff_eq] at m1;show f.first≤1
   rw[m1.2.1];exact Int.le_refl _
  have hS2:mO (rE (JZ x ⟨x,au,1,0,[],[],kQ,0⟩ au)):=
   ⟨hS.wk,hS.nx,hS.hd,hS.bq,hS.br,hS.ask,hS.Uj,(if_neg (fun h=>h.1 rfl)).symm,hS.good⟩
  exact⟨hS2,⟨rfl,rfl,rfl⟩,by show (0:Int)≤au;omega,Nat.zero_le _,Int.le_refl _,(fun h hh=>by cases hh),(fun p n hp=>by cases hp),(fun f hf=>by cases hf),(fun m hm=>by cases hm),h1,(fun hlt=>absurd hlt (by show ¬au<au;omega))⟩
 cases h
theorem Sd {s:Sk}{l:List Hp}(h:∀y∈l,jd s.bT y.n y.body)(n:Int):abT s l n=true:=by
 unfold abT;rw[List.all_eq_true];intro y hy;by_cases e:y.n=n
 ·obtain⟨g1,g2,g3⟩:=h y hy;rw[e] at g1 g2 g3;simp[e,g1,g2,g3]
 simp[e]
theorem ab3 {s:Sk}(H:fK s):X6 s=true:=by
 unfold X6;split
 ·rfl
 rename_i hc;have hne:s.au≠s.first:=fun e=>hc (.inl e)
 have hp:s.r.phase=4:=Classical.byContradiction fun e=>hc (.inr e)
 have hlt:s.first<s.au:=by have:=H.ep;omega
 have R:=H.rv hlt;have hn:=R.n1 (by rw[hp];decide);have hgd:=R.gd (by rw[hp];decide);obtain⟨m1,m2,m3⟩:=rG R.may;have hss:=wG s H;have hln:=H.ln;have agU:s.r.n≤8→Ui s s.r.n=false:=fun h8=>by
  have hm:=R.en hp h8;exact X9 ⟨m2,m3⟩ (fun p hp=>(R.no p hp).2) hm
 have ak7:s.w.sure≤s.r.n-1:=by
  refine Classical.byContradiction fun hns=>?_
  have h8:s.r.n≤8:=by omega
  have hg:=H.S.good s.r.n hn.1 (by show s.r.n≤s.w.sure;omega);change bI (setOf s.x.af s.w.l.w s.r.n) s.w.l.a (bB s.told s.r.n)=true at hg
  rw[H.wl.1,H.wl.2.1] at hg;have:=agU h8;unfold Ui at this;rw[hg] at this;cases this
 have ak8:s.r.n-1≤(s.bT.length:Int):=by
  by_cases h1:s.r.n=1
  ·rw[h1];omega
  obtain⟨p,hp⟩:=Py (hgd (s.r.n-1) (by omega) (by omega));obtain⟨h,hh,e1,e2⟩:=mem_places.1 hp;have:=H.hb h hh;rw[e1] at this;exact this.2.1
 rw[Bool.and_eq_true];refine⟨?_,?_⟩
 ·rw[Bool.not_eq_true',Bool.or_eq_false_iff,Bool.or_eq_false_iff];refine⟨by simp only[decide_eq_false_iff_not];omega,by simp only[decide_eq_false_iff_not];omega,?_⟩;rw[R.fr];rfl
 rw[List.all_eq_true];intro i hi;have hi:i<8:=List.mem_range.1 hi;rw[Bool.and_eq_true,Bool.and_eq_true,Bool.and_eq_true];refine⟨Sd H.S.hd _,Sd H.hb _,?_,?_⟩
 ·rw[Bool.not_eq_true',Bool.and_eq_false_iff];by_cases hgt:(i:Int)+1>s.r.n-1
  ·refine .inr ?_;unfold Me;rw[List.all_eq_false];refine⟨(s.r.n-1).toNat,List.mem_range.2 (by omega),?_⟩;have e:(((s.r.n-1).toNat:Nat):Int)+1=s.r.n:=by omega
   rw[e,agU (by omega)];decide
  exact .inl (by simp only[decide_eq_false_iff_not];exact hgt)
 by_cases hle:(i:Int)+1≤s.r.n-1
 ·rw[Bool.or_eq_true];exact .inr (hgd _ (by omega) (by omega))
 rw[Bool.or_eq_true];refine .inl ?_;simp only[Bool.not_eq_true',decide_eq_false_iff_not];exact hle
def zW (b:List UInt8):List PV:=[.sc (.string ⟨b.toArray⟩)]
def Hp.c (h:Hp):List PV:=[ii h.x.node,uu h.x.aI,uu h.n,.sc (.string ⟨h.body.toArray⟩)]
def Lt.c (m:Lt):List PV:=[bl m.ask,ii m.q.to.node,uu m.q.to.aI,ii m.q.kind,uu m.q.bP,uu m.q.n,uu m.q.au,uu m.q.sure,ii m.q.copy,Cn m.q.body,slU m.q.keep,ii m.r.from_.node,uu m.r.from_.aI,ii m.r.kind,ii m.r.code,uu m.r.bP,uu m.r.n,uu m.r.au,uu m.r.sure,Cn m.r.body]
structure Stp where
 what:Int
 which:Int
 zI:Int
 code:Int
 Gw:Int
 e:Int
 body:List UInt8
 known:List Pl
def Stp.c (x:Stp):List PV:=[ii x.what,ii x.which,ii x.zI,ii x.code,ii x.Gw,ii x.e,Cn x.body,ax x.known]
def UJ (a b:Int):Int:=IntKind.i64.wrap ((BitVec.toNat (BitVec.ofInt IntKind.i64.bits a &&& BitVec.ofInt IntKind.i64.bits b):Nat):Int)
def Lk.c (m:Lk):List PV:=[bl m.ask,uu m.to,ii m.q.to.node,uu m.q.to.aI,ii m.q.kind,uu m.q.bP,uu m.q.n,uu m.q.au,uu m.q.sure,ii m.q.copy,Cn m.q.body,slU m.q.keep,ii m.r.from_.node,uu m.r.from_.aI,ii m.r.kind,ii m.r.code,uu m.r.bP,uu m.r.n,uu m.r.au,uu m.r.sure,Cn m.r.body]
def Fk.c (f:Fk):List PV:=[ii f.x.node,uu f.x.aI,uu f.au,uu f.sure]
structure wQ where
 what:Int
 which:Int
 zI:Int
 Gw:Int
 e:Int
 body:List UInt8
 known:List Pl
def wQ.c (x:wQ):List PV:=[ii x.what,ii x.which,ii x.zI,ii x.Gw,ii x.e,Cn x.body,ax x.known]
def Ms (l:List wQ):PV:=.sl false 7 (l.map wQ.c)
def skA (s:Sk)(B H T F S:AV):List AV:=[.pv (uu s.x.id),.pv (ii s.x.w),.pv (ii s.x.a),.pv (cB s.x.af),.pv (ii s.x.closed),.pv (uu s.x.last),.pv (uu s.w.l.id),.pv (ii s.w.l.w),.pv (ii s.w.l.a),.pv (cB s.w.l.af),.pv (ii s.w.l.closed),.pv (uu s.w.l.last),.pv (uu s.w.au),.pv (uu s.w.next),.pv (uu s.w.sure),.pv (rJ s.w.waits),.pv (ax s.w.bad),.pv (uu s.w.change.first),.pv (ax s.w.change.ah),.pv (ii s.w.fenced),.pv (uu s.r.l.id),.pv (ii s.r.l.w),.pv (ii s.r.l.a),.pv (cB s.r.l.af),.pv (ii s.r.l.closed),.pv (uu s.r.l.last),.pv (uu s.r.au),.pv (ii s.r.phase),.pv (ax s.r.heard),.pv (uu s.r.sure),.pv (uu s.r.n),.pv (ax s.r.none),.pv (ax s.r.has),.pv (Cn s.r.body),.pv (cB s.r.af),.pv (ax s.r.bad),.pv (uu s.r.born),.pv (uu s.r.since),.pv (uu s.au),.pv (uu s.first),.pv (uu s.ask.first),.pv (ax s.ask.ah),.pv (bl s.taken),.pv (uu s.now),B,H,T,F,S]
def lkQ (to:Int)(q:Rq):Lk:=⟨true,to,q,rs0⟩
structure Mk where
 producer:Int
 seq:Int
 offset:Int
deriving DecidableEq,Inhabited
def Mk.c (x:Mk):List PV:=[ii x.producer,uu x.seq,uu x.offset]
def slM (l:List Mk):PV:=.sl false 3 (l.map Mk.c)
structure Cu where
 sub:Int
 at_:Int
deriving DecidableEq,Inhabited
def Cu.c (x:Cu):List PV:=[ii x.sub,uu x.at_]
def slK (l:List Cu):PV:=.sl false 2 (l.map Cu.c)
structure Ch where
 au:Int
 owner:Int
 inc:Int
 zG:Int
 first:Int
 trim:Int
 iP:List Int
 seen:List Mk
 DV:List Cu
deriving DecidableEq,Inhabited
def Ch.c (x:Ch):List PV:=[uu x.au,ii x.owner,uu x.inc,uu x.zG,uu x.first,uu x.trim,slU x.iP,slM x.seen,slK x.DV]
def slH (l:List Ch):PV:=.sl false 9 (l.map Ch.c)
def ajd (l:List Lg):PV:=.sl false 6 (l.map Lg.c)
structure Oc where
 code:Int
 au:Int
 at_:Int
 bP:Int
 owner:Int
deriving DecidableEq,Inhabited
def Oc.c (x:Oc):List PV:=[ii x.code,uu x.au,uu x.at_,uu x.bP,ii x.owner]
structure Pa where
 who:Int
 inc:Int
 n:Int
 out:Oc
deriving DecidableEq,Inhabited
def Pa.c (x:Pa):List PV:=[ii x.who,uu x.inc,uu x.n,ii x.out.code,uu x.out.au,uu x.out.at_,uu x.out.bP,ii x.out.owner]
def slA (l:List Pa):PV:=.sl false 8 (l.map Pa.c)
structure Pn where
 version:Int
 next:Int
 channels:List Ch
 iP:List Lg
 past:List Pa
deriving DecidableEq,Inhabited
def Pn.c (x:Pn):List PV:=[uu x.version,uu x.next,slH x.channels,ajd x.iP,slA x.past]
def cnt (n:Int):Bool:=!decide (n>4611686018427387903)
def lg0:Lg:=⟨0,0,0,[],0,0⟩
def Yu (p:Pn)(id:Int):Option Lg:=p.iP.find? fun l=>l.id==id
def agV (p:Pn):List Int:=p.iP.map (·.id)
def aeJ (p:Pn):List Int:=p.channels.flatMap (·.iP)
def aeK (a b:Int):Int:=IntKind.u64.wrap (a+b)
def aeL (p:Pn)(c:Ch):Int:=c.iP.foldl (fun e id=>aeK e ((Yu p id).getD lg0).last) c.first
def agW (p:Pn)(c:Ch):Option Lg:=
 match c.iP.getLast? with
 |none=>none
 | some id=>match Yu p id with
   |none=>none
   |some l=>if l.closed==0 then some l else none
def chP (p:Pn)(n:Int):Ch:=p.channels[(n-1).toNat]!
def aeM (c:Ch):Bool:=
 if c.au==0 then (c.owner==0&&(c.inc==0&&decide ((c.iP.length:Int)=0))) else dI c.owner 1 15&&dI c.inc 1 4611686018427387903
def Mw (l:List Int):Bool:=decide (l.Pairwise (· < ·))
def agX (l:List Int):List Int:=l.mergeSort fun x y=>decide (x≤y)
def aeN (c:Ch)(x:Mk):Bool:=dI x.producer 1 15&&(dI x.seq 1 4611686018427387903&&decide (x.offset<c.first))
def agY (c:Ch):Bool:=decide ((c.seen.length:Int)≤6)&&(Mw (c.seen.map (·.producer))&&(decide (c.seen.map (·.offset)).Nodup&&c.seen.all (aeN c)))
def aeO (x:Cu):Bool:=dI x.sub 1 3&&cnt x.at_
def Yv (p:Pn):List Int→Bool
 |[]=>true
 | id::r=>(match Yu p id with
   |none=>false
   |some l=>!(l.closed==0 && !r.isEmpty))&&Yv p r
def agZ (p:Pn)(c:Ch):Int:=if (agW p c).isSome then aeK (aeL p c) 8 else aeL p c
def aeP (p:Pn)(c:Ch):Bool:=
 (cnt c.au&&(cnt c.zG&&cnt c.first))&&(aeM c&&(decide ((c.iP.length:Int)≤8)&&(Mw c.iP&&(dI c.trim c.first (agZ p c)&&(cnt (aeK (aeL p c) 8) &&
 (Yv p c.iP&&(agY c&&(decide ((c.DV.length:Int)≤3)&&(Mw (c.DV.map (·.sub))&&c.DV.all aeO)))))))))
def aeQ (x:Pa):Bool:=dI x.who 1 15&&(dI x.inc 1 4611686018427387903&&(dI x.n 1 4611686018427387903&&(dI x.out.code 0 9&&(dI x.out.owner 0 15&&(cnt x.out.au&&(cnt x.out.at_&&cnt x.out.bP))))))
def ag0 (p:Pn):Bool:=
 cnt p.version&&(dI p.next 1 4611686018427387904&&(dI p.channels.length 1 3&&(p.iP.all (fun l=>d9 l&&decide (l.id<p.next))&&(Mw (agV p)&&(decide (agX (aeJ p)=agV p) &&
 (p.channels.all (aeP p)&&(Mw (p.past.map (·.who))&&p.past.all aeQ)))))))
structure Sp where
 offset:Int
 bP:Int
 n:Int
deriving DecidableEq,Inhabited
def Sp.c (x:Sp):List PV:=[uu x.offset,uu x.bP,uu x.n]
def aje (p:Pn)(n:Int):Bool:=decide (n≥1)&&(decide (n≤(p.channels.length:Int))&&ag0 p)
def ajf (p:Pn):Prop:=∀l∈p.iP,gF l.last
section
variable {p:Pn}{n sure:Int}(hh:aje p n=true)(hr:ajf p)(h0:0≤(chP p n).first)(hs:0≤sure)
include hh hr
include h0 hs
end
structure LgB (l:Lg):Prop where
 af:l.af.length≤1000000
 ah:∀f∈l.af,f.ah.length≤1000000
theorem LgB.ok {l:Lg}(h:LgB l):l.ok:=fun x hx=>by have:=h.ah x hx;omega
end Go.AX
end
section
namespace Go.AX
end Go.AX
end
section
namespace Go.AX
theorem Sp.ajg (a b:Sp)(h:(!(a.offset==b.offset&&(a.bP==b.bP&&a.n==b.n)))=false):a=b:=by
 cases a;cases b;simp at h;simp[h]
theorem Int.ajg (a b:Int)(h:(a != b)=false):a=b:=by simpa using h
end Go.AX
end
section
namespace Go.AX
end Go.AX
end
section
namespace Go.AX
end Go.AX
end
section
namespace Go.AX
theorem Uw {l:List Fk}{p:Pl}{k:Nat}(h:k<l.length)(he:l[k].x=p)(hn:∀j (hj:j<l.length),j<k→(l[j].x==p)=false):iN l p=l∧jN l p=k:=by
 have h1:iN l p=l:=by
  unfold iN;rw[if_pos (List.any_eq_true.2 ⟨l[k],List.getElem_mem h,by simpa using he⟩)]
 refine⟨h1,?_⟩;unfold jN;rw[h1,List.findIdx_eq h];exact⟨by simpa using he,fun j hj=>hn j (by omega) hj⟩
theorem ab4 {l:List Fk}{p:Pl}(hn:∀j (hj:j<l.length),(l[j].x==p)=false):iN l p=l++[⟨p,0,0⟩]∧jN l p=l.length:=by
 have h0:l.any (fun f=>f.x==p)=false:=by
  rw[List.any_eq_false];intro x hx;obtain⟨j,hj,rfl⟩:=List.getElem_of_mem hx;rw[hn j hj];decide
 have h1:iN l p=l++[⟨p,0,0⟩]:=by unfold iN;rw[if_neg (by rw[h0];decide)]
 refine⟨h1,?_⟩;unfold jN;rw[h1,List.findIdx_append,List.findIdx_eq_length.2 (fun y hy=>by
  obtain⟨j,hj,rfl⟩:=List.getElem_of_mem hy;exact hn j hj)]
 simp[List.findIdx_cons]
theorem Si (l:List Fk)(p:Pl):∃h:jN l p<(iN l p).length,(iN l p)[jN l p]=iL l p:=by
 obtain⟨a,f,b,e1,e2,e3,e4,e5,e6⟩:=pG l p;have h:jN l p<(iN l p).length:=by rw[e4,e1];simp
 exact⟨h,by unfold iL;rw[getElem!_pos (iN l p) (jN l p) h]⟩
theorem Mt (l:List Fk)(p:Pl):(iN l p).length≤l.length+1:=by
 unfold iN;split
 ·omega
 simp
def Yr (l:List Hp)(p:Pl)(n:Int)(k:Nat)(at_:Int):Prop:=(at_ = -1∧nA (l.take k) p n=none)∨∃i:Nat,∃h:i<l.length,at_=i∧i<k∧nA (l.take k) p n=some l[i]
theorem aeI (l:List Hp)(p:Pl)(n:Int):Yr l p n 0 (-1):=.inl ⟨rfl,by simp[nA]⟩
theorem Ux {l:List Hp}{p:Pl}{n:Int}{k:Nat}{at_:Int}(h:Yr l p n k at_)(hk:k<l.length):Yr l p n (k+1) (if l[k].x==p&&l[k].n==n then (k:Int) else at_):=by
 have e:(l.take (k+1)).filter (fun h=>h.x==p&&h.n==n)=(l.take k).filter (fun h=>h.x==p&&h.n==n)++(if l[k].x==p&&l[k].n==n then [l[k]] else []):=by
  rw[List.take_succ_eq_append_getElem hk,List.filter_append];congr 1
  cases e1:(l[k].x==p&&l[k].n==n)<;>simp[e1]
 cases e1:(l[k].x==p&&l[k].n==n) with
 | true=>
   rw[e1] at e;simp only[↓reduceIte] at e ⊢;refine .inr ⟨k,hk,rfl,by omega,?_⟩;unfold nA;rw[e];simp
 | false=>
   rw[e1] at e;simp only[Bool.false_eq_true,↓reduceIte,List.append_nil] at e ⊢;rcases h with ⟨a,b⟩|⟨i,hi,a,b,c⟩
   ·refine .inl ⟨a,?_⟩;unfold nA at b ⊢;rw[e];exact b
   refine .inr ⟨i,hi,a,by omega,?_⟩;unfold nA at c ⊢;rw[e];exact c
def rsA (r:Rs):List AV:=[.pv (ii r.from_.node),.pv (uu r.from_.aI),.pv (ii r.kind),.pv (ii r.code),.pv (uu r.bP),.pv (uu r.n),.pv (uu r.au),.pv (uu r.sure),.pv (Cn r.body)]
end Go.AX
namespace Go.AX
def rqA (q:Rq):List AV:=[.pv (ii q.to.node),.pv (uu q.to.aI),.pv (ii q.kind),.pv (uu q.bP),.pv (uu q.n),.pv (uu q.au),.pv (uu q.sure),.pv (ii q.copy),.pv (Cn q.body),.pv (slU q.keep)]
def rsZ:List AV:=[.pv (ii 0),.pv (uu 0),.pv (ii 0),.pv (ii 0),.pv (uu 0),.pv (uu 0),.pv (uu 0),.pv (uu 0),.pv fQ]
def J2 (s:Sk)(q:Rq)(nP:Bool)(G:List Fk)(i:Nat)(f:Fk)(h:Option Hp):Sk×Rs:=
 if q.kind=1 then
  if q.au<f.au then ({ s with aQ:=G },{ Bh q with code:=1 })
  else ({ s with has:=if h.isNone then s.has++[⟨q.to,q.n,q.body⟩] else s.has,aQ:=G.set i ⟨f.x,f.au,if q.sure>f.sure then q.sure else f.sure⟩,told:=if nP then s.told++[⟨q.to,q.n,q.body⟩] else s.told },Bh q)
 else if q.kind=2 then ({ s with aQ:=G.set i ⟨f.x,if q.au>f.au then q.au else f.au,f.sure⟩ },{ Bh q with sure:=f.sure })
 else if q.kind=3 then ({ s with aQ:=G },match h with
  |some e=>{ Bh q with sure:=f.sure,body:=e.body }
  |none=>{ Bh q with sure:=f.sure,code:=3 })
 else ({ s with aQ:=G },Bh q)
theorem Yt (a b:Int):max a b=if b>a then b else a:=by
 rw[Int.max_def];split<;>split<;>omega
theorem PK (s:Sk)(q:Rq)(nP:Bool):eB s q nP=J2 s q nP (iN s.aQ q.to) (jN s.aQ q.to) (iL s.aQ q.to) (nA s.has q.to q.n):=by
 unfold eB J2;dsimp only
 rw[Yt,Yt];all_goals rfl
theorem IA (x:Rv)(l:List Pl):(gN x l).length≤l.length:=by
 unfold gN;rw[List.length_map];exact List.length_filter_le _ _
theorem vE (x:Rv)(l:List Pl):(bn x l).length≤l.length:=by
 unfold bn;rw[List.length_map];exact List.length_filter_le _ _
theorem CR (x:Rv)(l:List Pl):(jL x l).length≤l.length:=by
 unfold jL;rw[List.length_map];exact List.length_filter_le _ _
section
variable {k:Nat}
theorem Mv {y:Rv}(h:∀n,(setOf y.l.af y.l.w n).length≤k)(n now:Int):(bQ y n now).2.length≤k:=by
 unfold bQ;dsimp only
 split
 ·exact Nat.zero_le _
 exact Nat.le_trans (IA _ _) (h n)
theorem yh {y:Rv}(h:∀n,(setOf y.l.af y.l.w n).length≤k)(now:Int):(bO y now).2.length≤k:=by
 unfold bO;split
 ·exact Mv h _ _
 exact Nat.zero_le _
theorem Sj {y:Rv}(h:∀n,(setOf y.l.af y.l.w n).length≤k)(now:Int)(p:Pl):(lY y now p).2.length≤k:=by
 unfold lY;split
 ·exact Nat.zero_le _
 exact yh (y:={ y with has:=y.has++[p] }) h now
theorem Uy {y:Rv}(h:∀n,(setOf y.l.af y.l.w n).length≤k)(h2:∀n,(setOf y.af y.l.w n).length≤k)(now:Int)(r:Rs):(bX y now r).2.length≤k+k+1:=by
 unfold bX;split
 ·exact Nat.zero_le _
 split
 ·rw[Fj];split
  ·exact Nat.zero_le _
  unfold JX;split
  ·exact Nat.le_trans (Mv (by exact h) _ _) (by omega)
  split
  ·show 1≤k+k+1;omega
  exact Nat.zero_le _
 split
 ·unfold ny;split
  ·rw[List.length_append];have a1:=vE (aT y now r) (aj (aT y now r));have a2:(aj (aT y now r)).length≤k:=h2 y.n;have a3:=yh (y:=aT y now r) (k:=k) h now;omega
  split
  ·exact Nat.zero_le _
  split
  ·exact Nat.le_trans (Sj h _ _) (by omega)
  exact Nat.zero_le _
 split
 ·unfold fT;split
  ·exact Nat.le_trans (Sj h _ _) (by omega)
  split
  ·exact Nat.zero_le _
  split
  ·exact Nat.zero_le _
  exact Nat.zero_le _
 exact Nat.zero_le _
end
end Go.AX
end
section
namespace Go.AX
end Go.AX
end
section
namespace Go.AX
open Go.ChangeShapes Go.WideShapes Go.RowKit
section
variable {H:Type}{enc:TypeId×Value→H}{P:Program}
theorem xh (hl:laidOutB P=true){W W':World}(hb:Below W.heap.size W W'){sp:Nat→Bool}:∀{ts:List TypeId} {vs:List Value} {ds:List (DataW H)} {ps:List MemPlace},
  (∀t∈ts,P.readableRec t=true∧t<P.types.size)→DataW.TrodAll enc P W 0 (fun _=>true) true ts vs ds ps→(∀p∈ps,p.block<W.heap.size)→(∀p∈ps,sp p.block=true) →
  DataW.TrodAll enc P W' 0 sp true ts vs ds ps
 |[],[],[],_,_,h,_,_=>h
 |[],_::_,_,_,_,h,_,_=>h.elim
 |[],[],_::_,_,_,h,_,_=>h.elim
 |_::_,[],_,_,_,h,_,_=>h.elim
 |_::_,_::_,[],_,_,h,_,_=>h.elim
 | t::ts,v::vs,d::ds,_,hr,h,hlt,hsp=>by
   obtain⟨p,q,h1,h2,rfl⟩:=h;have ht:=hr t (by simp);exact⟨p,q,WideElems.Trod_stays hl ht.1 ht.2 h1 (fun x hx=>hb.same (hlt x (by simp[hx]))) (fun x hx=>hsp x (by simp[hx])),
    xh hl hb (fun t' ht'=>hr t' (by simp[ht'])) h2 (fun x hx=>hlt x (by simp[hx])) (fun x hx=>hsp x (by simp[hx])),rfl⟩
theorem XC {f:FuncId}{fn:Func}{s:ChangeSpec}{W:World}{args:Array Value}{ds gs:List (DataW H)}{before:List MemPlace}{pvs:List PV}{bt:TypeId}
  (hl:laidOutB P=true) (hrd:(fn.params.toList.all fun t=>P.readableRec t&&decide (t<P.types.size))=true) (hrt:fn.resultTypes = #[bt]) (hbt:P.underlying bt=some .bool)
  (hvars:s.vars=[]) (hfn:s.fn H (ds++gs)={ results:=[.lit (.bool true)],args:=ds })
  (hW:DataW.Whole enc P fn.params.toList s.vars false W args.toList ds gs before) (hc:dB P f pvs (.sc (.bool true))) (hr:eY N0 W pvs args.toList) :
  Calls P f args W fun e W'=>∃v,e=.returned v∧s.post enc P fn false true false false W args v W':=by
 refine (hc.2 N0 W args (fun r h=>h.elim) hr).mono fun e W' ⟨v,r,he,hq,hrep,hsame⟩=>⟨v,he,?_⟩
 subst hq;simp only[bJ] at hrep;subst hrep;have hb:Below W.heap.size W W':=⟨hsame.os,hsame.tape,hsame.output,hsame.size,fun k hk=>hsame.keep k hk id⟩;have hold:∀p∈before,(fun b=>decide (b<W.heap.size)) p.block=true:=fun p hp=>by simpa using hW.lt p hp
 have aev:∀p∈before,p.block<W.heap.size:=fun p hp=>hW.lt p hp
 have hW0:=hW;obtain⟨p,q,hA,hV,rfl,hz,hn⟩:=hW;rw[hvars] at hV;obtain⟨rfl,rfl⟩:=trodVars_none hV;simp only[List.append_nil] at aev hold hz hn hW0 hfn;have hres:∀(b:Nat) (sp:Nat→Bool) (hd:Bool),DataW.TrodAll enc P W' b sp hd fn.resultTypes.toList ((Value.bool true).resultList fn.resultTypes.size) (s.fn H (ds++[])).results []:=by
  intro b sp hd;simp only[List.append_nil,hfn,hrt];exact trodAll_mk1 (shut_bool hbt true)
 have hargs:∀sp:Nat→Bool,(∀x∈p,sp x.block=true)→DataW.TrodAll enc P W' 0 sp true fn.params.toList args.toList (s.fn H (ds++[])).args p:=by
  intro sp hsp;simp only[List.append_nil,hfn];exact xh hl hb (fun t ht=>by simpa using List.all_eq_true.1 hrd t ht) hA aev hsp
 have hvv:∀sp:Nat→Bool,DataW.TrodVars enc P W' sp s.vars (s.fn H (ds++[])).vars []:=by
  intro sp;simp only[List.append_nil,hfn,hvars];exact rfl
 refine⟨ds,[],p,[],p,[],hW0,hres _ _ _,hargs _ hold,hvv _,hb.frame _,fun _=>?_⟩;refine⟨ok_one hrt rfl (okWide_bool_mk hbt true),_,_,([]++p)++[],⟨[]++p,[],trodAll_append (hargs _ (fun _ _=>rfl)) (hres _ _ _),hvv _,rfl,?_,?_⟩,?_⟩
 ·intro b off hp;simp only[List.nil_append,List.append_nil] at hp;have:=aev _ hp;rw[hb.frozen (p:=⟨b,off,none⟩) this];exact hz b off hp
 ·intro ha;simpa using hn ha
 intro x hx _;simpa using hx
end
theorem zw {α:Type}{c:α→List PV}{R:α→Prop}:∀{rows:List (List PV)},(∀r∈rows,∃x:α,r=c x∧R x)→∃l:List α,rows=l.map c∧∀x∈l,R x
 |[],_=>⟨[],rfl,by simp⟩
 | r::rows,h=>by
   obtain⟨x,rfl,hx⟩:=h r (by simp);obtain⟨l,rfl,hl⟩:=zw (rows:=rows) (c:=c) (R:=R) fun r hr=>h r (by simp[hr])
   exact⟨x::l,rfl,by simpa using ⟨hx,hl⟩⟩
theorem wf_i64 {i:Int}(h:(Lit.int .i64 i).wf=true) : -9223372036854775808≤i∧i≤9223372036854775807:=by
 simpa[Lit.wf,IntKind.min,IntKind.max,IntKind.signed,IntKind.bits] using h
theorem wf_u64 {i:Int}(h:(Lit.int .u64 i).wf=true):0≤i∧i≤18446744073709551615:=by
 simpa[Lit.wf,IntKind.min,IntKind.max,IntKind.signed,IntKind.bits] using h
theorem wf_u8 {i:Int}(h:(Lit.int .u8 i).wf=true):0≤i∧i≤255:=by
 simpa[Lit.wf,IntKind.min,IntKind.max,IntKind.signed,IntKind.bits] using h
end Go.AX
end
