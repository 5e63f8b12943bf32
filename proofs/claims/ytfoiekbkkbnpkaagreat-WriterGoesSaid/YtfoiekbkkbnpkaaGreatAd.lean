/-
  Conditions: none. A framework for walks: abstract values, memory, and conditions that suffice; the chapters in plain terms.
-/
import Derived.Test.YtfoiekbkkbnpkaaGreatAc
import Derived.Test.YtfoiekbkkbnpkaaGreatAb
import Derived.OrdersIn
import Derived.RangeFuncNested
set_option linter.unusedSectionVars false
set_option linter.unusedVariables false
set_option linter.unusedSimpArgs false
section
namespace Go.AX
section
variable {c:Ctx}{R:Real}{s:AS}{a:Act}{w:World}
theorem sI {b:Nat}{e:TypeId}{ver st j:Nat}{ed:TypeId}{sd:Nat}{pre post:List (Bool×List PV)}{row:List AV}(hb:lk s.hp b=some (.fZ e ver st j ed sd pre row post)){r:Nat}(h:qA R b r):owned R s.hp r:=
 ⟨b,by rw[hb];exact .inr h⟩
theorem vC (g:aS c R s a w){b:Nat}{e:TypeId}{ver st j:Nat}{ed:TypeId}{sd:Nat}{pre post:List (Bool×List PV)}{row:List AV}(hb:lk s.hp b=some (.fZ e ver st j ed sd pre row post)){r:Nat}(h:qA R b r) :
  ∃cur,w.heap[r]? = some (.cells cur ed (0,0)):=by
 obtain⟨xs,hs1,hs2,a1,a2,a3,a4,a5,a6,a7⟩:=g.boxes b _ hb;obtain⟨v,hv,hr⟩:=h;rw[a1] at hv;rcases List.mem_append.1 hv with hv|hv
 ·exact vB a3 v hv r hr
 exact vB a6 v hv r hr
def cF (c:Ctx)(R:Real)(s:AS)(w:World)(b:Nat)(h:∀r,c.F r∨qA R b r→r<w.heap.size)(hl:c.lo≤w.heap.size):Ctx:=
 { c with F:=fun r=>c.F r∨qA R b r,O:=fun r=>owned R s.hp r∧¬qA R b r,w:=w,hF:=h }
theorem pE (g:aS c R s a w){b:Nat}{e:TypeId}{ver st j:Nat}{ed:TypeId}{sd:Nat}{pre post:List (Bool×List PV)}{row:List AV}(hb:lk s.hp b=some (.fZ e ver st j ed sd pre row post)) :
  ∀r,c.F r∨qA R b r→r<w.heap.size:=by
 rintro r (h|h)
 ·exact Nat.lt_of_lt_of_le (c.hF r h) g.iE.size
 obtain⟨cur,h⟩:=vC g hb h;exact size_of_getElem? h
def ni (pre:List (Bool×List PV))(row:List AV)(post:List (Bool×List PV)):Nat:=pre.length+(fA row+post.length)
theorem aS.Gm (g:aS c R s a w){b:Nat}{e:TypeId}{ver st j:Nat}{ed:TypeId}{sd:Nat}{pre post:List (Bool×List PV)}{row:List AV}(hb:lk s.hp b=some (.fZ e ver st j ed sd pre row post)) :
  ∃(xs:List Value) (hs1 hs2:List (Option Value)),(R.cap b).2=hs1++hs2∧xs.length=ni pre row post*st∧fB (aG c R s.hp) w st j ed sd hs1 pre xs∧row.length=fA row*st ∧
   bN (aG c R s.hp) w s.hp R row ((xs.drop (pre.length*st)).take (fA row*st))∧fB (aG c R s.hp) w st j ed sd hs2 post ((xs.drop (pre.length*st)).drop (fA row*st))∧Dc R b ∧
   aS (cF c R s w b (pE g hb) g.lo.2.2) R (s.app [(b,.arr e ver st (aR st (ni pre row post) xs))]) a w ∧
   (∀u x,ai (aG c R s.hp) w s.hp R u x→ai (aG (cF c R s w b (pE g hb) g.lo.2.2) R ((b,.arr e ver st (aR st (ni pre row post) xs))::s.hp)) w ((b,.arr e ver st (aR st (ni pre row post) xs))::s.hp) R u x):=by
 obtain⟨xs,hs1,hs2,a1,a2,a3,a4,a5,a6,a7⟩:=g.boxes b _ hb;have hlen:xs.length=ni pre row post*st:=a2.1;refine⟨xs,hs1,hs2,a1,hlen,a3,a4,a5,a6,a7,?_⟩;obtain⟨o1,o2,o3⟩:=sH a3;obtain⟨p1,p2,p3⟩:=sH a6;have hone:∀v∈xs,v.oneCell'=true:=by
  intro v hv;rw[←List.take_append_drop (pre.length*st) xs] at hv;rcases List.mem_append.1 hv with hv|hv
  ·exact o3 v hv
  rw[←List.take_append_drop (fA row*st) (xs.drop (pre.length*st))] at hv;rcases List.mem_append.1 hv with hv|hv
  ·exact ((aW _ _ _ _ _ _).1 a5).one v hv
  have:post.length*st=((xs.drop (pre.length*st)).drop (fA row*st)).length:=by
   rw[List.length_drop,List.length_drop,hlen];unfold ni;rw[Nat.add_mul,Nat.add_mul];omega
  exact p3 v (by rw[this,List.take_length];exact hv)
 obtain⟨aV,hbx⟩:∃aV,aV=au.arr e ver st (aR st (ni pre row post) xs):=⟨_,rfl⟩;rw[←hbx];have qL:lk ((b,aV)::s.hp) b=some aV:=by rw[ak,if_pos rfl]
 have qg:∀b',b'≠b→lk ((b,aV)::s.hp) b'=lk s.hp b':=fun b' h=>by rw[ak,if_neg (fun e=>h e.symm)]
 have ow:∀b' r,ax R b' r (lk ((b,aV)::s.hp) b')→ax R b' r (lk s.hp b')∧¬qA R b r:=by
  intro b' r h;by_cases e1:b'=b
  ·subst e1;rw[qL,hbx] at h;simp only[ax] at h;refine⟨by rw[hb];exact .inl h,fun⟨v,hv,hr⟩=>a7.2 v r hv hr h.1 h.2⟩
  rw[qg b' e1] at h;refine⟨h,fun hp=>e1 ?_⟩;exact g.inj b' b r h (by rw[hb];exact .inr hp)
 have ow2:∀b' r,ax R b' r (lk s.hp b')→ax R b' r (lk ((b,aV)::s.hp) b')∨qA R b r:=by
  intro b' r h;by_cases e1:b'=b
  ·subst e1;rw[hb] at h;rw[qL,hbx];rcases h with h|h
   ·exact .inl h
   exact .inr h
  rw[qg b' e1];exact .inl h
 have hN:∀r,aG (cF c R s w b (pE g hb) g.lo.2.2) R ((b,aV)::s.hp) r↔aG c R s.hp r:=by
  intro r;constructor
  ·rintro ((h|h)|⟨b',h⟩)
   ·exact .inl h
   ·exact .inr (sI hb h)
   exact .inr ⟨b',(ow b' r h).1⟩
  rintro (h|⟨b',h⟩)
  ·exact .inl (.inl h)
  rcases ow2 b' r h with h|h
  ·exact .inr ⟨b',h⟩
  exact .inl (.inr h)
 have q1:∀b' off v,aH R b' off v (lk s.hp b')→aH R b' off v (lk ((b,aV)::s.hp) b'):=fun b' off v h=>by
  by_cases e1:b'=b
  ·subst e1;rw[hb] at h;exact h.elim
  rw[qg b' e1];exact h
 have hcl:(aR st (ni pre row post) xs).length=pre.length+(fA row+post.length):=iO _ _ _;have q2:∀b' ver v,aD R b' ver v (lk s.hp b')→aD R b' ver v (lk ((b,aV)::s.hp) b'):=fun b' ver v h=>by
  by_cases e1:b'=b
  ·subst e1;rw[hb] at h;rw[qL,hbx];simp only[aD,hcl] at h ⊢;exact h
  rw[qg b' e1];exact h
 have q3:∀b' ver i off v,aJ R b' ver i off v (lk s.hp b')→aJ R b' ver i off v (lk ((b,aV)::s.hp) b'):=fun b' ver i off v h=>by
  by_cases e1:b'=b
  ·subst e1;rw[hb] at h;rw[qL,hbx];simp only[aJ] at h ⊢;exact h
  rw[qg b' e1];exact h
 have hm:∀u x,ai (aG c R s.hp) w s.hp R u x→ai (aG (cF c R s w b (pE g hb) g.lo.2.2) R ((b,aV)::s.hp)) w ((b,aV)::s.hp) R u x:=
  fun u x h=>bP (fun r _ hr=>(hN r).1 hr) (fun _ _ _=>rfl) q1 q2 q3 u x h
 have hod:∀r,owned R ((b,aV)::s.hp) r→owned R s.hp r∧¬qA R b r:=fun r ⟨b',h⟩=>⟨⟨b',(ow b' r h).1⟩,(ow b' r h).2⟩
 refine⟨⟨?_,g.size,g.lo,?_,?_,?_,?_,?_,kK.refl _ _,?_,?_⟩,hm⟩
 ·intro t v hv;obtain⟨x,hx,hr⟩:=g.slots t v hv;exact⟨x,hx,hm _ _ hr⟩
 ·obtain⟨Ds,h⟩:=g.marks;exact⟨Ds,h.low,h.eq,h.nodup,h.obj,fun D hD hx=>h.free D hD (hod D hx).1⟩
 ·exact⟨g.fixed.obj,fun r o hr hx=>g.fixed.free r o hr (hod r hx).1,g.fixed.nc⟩
 ·intro b' bx hl;by_cases e1:b'=b
  ·subst e1;have hl':lk ((b',aV)::s.hp) b'=some bx:=hl;rw[qL] at hl';cases hl';subst hbx;refine⟨xs,by rw[hcl];exact a2,Cq (by rw[hlen];exact Nat.le_refl _) fun v hv=>hone v (List.mem_of_mem_take hv)⟩
  have hl':lk ((b,aV)::s.hp) b'=some bx:=hl;rw[qg b' e1] at hl';exact Cr (fun r hr=>(hN r).1 hr) q1 q2 q3 rfl rfl rfl rfl (g.boxes b' bx hl')
 ·intro b1 b2 r h1 h2;exact g.inj b1 b2 r (ow b1 r h1).1 (ow b2 r h2).1
 ·rintro r hx (hF|hp)
  ·exact g.free r (hod r hx).1 hF
  exact (hod r hx).2 hp
 ·intro r hx;exact .inl (hod r hx)
 intro v x hk;exact hm v x (g.kept v x hk)
def xA (R:Real)(b:Nat)(hs:List (Option Value)):Real:=
 { R with cap:=fun b'=>if b'=b then ((R.cap b).1,hs) else R.cap b' }
theorem V7 {R:Real}{b b':Nat}{hs:List (Option Value)}(h:b'≠b):(xA R b hs).cap b'=R.cap b':=by simp[xA,h]
theorem Tf {R:Real}{b b' n:Nat}{hs:List (Option Value)}:bO (xA R b hs) b' n=bO R b' n:=by
 by_cases h:b'=b
 ·subst h;simp[bO,xA]
 simp[bO,xA,h]
theorem aS.abk (g:aS c R s a w){b:Nat}{e:TypeId}{ver st j:Nat}{ed:TypeId}{sd:Nat}{pre post:List (Bool×List PV)}{row:List AV}(hb:lk s.hp b=some (.fZ e ver st j ed sd pre row post))
  {R1:Real} {s1:AS} {a1:Act} {w1:World} (g1:aS (cF c R s w b (pE g hb) g.lo.2.2) R1 s1 a1 w1) {e1:TypeId} {mK:Nat} {Tg:List (List PV)} (hb1:lk s1.hp b=some (.arr e1 mK st Tg))
  {hs1 hs2:List (Option Value)} {pre' post':List (Bool×List PV)} {row':List AV} (Yv:(R.cap b).2=hs1++hs2) (hl:Tg.length=ni pre' row' post') (hrl:row'.length=fA row'*st)
  (hD:Dc R b) (hDb:∀v r,some v∈(R.cap b).2→v.ownBlock=some r→R1.nil b=false→R1.blk b≠r)
  (hH:∀ys,ys.length=ni pre' row' post'*st→bB (aG (cF c R s w b (pE g hb) g.lo.2.2) R1 s1.hp) w1 st Tg ys→fB (aG c R s.hp) w st j ed sd hs1 pre' ys ∧
   bN (aG (cF c R s w b (pE g hb) g.lo.2.2) R1 s1.hp) w1 s1.hp R1 row' ((ys.drop (pre'.length*st)).take (fA row'*st))∧fB (aG c R s.hp) w st j ed sd hs2 post' ((ys.drop (pre'.length*st)).drop (fA row'*st))) :
  aS c (xA R1 b (hs1++hs2)) (s1.app [(b,.fZ e1 mK st j ed sd pre' row' post')]) a1 w1 ∧
   ∀u x,ai (aG (cF c R s w b (pE g hb) g.lo.2.2) R1 s1.hp) w1 s1.hp R1 u x→ai (aG c (xA R1 b (hs1++hs2)) ((b,.fZ e1 mK st j ed sd pre' row' post')::s1.hp)) w1 ((b,.fZ e1 mK st j ed sd pre' row' post')::s1.hp) (xA R1 b (hs1++hs2)) u x:=by
 obtain⟨C,hC⟩:∃C,C=cF c R s w b (pE g hb) g.lo.2.2:=⟨_,rfl⟩;have ZH:∀r,C.F r↔c.F r∨qA R b r:=fun r=>by rw[hC];exact Iff.rfl
 have hCO:∀r,C.O r↔owned R s.hp r∧¬qA R b r:=fun r=>by rw[hC];exact Iff.rfl
 have hCw:C.w=w:=by rw[hC];rfl
 have hCK:C.K=c.K:=by rw[hC];rfl
 have abn:C.fix=c.fix:=by rw[hC];rfl
 have abo:C.lo=c.lo:=by rw[hC];rfl
 have hCn:C.n=c.n:=by rw[hC];rfl
 have adX:C.n0=c.n0:=by rw[hC];rfl
 rw[←hC] at g1 hH ⊢;obtain⟨R2,ZI⟩:∃R2,R2=xA R1 b (hs1++hs2):=⟨_,rfl⟩;rw[←ZI];have XC:∀r,qA R2 b r↔qA R b r:=fun r=>by subst ZI;unfold qA;rw[Yv];simp[xA]
 have hRb:R2.blk=R1.blk∧R2.nil=R1.nil∧R2.Y=R1.Y:=by subst ZI;exact⟨rfl,rfl,rfl⟩
 have hRc:∀b',b'≠b→R2.cap b'=R1.cap b':=fun b' h=>by subst ZI;exact V7 h
 have hsl:∀b' n,bO R2 b' n=bO R1 b' n:=fun b' n=>by subst ZI;exact Tf
 have hcap:(R2.cap b).2=hs1++hs2:=by subst ZI;simp[xA]
 obtain⟨aV,hbx⟩:∃aV,aV=au.fZ e1 mK st j ed sd pre' row' post':=⟨_,rfl⟩;rw[←hbx];have qL:lk ((b,aV)::s1.hp) b=some aV:=by rw[ak,if_pos rfl]
 have qg:∀b',b'≠b→lk ((b,aV)::s1.hp) b'=lk s1.hp b':=fun b' h=>by rw[ak,if_neg (fun e=>h e.symm)]
 have oc:∀b' r o,b'≠b→(ax R2 b' r o↔ax R1 b' r o):=by
  intro b' r o hne;cases o with
  |none=>exact Iff.rfl
  |some o=>cases o<;>simp only[ax,hRb.1,hRb.2.1,hRb.2.2,hRc b' hne]
 have ow:∀b' r,ax R2 b' r (lk ((b,aV)::s1.hp) b')→ax R1 b' r (lk s1.hp b')∨(b'=b∧qA R b r):=by
  intro b' r h;by_cases e1:b'=b
  ·subst e1;rw[qL,hbx] at h;rcases h with h|h
   ·rw[hb1];rw[hRb.1,hRb.2.1] at h;exact .inl h
   exact .inr ⟨rfl,(XC r).1 h⟩
  rw[qg b' e1] at h;exact .inl ((oc b' r _ e1).1 h)
 have ow2:∀b' r,ax R1 b' r (lk s1.hp b')→ax R2 b' r (lk ((b,aV)::s1.hp) b'):=by
  intro b' r h;by_cases e1:b'=b
  ·subst e1;rw[hb1] at h;rw[qL,hbx];exact .inl (by rw[hRb.1,hRb.2.1];exact h)
  rw[qg b' e1];exact (oc b' r _ e1).2 h
 have ow3:∀r,qA R b r→ax R2 b r (lk ((b,aV)::s1.hp) b):=fun r h=>by rw[qL,hbx];exact .inr ((XC r).2 h)
 have hN:∀r,aG c R2 ((b,aV)::s1.hp) r↔aG C R1 s1.hp r:=by
  intro r;constructor
  ·rintro (h|⟨b',h⟩)
   ·exact .inl ((ZH r).2 (.inl h))
   rcases ow b' r h with h|⟨_,h⟩
   ·exact .inr ⟨b',h⟩
   exact .inl ((ZH r).2 (.inr h))
  rintro (h|⟨b',h⟩)
  ·rcases (ZH r).1 h with h|h
   ·exact .inl h
   exact .inr ⟨b,ow3 r h⟩
  exact .inr ⟨b',ow2 b' r h⟩
 have q1:∀b' off v,aH R1 b' off v (lk s1.hp b')→aH R2 b' off v (lk ((b,aV)::s1.hp) b'):=fun b' off v h=>by
  by_cases e1:b'=b
  ·subst e1;rw[hb1] at h;exact h.elim
  rw[qg b' e1];exact jT ⟨by rw[hRb.1],by rw[hRb.2.1],hRc b' e1⟩ h
 have q2:∀b' ver v,aD R1 b' ver v (lk s1.hp b')→aD R2 b' ver v (lk ((b,aV)::s1.hp) b'):=fun b' ver v h=>by
  by_cases e1:b'=b
  ·subst e1;rw[hb1] at h;rw[qL,hbx];simp only[aD,hsl,hl] at h ⊢;exact h
  rw[qg b' e1];exact kR ⟨by rw[hRb.1],by rw[hRb.2.1],hRc b' e1⟩ h
 have q3:∀b' ver i off v,aJ R1 b' ver i off v (lk s1.hp b')→aJ R2 b' ver i off v (lk ((b,aV)::s1.hp) b'):=fun b' ver i off v h=>by
  by_cases e1:b'=b
  ·subst e1;rw[hb1] at h;rw[qL,hbx];simp only[aJ,hRb.1,hRb.2.1] at h ⊢;exact h
  rw[qg b' e1];exact kS ⟨by rw[hRb.1],by rw[hRb.2.1],hRc b' e1⟩ h
 have hm:∀u x,ai (aG C R1 s1.hp) w1 s1.hp R1 u x→ai (aG c R2 ((b,aV)::s1.hp)) w1 ((b,aV)::s1.hp) R2 u x:=
  fun u x h=>bP (fun r _ hr=>(hN r).1 hr) (fun _ _ _=>rfl) q1 q2 q3 u x h
 have hev:=g1.iE;rw[hCw] at hev;have hpw:∀r,qA R b r→w1.heap[r]? = w.heap[r]? :=fun r h=>by
  obtain⟨cur,hc⟩:=vC g hb h;exact hev.keep r (size_of_getElem? hc) fun hO=>((hCO r).1 hO).2 h
 have hod:∀r,owned R2 ((b,aV)::s1.hp) r→owned R1 s1.hp r∨qA R b r:=fun r ⟨b',h⟩=>(ow b' r h).imp (fun h=>⟨b',h⟩) (·.2)
 have hnp:∀r,owned R1 s1.hp r→¬qA R b r:=fun r h hp=>g1.free r h ((ZH r).2 (.inr hp))
 have hNw:∀r,r<w.heap.size→aG c R2 ((b,aV)::s1.hp) r→aG c R s.hp r:=by
  intro r hr h;rcases (hN r).1 h with h|h
  ·rcases (ZH r).1 h with h|h
   ·exact .inl h
   exact .inr (sI hb h)
  rcases g1.fG r h with h|h
  ·exact .inr ((hCO r).1 h).1
  rw[hCw] at h;omega
 have hww:∀r,r<w.heap.size→¬aG c R s.hp r→w1.heap[r]? = w.heap[r]? :=fun r hr hn=>hev.keep r hr fun hO=>hn (.inr ((hCO r).1 hO).1)
 refine⟨⟨?_,by rw[←hCn];exact g1.size,?_,?_,?_,?_,?_,?_,?_,?_,?_⟩,hm⟩
 ·intro t v hv;obtain⟨x,hx,hr⟩:=g1.slots t v hv;exact⟨x,hx,hm _ _ hr⟩
 ·rw[hRb.2.2,←adX,←abo];exact g1.lo
 ·obtain⟨Ds,h⟩:=g1.marks;rw[abo] at h;refine⟨Ds,h.low,h.eq,h.nodup,h.obj,fun D hD hx=>?_⟩;rcases hod D hx with hx|hx
  ·exact h.free D hD hx
  obtain⟨cur,hc⟩:=vC g hb hx;have:=h.obj D hD;rw[hpw D hx,hc] at this;cases this
 ·have X6:=g1.fixed;rw[abn] at X6;refine⟨X6.obj,fun r o hr hx=>?_,X6.nc⟩;rcases hod r hx with hx|hx
  ·exact X6.free r o hr hx
  exact g.fixed.free r o hr (sI hb hx)
 ·intro b' bx hlk;have hlk:lk ((b,aV)::s1.hp) b'=some bx:=hlk;by_cases e1:b'=b
  ·subst e1;rw[qL] at hlk;cases hlk;subst hbx;obtain⟨ys,k1,k2⟩:=g1.boxes b' _ hb1;rw[hl] at k1;obtain⟨m1,m2,m3⟩:=hH ys k1.1 k2;have hkb:∀v,some v∈hs1++hs2→∀k,v.ownBlock=some k→w1.heap[k]? = w.heap[k]? :=fun v hv k hk=>hpw k ⟨v,by rw[Yv];exact hv,hk⟩
   refine⟨ys,hs1,hs2,hcap,by rw[hsl];exact k1,oM hNw hww (fun v hv k hk=>hkb v (by simp[hv]) k hk) m1,hrl,?_,oM hNw hww (fun v hv k hk=>hkb v (by simp[hv]) k hk) m3,?_⟩
   ·exact aY (fun r _ hr=>(hN r).1 hr) (fun _ _ _=>rfl) q1 q2 q3 _ _ m2
   unfold Dc at hD ⊢;rw[hcap,hRb.1,hRb.2.1,←Yv];exact⟨hD.1,hDb⟩
  rw[qg b' e1] at hlk;exact Cr (fun r hr=>(hN r).1 hr) q1 q2 q3 hRb.2.2 (by rw[hRb.1]) (by rw[hRb.2.1]) (hRc b' e1) (g1.boxes b' bx hlk)
 ·intro b1 b2 r h1 h2;rcases ow b1 r h1 with k1|⟨e1,k1⟩<;>rcases ow b2 r h2 with k2|⟨e2,k2⟩
  ·exact g1.inj b1 b2 r k1 k2
  ·exact absurd k2 (hnp r ⟨b1,k1⟩)
  ·exact absurd k1 (hnp r ⟨b2,k2⟩)
  rw[e1,e2]
 ·intro r hx hF;rcases hod r hx with hx|hx
  ·exact g1.free r hx ((ZH r).2 (.inl hF))
  exact g.free r (sI hb hx) hF
 ·refine g.iE.trans hev fun r hr hO=>?_
  exact (g.fG r ((hCO r).1 hO).1).resolve_right (by omega)
 ·intro r hx;rcases hod r hx with hx|hx
  ·rcases g1.fG r hx with h|h
   ·exact g.fG r ((hCO r).1 h).1
   rw[hCw] at h;exact .inr (Nat.le_trans g.iE.size h)
  exact g.fG r (sI hb hx)
 intro v x hk;exact hm v x (g1.kept v x (by rw[hCK];exact hk))
end
theorem Cs (st:Nat):∀(n m:Nat) (xs:List Value),aR st (n+m) xs=aR st n xs++aR st m (xs.drop (n*st))
 |0,m,xs=>by simp[aR]
 | n+1,m,xs=>by
   rw[show n+1+m=(n+m)+1 by omega];simp only[aR,List.cons_append,Cs st n m,List.drop_drop];rw[show st+n*st=(n+1)*st by rw[Nat.succ_mul];omega]
section
variable {c:Ctx}{R:Real}{s:AS}{a:Act}{w:World}
theorem aS.Y0 (g:aS c R s a w){b:Nat}{e:TypeId}{ver st j:Nat}{ed:TypeId}{sd:Nat}{pre post:List (Bool×List PV)}{r0:AV}{rr:List AV}(hb:lk s.hp b=some (.fZ e ver st j ed sd pre (r0::rr) post)) :
  ∃(xs zs:List Value) (hs1 hs2:List (Option Value)),(R.cap b).2=hs1++hs2∧pre.length*st≤xs.length∧post.length*st≤zs.length∧fB (aG c R s.hp) w st j ed sd hs1 pre xs∧(r0::rr).length=st ∧
   fB (aG c R s.hp) w st j ed sd hs2 post zs∧Dc R b ∧
   aS (cF c R s w b (pE g hb) g.lo.2.2) R (s.app [(b,.dX e ver st (aR st pre.length xs) (r0::rr) (aR st post.length zs))]) a w ∧
   (∀u x,ai (aG c R s.hp) w s.hp R u x→ai (aG (cF c R s w b (pE g hb) g.lo.2.2) R ((b,.dX e ver st (aR st pre.length xs) (r0::rr) (aR st post.length zs))::s.hp)) w ((b,.dX e ver st (aR st pre.length xs) (r0::rr) (aR st post.length zs))::s.hp) R u x):=by
 obtain⟨xs,hs1,hs2,a1,hlen,a3,a4,a5,a6,a7,g1,m1⟩:=g.Gm hb;simp only[fA,Nat.one_mul] at a4 a5 a6;have hn:ni pre (r0::rr) post=pre.length+(post.length+1):=by simp only[ni,fA];omega
 have hch:aR st (ni pre (r0::rr) post) xs=aR st pre.length xs++dQ ((xs.drop (pre.length*st)).take st)::aR st post.length ((xs.drop (pre.length*st)).drop st):=by
  rw[hn,Cs];rfl
 rw[hch] at g1 m1;obtain⟨o1,o2,o3⟩:=sH a3;obtain⟨p1,p2,p3⟩:=sH a6;have hb1:lk (s.app [(b,.arr e ver st (aR st pre.length xs++dQ ((xs.drop (pre.length*st)).take st)::aR st post.length ((xs.drop (pre.length*st)).drop st)))]).hp b=some (.arr e ver st (aR st pre.length xs++dQ ((xs.drop (pre.length*st)).take st)::aR st post.length ((xs.drop (pre.length*st)).drop st))):=by
  simp only[AS.app,List.singleton_append,ak,if_true]
 have hrow:=m1 (.agg (r0::rr)) (.agg ((xs.drop (pre.length*st)).take st).toArray) (by simp only[ai];exact⟨_,rfl,by simpa using a5⟩);simp only[ai] at hrow;obtain⟨us,e1,hrow⟩:=hrow;cases e1;obtain⟨g2,m2⟩:=aS.EO (row:=r0::rr) g1 hb1 hrow;have hc:∀k,lk ((b,au.dX e ver st (aR st pre.length xs) (r0::rr) (aR st post.length ((xs.drop (pre.length*st)).drop st)))::s.hp) k =
   lk ((b,au.dX e ver st (aR st pre.length xs) (r0::rr) (aR st post.length ((xs.drop (pre.length*st)).drop st)))::(s.app [(b,.arr e ver st (aR st pre.length xs++dQ ((xs.drop (pre.length*st)).take st)::aR st post.length ((xs.drop (pre.length*st)).drop st)))]).hp) k:=by
  intro k;simp only[AS.app,List.singleton_append,ak];split<;>rfl
 exact⟨xs,(xs.drop (pre.length*st)).drop st,hs1,hs2,a1,o2,p2,a3,a4,a6,a7,aS.congr g2 (fun _=>rfl) hc,fun u x h=>tY hc (m2 u x (m1 u x h))⟩
theorem aS.Ti (g:aS c R s a w){b:Nat}{e:TypeId}{ver st j:Nat}{ed:TypeId}{sd:Nat}{pre post:List (Bool×List PV)}{row:List AV}(hb:lk s.hp b=some (.fZ e ver st j ed sd pre row post))
  {R1:Real} {s1:AS} {a1:Act} {w1:World} (g1:aS (cF c R s w b (pE g hb) g.lo.2.2) R1 s1 a1 w1) {e1:TypeId} {mK:Nat} {pre' post':List (Bool×List PV)} {r0:AV} {rr:List AV} {xs zs:List Value}
  (hb1:lk s1.hp b=some (.dX e1 mK st (aR st pre'.length xs) (r0::rr) (aR st post'.length zs)))
  {hs1 hs2:List (Option Value)} (Yv:(R.cap b).2=hs1++hs2) (hD:Dc R b) (hDb:∀v r,some v∈(R.cap b).2→v.ownBlock=some r→R1.nil b=false→R1.blk b≠r)
  (hx:pre'.length*st≤xs.length) (hz:post'.length*st≤zs.length) (h1:fB (aG c R s.hp) w st j ed sd hs1 pre' xs) (h2:fB (aG c R s.hp) w st j ed sd hs2 post' zs) :
  aS c (xA R1 b (hs1++hs2)) (s1.app [(b,.fZ e1 mK st j ed sd pre' (r0::rr) post')]) a1 w1 ∧
   ∀u x,ai (aG (cF c R s w b (pE g hb) g.lo.2.2) R1 s1.hp) w1 s1.hp R1 u x→ai (aG c (xA R1 b (hs1++hs2)) ((b,.fZ e1 mK st j ed sd pre' (r0::rr) post')::s1.hp)) w1 ((b,.fZ e1 mK st j ed sd pre' (r0::rr) post')::s1.hp) (xA R1 b (hs1++hs2)) u x:=by
 have hst:(r0::rr).length=st:=(g1.boxes b _ hb1).choose_spec.2.2.1;obtain⟨vs,hrow,hvl,g2,m2⟩:=g1.qz hb1;have hb2:lk (s1.app [(b,.arr e1 mK st (aR st pre'.length xs++dQ vs::aR st post'.length zs))]).hp b=some (.arr e1 mK st (aR st pre'.length xs++dQ vs::aR st post'.length zs)):=by
  simp only[AS.app,List.singleton_append,ak,if_true]
 have hrow2:=m2 (.agg (r0::rr)) (.agg vs.toArray) (by simp only[ai];exact⟨_,rfl,by simpa using hrow⟩);simp only[ai] at hrow2;obtain⟨us,e2,hrow2⟩:=hrow2;cases e2;obtain⟨g3,m3⟩:=aS.abk g hb g2 hb2 (hs1:=hs1) (hs2:=hs2) (pre':=pre') (post':=post') (row':=r0::rr) Yv (by simp only[List.length_append,List.length_cons,iO,ni,fA];omega) (by simpa[fA] using hst) hD hDb (by
  intro ys hys hr;obtain⟨b1,b2,b3,b4⟩:=xh hr;rw[iO] at b3 b4;obtain⟨r,hr'⟩:=Cg _ _ b3;refine⟨xw h1 (yN hx b1),?_,xw h2 (by simp only[fA,Nat.one_mul];exact yN hz b4)⟩;rw[hr'];simp only[fA,Nat.one_mul];rw[show (vs++r).take st=vs by rw[←hvl];exact List.take_left];exact hrow2)
 have hc:∀k,lk ((b,au.fZ e1 mK st j ed sd pre' (r0::rr) post')::s1.hp) k=lk ((b,au.fZ e1 mK st j ed sd pre' (r0::rr) post')::(s1.app [(b,.arr e1 mK st (aR st pre'.length xs++dQ vs::aR st post'.length zs))]).hp) k:=by
  intro k;simp only[AS.app,List.singleton_append,ak];split<;>rfl
 exact⟨aS.congr g3 (fun _=>rfl) hc,fun u x h=>tY hc (m3 u x (m2 u x h))⟩
end
def uO (T:Tab)(H:List (Nat×au))(t:TypeId)(x:AV)(K:AV→Prop):Prop:=
 match x with
 | .bU b ver k off=>match lk H b with
   | some (.fZ e v st j ed sd pre row post)=>match lk T t with
     | some i=>match Nat.beq ver v,Nat.beq i.size 0 with
       | true,false=>match part off i.size row with
         |some cs=>k=pre.length∧qd i cs K
         |none=>False
       |_,_=>False
     |none=>False
   |_=>rO T H t (.bU b ver k off) K
 |x=>rO T H t x K
def qa (T:Tab)(H:List (Nat×au))(t:TypeId)(x y:AV)(K:AV→List (Nat×au)→Prop):Prop:=
 match x with
 | .bU b ver k off=>match lk H b with
   | some (.fZ e v st j ed sd pre row post)=>match lk T t with
     | some i=>match Nat.beq ver v with
       | true=>match cellsOf i y with
         | some cs=>match Nat.beq cs.length i.size with
           | true=>match iT off row cs with
             |some (r0::rr)=>k=pre.length∧K (.pv (.sc undef)) [(b,.fZ e v st j ed sd pre (r0::rr) post)]
             |_=>False
           |false=>False
         |none=>False
       |false=>False
     |none=>False
   |_=>kN T H t (.bU b ver k off) y K
 |x=>kN T H t x y K
def KL (T:Tab)(H:List (Nat×au))(t:TypeId)(x ix:AV)(K:AV→Prop):Prop:=
 match x with
 | .aZ b ver=>match lk H b with
   | some (.fZ e v st j ed sd pre row post)=>match ix with
     | .pv (.sc (.int _ i))=>match lk T t with
       | some ti=>match ti.d with
         | .slt e=>match lk T e with
           | some ei=>match Nat.beq ver v,Nat.beq st ei.size with
             |true,true=>0≤i∧i.toNat<pre.length+(fA row+post.length)∧K (.bU b ver i.toNat 0)
             |_,_=>False
           |none=>False
         |_=>False
       |none=>False
     |_=>False
   |_=>H9 T H t (.aZ b ver) ix K
 |x=>H9 T H t x ix K
def Bp (T:Tab)(H:List (Nat×au))(t:TypeId)(x:AV)(K:AV→Prop):Prop:=
 match x with
 | .aZ b ver=>match lk H b with
   | some (.fZ e v st j ed sd pre row post)=>match lk T t with
     | some i=>match i.d with
       | .slt _=>match Nat.beq ver v with
         |true=>K (.pv (.sc (.int .i64 (pre.length+(fA row+post.length):Nat))))
         |false=>False
       |_=>False
     |none=>False
   |_=>zb T H t (.aZ b ver) K
 |x=>zb T H t x K
section
variable {P:Program}{T:Tab}{c:Ctx}{R:Real}{s:AS}{a:Act}{w:World}
theorem Pj {α:Type}{off:Nat}{row cs:List α}{x:List α}(h:iT off row cs=some x):x.length=row.length:=by
 induction off generalizing row x with
 | zero=>
   cases row with
   | nil=>
     cases cs with
     |nil=>simp[iT,iZ] at h;simp[←h]
     |cons c cs=>simp[iT,iZ] at h
   | cons r row=>
     simp only[iT] at h;have:∀(cs row x:List α),iZ row cs=some x→x.length=row.length:=by
      intro cs;induction cs with
      |nil=>intro row x h;cases row<;>simp[iZ] at h<;>simp[←h]
      | cons c cs ih=>
        intro row x h;cases row with
        |nil=>simp[iZ] at h
        | cons r row=>
          simp only[iZ] at h;split at h
          ·rename_i t ht;simp only[Option.some.injEq] at h;subst h;simp[ih _ _ ht]
          cases h
     exact this _ _ _ h
 | succ off ih=>
   cases row with
   |nil=>simp[iT] at h
   | cons r row=>
     simp only[iT] at h;split at h
     ·rename_i t ht;simp only[Option.some.injEq] at h;subst h;simp[ih ht]
     cases h
theorem FE (g:aS c R s a w)(hT:bA P T){H:List (Nat×au)}(hH:∀b box,lk H b=some box→lk s.hp b=some box){t:TypeId}{x:AV}{K:AV→Prop}
  (h:uO T H t x K) {u:Value} (hx:ai (aG c R s.hp) w s.hp R x u) :
  ∃y v,(Instr.loadAt t u).run P w=.ok y w∧K v∧ai (aG c R s.hp) w s.hp R v y:=by
 unfold uO at h;split at h
 ·rename_i b ver k off;split at h
  ·rename_i e v st j ed sd pre row post hb;have hb':=hH _ _ hb;split at h;rotate_left;cases h
   rename_i i hi;have hi':=hT t i hi;split at h;rotate_left;cases h
   rename_i dN hsz0;split at h;rotate_left;cases h
   rename_i cs hcs;obtain⟨rfl,h⟩:=h;simp only[ai,hb',aJ] at hx;obtain⟨hn,rfl⟩:=hx.2.2 (Nat.eq_of_beq_eq_true dN);cases hrw:row with
   | nil=>
     rw[hrw] at hcs;have:=Nat.ne_of_beq_eq_false hsz0;exfalso;have hz:=(FP.part (R:=fun _ _=>True) (m:=[]) (by simp only[FP]) hcs).1;simp only[List.length_nil] at hz;omega
   | cons r0 rr=>
     obtain⟨xs,hs1,hs2,a1,a2,a3,a4,a5,a6,a7⟩:=g.boxes b _ hb';have hO:fA row=1:=by rw[hrw];rfl
     simp only[hO,Nat.one_mul] at a2 a4 a5 a6;have hrow:=(aW _ _ _ _ _ _).1 a5;obtain⟨h1,h2⟩:=hrow.fp.part hcs;obtain⟨q1,q2⟩:=a2;rcases q2 with ⟨q2,q3⟩|⟨g',cap,cur,e1,_,hg,hle,hm,hs,ht⟩
     ·omega
     simp only[bO,hn,Bool.false_eq_true,if_false,Value.slice.injEq,Option.some.injEq,Addr.mk.injEq] at e1;obtain⟨⟨eb,_⟩,_,_⟩:=e1;rw[←eb] at hg;rw[List.length_take] at h1;have hcl:cur.size=cur.toList.length:=Array.length_toList.symm;have hle2:(pre.length+(1+post.length))*st≤cur.size:=by rw[hs];exact Nat.mul_le_mul_right _ hle
     have hmul:(pre.length+(1+post.length))*st=pre.length*st+(st+post.length*st):=by rw[Nat.add_mul,Nat.add_mul,Nat.one_mul]
     have hdd:(cur.toList.drop (pre.length*st+off)).take i.size=(((xs.drop (pre.length*st)).take st).drop off).take i.size:=by
      rw[←ht,hmul];simp only[List.drop_take,List.take_take,List.drop_drop];congr 1
      omega
     have hz:pre.length*st+off+i.size≤cur.size:=by omega
     obtain⟨y,z,k1,k2,k3⟩:=zH i hi' hg hz (by rw[hdd];exact h2) h;exact⟨y,z,by simpa[Instr.loadAt,Instr.sureAddr] using k1,k2,k3⟩
  exact xq g hT hH h hx
 exact xq g hT hH h hx
theorem Dn (g:aS c R s a w)(hT:bA P T){H:List (Nat×au)}(hH:∀b box,lk H b=some box→lk s.hp b=some box){t:TypeId}{x y:AV}
  {K:AV→List (Nat×au)→Prop} (h:qa T H t x y K) {u v:Value} (hx:ai (aG c R s.hp) w s.hp R x u) (hy:ai (aG c R s.hp) w s.hp R y v) :
  ∃w' R' ws,(Instr.storeAt t u v).run P w=.ok () w'∧K (.pv (.sc undef)) ws∧aS c R' (s.app ws) a w':=by
 unfold qa at h;split at h
 ·rename_i b ver k off;split at h
  ·rename_i e vr st j ed sd pre row post hb;have hb':=hH _ _ hb;split at h;rotate_left;cases h
   rename_i i hi;split at h;rotate_left;cases h
   rename_i dN;split at h;rotate_left;cases h
   rename_i cs hcs;split at h;rotate_left;cases h
   rename_i hlen;split at h;rotate_left;cases h
   rename_i r0 rr hset;obtain⟨rfl,hK⟩:=h;have hrl:=Pj hset;cases row with
   |nil=>simp at hrl
   | cons q0 qq=>
     obtain⟨xs,zs,hs1,hs2,a1,a2,a3,a4,a5,a6,a7,g1,m1⟩:=g.Y0 hb';have hb1:lk (s.app [(b,.dX e vr st (aR st pre.length xs) (q0::qq) (aR st post.length zs))]).hp b=some (.dX e vr st (aR st pre.length xs) (q0::qq) (aR st post.length zs)):=by
      simp only[AS.app,List.singleton_append,ak,if_true]
     have hst:kN T (s.app [(b,.dX e vr st (aR st pre.length xs) (q0::qq) (aR st post.length zs))]).hp t (.bU b ver pre.length off) y
       (fun z ws=>ws=[(b,.dX e vr st (aR st pre.length xs) (r0::rr) (aR st post.length zs))]):=by
      unfold kN;simp only[hi,hb1,dN,hcs,hlen,hset];exact⟨(iO _ _ _).symm,trivial⟩
     obtain⟨w',ws,hrun,rfl,g2⟩:=oq g1 hT (fun _ _ h=>h) hst (u:=u) (v:=v) (m1 _ _ hx) (m1 _ _ hy);have hb2:lk ([(b,au.dX e vr st (aR st pre.length xs) (r0::rr) (aR st post.length zs))]++(s.app [(b,.dX e vr st (aR st pre.length xs) (q0::qq) (aR st post.length zs))]).hp) b=some (.dX e vr st (aR st pre.length xs) (r0::rr) (aR st post.length zs)):=by
      rw[List.singleton_append,ak,if_pos rfl]
     obtain⟨g3,_⟩:=aS.Ti g hb' g2 (e1:=e) (mK:=vr) (pre':=pre) (post':=post) hb2 a1 a7 a7.2 a2 a3 a4 a6;refine⟨w',_,_,hrun,hK,aS.congr g3 (fun _=>rfl) fun k=>?_⟩;simp only[AS.app,List.singleton_append,ak];split<;>rfl
  obtain⟨w',ws,h1,h2,h3⟩:=oq g hT hH h hx hy;exact⟨w',R,ws,h1,h2,h3⟩
 obtain⟨w',ws,h1,h2,h3⟩:=oq g hT hH h hx hy;exact⟨w',R,ws,h1,h2,h3⟩
theorem Ll (g:aS c R s a w)(hT:bA P T){H:List (Nat×au)}(hH:∀b box,lk H b=some box→lk s.hp b=some box){t:TypeId}{x ix:AV}{K:AV→Prop}
  (h:KL T H t x ix K) {u v:Value} (hx:ai (aG c R s.hp) w s.hp R x u) (hv:ai (aG c R s.hp) w s.hp R ix v) :
  ∃y z,(Instr.indexAt t u v).run P w=.ok y w∧K z∧ai (aG c R s.hp) w s.hp R z y:=by
 unfold KL at h;split at h
 ·rename_i b ver;split at h
  ·rename_i e vr st j ed sd pre row post hb;have hb':=hH _ _ hb;split at h;rotate_left;cases h
   rename_i kk i;split at h;rotate_left;cases h
   rename_i ti Sb;split at h;rotate_left;cases h
   rename_i e2 hte;split at h;rotate_left;cases h
   rename_i ei ng;split at h;rotate_left;cases h
   rename_i h1 h2;obtain⟨h0,hlt,hK⟩:=h;obtain⟨xs,hs1,hs2,a1,hlen,a3,a4,a5,a6,a7,g1,m1⟩:=g.Gm hb';have vM:lk (s.app [(b,.arr e vr st (aR st (ni pre row post) xs))]).hp b=some (.arr e vr st (aR st (ni pre row post) xs)):=by
    simp only[AS.app,List.singleton_append,ak,if_true]
   have hi:dz T (s.app [(b,.arr e vr st (aR st (ni pre row post) xs))]).hp t (.aZ b ver) (.pv (.sc (.int kk i))) (fun z=>z=.bU b ver i.toNat 0):=by
    unfold dz;simp only[Sb,hte,ng,vM,h1,h2];exact⟨h0,by rw[iO];exact hlt,trivial⟩
   obtain⟨y,z,hrun,rfl,hz⟩:=iU g1 hT (fun _ _ h=>h) hi (m1 _ _ hx) (m1 _ _ hv);refine⟨y,_,hrun,hK,?_⟩;simp only[ai,vM,aJ] at hz;simp only[ai,hb',aJ];exact hz
  exact Cj g hT hH h hx hv
 exact Cj g hT hH h hx hv
theorem Jf (g:aS c R s a w)(hT:bA P T){H:List (Nat×au)}(hH:∀b box,lk H b=some box→lk s.hp b=some box){t ty:TypeId}{x:AV}{K:AV→Prop}
  (h:Bp T H t x K) {u:Value} (hx:ai (aG c R s.hp) w s.hp R x u) :
  ∃y z,(Builtin.len_ #[t] ty #[u]).run P w=.ok y w∧K z∧ai (aG c R s.hp) w s.hp R z y:=by
 unfold Bp at h;split at h
 ·rename_i b ver;split at h
  ·rename_i e vr st j ed sd pre row post hb;have hb':=hH _ _ hb;split at h;rotate_left;cases h
   rename_i i hi;split at h;rotate_left;cases h
   rename_i e2 hte;split at h;rotate_left;cases h
   rename_i h1;obtain⟨xs,hs1,hs2,a1,hlen,a3,a4,a5,a6,a7,g1,m1⟩:=g.Gm hb';have vM:lk (s.app [(b,.arr e vr st (aR st (ni pre row post) xs))]).hp b=some (.arr e vr st (aR st (ni pre row post) xs)):=by
    simp only[AS.app,List.singleton_append,ak,if_true]
   have hi:Bn T (s.app [(b,.arr e vr st (aR st (ni pre row post) xs))]).hp t (.aZ b ver) (fun z=>z=.pv (.sc (.int .i64 (pre.length+(fA row+post.length):Nat)))):=by
    unfold Bn;simp only[hi,hte,vw,vM,qQ,h1,iO];rfl
   obtain⟨y,z,hrun,rfl,hz⟩:=qo (ty:=ty) g1 hT (fun _ _ h=>h) hi (m1 _ _ hx);refine⟨y,_,hrun,h,?_⟩;simp only[ai,aU] at hz ⊢;exact hz
  exact zI g hT hH h hx
 exact zI g hT hH h hx
end
def Ef (T:Tab)(H:List (Nat×au))(t:TypeId)(b ver k kv:Nat)(K:AV→List (Nat×au)→Prop):Prop:=
 match lk H k with
 | some (.dX e0 v0 J6 [] (r0::rr) [])=>match Nat.beq kv v0 with
   | true=>match lk T t with
     | some i=>match i.d with
       | .slt e=>match lk T e with
         | some ei=>W9 ei fun nE GR=>match Nat.beq GR 0,Nat.beq nE 0,Nat.beq J6 nE with
           | false,false,true=>match Nat.beq b k with
             |true=>False
             | false=>match lk H b with
               | some (.fZ e' v st j ed sd pre [] [])=>match Nat.beq ver v,Nat.beq st nE,Nat.beq e' e with
                 |true,true,true=>(pre.length+1)*GR≤140737488355328∧K (.aZ b (v+1)) [(b,.fZ e (v+1) nE j ed sd pre (r0::rr) [])]
                 |_,_,_=>False
               |_=>False
           |_,_,_=>False
         |none=>False
       |_=>False
     |none=>False
   |false=>False
 |_=>False
def abq (o:Option au):Bool:=
 match o with
 |some (.fZ _ _ _ _ _ _ _ _ _)=>true
 |_=>false
def y5 (T:Tab)(H:List (Nat×au))(t:TypeId)(vs:List AV)(id:Nat)(K:AV→List (Nat×au)→Prop):Prop:=
 match vs with
 | [.aZ b ver,.aZ k kv]=>match abq (lk H b) with
   |true=>Ef T H t b ver k kv K
   |false=>uy T H t [.aZ b ver,.aZ k kv] id K
 |vs=>uy T H t vs id K
section
variable {P:Program}{T:Tab}{c:Ctx}{R:Real}{s:AS}{a:Act}{w:World}
theorem Jl (g:aS c R s a w)(hT:bA P T){H:List (Nat×au)}(hH:∀b box,lk H b=some box→lk s.hp b=some box){id:Nat}(hf:lk s.hp id=none)
  {t ty:TypeId} {b ver k kv:Nat} {K:AV→List (Nat×au)→Prop} (h:Ef T H t b ver k kv K) {u v:Value} (hd:ai (aG c R s.hp) w s.hp R (.aZ b ver) u) (hx:ai (aG c R s.hp) w s.hp R (.aZ k kv) v) :
  ∃y w' R' z ws,(Builtin.append_ #[t,t] ty #[u,v]).run P w=.ok y w'∧K z ws∧aS c R' (s.app ws) a w'∧ai (aG c R' (ws++s.hp)) w' (ws++s.hp) R' z y:=by
 unfold Ef at h;simp only[cK] at h;split at h;rotate_left;cases h
 rename_i e0 v0 J6 r0 rr hk;have hk':=hH _ _ hk;split at h;rotate_left;cases h
 rename_i hkv;split at h;rotate_left;cases h
 rename_i i hi;split at h;rotate_left;cases h
 rename_i e hte;split at h;rotate_left;cases h
 rename_i ei ng;split at h;rotate_left;cases h
 rename_i h1 h2 h3;split at h
 ·exact h.elim
 rename_i hbk;have adY:=Nat.ne_of_beq_eq_false hbk;split at h;rotate_left;cases h
 rename_i e' vr st j ed sd pre hb;have hb':=hH _ _ hb;split at h;rotate_left;cases h
 rename_i k1 k2 k3;obtain⟨hbd,hK⟩:=h;have k2':=Nat.eq_of_beq_eq_true k2;have k3':=Nat.eq_of_beq_eq_true k3;have k1':=Nat.eq_of_beq_eq_true k1;subst k2';subst k3';subst k1';obtain⟨xs,hs1,hs2,a1,hlen,a3,a4,a5,a6,a7,g1,m1⟩:=g.Gm hb';have hn:ni pre [] []=pre.length:=by simp[ni,fA]
 rw[hn] at g1 m1 hlen;have hb1:lk (s.app [(b,.arr e' ver ei.size (aR ei.size pre.length xs))]).hp b=some (.arr e' ver ei.size (aR ei.size pre.length xs)):=by
  simp only[AS.app,List.singleton_append,ak,if_true]
 have hk1:lk (s.app [(b,.arr e' ver ei.size (aR ei.size pre.length xs))]).hp k=some (.dX e0 v0 J6 [] (r0::rr) []):=by
  simp only[AS.app,List.singleton_append,ak,if_neg adY];exact hk'
 have YL:id≠b:=fun e=>by rw[e,hb'] at hf;cases hf
 have Lp:ze T (s.app [(b,.arr e' ver ei.size (aR ei.size pre.length xs))]).hp t (.aZ b ver) k kv id (fun z ws=>z=.aZ b (ver+1)∧ws=[(b,.dX e' (ver+1) ei.size (aR ei.size pre.length xs) (r0::rr) [])]):=by
  unfold ze;simp only[cK,hi,hte,ng,h1,h2,h3,hk1,hkv,hbk,hb1,Nat.beq_refl,iO];exact⟨hbd,trivial,trivial⟩
 obtain⟨y,w',R',z,ws,hrun,⟨rfl,rfl⟩,g2,hz⟩:=zJ g1 hT (fun _ _ h=>h) (by
  simp only[AS.app,List.singleton_append,ak,if_neg (show ¬b=id from fun e=>YL e.symm)];exact hf) (ty:=ty) Lp (m1 _ _ hd) (m1 _ _ hx)
 have hb2:lk ([(b,au.dX e' (ver+1) ei.size (aR ei.size pre.length xs) (r0::rr) [])]++(s.app [(b,.arr e' ver ei.size (aR ei.size pre.length xs))]).hp) b=some (.dX e' (ver+1) ei.size (aR ei.size pre.length xs) (r0::rr) (aR ei.size ([]:List (Bool×List PV)).length [])):=by
  rw[List.singleton_append,ak,if_pos rfl];rfl
 have hDb:∀v r,some v∈(R.cap b).2→v.ownBlock=some r→R'.nil b=false→R'.blk b≠r:=by
  intro v r hv hr hn he;refine g2.free (R'.blk b) ⟨b,?_⟩ (.inr ⟨v,hv,by rw[he];exact hr⟩);show ax R' b (R'.blk b) (lk ([(b,au.dX e' (ver+1) ei.size (aR ei.size pre.length xs) (r0::rr) [])]++(s.app [(b,.arr e' ver ei.size (aR ei.size pre.length xs))]).hp) b)
  rw[hb2];exact⟨hn,rfl⟩
 obtain⟨g3,m3⟩:=aS.Ti g hb' g2 (e1:=e') (mK:=ver+1) (pre':=pre) (post':=[]) (xs:=xs) (zs:=[]) hb2 a1 a7 hDb (by rw[hlen];exact Nat.le_refl _) (by simp) a3 (xw a6 (by simp));have hc:∀q,lk ([(b,au.fZ e' (ver+1) ei.size j ed sd pre (r0::rr) [])]++s.hp) q=lk ((b,au.fZ e' (ver+1) ei.size j ed sd pre (r0::rr) [])::([(b,au.dX e' (ver+1) ei.size (aR ei.size pre.length xs) (r0::rr) [])]++(s.app [(b,.arr e' ver ei.size (aR ei.size pre.length xs))]).hp)) q:=by
  intro q;simp only[AS.app,List.singleton_append,ak];split<;>rfl
 exact⟨y,w',_,_,_,hrun,hK,aS.congr g3 (fun _=>rfl) hc,tY hc (m3 _ _ hz)⟩
theorem Hr (g:aS c R s a w)(hT:bA P T){H:List (Nat×au)}(hH:∀b box,lk H b=some box→lk s.hp b=some box){id:Nat}(hf:lk s.hp id=none)
  {t ty:TypeId} {d x:AV} {K:AV→List (Nat×au)→Prop} (h:y5 T H t [d,x] id K) {u v:Value} (hd:ai (aG c R s.hp) w s.hp R d u) (hx:ai (aG c R s.hp) w s.hp R x v) :
  ∃y w' R' z ws,(Builtin.append_ #[t,t] ty #[u,v]).run P w=.ok y w'∧K z ws∧aS c R' (s.app ws) a w'∧ai (aG c R' (ws++s.hp)) w' (ws++s.hp) R' z y:=by
 unfold y5 at h;split at h
 ·rename_i b ver k kv e;cases e;split at h
  ·exact Jl g hT hH hf h hd hx
  exact zL g hT hH hf h hd hx
 exact zL g hT hH hf h hd hx
end
def ou:List (Int×Int)→Int→Nat→Option (Nat×Int)
 |[],_,_=>none
 |(a,v)::r,n,i=>if n=a then some (i,v) else ou r n (i+1)
def SI (es:List (Int×Int))(n:Int):Int:=
 match ou es n 0 with
 |some p=>p.2
 |none=>0
def EP (es:List (Int×Int))(n v:Int):List (Int×Int):=
 match ou es n 0 with
 |some p=>es.modify p.1 fun _=>(n,v)
 |none=>es++[(n,v)]
def pq (T:Tab)(t:TypeId):Option (IntKind×IntKind):=
 match lk T t with
 | some i=>match i.d with
   | .aaz kt et=>match lk T kt,lk T et with
     | some ki,some ei=>match ki.d,ei.d with
       | .uN kk,.uN _=>match ei.zero with
         |[.int kv (.ofNat 0)]=>some (kk,kv)
         |_=>none
       |_,_=>none
     |_,_=>none
   |_=>none
 |none=>none
def xV (T:Tab)(t:TypeId)(id:Nat)(K:AV→List (Nat×au)→Prop):Prop:=
 match pq T t with
 |some (kk,kv)=>K (.bU id 0 0 0) [(id,.mp kk kv [])]
 |none=>False
def Ea (T:Tab)(H:List (Nat×au))(t:TypeId)(x ix:AV)(K:AV→Prop):Prop:=
 match pq T t with
 | some (kk,kv)=>match x with
   | .bU b _ _ _=>match lk H b with
     | some (.mp U2 RH es)=>match ix with
       |.pv (.sc (.int k n))=>k=U2∧RH=kv∧K (.pv (.sc (.int kv (SI es n))))
       |_=>False
     |_=>False
   |_=>False
 |none=>False
def tC (T:Tab)(H:List (Nat×au))(t:TypeId)(x ix y:AV)(K:AV→List (Nat×au)→Prop):Prop:=
 match pq T t with
 | some (kk,kv)=>match x with
   | .bU b _ _ _=>match lk H b with
     | some (.mp U2 RH es)=>match ix with
       | .pv (.sc (.int k n))=>match y with
         |.pv (.sc (.int k2 m))=>k=U2∧k2=RH∧K (.pv (.sc undef)) [(b,.mp U2 RH (EP es n m))]
         |_=>False
       |_=>False
     |_=>False
   |_=>False
 |none=>False
def Bb (T:Tab)(H:List (Nat×au))(t:TypeId)(x:AV)(K:AV→Prop):Prop:=
 match x with
 | .bU b ver k off=>match lk H b with
   | some (.mp _ _ es)=>match pq T t with
     |some _=>K (.pv (.sc (.int .i64 es.length)))
     |none=>False
   |_=>False
 |x=>Bp T H t x K
section
variable {P:Program}{T:Tab}{c:Ctx}{R:Real}{s:AS}{a:Act}{w:World}
theorem mP (hT:bA P T){t:TypeId}{kk kv:IntKind}(h:pq T t=some (kk,kv)) :
  ∃kt et,P.underlying t=some (.map kt et)∧P.underlying kt=some (.int kk)∧∀w:World,(zeroValue et).run P w=.ok (.int kv 0) w:=by
 unfold pq at h;split at h
 ·rename_i i hi;split at h
  ·rename_i kt et hd;split at h
   ·rename_i ki ei hk he;split at h
    ·rename_i U2 RH h1 h2;split at h
     ·rename_i kv0 hz;simp only[Option.some.injEq,Prod.mk.injEq] at h;obtain⟨rfl,rfl⟩:=h;obtain⟨d,q1,q2⟩:=(hT t i hi).fq;obtain⟨d2,r1,r2⟩:=(hT _ _ hk).fq;rw[hd] at q2;rw[h1] at r2;cases d<;>simp[di] at q2
      cases d2<;>simp[di] at r2
      obtain⟨rfl,rfl⟩:=q2;subst r2;refine⟨_,_,q1,r1,fun w=>?_⟩;obtain⟨zv,z1,z2,z3⟩:=(hT _ _ he).oH w;rw[h2] at z3;rw[hz] at z2;have:zv=.int kv0 0:=by
       cases zv<;>simp[DI.isAgg] at z3<;>simp[Value.cells] at z2
       obtain⟨rfl,rfl⟩:=z2;rfl
      rw[z1,this]
     cases h
    cases h
   cases h
  cases h
 cases h
theorem tZ {r:Nat}{es:Array MapEntry}{clock:Nat}(h:w.heap[r]? = some (.map es clock)):(getObj r).run P w=.ok (.map es clock) w:=by
 simp[getObj,Sem.run,h]
theorem vk {q kk kv:IntKind}{n:Int}:∀(cur:List MapEntry) (es:List (Int×Int)) (i:Nat),cur.map (fun e=>(e.key,e.val))=es.map (fun e=>(Value.int kk e.1,Value.int kv e.2)) →
  Instr.findNow (.int q) (.int kk n) cur i=some ((ou es n i).map fun p=>(p.1,.int kv p.2))
 |[],[],i,_=>rfl
 |[],_::_,i,h=>by simp at h
 |_::_,[],i,h=>by simp at h
 | e::cur,(x,v)::es,i,h=>by
   simp only[List.map_cons,List.cons.injEq,Prod.mk.injEq] at h;obtain⟨⟨h1,h2⟩,h3⟩:=h;have ih:=vk (q:=q) (n:=n) cur es (i+1) h3;unfold Instr.findNow;rw[h1];simp only[Instr.sameNow,if_true,ou];by_cases hx:n=x
   ·subst hx;simp[h2]
   have hb:(n==x)=false:=by simp[hx]
   rw[hb,if_neg hx];exact ih
theorem FO (g:aS c R s a w)(hT:bA P T){id:Nat}(hf:lk s.hp id=none){t:TypeId}{K:AV→List (Nat×au)→Prop}(h:xV T t id K) :
  ∃y w' R' z ws,(Instr.makeMap t none).run P w=.ok y w'∧K z ws∧aS c R' (s.app ws) a w'∧ai (aG c R' (ws++s.hp)) w' (ws++s.hp) R' z y:=by
 unfold xV at h;split at h;rotate_left;cases h
 rename_i kk kv hk;have hw:∀b',b'≠id→_:=Real.vP R id w.heap.size false 0;refine⟨.map (some w.heap.size),{ w with heap:=w.heap.push (.map #[] 0) },R.at id w.heap.size false 0,_,_,by simp[Instr.makeMap],h,?_,?_⟩
 ·exact (g.K3 (box:=.mp kk kv []) (w':={ w with heap:=w.heap.push (.map #[] 0) }) (o:=.map #[] 0) hf ⟨rfl,rfl,rfl,rfl⟩ hw (fun _=>by simp[Real.at]) (fun _ h=>by cases h) fun hm=>by
   refine⟨#[],0,?_,by simp[Real.at],by simp⟩;simp[Real.at]).1
 simp only[ai,List.singleton_append,ak,if_true,aJ];exact⟨Nat.zero_le _,rfl,by simp[Real.at]⟩
theorem sG {kt:TypeId}{q k:IntKind}{n:Int}(h:P.underlying kt=some (.int q))(e:Bool):(Instr.checkKey e 10000 kt (.int k n)).run P w=.ok () w:=by
 unfold Instr.checkKey;simp[run_underlying h]
theorem Hu (g:aS c R s a w)(hT:bA P T){H:List (Nat×au)}(hH:∀b box,lk H b=some box→lk s.hp b=some box){t:TypeId}{x ix:AV}{K:AV→Prop}
  (h:Ea T H t x ix K) {u v:Value} (hx:ai (aG c R s.hp) w s.hp R x u) (hv:ai (aG c R s.hp) w s.hp R ix v) :
  ∃y z,(Instr.lookup t u v false).run P w=.ok y w∧K z∧ai (aG c R s.hp) w s.hp R z y:=by
 unfold Ea at h;split at h;rotate_left;cases h
 rename_i kk kv hk;obtain⟨kt,et,h1,h2,h3⟩:=mP hT hk;split at h;rotate_left;cases h
 rename_i b ver i off;split at h;rotate_left;cases h
 rename_i U2 RH es hb;have hb':=hH _ _ hb;split at h;rotate_left;cases h
 rename_i k n;obtain⟨rfl,rfl,hK⟩:=h;simp only[ai,hb',aJ] at hx;obtain⟨_,_,rfl⟩:=hx;simp only[ai,aU] at hv;subst hv;obtain⟨cur,clock,q1,q2,q3⟩:=g.boxes b _ hb';have hfind:=vk (q:=kk) (n:=n) cur.toList es 0 q3;refine⟨.int RH (SI es n),_,?_,hK,by simp only[ai,aU]⟩;simp only[Instr.lookup,Sem.run_bind,run_underlying h1,Result.andThen_ok,tZ q1,Sem.run_pure,sG h2,Instr.findKey,run_underlying h2,hfind];unfold SI;cases ou es n 0 with
 |none=>simp[h3 w]
 |some p=>simp
theorem EQ {r:Nat}{es:Array MapEntry}{clock:Nat}(o:Obj)(h:w.heap[r]? = some (.map es clock)):(setObj r o).run P w=.ok () { w with heap:=w.heap.setIfInBounds r o }:=by
 simp[setObj,Sem.run,h]
theorem ER:∀{es:List (Int×Int)} {n:Int} {j:Nat} {p:Nat×Int},ou es n j=some p→j≤p.1∧es[p.1-j]? = some (n,p.2)
 |[],n,j,p,h=>by simp[ou] at h
 | (x,v)::r,n,j,p,h=>by
   simp only[ou] at h;split at h
   ·rename_i e;simp only[Option.some.injEq] at h;subst h;subst e;simp
   obtain⟨h1,h2⟩:=ER h;refine⟨by omega,?_⟩;rw[show p.1-j=(p.1-(j+1))+1 by omega];simpa using h2
theorem ES {kk kv:IntKind}{n m:Int}:∀(cur:List MapEntry) (es:List (Int×Int)) (i:Nat),cur.map (fun e=>(e.key,e.val))=es.map (fun e=>(Value.int kk e.1,Value.int kv e.2)) →
  (cur.modify i fun e=>{ e with key:=.int kk n,val:=.int kv m }).map (fun e=>(e.key,e.val))=(es.modify i fun _=>(n,m)).map (fun e=>(Value.int kk e.1,Value.int kv e.2))
 |[],[],i,_=>by cases i<;>rfl
 |[],_::_,i,h=>by simp at h
 |_::_,[],i,h=>by simp at h
 | e::cur,p::es,0,h=>by
   simp only[List.map_cons,List.cons.injEq] at h;simp only[List.modify_zero_cons,List.map_cons,h.2]
 | e::cur,p::es,i+1,h=>by
   simp only[List.map_cons,List.cons.injEq] at h;simp only[List.modify_succ_cons,List.map_cons,h.1,ES cur es i h.2]
theorem Dq (g:aS c R s a w)(hT:bA P T){H:List (Nat×au)}(hH:∀b box,lk H b=some box→lk s.hp b=some box){t:TypeId}{x ix y:AV}{K:AV→List (Nat×au)→Prop}
  (h:tC T H t x ix y K) {u v z:Value} (hx:ai (aG c R s.hp) w s.hp R x u) (hv:ai (aG c R s.hp) w s.hp R ix v) (hy:ai (aG c R s.hp) w s.hp R y z) :
  ∃w' ws,(Instr.mapUpdate t u v z).run P w=.ok () w'∧K (.pv (.sc undef)) ws∧aS c R (s.app ws) a w':=by
 unfold tC at h;split at h;rotate_left;cases h
 rename_i kk kv hk;obtain⟨kt,et,h1,h2,h3⟩:=mP hT hk;split at h;rotate_left;cases h
 rename_i b ver i off;split at h;rotate_left;cases h
 rename_i U2 RH es hb;have hb':=hH _ _ hb;split at h;rotate_left;cases h
 rename_i k n;split at h;rotate_left;cases h
 rename_i k2 m;obtain⟨rfl,rfl,hK⟩:=h;simp only[ai,hb',aJ] at hx;obtain⟨_,_,rfl⟩:=hx;simp only[ai,aU] at hv hy;subst hv;subst hy;obtain⟨cur,clock,q1,q2,q3⟩:=g.boxes b _ hb';have hfind:=vk (q:=kk) (n:=n) cur.toList es 0 q3;have fin:∀(VZ:Array MapEntry) (Lr:Nat),VZ.toList.map (fun e=>(e.key,e.val))=(EP es n m).map (fun e=>(Value.int k e.1,Value.int k2 e.2)) →
   aS c R (s.app [(b,.mp k k2 (EP es n m))]) a { w with heap:=w.heap.setIfInBounds (R.blk b) (.map VZ Lr) }:=by
  intro VZ Lr hq;have hlt:=(Array.getElem?_eq_some_iff.1 q1).1;have hR:∀b',b'≠b→R.blk b'=R.blk b'∧R.nil b'=R.nil b'∧R.cap b'=R.cap b':=fun _ _=>⟨rfl,rfl,rfl⟩
  refine g.upd (b:=b) (aV:=.mp k k2 (EP es n m)) (nx':=s.nx) hR (fun off v h=>by rw[hb'] at h;exact h) (fun ver v h=>by rw[hb'] at h;exact h) (fun ver i off v h=>by rw[hb'] at h;exact h)
   (fun r h=>by rw[hb'];exact .inl h) ⟨by simp,fun r hr hn=>?_,rfl,rfl,rfl⟩ ⟨VZ,Lr,by simp[hlt],q2,hq⟩ rfl
  have hne:R.blk b≠r:=fun e=>hn (by rw[hb'];exact⟨q2,e⟩)
  simp only[Array.getElem?_setIfInBounds,hne,if_false]
 cases hm:ou es n 0 with
 | none=>
   rw[hm] at hfind;refine⟨_,_,?_,hK,fin (cur.push { key:=.int k n,val:=.int k2 m,born:=clock }) (clock+1) ?_⟩
   ·simp only[Instr.mapUpdate,Sem.run_bind,run_underlying h1,Result.andThen_ok,tZ q1,sG h2,Instr.findKey,run_underlying h2,hfind,Option.map_none,Sem.run_pure,EQ _ q1]
   simp only[EP,hm,Array.toList_push,List.map_append,q3,List.map_cons,List.map_nil]
 | some p=>
   rw[hm] at hfind;obtain⟨_,hat⟩:=ER hm;have XP:(cur[p.1]?).map (·.key)=some (.int k n):=by
    have:=congrArg (fun l=>l[p.1]?) q3;simp only[List.getElem?_map] at this;rw[Nat.sub_zero] at hat;rw[hat] at this;simp only[Option.map_some,Array.getElem?_toList] at this;cases hc:cur[p.1]? with
    |none=>rw[hc] at this;simp at this
    |some e=>rw[hc] at this;simp at this;simp[this.1]
   refine⟨_,_,?_,hK,fin (cur.modify p.1 fun e=>{ e with key:=.int k n,val:=.int k2 m }) clock ?_⟩
   ·have hkeep:(Instr.keyThatStays (.int k n) (.int k n)).run P w=.ok (.int k n) w:=by
     simp[Instr.keyThatStays,Instr.sameBits]
    simp only[Instr.mapUpdate,Sem.run_bind,run_underlying h1,Result.andThen_ok,tZ q1,sG h2,Instr.findKey,run_underlying h2,hfind,Option.map_some,Sem.run_pure,XP,Option.getD_some,hkeep,EQ _ q1]
   simp only[EP,hm,Array.toList_modify];exact ES _ _ _ q3
theorem Ht (g:aS c R s a w)(hT:bA P T){H:List (Nat×au)}(hH:∀b box,lk H b=some box→lk s.hp b=some box){t ty:TypeId}{x:AV}{K:AV→Prop}
  (h:Bb T H t x K) {u:Value} (hx:ai (aG c R s.hp) w s.hp R x u) :
  ∃y z,(Builtin.len_ #[t] ty #[u]).run P w=.ok y w∧K z∧ai (aG c R s.hp) w s.hp R z y:=by
 unfold Bb at h;split at h
 ·rename_i b ver i off;split at h;rotate_left;cases h
  rename_i U2 RH es hb;have hb':=hH _ _ hb;split at h;rotate_left;cases h
  rename_i kp hk;obtain⟨kt,et,h1,h2,h3⟩:=mP (kk:=kp.1) (kv:=kp.2) hT hk;simp only[ai,hb',aJ] at hx;obtain⟨_,_,rfl⟩:=hx;obtain⟨cur,clock,q1,q2,q3⟩:=g.boxes b _ hb';have hl:cur.size=es.length:=by have:=congrArg List.length q3;simpa using this
  exact⟨.int .i64 es.length,_,by simp[Builtin.len_,run_underlying h1,tZ q1,goInt,hl],h,by simp only[ai,aU]⟩
 exact Jf g hT hH h hx
end
def uQ (T:Tab)(t:TypeId)(x ix:AV)(K:AV→Prop):Prop:=
 match x with
 | .pv (.agg cs)=>match ix with
   | .pv (.sc (.int _ i))=>match lk T t with
     | some ti=>match ti.d with
       | .O0 n e=>match lk T e with
         | some ei=>match part (i.toNat*ei.size) ei.size cs with
           |some ds=>(0≤i∧i<n)∧qd ei (ds.map .pv) K
           |none=>False
         |none=>False
       |_=>False
     |none=>False
   |_=>False
 |x=>mq T t x ix K
section
variable {P:Program}{T:Tab}{R:Real}{w:World}
theorem FM (hT:bA P T){N:Nat→Prop}{hp:List (Nat×au)}{t:TypeId}{x ix:AV}{K:AV→Prop}
  (h:uQ T t x ix K) {u v:Value} (hx:ai N w hp R x u) (hv:ai N w hp R ix v) :
  ∃y z,(Instr.index t u v).run P w=.ok y w∧K z∧ai N w hp R z y:=by
 unfold uQ at h;split at h
 ·rename_i cs;split at h;rotate_left;cases h
  rename_i k i;split at h;rotate_left;cases h
  rename_i ti Sb;split at h;rotate_left;cases h
  rename_i n e hte;split at h;rotate_left;cases h
  rename_i ei ng;split at h;rotate_left;cases h
  rename_i ds hds;obtain⟨⟨h0,h1⟩,h⟩:=h;simp only[ai,aU] at hx hv;subst hv;obtain⟨vs,rfl,hx⟩:=hx;rw[eB] at hx;obtain⟨p1,p2⟩:=hx.fp.part hds;obtain⟨d,hd,fC⟩:=(hT t ti Sb).fq;have hd':P.underlying t=some (.array n e):=by
   rw[hte] at fC;cases d<;>simp[di] at fC
   obtain⟨rfl,rfl⟩:=fC;exact hd
  have hf:FC (ai N w hp R) (ds.map .pv) ((vs.toList.drop (i.toNat*ei.size)).take ei.size):=FC.map (fun p v hv=>by simpa only[ai] using hv) p2;obtain⟨y,z,k1,k2,k3⟩:=BK (hT e ei ng) h hf (by simpa using p1);refine⟨y,z,?_,k2,k3⟩;simp only[Instr.index,asIntOf,Sem.run_bind,Sem.run_pure,Result.andThen_ok,run_underlying hd',h0,h1,and_self,if_true,(hT e ei ng).run_sizeOf];exact k1
 exact Ga hT h hx hv
end
def Ls (j:TI):List Nat→List AV→List AV→Option (List AV)
 |[],[],cells=>some cells
 | k::ks,v::vs,cells=>match cellsOf j v with
   | some cs=>match Nat.beq cs.length j.size with
     | true=>match iT (k*j.size) cells cs with
       |some cells'=>Ls j ks vs cells'
       |none=>none
     |false=>none
   |none=>none
 |_,_,_=>none
def kz (T:Tab)(t:TypeId)(ks:List Nat)(vs:List AV)(K:AV→Prop):Prop:=
 match lk T t with
 | some i=>match i.d with
   | .O0 _ e=>match lk T e with
     | some j=>match XM i.zero with
       | some z=>match Ls j ks vs z with
         | some cells=>match vS cells with
           |some v=>K v
           |none=>False
         |none=>False
       |none=>False
     |none=>False
   |_=>xR T t ks vs K
 |none=>False
section
variable {P:Program}{T:Tab}{R:Real}{w:World}
theorem zM {N:Nat→Prop}{hp:List (Nat×au)}(j:TI) :
  ∀(ks:List Nat) (vs cells cells':List AV) (us:List Value) (zs:Array Value),Ls j ks vs cells=some cells'→FL (ai N w hp R) vs us→FC (ai N w hp R) cells zs.toList →
   ∃N8,Instr.fill (fun i=>some (i*j.size,j.size)) zs (ks.zip us)=some N8∧FC (ai N w hp R) cells' N8.toList
 | [],[],cells,cells',us,zs,h,hv,hz=>by
   simp only[Ls,Option.some.injEq] at h;subst h;simp only[FL] at hv;subst hv;exact⟨zs,rfl,hz⟩
 |[],v::vs,cells,cells',us,zs,h,hv,hz=>by simp[Ls] at h
 |f::ks,[],cells,cells',us,zs,h,hv,hz=>by simp[Ls] at h
 | f::ks,v::vs,cells,cells',us,zs,h,hv,hz=>by
   obtain⟨u,r,rfl,hu,hv⟩:=hv;simp only[Ls] at h;split at h
   ·rename_i cs hcs;split at h
    ·rename_i hl;have hl:=Nat.eq_of_beq_eq_true hl;split at h
     ·rename_i c2 hc2;have Xa:=iA hcs hu;obtain⟨hle,hset⟩:=FC.iT hz Xa hc2;have nW:u.cells.size=j.size:=by rw[←hl,←Xa.length];simp
      simp only[List.zip_cons_cons,Instr.fill];have ac3:f*j.size+j.size≤zs.size:=by simp only[Array.length_toList] at hle;omega
      rw[if_neg (by simp[nW];omega)];have AQ:(u.cells.zipIdx.foldl (fun cs (x:Value×Nat)=>cs.setIfInBounds (f*j.size+x.2) x.1) zs).toList=zs.toList.take (f*j.size)++u.cells.toList++zs.toList.drop (f*j.size+u.cells.toList.length):=by
       rw[←rq (f*j.size) u.cells.toList zs (by simpa using hle)];rw[←Array.foldl_toList,Array.toList_zipIdx]
      exact zM j ks vs c2 cells' r _ h hv (by rw[AQ];exact hset)
     cases h
    cases h
   cases h
theorem z8 (hT:bA P T){N:Nat→Prop}{hp:List (Nat×au)}{t:TypeId}{ks:List Nat}{vs:List AV}{us:List Value}{K:AV→Prop}(h:kz T t ks vs K)
  (hv:FL (ai N w hp R) vs us):∃y z,(Instr.build t (ks.zip us).toArray).run P w=.ok y w∧K z∧ai N w hp R z y:=by
 unfold kz at h;split at h;rotate_left;cases h
 rename_i i hi;have hi':=hT _ _ hi;split at h
 ·rename_i n e hte;obtain⟨d,hd,fC⟩:=hi'.fq;obtain⟨zv,hz1,hz2,hz3⟩:=hi'.oH w;have hd':P.underlying t=some (.array n e):=by
   rw[hte] at fC;cases d<;>simp[di] at fC
   obtain⟨rfl,rfl⟩:=fC;exact hd
  split at h;rotate_left;cases h
  rename_i j hj;split at h;rotate_left;cases h
  rename_i z hz;have:=Fz hz;subst this;split at h;rotate_left;cases h
  rename_i cells hcells;split at h;rotate_left;cases h
  rename_i v hv';obtain⟨N8,hf1,hf2⟩:=zM j ks vs _ cells us zv.cells hcells hv (by rw[hz2];exact p8 hi'.N9);refine⟨.agg N8,v,?_,h,?_⟩
  ·simp only[Instr.build,Sem.run_bind,hz1,Result.andThen_ok,run_underlying hd',(hT _ _ hj).run_sizeOf,hf1,Sem.run_pure]
  unfold vS at hv';split at hv'
  ·rename_i ps hps;simp only[Option.some.injEq] at hv';subst hv';simp only[ai,aU];exact⟨N8,rfl,by rw[eB];exact oI hps hf2⟩
  simp only[Option.some.injEq] at hv';subst hv';simp only[ai];exact⟨N8,rfl,by rw[aW];exact hf2⟩
 exact Fy hT h hv
end
def Kg (T:Tab)(H:List (Nat×au))(t:TypeId)(x ix:AV)(K:AV→Prop):Prop:=
 match x with
 | .sub b ver st lo hi=>match lk H b with
   | some (.arr e v st' rows)=>match ix with
     | .pv (.sc (.int _ i))=>match lk T t with
       | some ti=>match ti.d with
         | .slt e=>match lk T e with
           | some ei=>match Nat.beq ver v,Nat.beq st' ei.size,Nat.beq st st' with
             |true,true,true=>0≤i∧lo+i.toNat<hi∧K (.bU b ver (lo+i.toNat) 0)
             |_,_,_=>False
           |none=>False
         |_=>False
       |none=>False
     |_=>False
   |_=>False
 |x=>KL T H t x ix K
section
variable {P:Program}{T:Tab}{c:Ctx}{R:Real}{s:AS}{a:Act}{w:World}
theorem Kk (g:aS c R s a w)(hT:bA P T){H:List (Nat×au)}(hH:∀b box,lk H b=some box→lk s.hp b=some box){t:TypeId}{x ix:AV}{K:AV→Prop}
  (h:Kg T H t x ix K) {u v:Value} (hx:ai (aG c R s.hp) w s.hp R x u) (hv:ai (aG c R s.hp) w s.hp R ix v) :
  ∃y z,(Instr.indexAt t u v).run P w=.ok y w∧K z∧ai (aG c R s.hp) w s.hp R z y:=by
 unfold Kg at h;split at h
 ·rename_i b ver st lo hi;split at h;rotate_left;cases h
  rename_i e' vr st' rows hb;have hb':=hH _ _ hb;split at h;rotate_left;cases h
  rename_i kk i;simp only[ai,aU] at hv;subst hv;split at h;rotate_left;cases h
  rename_i ti Sb;obtain⟨d,hd,fC⟩:=(hT t ti Sb).fq;split at h;rotate_left;cases h
  rename_i e hte;have hd':P.underlying t=some (.slice e):=by
   rw[hte] at fC;cases d<;>simp[di] at fC
   subst fC;exact hd
  split at h;rotate_left;cases h
  rename_i ei ng;have gH:=hT e ei ng;split at h;rotate_left;cases h
  rename_i dN hst yE;obtain⟨h0,hlt,hK⟩:=h;have dN:=Nat.eq_of_beq_eq_true dN;have hst:=Nat.eq_of_beq_eq_true hst;have yE:=Nat.eq_of_beq_eq_true yE;simp only[ai,hb',aD] at hx;obtain⟨u0,⟨r1,r2,r3⟩,hok,rfl⟩:=hx;have r3:=r3 dN;subst r3;cases hn:R.nil b with
  | true=>
    simp only[bO,hn,if_true,l5] at hok;omega
  | false=>
    obtain⟨xs,⟨_,h2⟩,_⟩:=(g.boxes b _ hb');have hcap:rows.length≤(R.cap b).1:=by
     rcases h2 with ⟨_,h2⟩|⟨g',cap,cur,e1,e2,e3,e4,_⟩
     ·simp only[bO,hn,Bool.false_eq_true,if_false,l5] at hok;omega
     simp only[bO,hn,Bool.false_eq_true,if_false,Value.slice.injEq] at e1;obtain⟨_,_,e1⟩:=e1;omega
    simp only[bO,hn,Bool.false_eq_true,if_false,l5] at hok;have hne:(R.cap b).1≠lo:=by omega
    simp only[bO,hn,Bool.false_eq_true,if_false,gX,if_neg hne];have hi2:i<((hi-lo:Nat):Int):=by omega
    refine⟨.pointer (some ((Addr.add ⟨R.blk b,0,none⟩ (lo*st)).add (i.toNat*ei.size))),_,?_,hK,?_⟩
    ·simp[Instr.indexAt,asIntOf,run_underlying hd',h0,hi2,gH.run_sizeOf]
    simp only[ai,hb',aJ,addr_add];refine⟨r1,rfl,fun _=>⟨hn,?_⟩⟩;rw[←hst,yE,Nat.add_mul];simp
 exact Ll g hT hH h hx hv
end
def uP (T:Tab)(H:List (Nat×au))(src dst:TypeId)(x:AV)(K:AV→List (Nat×au)→Prop):Prop:=
 match x with
 | .aZ b ver=>match lk H b with
   | some (.arr e v st rows)=>match lk T dst with
     | some dt=>match dt.d with
       | .slt et=>match lk T et with
         | some ei=>match ei.d with
           | .uN .u8=>match Nat.beq src dst,Nat.beq ver v,rows with
             |true,true,r::rs=>K (.pv (.sl false st (r::rs))) [(b,.gD v st (r::rs))]
             |_,_,_=>False
           |_=>False
         |none=>False
       |_=>nY T H src dst (.aZ b ver) K
     |none=>False
   |_=>nY T H src dst (.aZ b ver) K
 |x=>nY T H src dst x K
section
variable {P:Program}{T:Tab}{c:Ctx}{R:Real}{s:AS}{a:Act}{w:World}
theorem IU (w:World)(g n k:Nat)(hk:k≠0){cur:Array Value}{e:TypeId}(h:w.heap[g]? = some (.cells cur e (0,0))) :
  (w.freeze ⟨g,n,none⟩ k).heap[g]? = some (.cells cur e (n,n+k))∧kK (fun r=>r=g) w (w.freeze ⟨g,n,none⟩ k):=by
 unfold World.freeze;rw[if_neg hk];refine⟨?_,⟨by simp,fun r hr hn=>?_,rfl,rfl,rfl⟩⟩
 ·simp only[Array.getElem?_modify,if_true,h,Option.map_some];rfl
 simp only[Array.getElem?_modify];rw[if_neg (fun e=>hn e.symm)]
theorem FH (g:aS c R s a w)(hT:bA P T){H:List (Nat×au)}(hH:∀b box,lk H b=some box→lk s.hp b=some box){src dst:TypeId}{x:AV}{K:AV→List (Nat×au)→Prop}
  (h:uP T H src dst x K) {u:Value} (hx:ai (aG c R s.hp) w s.hp R x u) :
  ∃z w' R' q ws,(convert src dst u).run P w=.ok z w'∧K q ws∧aS c R' (s.app ws) a w'∧ai (aG c R' (ws++s.hp)) w' (ws++s.hp) R' q z:=by
 unfold uP at h;split at h
 ·rename_i b ver;split at h
  ·rename_i e v st rows hb;have hb':=hH _ _ hb;split at h;rotate_left;cases h
   rename_i dt hdt;split at h
   ·rename_i et hde;split at h;rotate_left;cases h
    rename_i ei ng;split at h;rotate_left;cases h
    rename_i hes;split at h;rotate_left;cases h
    rename_i r rs hsd dN;have hsd:=Nat.eq_of_beq_eq_true hsd;have dN:=Nat.eq_of_beq_eq_true dN;subst hsd;obtain⟨d2,hd2,e2⟩:=(hT _ _ hdt).fq;obtain⟨d3,ZU,e3⟩:=(hT _ _ ng).fq;have q2:P.underlying src=some (.slice et):=by rw[hde] at e2;cases d2<;>simp[di] at e2;subst e2;exact hd2
    have q3:P.underlying et=some (.int .u8):=by rw[hes] at e3;cases d3<;>simp[di] at e3;subst e3;exact ZU
    simp only[ai,hb',aD] at hx;obtain⟨_,_,hu⟩:=hx;have hu:=hu dN;obtain⟨xs,⟨hxl,hrow⟩,hrep⟩:=g.boxes b _ hb';rcases hrow with ⟨_,h0⟩|⟨gb,cap,cur,h1,h2,h3,h4,h5,h6,h7⟩
    ·simp at h0
    have hnil:R.nil b=false:=by
     cases hn:R.nil b with
     |false=>rfl
     |true=>simp[bO,hn] at h1
    have hs:bO R b (r::rs).length=.slice (some ⟨R.blk b,0,none⟩) (r::rs).length (R.cap b).1:=by simp[bO,hnil]
    rw[hs] at h1 hu;simp only[Value.slice.injEq,Option.some.injEq,Addr.mk.injEq,and_true,true_and] at h1;obtain⟨h1,h8⟩:=h1;subst h1;obtain⟨f1,f2⟩:=IU w (R.blk b) cur.size 1 (by decide) h3;have hR:∀b',b'≠b→R.blk b'=R.blk b'∧R.nil b'=R.nil b'∧R.cap b'=R.cap b':=fun _ _=>⟨rfl,rfl,rfl⟩
    have Yw:∀x,ax R b x (lk s.hp b)↔x=R.blk b:=fun x=>by rw[hb'];simp only[ax,hnil,true_and];exact eq_comm
    have r1:∀off v',aH R b off v' (lk s.hp b)→aH R b off v' (some (.gD v st (r::rs))):=fun off v' h=>by rw[hb'] at h;exact h
    have r2:∀dD v',aD R b dD v' (lk s.hp b)→aD R b dD v' (some (.gD v st (r::rs))):=fun off v' h=>by rw[hb'] at h;exact h
    have r3:∀dD i off v',aJ R b dD i off v' (lk s.hp b)→aJ R b dD i off v' (some (.gD v st (r::rs))):=fun _ _ off v' h=>by rw[hb'] at h;exact h
    have hno:∀x,¬ax R b x (some (.gD v st (r::rs))):=fun x h=>h
    have hworld:kK (fun x=>ax R b x (lk s.hp b)) w (w.freeze ⟨R.blk b,cur.size,none⟩ 1):=f2.mono fun x hx=>(Yw x).2 hx
    have hown:∀x,ax R b x (some (.gD v st (r::rs)))→ax R b x (lk s.hp b)∨w.heap.size≤x:=fun x h=>(hno x h).elim
    obtain⟨m1,m2,m3,m4,m5⟩:=g.Df hR r1 r2 r3 hown hworld;have qL:lk ((b,au.gD v st (r::rs))::s.hp) b=some (.gD v st (r::rs)):=by rw[ak,if_pos rfl]
    have hout:¬aG c R ((b,au.gD v st (r::rs))::s.hp) (R.blk b):=by
     rintro (h|⟨b',h⟩)
     ·exact g.free _ ⟨b,(Yw _).2 rfl⟩ h
     by_cases e:b'=b
     ·subst e;rw[qL] at h;exact hno _ h
     rw[ak,if_neg (fun x=>e x.symm)] at h;exact e (g.inj b' b _ h ((Yw _).2 rfl))
    have Vb:aU (aG c R ((b,au.gD v st (r::rs))::s.hp)) (w.freeze ⟨R.blk b,cur.size,none⟩ 1) (.sl false st (r::rs)) (.slice (some ⟨R.blk b,0,none⟩) (r::rs).length (R.cap b).1):=by
     simp only[aU];refine⟨_,_,_,rfl,rfl,⟨by omega,by unfold maxLen at h5;omega⟩,fun e=>(by cases e),fun ad ha=>?_⟩;simp only[Option.some.injEq] at ha;subst ha;refine .inr ⟨rfl,hout,cur,e,_,f1,?_⟩;have hm:=aI m1 m2 st (r::rs) xs hrep;rw[←h7] at hm;simp only[List.drop_zero];have hm:=l6 (cur.toList.drop ((r::rs).length*st)) hm;rwa [List.take_append_drop] at hm
    refine⟨u,w.freeze ⟨R.blk b,cur.size,none⟩ 1,R,_,_,?_,h,g.upd hR r1 r2 r3 hown hworld (by simp only[dB];rw[hs];exact Vb),?_⟩
    ·rw[hu];simp only[convert,Sem.run_bind,run_underlying q2,run_underlying q3,Result.andThen_ok,markStringish,run_shape,World.shape?,h3,run_freeze,Sem.run_pure,beq_self_eq_true]
    rw[hu];simp only[ai];exact Vb
   exact p9 g hT hH h hx
  exact p9 g hT hH h hx
 exact p9 g hT hH h hx
end
def iE (tm:List (Nat×AV))(x:Operand):Option AV:=
 match x with
 |.tmp t=>lk tm t
 |.const v=>some (.pv (.sc v))
 |.func f=>some (.pv (.fn (.func f) [] []))
 |.global _=>none
def Xc (tm:List (Nat×AV)):List Operand→Option (List AV)
 |[]=>some []
 | x::r=>match iE tm x with
   | some v=>match Xc tm r with
     |some vs=>some (v::vs)
     |none=>none
   |none=>none
def Ob:List AV→List Nat
 |v::_=>refs v
 |[]=>[]
def Kc:List AV→List Nat
 |[]=>[]
 | v::r=>match v with
   |.bU b _ _ _=>b::Kc r
   |_=>Kc r
def FD (op:Op)(vs:List AV):List Nat:=
 match op with
 |.load _ _=>dG vs
 |.store _ _ _=>Ob vs
 |.nilCheck _=>dG vs
 |.convert _ _ _=>dG vs
 |.makeFunc _ _ _=>dG vs
 |.slice _ _ _ _ _=>dG vs
 |.fieldAddr _ _ _=>dG vs
 |.indexAddr _ _ _=>dG vs
 |.buildSlice _ _ _=>dG vs
 |.call _=>dG vs
 |.unOp _ _ _=>dG vs
 |.binOp _ _ _ _ _=>Kc vs
 |.lookup _ _ _ _=>dG vs
 |.mapUpdate _ _ _ _=>dG vs
 |_=>[]
def Od (H:List (Nat×au))(op:UnOp)(x:AV)(K:AV→Prop):Prop:=
 match x with
 | .bU b ver i off=>match op with
   | .not=>match lk H b with
     | some (.tr _ v _ st)=>match st with
       | none=>match Nat.beq ver v with
         | true=>match off with
           |0=>K (.bU b ver i 1)
           |1=>K (.bU b ver i 0)
           |_=>False
         |false=>False
       |some _=>False
     |_=>False
   |_=>False
 |x=>Zo op x K
theorem Ke {P:Program}{w:World}{R:Real}{N:Nat→Prop}{hp:List (Nat×au)}{H:List (Nat×au)}(hH:∀b box,lk H b=some box→lk hp b=some box){op:UnOp}{x:AV}{K:AV→Prop}(h:Od H op x K){u:Value}(hx:ai N w hp R x u) :
  ∃y v,(Op.unary op u).run P w=.ok y w∧K v∧ai N w hp R v y:=by
 unfold Od at h;split at h
 ·rename_i b ver i off;split at h;rotate_left;cases h
  split at h;rotate_left;cases h
  rename_i y v rest st hb;split at h;rotate_left;cases h
  split at h;rotate_left;cases h
  rename_i hv;have hb':=hH _ _ hb;simp only[ai,hb',aJ] at hx;obtain⟨h1,h2,h3⟩:=hx;have h3:=h3 (Nat.eq_of_beq_eq_true hv) (by trivial);subst h3;split at h
  ·refine⟨.bool (!(R.nil b != Nat.beq 0 1)),_,by simp[Op.unary],h,?_⟩;simp only[ai,hb',aJ];exact⟨h1,rfl,fun _ _=>by cases R.nil b<;>rfl⟩
  ·refine⟨.bool (!(R.nil b != Nat.beq 1 1)),_,by simp[Op.unary],h,?_⟩;simp only[ai,hb',aJ];exact⟨h1,rfl,fun _ _=>by cases R.nil b<;>rfl⟩
  exact h.elim
 exact Oe h hx
def MC (H:List (Nat×au))(v:AV):Bool:=
 match v with
 |.ptr _ _=>true
 |.pv (.dh _ _)=>true
 |.pv (.fn (.func _) _ _)=>true
 | .bU b ver _ _=>match ME (lk H b) with
   |some k=>Nat.beq ver k
   |none=>false
 |_=>false
def ac4:AV→Bool
 |.bU _ _ _ _=>true
 |_=>false
def Ba (T:Tab)(H:List (Nat×au))(op:BinOp)(t:TypeId)(x y:AV)(K:AV→Prop):Prop:=
 match ac4 x with
 | true=>match y with
   | .pv (.sc (.pointer none))=>match MC H x with
     | true=>match lk T t with
       | some i=>match i.d with
         |.Dh _=>MF op false K
         |_=>False
       |none=>False
     |false=>False
   |_=>False
 |false=>Di T op t x y K
def cop (P:Program)(T:Tab)(op:Op)(vs:List AV)(H:List (Nat×au))(id:Nat)(K:AV→List (Nat×au)→Prop):Prop:=
 match op with
 | .move _=>match vs with
   |[v]=>K v []
   |_=>False
 | .assign _=>match vs with
   |[v]=>K v []
   |_=>False
 | .pick _ _ _=>match vs with
   | [.pv (.sc (.bool c)),x,y]=>match c with
     |true=>K x []
     |false=>K y []
   |_=>False
 |.alloc t=>xS T t id K
 | .box t _=>match vs with
   |[x]=>Oa T t x id K
   |_=>False
 |.build t ps=>kz T t (ps.toList.map (·.1)) vs fun v=>K v []
 |.buildSlice t n ps=>nG T H t n (ps.toList.map (·.1)) vs id K
 | .load t _=>match vs with
   |[x]=>uO T H t x fun v=>K v []
   |_=>False
 | .store t _ _=>match vs with
   |[x,y]=>qa T H t x y K
   |_=>False
 | .nilCheck _=>match vs with
   | [x]=>match MC H x with
     |true=>K x []
     |false=>False
   |_=>False
 | .binOp op t _ _ _=>match vs with
   |[x,y]=>Ba T H op t x y fun v=>K v []
   |_=>False
 | .unOp op _ _=>match vs with
   |[x]=>Od H op x fun v=>K v []
   |_=>False
 | .convert src dst _=>match vs with
   |[x]=>uP T H src dst x K
   |_=>False
 |.makeFunc f first _=>D5 H f first.size vs K
 |.makeSlice t _ _=>rz T t vs id K
 |.slice t _ l h m=>nH T H t l h m vs K
 | .fieldAddr t _ f=>match vs with
   |[x]=>kC T H t x f fun v=>K v []
   |_=>False
 | .field t _ f=>match vs with
   |[x]=>Hf T t x f fun v=>K v []
   |_=>False
 | .indexAddr t _ _=>match vs with
   |[x,y]=>Kg T H t x y fun v=>K v []
   |_=>False
 | .index t _ _=>match vs with
   |[x,y]=>uQ T t x y fun v=>K v []
   |_=>False
 | .extract _ i=>match vs with
   |[x]=>oK x i fun v=>K v []
   |_=>False
 | .call c=>match c.callee with
   |.value _=>D8 P H vs K
   | .builtin b=>match b with
     | .append=>match c.argTypes.toList with
       | [t,t']=>match Nat.beq t t' with
         |true=>y5 T H t vs id K
         |false=>False
       |_=>False
     | .len=>match c.argTypes.toList with
       | [t]=>match vs with
         |[x]=>Bb T H t x fun v=>K v []
         |_=>False
       |_=>False
     | .clear=>match c.argTypes.toList with
       | [t]=>match vs with
         |[x]=>xU T H t x K
         |_=>False
       |_=>False
     |.max=>Vd true vs fun v=>K v []
     |.min=>Vd false vs fun v=>K v []
     |_=>False
   |.invoke _ _=>False
 | .makeMap t r=>match r with
   |none=>xV T t id K
   |some _=>False
 | .lookup t _ _ ok=>match ok with
   | false=>match vs with
     |[x,y]=>Ea T H t x y fun v=>K v []
     |_=>False
   |true=>False
 | .mapUpdate t _ _ _=>match vs with
   |[x,y,z]=>tC T H t x y z K
   |_=>False
 |_=>False
def vW (P:Program)(T:Tab)(op:Op)(vs:List AV)(hp:List (Nat×au))(id:Nat)(K:AV→List (Nat×au)→List Nat→Prop):Prop:=
 match FD op vs with
 | ids=>match iX hp ids with
   |some H=>cop P T op vs H id fun v ws=>K v ws ids
   |none=>False
def kD (op:Op):Bool:=
 match op with
 | .call c=>match c.callee with
   |.value _=>true
   |_=>false
 |_=>false
def lC (P:Program)(T:Tab)(op:Op)(vs:List AV)(hp:List (Nat×au))(id:Nat)(K:AV→List (Nat×au)→List Nat→Prop):Prop:=
 match MG hp vs with
 |true=>dC P hp vs K
 |false=>vW P T op vs hp id K
def gen (T:Tab):Bool:=
 match T with
 | (a,_)::(b,_)::(c,_)::_=>match Nat.beq a b with
   |true=>Nat.beq b c
   |false=>false
 |_=>false
def Zp (T:Tab):Tab:=
 match T with
 |x::r=>x::x::x::r
 |[]=>[]
theorem XQ (T:Tab)(t:Nat):lk (Zp T) t=lk T t:=by
 cases T with
 |nil=>rfl
 | cons x r=>
   obtain⟨k,v⟩:=x;simp only[Zp,ak];split<;>rfl
theorem bA.Zp {P:Program}{T:Tab}(h:bA P T):bA P (Zp T):=fun t i hi=>h t i (by rw[←XQ T t];exact hi)
def QM (P:Program)(T:Tab)(o:Oper)(tm:List (Nat×AV))(hp:List (Nat×au))(id:Nat)(K:AV→List (Nat×au)→List Nat→Prop):Prop:=
 match Xc tm (jf o.op) with
 | some vs=>match kD o.op with
   | true=>match isY vs with
     |true=>yC P hp vs K
     | false=>(lC P T o.op vs hp id K∨gC P hp id vs K)∨match gen T with
       |true=>gI P hp id vs K
       |false=>gV P hp id vs K
   |false=>vW P T o.op vs hp id K
 |none=>False
theorem y7 {hp:List (Nat×au)}:∀{ids:List Nat} {H:List (Nat×au)},iX hp ids=some H→∀b box,lk H b=some box→lk hp b=some box
 |[],H,h=>by simp only[iX,Option.some.injEq] at h;subst h;intro b box hb;simp[lk] at hb
 | i::r,H,h=>by
   simp only[iX] at h;split at h
   ·rename_i bx hbx;split at h
    ·rename_i t ht;simp only[Option.some.injEq] at h;subst h;intro b box hb;rw[ak] at hb;split at hb
     ·rename_i e;simp only[Option.some.injEq] at hb;rw[←e,←hb];exact hbx
     exact y7 ht b box hb
    cases h
   cases h
section
variable {P:Program}{T:Tab}{c:Ctx}{R:Real}{s:AS}{a:Act}{w:World}
theorem tF (g:aS c R s a w){x:Operand}{v:AV}(h:iE s.tm x=some v):ai (aG c R s.hp) w s.hp R v (a.eval x):=by
 unfold iE at h;split at h
 ·rename_i t;obtain⟨y,h1,h2⟩:=g.slots t v h;have:a.eval (.tmp t)=y:=by simp[Act.eval,h1]
  rw[this];exact h2
 ·simp only[Option.some.injEq] at h;subst h;simp only[ai,aU,Act.eval]
 ·simp only[Option.some.injEq] at h;subst h;simp only[ai,aU,Act.eval];exact⟨#[],#[],rfl,rfl,rfl⟩
 cases h
theorem jE (g:aS c R s a w):∀{xs:List Operand} {vs:List AV},Xc s.tm xs=some vs→FL (ai (aG c R s.hp) w s.hp R) vs (xs.map a.eval)
 |[],vs,h=>by simp only[Xc,Option.some.injEq] at h;subst h;rfl
 | x::xs,vs,h=>by
   simp only[Xc] at h;split at h
   ·rename_i v hv;split at h
    ·rename_i MH hvs;simp only[Option.some.injEq] at h;subst h;exact⟨_,_,rfl,tF g hv,jE g hvs⟩
    cases h
   cases h
def Nx (c:Ctx)(s:AS)(o:Oper)(K:AV→List (Nat×au)→Prop)(a:Act)(w:World):Prop:=
 ∃R v ws,K v ws∧aS c R ((s.app ws).put o.dst v) a w
theorem iK {o:Oper}{K:AV→List (Nat×au)→Prop}{Q:Exit→Act→World→Prop}(hd:∀t,o.dst=some t→t<c.n){y:Value}{w':World}{R':Real}{v:AV}{ws:List (Nat×au)}
  (hrun:(execOp a.eval o).run P w=.ok (.value y) w') (hK:K v ws) (g:aS c R' (s.app ws) a w') (hr:ai (aG c R' (ws++s.hp)) w' (ws++s.hp) R' v y) :
  o.wp P a w (Nx c s o K) Q:=by
 unfold Oper.wp;rw[hrun,Oper.upon_value];exact⟨R',v,ws,hK,g.put o.dst hd hr⟩
theorem iF {o:Oper}{m:Sem Value}(he:execOp a.eval o=(do pure (.value (←m)))){y:Value}{w':World}(h:m.run P w=.ok y w'):(execOp a.eval o).run P w=.ok (.value y) w':=by
 rw[he];simp[h]
theorem uw (ps:Array (Nat×Operand))(f:Operand→Value):(ps.map fun (i,x)=>(i,f x))=((ps.toList.map (·.1)).zip ((ps.toList.map (·.2)).map f)).toArray:=by
 have:∀l:List (Nat×Operand),(l.map fun (x:Nat×Operand)=>(x.1,f x.2))=(l.map (·.1)).zip ((l.map (·.2)).map f):=by
  intro l;induction l with
  |nil=>rfl
  |cons x l ih=>simp[ih]
 rw[←this];apply Array.ext';simp
def gJ (P:Program)(T:Tab)(c:Ctx)(R:Real)(s:AS)(a:Act)(w:World)(id:Nat)(Q:Exit→Act→World→Prop)(op:Op):Prop:=
 ∀(o:Oper),o.op=op→(∀t,o.dst=some t→t<c.n)→∀(vs:List AV) (H:List (Nat×au)) (K:AV→List (Nat×au)→Prop),
  (∀b box,lk H b=some box→lk s.hp b=some box)→FL (ai (aG c R s.hp) w s.hp R) vs ((jf op).map a.eval)→cop P T op vs H id K→o.wp P a w (Nx c s o K) Q
section
variable (g:aS c R s a w)(hT:bA P T){id:Nat}(hf:lk s.hp id=none)(Q:Exit→Act→World→Prop)
include g hT hf
theorem pure_ok {o:Oper}(hd:∀t,o.dst=some t→t<c.n){y:Value}{v:AV}{K:AV→List (Nat×au)→Prop}(hK:K v [])(hr:ai (aG c R s.hp) w s.hp R v y)
  (hrun:(execOp a.eval o).run P w=.ok (.value y) w):o.wp P a w (Nx c s o K) Q:=iK (ws:=[]) hd hrun hK g hr
theorem Ve (x:Operand):gJ P T c R s a w id Q (.move x):=by
 intro o ho hd vs H K hH hv h;unfold cop at h;simp only at h;split at h
 ·exact pure_ok g hT hf Q hd h (Qu hv) (by simp[execOp,ho])
 exact h.elim
theorem Og (x:Operand):gJ P T c R s a w id Q (.assign x):=by
 intro o ho hd vs H K hH hv h;unfold cop at h;simp only at h;split at h
 ·exact pure_ok g hT hf Q hd h (Qu hv) (by simp[execOp,ho])
 exact h.elim
theorem Vf (x y z:Operand):gJ P T c R s a w id Q (.pick x y z):=by
 intro o ho hd vs H K hH hv h;unfold cop at h;simp only at h;split at h;rotate_left;cases h
 obtain⟨h1,h2,h3⟩:=FL3 hv;simp only[ai,aU] at h1;split at h
 ·exact pure_ok g hT hf Q hd h h2 (by simp[execOp,ho,h1,asBool])
 exact pure_ok g hT hf Q hd h h3 (by simp[execOp,ho,h1,asBool])
theorem QN (t:TypeId):gJ P T c R s a w id Q (.alloc t):=by
 intro o ho hd vs H K hH hv h;unfold cop at h;simp only at h;obtain⟨z,w',R',q,ws,h1,h2,h3,h4⟩:=FB g hT hf h;exact iK hd (iF (m:=Instr.alloc t true (.tuple #[])) (by unfold execOp;rw[ho]) h1) h2 h3 h4
theorem XR (t:TypeId)(x:Operand):gJ P T c R s a w id Q (.box t x):=by
 intro o ho hd vs H K hH hv h;unfold cop at h;simp only at h;split at h
 ·obtain⟨z,w',R',q,ws,h1,h2,h3,h4⟩:=Kb g hT hf h (Qu hv);exact iK hd (iF (m:=Instr.box t (a.eval x)) (by unfold execOp;rw[ho]) h1) h2 h3 h4
 exact h.elim
theorem QO (t:TypeId)(ps:Array (Nat×Operand)):gJ P T c R s a w id Q (.build t ps):=by
 intro o ho hd vs H K hH hv h;unfold cop at h;simp only at h;obtain⟨y,z,h1,h2,h3⟩:=z8 hT h hv;simp only[jf] at h1;exact pure_ok g hT hf Q hd h2 h3 (iF (m:=Instr.build t (ps.map fun (i,x)=>(i,a.eval x))) (by unfold execOp;rw[ho]) (by rw[uw];exact h1))
theorem Dj (t:TypeId)(n:Nat)(ps:Array (Nat×Operand)):gJ P T c R s a w id Q (.buildSlice t n ps):=by
 intro o ho hd vs H K hH hv h;unfold cop at h;simp only at h;obtain⟨z,w',R',q,ws,h1,h2,h3,h4⟩:=Dk g hT hH hf h hv;simp only[jf] at h1;exact iK hd (iF (m:=Instr.buildSlice t n (ps.map fun (i,x)=>(i,a.eval x))) (by unfold execOp;rw[ho]) (by rw[uw];exact h1)) h2 h3 h4
theorem Vg (t:TypeId)(x:Operand):gJ P T c R s a w id Q (.load t x):=by
 intro o ho hd vs H K hH hv h;unfold cop at h;simp only at h;split at h
 ·obtain⟨y,v,h1,h2,h3⟩:=FE g hT hH h (Qu hv);exact pure_ok g hT hf Q hd h2 h3 (iF (m:=Instr.loadAt t (a.eval x)) (by unfold execOp;rw[ho]) h1)
 exact h.elim
theorem QR (t:TypeId)(x y:Operand):gJ P T c R s a w id Q (.store t x y):=by
 intro o ho hd vs H K hH hv h;unfold cop at h;simp only at h;split at h;rotate_left;cases h
 obtain⟨hx,hy⟩:=U0 hv;obtain⟨w',R',ws,h1,h2,h3⟩:=Dn g hT hH h hx hy;unfold Oper.wp;have:(execOp a.eval o).run P w=.ok .skip w':=by unfold execOp;rw[ho];simp[h1]
 rw[this,Oper.upon_skip];exact⟨R',_,ws,h2,h3.put o.dst hd (by simp only[ai,aU])⟩
theorem Hg (x:Operand):gJ P T c R s a w id Q (.nilCheck x):=by
 intro o ho hd vs H K hH hv h;unfold cop at h;simp only at h;split at h;rotate_left;cases h
 rename_i v;have hx:=Qu hv;split at h;rotate_left;cases h
 rename_i hn;have key:(∃ad,a.eval x=.pointer (some ad))∨(∃f p q,a.eval x=.func (.func f) p q):=by
  unfold MC at hn;split at hn
  ·exact .inl (vX (by rfl) hx)
  ·exact .inl (vX (by rfl) hx)
  ·simp only[ai,aU] at hx;obtain⟨fs,cs,h1,_⟩:=hx;exact .inr ⟨_,_,_,h1⟩
  ·rename_i b ver k off;split at hn
   ·rename_i k' hk;simp only[ai] at hx;cases hb:lk H b with
    |none=>rw[hb] at hk;cases hk
    | some box=>
      rw[hb,←hH _ _ hb] at hk;obtain⟨st,_,hu,_⟩:=Bc hx hk (Nat.eq_of_beq_eq_true hn);exact .inl ⟨_,hu⟩
   cases hn
  cases hn
 rcases key with ⟨ad,hk⟩|⟨f,p,q,hk⟩
 ·exact pure_ok g hT hf Q hd h hx (by simp[execOp,ho,hk])
 exact pure_ok g hT hf Q hd h hx (by simp[execOp,ho,hk])
theorem Ho {H:List (Nat×au)}(hH:∀b box,lk H b=some box→lk s.hp b=some box){t:TypeId}{op:BinOp}{x y:AV}{K:AV→Prop}(h:Ba T H op t x y K){u v:Value}
  (hx:ai (aG c R s.hp) w s.hp R x u) (hy:ai (aG c R s.hp) w s.hp R y v) (xo yo:Operand) :
  ∃r,(do eqGuard op t xo yo u v;binOp op t u v:Sem Value).run P w=.ok r w∧∃p,K (.pv p)∧aU (aG c R s.hp) w p r:=by
 unfold Ba at h;split at h
 ·rename_i hap;split at h;rotate_left;cases h
  split at h;rotate_left;cases h
  rename_i hn;split at h;rotate_left;cases h
  rename_i i hi;obtain⟨d,hd,fC⟩:=(hT t i hi).fq;split at h;rotate_left;cases h
  rename_i el e;have hd':P.underlying t=some (.pointer el):=by
   rw[e] at fC;cases d<;>simp[di] at fC
   subst fC;exact hd
  have key:∃ad,u=.pointer (some ad):=by
   cases x with
   | bU b ver k off=>
     simp only[MC] at hn;split at hn
     ·rename_i k' hk;simp only[ai] at hx;cases hb:lk H b with
      |none=>rw[hb] at hk;cases hk
      | some box=>
        rw[hb,←hH _ _ hb] at hk;obtain⟨st,_,hu,_⟩:=Bc hx hk (Nat.eq_of_beq_eq_true hn);exact⟨_,hu⟩
     cases hn
   |_=>cases hap
  obtain⟨ad,rfl⟩:=key;simp only[ai,aU] at hy;subst hy;exact fin h (Xd 9999 ad hd') ⟨fun e=>by subst e;rfl,fun e=>by subst e;rfl⟩ ⟨fun _ _ ha _=>(by cases ha),fun ha _=>(by cases ha)⟩
 exact Kh hT h hx hy xo yo
theorem QS (op:BinOp)(t:TypeId)(x y:Operand)(yt:TypeId):gJ P T c R s a w id Q (.binOp op t x y yt):=by
 intro o ho hd vs H K hH hv h;unfold cop at h;simp only at h;split at h
 ·obtain⟨hx,hy⟩:=U0 hv;obtain⟨r,h1,p,h2,h3⟩:=Ho (xo:=x) (yo:=y) g hT hf hH h hx hy;exact pure_ok g hT hf Q hd h2 (by simpa only[ai] using h3) (iF (m:=(do eqGuard op t x y (a.eval x) (a.eval y);binOp op t (a.eval x) (a.eval y))) (by unfold execOp;rw[ho]) h1)
 exact h.elim
theorem Vh (op:UnOp)(t:TypeId)(x:Operand):gJ P T c R s a w id Q (.unOp op t x):=by
 intro o ho hd vs H K hH hv h;unfold cop at h;simp only at h;split at h
 ·obtain⟨y,v,h1,h2,h3⟩:=Ke (P:=P) (w:=w) hH h (Qu hv);exact pure_ok g hT hf Q hd h2 h3 (iF (m:=Op.unary op (a.eval x)) (by unfold execOp;rw[ho]) h1)
 exact h.elim
theorem Ki (src dst:TypeId)(x:Operand):gJ P T c R s a w id Q (.convert src dst x):=by
 intro o ho hd vs H K hH hv h;unfold cop at h;simp only at h;split at h
 ·obtain⟨z,w',R',q,ws,h1,h2,h3,h4⟩:=FH g hT hH h (Qu hv);exact iK hd (iF (m:=convert src dst (a.eval x)) (by unfold execOp;rw[ho]) h1) h2 h3 h4
 exact h.elim
theorem Hq (f:Fn)(first aT:Array Operand):gJ P T c R s a w id Q (.makeFunc f first aT):=by
 intro o ho hd vs H K hH hv h;unfold cop at h;simp only at h;simp only[jf,List.map_append,←Array.toList_map] at hv;rw[show first.size=(first.map a.eval).size from by simp] at h;obtain⟨z,ws,h1,h2,h3,h4⟩:=GX (P:=P) g hH h hv;exact iK hd (iF (m:=Instr.makeFunc f (first.map a.eval) (aT.map a.eval)) (by unfold execOp;rw[ho]) h1) h2 h3 h4
theorem FI (t:TypeId)(l n:Operand):gJ P T c R s a w id Q (.makeSlice t l n):=by
 intro o ho hd vs H K hH hv h;unfold cop at h;simp only at h;simp only[jf] at hv;obtain⟨x,y,rfl⟩:∃x y,vs=[x,y]:=by
  have:=hv.length;match vs with
  |[x,y]=>exact⟨x,y,rfl⟩
  |[]=>simp at this
  |[_]=>simp at this
  |_::_::_::_=>simp at this
 obtain⟨hx,hy⟩:=U0 hv;obtain⟨z,w',R',q,ws,h1,h2,h3,h4⟩:=GZ g hT hf h hx hy;exact iK hd (iF (m:=Instr.makeSlice t (a.eval l) (a.eval n)) (by unfold execOp;rw[ho]) h1) h2 h3 h4
theorem ok_slice (t:TypeId)(x:Operand)(l hi m:Option Operand):gJ P T c R s a w id Q (.slice t x l hi m):=by
 intro o ho hd vs H K hH hv h;unfold cop at h;simp only at h;simp only[jf] at hv;obtain⟨y,z,ws,R',h1,h2,h3,h4⟩:=Dp g hT hH h hv;exact iK hd (iF (m:=Instr.sliceAt t (a.eval x) (l.map a.eval) (hi.map a.eval) (m.map a.eval)) (by unfold execOp;rw[ho]) h1) h2 h3 h4
theorem FJ (t:TypeId)(x:Operand)(f:Nat):gJ P T c R s a w id Q (.fieldAddr t x f):=by
 intro o ho hd vs H K hH hv h;unfold cop at h;simp only at h;split at h
 ·obtain⟨y,v,h1,h2,h3⟩:=xW (w:=w) hT hH h (Qu hv);exact pure_ok g hT hf Q hd h2 h3 (iF (m:=Instr.fieldAt t (a.eval x) f) (by unfold execOp;rw[ho]) h1)
 exact h.elim
theorem QT (t:TypeId)(x:Operand)(f:Nat):gJ P T c R s a w id Q (.field t x f):=by
 intro o ho hd vs H K hH hv h;unfold cop at h;simp only at h;split at h
 ·obtain⟨y,v,h1,h2,h3⟩:=Kj hT h (Qu hv);exact pure_ok g hT hf Q hd h2 h3 (iF (m:=Instr.field t (a.eval x) f) (by unfold execOp;rw[ho]) h1)
 exact h.elim
theorem FK (t:TypeId)(x i:Operand):gJ P T c R s a w id Q (.indexAddr t x i):=by
 intro o ho hd vs H K hH hv h;unfold cop at h;simp only at h;split at h
 ·obtain⟨hx,hy⟩:=U0 hv;obtain⟨y,v,h1,h2,h3⟩:=Kk g hT hH h hx hy;exact pure_ok g hT hf Q hd h2 h3 (iF (m:=Instr.indexAt t (a.eval x) (a.eval i)) (by unfold execOp;rw[ho]) h1)
 exact h.elim
theorem QU (t:TypeId)(x i:Operand):gJ P T c R s a w id Q (.index t x i):=by
 intro o ho hd vs H K hH hv h;unfold cop at h;simp only at h;split at h
 ·obtain⟨hx,hy⟩:=U0 hv;obtain⟨y,v,h1,h2,h3⟩:=FM hT h hx hy;exact pure_ok g hT hf Q hd h2 h3 (iF (m:=Instr.index t (a.eval x) (a.eval i)) (by unfold execOp;rw[ho]) h1)
 exact h.elim
theorem Kl (x:Operand)(i:Nat):gJ P T c R s a w id Q (.extract x i):=by
 intro o ho hd vs H K hH hv h;unfold cop at h;simp only at h;split at h
 ·obtain⟨y,v,h1,h2,h3⟩:=Bd (P:=P) h (Qu hv);exact pure_ok g hT hf Q hd h2 h3 (iF (m:=Instr.extract (a.eval x) i) (by unfold execOp;rw[ho]) h1)
 exact h.elim
theorem Vi (cc:Call):gJ P T c R s a w id Q (.call cc):=by
 intro o ho hd vs H K hH hv h;unfold cop at h;simp only at h;have hex:execOp a.eval o=(do let d ←resolve a.eval cc o.type;invoke d.target d.args):=by unfold execOp;rw[ho]
 split at h
 ·-- of a function
  rename_i f rC;simp only[jf,rC,List.map_cons] at hv;cases vs with
  |nil=>exact h.elim
  | cons fv args=>
    obtain⟨u,us,e1,Oh,hargs⟩:=hv;simp only[List.cons.injEq] at e1;obtain⟨e1,rfl⟩:=e1;obtain⟨XT,first,aT,rfl,⟨fn,hfn,hbody,hname⟩,uR⟩:=He g hH h Oh hargs;have hrun:(execOp a.eval o).run P w=.ok (.enter XT (first++(cc.args.toList.map a.eval).toArray++aT)) w:=by
     rw[hex];have hb:fn.body.isNone=false:=by cases vM:fn.body<;>simp[vM] at hbody ⊢
     have e3:(cc.args.toList.map a.eval).toArray=cc.args.map a.eval:=by rw[←Array.toList_map,Array.toArray_toList]
     simp only[resolve,rC,e1,Deferred.ofValue,Sem.run_bind,Sem.run_pure,Result.andThen_ok,invoke,callFunc,run_program,hfn,hname,hb,e3];simp
    unfold Oper.wp;rw[hrun,Oper.upon_enter];refine uR.mono ?_;rintro e w' ⟨v,z,ws,rfl,hK,g2,hr⟩
    exact⟨R,z,ws,hK,g2.put o.dst hd hr⟩
 ·rename_i b rC;simp only[jf,rC] at hv;have hrun:∀{y:Value} {w':World},(builtin b cc.argTypes o.type (cc.args.map fun|.const _=>true|_=>false) (cc.args.map a.eval)).run P w=.ok (.value y) w'→(execOp a.eval o).run P w=.ok (.value y) w':=by
   intro y w' hy;rw[hex];simp only[resolve,rC,Sem.run_bind,Sem.run_pure,Result.andThen_ok,invoke];exact hy
  have hargs:∀l:List Operand,cc.args.toList=l→cc.args.map a.eval=(l.map a.eval).toArray:=by
   intro l hl;rw[←hl,←Array.toList_map,Array.toArray_toList]
  split at h
  ·-- append
   split at h;rotate_left;cases h
   rename_i t t' hts;split at h;rotate_left;cases h
   rename_i htt;have htt:=Nat.eq_of_beq_eq_true htt;subst htt;have hat:cc.argTypes = #[t,t]:=by rw[←Array.toArray_toList (xs:=cc.argTypes),hts]
   obtain⟨d,x,rfl⟩:∃x y,vs=[x,y]:=by
    unfold y5 at h;split at h
    ·exact⟨_,_,rfl⟩
    unfold uy at h;split at h
    ·exact⟨_,_,rfl⟩
    unfold qJ at h;split at h
    ·exact⟨_,_,rfl⟩
    unfold qR at h;split at h
    ·exact⟨_,_,rfl⟩
    exact h.elim
   have hl:=hv.length;obtain⟨x1,x2,hal⟩:∃x1 x2,cc.args.toList=[x1,x2]:=by
    simp only[List.length_map] at hl;match hm:cc.args.toList with
    |[x,y]=>exact⟨x,y,rfl⟩
    |[]=>rw[hm] at hl;simp at hl
    |[_]=>rw[hm] at hl;simp at hl
    |_::_::_::_=>rw[hm] at hl;simp at hl
   rw[hal] at hv;obtain⟨hx,hy⟩:=U0 hv;obtain⟨z,w',R',q,ws,h1,h2,h3,h4⟩:=Hr (ty:=o.type) g hT hH hf h hx hy;refine iK hd (hrun ?_) h2 h3 h4;rw[hargs _ hal,hat];simp only[builtin,List.map_cons,List.map_nil,Sem.run_bind,h1,Result.andThen_ok,Sem.run_pure]
  ·-- len
   split at h;rotate_left;cases h
   rename_i t hts;have hat:cc.argTypes = #[t]:=by rw[←Array.toArray_toList (xs:=cc.argTypes),hts]
   split at h;rotate_left;cases h
   rename_i x;have hl:=hv.length;obtain⟨x1,hal⟩:∃x1,cc.args.toList=[x1]:=by
    simp only[List.length_map] at hl;match hm:cc.args.toList with
    |[x]=>exact⟨x,rfl⟩
    |[]=>rw[hm] at hl;simp at hl
    |_::_::_=>rw[hm] at hl;simp at hl
   rw[hal] at hv;obtain⟨y,v,h1,h2,h3⟩:=Ht (ty:=o.type) g hT hH h (Qu hv);refine pure_ok g hT hf Q hd h2 h3 (hrun ?_);rw[hargs _ hal,hat];simp only[builtin,List.map_cons,List.map_nil,Sem.run_bind,h1,Result.andThen_ok,Sem.run_pure]
  ·-- clear
   split at h;rotate_left;cases h
   rename_i t hts;have hat:cc.argTypes = #[t]:=by rw[←Array.toArray_toList (xs:=cc.argTypes),hts]
   split at h;rotate_left;cases h
   rename_i x;have hl:=hv.length;obtain⟨x1,hal⟩:∃x1,cc.args.toList=[x1]:=by
    simp only[List.length_map] at hl;match hm:cc.args.toList with
    |[x]=>exact⟨x,rfl⟩
    |[]=>rw[hm] at hl;simp at hl
    |_::_::_=>rw[hm] at hl;simp at hl
   rw[hal] at hv;obtain⟨z,w',q,ws,h1,h2,h3,h4⟩:=FN (ty:=o.type) g hT hH h (Qu hv);refine iK hd (hrun ?_) h2 h3 h4;rw[hargs _ hal,hat];simp only[builtin,List.map_cons,List.map_nil,Sem.run_bind,h1,Result.andThen_ok,Sem.run_pure]
  ·-- max
   obtain⟨d,x,rfl⟩:∃x y,vs=[x,y]:=by
    unfold Vd at h;split at h
    ·exact⟨_,_,rfl⟩
    exact h.elim
   have hl:=hv.length;obtain⟨x1,x2,hal⟩:∃x1 x2,cc.args.toList=[x1,x2]:=by
    simp only[List.length_map] at hl;match hm:cc.args.toList with
    |[x,y]=>exact⟨x,y,rfl⟩
    |[]=>rw[hm] at hl;simp at hl
    |[_]=>rw[hm] at hl;simp at hl
    |_::_::_::_=>rw[hm] at hl;simp at hl
   rw[hal] at hv;obtain⟨hx,hy⟩:=U0 hv;obtain⟨z,q,h1,h2,h3⟩:=D9 (P:=P) h hx hy cc.argTypes o.type;refine pure_ok g hT hf Q hd h2 h3 (hrun ?_);rw[hargs _ hal];simp only[if_true] at h1;simp only[builtin,List.map_cons,List.map_nil,Sem.run_bind,h1,Result.andThen_ok,Sem.run_pure]
  ·obtain⟨d,x,rfl⟩:∃x y,vs=[x,y]:=by
    unfold Vd at h;split at h
    ·exact⟨_,_,rfl⟩
    exact h.elim
   have hl:=hv.length;obtain⟨x1,x2,hal⟩:∃x1 x2,cc.args.toList=[x1,x2]:=by
    simp only[List.length_map] at hl;match hm:cc.args.toList with
    |[x,y]=>exact⟨x,y,rfl⟩
    |[]=>rw[hm] at hl;simp at hl
    |[_]=>rw[hm] at hl;simp at hl
    |_::_::_::_=>rw[hm] at hl;simp at hl
   rw[hal] at hv;obtain⟨hx,hy⟩:=U0 hv;obtain⟨z,q,h1,h2,h3⟩:=D9 (P:=P) h hx hy cc.argTypes o.type;refine pure_ok g hT hf Q hd h2 h3 (hrun ?_);rw[hargs _ hal];simp only[Bool.false_eq_true,if_false] at h1;simp only[builtin,List.map_cons,List.map_nil,Sem.run_bind,h1,Result.andThen_ok,Sem.run_pure]
  exact h.elim
 exact h.elim
theorem Km (t:TypeId)(r:Option Operand):gJ P T c R s a w id Q (.makeMap t r):=by
 intro o ho hd vs H K hH hv h;unfold cop at h;simp only at h;split at h
 ·obtain⟨z,w',R',q,ws,h1,h2,h3,h4⟩:=FO g hT hf h;exact iK hd (iF (m:=Instr.makeMap t none) (by unfold execOp;rw[ho];rfl) h1) h2 h3 h4
 exact h.elim
theorem Oi (t:TypeId)(x i:Operand)(ok:Bool):gJ P T c R s a w id Q (.lookup t x i ok):=by
 intro o ho hd vs H K hH hv h;unfold cop at h;simp only at h;split at h;rotate_left;cases h
 split at h
 ·obtain⟨hx,hy⟩:=U0 hv;obtain⟨y,v,h1,h2,h3⟩:=Hu g hT hH h hx hy;exact pure_ok g hT hf Q hd h2 h3 (iF (m:=Instr.lookup t (a.eval x) (a.eval i) false) (by unfold execOp;rw[ho]) h1)
 exact h.elim
theorem FQ (t:TypeId)(x i y:Operand):gJ P T c R s a w id Q (.mapUpdate t x i y):=by
 intro o ho hd vs H K hH hv h;unfold cop at h;simp only at h;split at h;rotate_left;cases h
 obtain⟨hx,hy,hz⟩:=FL3 hv;obtain⟨w',ws,h1,h2,h3⟩:=Dq g hT hH h hx hy hz;unfold Oper.wp;have:(execOp a.eval o).run P w=.ok .skip w':=by unfold execOp;rw[ho];simp[h1]
 rw[this,Oper.upon_skip];exact⟨R,_,ws,h2,h3.put o.dst hd (by simp only[ai,aU])⟩
theorem XU (op:Op):gJ P T c R s a w id Q op:=by
 cases op with
 |move x=>exact Ve g hT hf Q x
 |assign x=>exact Og g hT hf Q x
 |pick x y z=>exact Vf g hT hf Q x y z
 |alloc t=>exact QN g hT hf Q t
 |box t x=>exact XR g hT hf Q t x
 |build t ps=>exact QO g hT hf Q t ps
 |buildSlice t n ps=>exact Dj g hT hf Q t n ps
 |load t x=>exact Vg g hT hf Q t x
 |store t x y=>exact QR g hT hf Q t x y
 |nilCheck x=>exact Hg g hT hf Q x
 |binOp op t x y yt=>exact QS g hT hf Q op t x y yt
 |unOp op t x=>exact Vh g hT hf Q op t x
 |convert src dst x=>exact Ki g hT hf Q src dst x
 |makeFunc f first aT=>exact Hq g hT hf Q f first aT
 |makeSlice t l n=>exact FI g hT hf Q t l n
 |slice t x l h m=>exact ok_slice g hT hf Q t x l h m
 |fieldAddr t x f=>exact FJ g hT hf Q t x f
 |field t x f=>exact QT g hT hf Q t x f
 |indexAddr t x i=>exact FK g hT hf Q t x i
 |index t x i=>exact QU g hT hf Q t x i
 |extract x i=>exact Kl g hT hf Q x i
 |makeMap t r=>exact Km g hT hf Q t r
 |lookup t x i ok=>exact Oi g hT hf Q t x i ok
 |mapUpdate t x i y=>exact FQ g hT hf Q t x i y
 |call cc=>exact Vi g hT hf Q cc
 |_=>intro o ho hd vs H K hH hv h;exact h.elim
theorem Xe {o:Oper}(hd:∀t,o.dst=some t→t<c.n)(hc:kD o.op=true){vs:List AV}{K:AV→List (Nat×au)→List Nat→Prop}(hv:FL (ai (aG c R s.hp) w s.hp R) vs ((jf o.op).map a.eval))
  (h:gC P s.hp id vs K):o.wp P a w (Nx c s o fun v ws=>∃ids,K v ws ids) Q:=by
 cases ho:o.op<;>rw[ho] at hc<;>simp only[kD] at hc<;>try (cases hc;done)
 rename_i cc;split at hc
 ·rename_i f rC;rw[ho] at hv;simp only[jf,rC,List.map_cons] at hv;cases vs with
  |nil=>exact h.elim
  | cons fv args=>
    obtain⟨u,us,e1,Oh,hargs⟩:=hv;simp only[List.cons.injEq] at e1;obtain⟨e1,rfl⟩:=e1;obtain⟨XT,first,aT,rfl,⟨fn,hfn,hbody,hname⟩,uR⟩:=QV g h Oh hargs;have hex:execOp a.eval o=(do let d ←resolve a.eval cc o.type;invoke d.target d.args):=by unfold execOp;rw[ho]
    have hrun:(execOp a.eval o).run P w=.ok (.enter XT (first++(cc.args.toList.map a.eval).toArray++aT)) w:=by
     rw[hex];have hb:fn.body.isNone=false:=by cases vM:fn.body<;>simp[vM] at hbody ⊢
     have e3:(cc.args.toList.map a.eval).toArray=cc.args.map a.eval:=by rw[←Array.toList_map,Array.toArray_toList]
     simp only[resolve,rC,e1,Deferred.ofValue,Sem.run_bind,Sem.run_pure,Result.andThen_ok,invoke,callFunc,run_program,hfn,hname,hb,e3];simp
    unfold Oper.wp;rw[hrun,Oper.upon_enter];refine uR.mono ?_;rintro e w' ⟨v,z,ws,ids,R',rfl,hK,g2,hr⟩
    exact⟨R',z,ws,⟨ids,hK⟩,g2.put o.dst hd hr⟩
 cases hc
theorem ZV {o:Oper}(hd:∀t,o.dst=some t→t<c.n)(hc:kD o.op=true){vs:List AV}{K:AV→List (Nat×au)→List Nat→Prop}(hv:FL (ai (aG c R s.hp) w s.hp R) vs ((jf o.op).map a.eval))
  (h:gV P s.hp id vs K):o.wp P a w (Nx c s o fun v ws=>∃ids,K v ws ids) Q:=by
 refine Oper.wp_mono ?_ (Xe g hT hf Q hd hc hv h);rintro a' w' ⟨R',v,ws,⟨ids,hK⟩,g'⟩
 obtain⟨h1,h2⟩:=uS hK;refine⟨R',v,[],⟨ids,h1⟩,?_⟩;cases ZW:o.dst with
 | none=>
   rw[ZW] at g';exact g'.congr (fun _=>rfl) fun b=>(h2 b).symm
 | some d=>
   rw[ZW] at g';exact g'.congr (fun _=>rfl) fun b=>(h2 b).symm
theorem ZX {o:Oper}(hd:∀t,o.dst=some t→t<c.n)(hc:kD o.op=true){vs:List AV}{K:AV→List (Nat×au)→List Nat→Prop}(hv:FL (ai (aG c R s.hp) w s.hp R) vs ((jf o.op).map a.eval))
  (h:gI P s.hp id vs K):o.wp P a w (Nx c s o fun v ws=>∃ids,K v ws ids) Q:=by
 cases ho:o.op<;>rw[ho] at hc<;>simp only[kD] at hc<;>try (cases hc;done)
 rename_i cc;split at hc
 ·rename_i f rC;rw[ho] at hv;simp only[jf,rC,List.map_cons] at hv;cases vs with
  |nil=>exact h.elim
  | cons fv args=>
    obtain⟨u,us,e1,Oh,hargs⟩:=hv;simp only[List.cons.injEq] at e1;obtain⟨e1,rfl⟩:=e1;obtain⟨XT,first,aT,rfl,⟨fn,hfn,hbody,hname⟩,uR⟩:=QW g h Oh hargs;have hex:execOp a.eval o=(do let d ←resolve a.eval cc o.type;invoke d.target d.args):=by unfold execOp;rw[ho]
    have hrun:(execOp a.eval o).run P w=.ok (.enter XT (first++(cc.args.toList.map a.eval).toArray++aT)) w:=by
     rw[hex];have hb:fn.body.isNone=false:=by cases vM:fn.body<;>simp[vM] at hbody ⊢
     have e3:(cc.args.toList.map a.eval).toArray=cc.args.map a.eval:=by rw[←Array.toList_map,Array.toArray_toList]
     simp only[resolve,rC,e1,Deferred.ofValue,Sem.run_bind,Sem.run_pure,Result.andThen_ok,invoke,callFunc,run_program,hfn,hname,hb,e3];simp
    unfold Oper.wp;rw[hrun,Oper.upon_enter];refine uR.mono ?_;rintro e w' ⟨v,z,ws,ids,R',rfl,hK,g2,hr⟩
    exact⟨R',z,ws,⟨ids,hK⟩,g2.put o.dst hd hr⟩
 cases hc
theorem ZY {o:Oper}(hd:∀t,o.dst=some t→t<c.n)(hc:kD o.op=true){vs:List AV}{K:AV→List (Nat×au)→List Nat→Prop}(hv:FL (ai (aG c R s.hp) w s.hp R) vs ((jf o.op).map a.eval))
  (h:dC P s.hp vs K):o.wp P a w (Nx c s o fun v ws=>∃ids,K v ws ids) Q:=by
 cases ho:o.op<;>rw[ho] at hc<;>simp only[kD] at hc<;>try (cases hc;done)
 rename_i cc;split at hc
 ·rename_i f rC;rw[ho] at hv;simp only[jf,rC,List.map_cons] at hv;cases vs with
  | nil=>
    unfold dC at h;simp only[rD] at h;split at h
    ·simp at h
    exact h.elim
  | cons fv args=>
    obtain⟨u,us,e1,Oh,hargs⟩:=hv;simp only[List.cons.injEq] at e1;obtain⟨e1,rfl⟩:=e1;obtain⟨XT,first,aT,rfl,⟨fn,hfn,hbody,hname⟩,uR⟩:=QX g h Oh hargs;have hex:execOp a.eval o=(do let d ←resolve a.eval cc o.type;invoke d.target d.args):=by unfold execOp;rw[ho]
    have hrun:(execOp a.eval o).run P w=.ok (.enter XT (first++(cc.args.toList.map a.eval).toArray++aT)) w:=by
     rw[hex];have hb:fn.body.isNone=false:=by cases vM:fn.body<;>simp[vM] at hbody ⊢
     have e3:(cc.args.toList.map a.eval).toArray=cc.args.map a.eval:=by rw[←Array.toList_map,Array.toArray_toList]
     simp only[resolve,rC,e1,Deferred.ofValue,Sem.run_bind,Sem.run_pure,Result.andThen_ok,invoke,callFunc,run_program,hfn,hname,hb,e3];simp
    unfold Oper.wp;rw[hrun,Oper.upon_enter];refine uR.mono ?_;rintro e w' ⟨v,z,ws,ids,R',rfl,hK,g2,hr⟩
    exact⟨R',z,ws,⟨ids,hK⟩,g2.put o.dst hd hr⟩
 cases hc
theorem MI {o:Oper}(hd:∀t,o.dst=some t→t<c.n){vs:List AV}{K:AV→List (Nat×au)→List Nat→Prop}(hv:FL (ai (aG c R s.hp) w s.hp R) vs ((jf o.op).map a.eval))
  (h:vW P T o.op vs s.hp id K):o.wp P a w (Nx c s o fun v ws=>∃ids,K v ws ids) Q:=by
 unfold vW at h;simp only at h;split at h;rotate_left;cases h
 rename_i H hH;refine Oper.wp_mono ?_ (XU g hT hf Q o.op o rfl hd vs H _ (y7 hH) hv h);rintro a w ⟨R,v,ws,hK,g2⟩
 exact⟨R,v,ws,⟨_,hK⟩,g2⟩
theorem Z4 {o:Oper}(hd:∀t,o.dst=some t→t<c.n)(hc:kD o.op=true){vs:List AV}{K:AV→List (Nat×au)→List Nat→Prop}(hv:FL (ai (aG c R s.hp) w s.hp R) vs ((jf o.op).map a.eval))
  (ro:Option Nat) (h:yC P s.hp vs K):o.wpIn (W1 ro) 0 P a w (Nx c s o fun v ws=>∃ids,K v ws ids) Q:=by
 cases ho:o.op<;>rw[ho] at hc<;>simp only[kD] at hc<;>try (cases hc;done)
 rename_i cc;split at hc
 ·rename_i f rC;rw[ho] at hv;simp only[jf,rC,List.map_cons] at hv;unfold yC at h;split at h;rotate_left;cases h
  rename_i l args;obtain⟨u,us,e1,Oh,hargs⟩:=hv;simp only[List.cons.injEq] at e1;obtain⟨e1,rfl⟩:=e1;split at h;rotate_left;cases h
  rename_i y ver rest st h9;split at h;rotate_left;cases h
  split at h;rotate_left;cases h
  split at h;rotate_left;cases h
  rename_i ps hps;obtain⟨rfl,x,r,rfl,hle,hK⟩:=h;have hbx:=g.boxes 999 _ h9;obtain⟨-,kh,k1,k2,k3,k4⟩:=hbx;simp only[ai,aU] at Oh;obtain⟨fs,cs,rfl,hfs,hcs⟩:=Oh;simp only[dI] at hfs hcs;have hfs:fs = #[]:=by simpa using hfs
  have hcs:cs = #[]:=by simpa using hcs
  subst hfs hcs;have hargs':dI (aG c R s.hp) w ps (cc.args.toList.map a.eval):=by
   have:=(dn _ _ _ _ _ _).2 hargs;rw[tH hps] at this;exact nI _ _ this
  have hx:dI (fun q=>R.Y.D q∨jF c R s.hp q) w x (cc.args.toList.map a.eval):=by
   refine nJ (N:=aG c R s.hp) (fun q hq=>?_) _ _ _ hle hargs';rcases hq with hq|hq
   ·exact .inr ⟨999,by rw[h9];exact hq⟩
   exact hq.1
  obtain⟨fn,tmps,assign,body,hrun,xX⟩:=kh x r R.Y.Z R.Y.D R.Y.wy w (jF c R s.hp) _ (by simpa using k1) k2 k3 (fun q hq=>(k4 q hq.1).resolve_left hq.2)
   (fun q hq=>g.Zn hq.1) (fun q hq=>hq.2) hx
  have hex:execOp a.eval o=(do let d ←resolve a.eval cc o.type;invoke d.target d.args):=by unfold execOp;rw[ho]
  have e3:(cc.args.toList.map a.eval).toArray=cc.args.map a.eval:=by rw[←Array.toList_map,Array.toArray_toList]
  have hrun':(execOp a.eval o).run P w=.ok (.round l fn tmps assign body) w:=by
   rw[hex];rw[e3] at hrun;simp only[resolve,rC,e1,Deferred.ofValue,Sem.run_bind,Sem.run_pure,Result.andThen_ok,invoke];simpa using hrun
  have ac6:Oper.semAt ro a.eval o=execOp a.eval o:=by
   cases ro with
   |none=>rfl
   |some l=>exact Oper.semAt_some l _ _ (fun c e=>by rw[ho] at e;cases e)
  refine⟨fun _ _=>trivial,?_⟩;show o.uponIn (W1 ro) 0 P a _ Q ((Oper.semAt ro a.eval o).run P w)
  rw[ac6,hrun',Oper.uponIn_round];refine⟨fun e=>(by cases e),?_⟩;refine (show RoundIn (W1 ro) 0 P l fn tmps assign body w _ from xX).mono ?_;rintro e w' ⟨D',b,rfl,hE,hD1,hD2,hJ⟩
  obtain⟨g2,hr⟩:=g.yielded h9 hE hD1 hD2 hJ;exact⟨_,_,_,⟨_,hK⟩,g2.put o.dst hd hr⟩
 cases hc
theorem Oj (ro:Option Nat){o:Oper}(hd:∀t,o.dst=some t→t<c.n){K:AV→List (Nat×au)→List Nat→Prop}(h:QM P T o s.tm s.hp id K) :
  o.wpIn (W1 ro) 0 P a w (Nx c s o fun v ws=>∃ids,K v ws ids) Q:=by
 have nd:∀{vs:List AV},vW P T o.op vs s.hp id K→∀c,o.op ≠ .defer c:=by
  intro vs hf c e;rw[e] at hf;unfold vW at hf;simp only at hf;split at hf
  ·exact hf.elim
  exact hf.elim
 have nd2:kD o.op=true→∀c,o.op ≠ .defer c:=fun hc c e=>by rw[e] at hc;cases hc
 unfold QM at h;split at h;rotate_left;cases h
 rename_i vs hvs;split at h
 ·rename_i hc;split at h
  ·exact Z4 g hT hf Q hd hc (jE g hvs) ro h
  rcases h with (h|h)|h
  rotate_left 2
  ·split at h
   ·exact kE ro (nd2 hc) (ZX g hT hf Q hd hc (jE g hvs) h)
   exact kE ro (nd2 hc) (ZV g hT hf Q hd hc (jE g hvs) h)
  ·unfold lC at h;split at h
   ·exact kE ro (nd2 hc) (ZY g hT hf Q hd hc (jE g hvs) h)
   exact kE ro (nd h) (MI g hT hf Q hd (jE g hvs) h)
  exact kE ro (nd2 hc) (Xe g hT hf Q hd hc (jE g hvs) h)
 exact kE ro (nd h) (MI g hT hf Q hd (jE g hvs) h)
end
end
structure rE where
 look:List Nat
 dst:Option Nat
 rd:List Nat
 wr:List Nat
def tmpsOf:List Operand→List Nat
 |[]=>[]
 |.tmp t::r=>t::tmpsOf r
 |_::r=>tmpsOf r
def XV (tm:List (Nat×AV))(d:Option Nat)(v:AV):List (Nat×AV):=
 match d with
 |some d=>(d,v)::tm
 |none=>tm
def tJ (ops:List Oper)(o:Oper):Option Nat:=
 match o.guard with
 |none=>none
 | some (j,_)=>match nth ops j with
   |some oj=>oj.dst
   |none=>none
def uT (ops:List Oper)(o:Oper):List Nat:=
 match tJ ops o with
 |some d=>[d]
 |none=>[]
abbrev RK:=List (Nat×AV)→List (Nat×au)→List rE→Prop
abbrev RC:=List (Nat×AV)→List (Nat×au)→List rE→List (Nat×Bool)→Prop
def XW (tm:List (Nat×AV))(d:Option Nat)(v:AV)(K:List (Nat×AV)→Prop):Prop:=
 match d with
 |some d=>K ((d,v)::tm)
 |none=>K tm
theorem tK (tm:List (Nat×AV))(d:Option Nat)(v:AV)(K:List (Nat×AV)→Prop):XW tm d v K=K (XV tm d v):=by cases d<;>rfl
def Vk:List (Nat×au)→List (Nat×au)→(List (Nat×au)→Prop)→Prop
 |[],hp,K=>K hp
 |x::r,hp,K=>Vk r hp fun h=>K (x::h)
theorem Al:∀(ws hp:List (Nat×au)) (K:List (Nat×au)→Prop),Vk ws hp K=K (ws++hp)
 |[],_,_=>rfl
 |x::r,hp,K=>by simp only[Vk,Al r hp];rfl
def Xf (P:Program)(T:Tab)(ops:List Oper)(base:Nat)(o:Oper)(i:Nat)(tm:List (Nat×AV))(hp:List (Nat×au))(tr:List rE)(kn:List (Nat×Bool))(K:RC):Prop:=
 match lk hp (base+i) with
 |some _=>False
 | none=>QM P T o tm hp (base+i) fun v ws ids=>
   XW tm o.dst v fun tm=>Vk ws hp fun hp=>K tm hp (⟨uT ops o++tmpsOf (jf o.op),o.dst,(base+i)::ids,keys ws⟩::tr) kn
def y8 (ops:List Oper)(o:Oper)(tm:List (Nat×AV))(hp:List (Nat×au))(tr:List rE)(kn:List (Nat×Bool))(K:RC):Prop:=
 XW tm o.dst (.pv (.sc undef)) fun tm=>K tm hp (⟨uT ops o,o.dst,[],[]⟩::tr) kn
def XY (P:Program)(T:Tab)(ops:List Oper)(base:Nat)(o:Oper)(i:Nat)(wanted:Bool)(tm:List (Nat×AV))(hp:List (Nat×au))(tr:List rE)(kn:List (Nat×Bool))(K:RC):Prop:=
 match wanted with
 |true=>Xf P T ops base o i tm hp tr kn K
 |false=>y8 ops o tm hp tr kn K
def oL (P:Program)(T:Tab)(ops:List Oper)(base:Nat)(o:Oper)(i:Nat)(tm:List (Nat×AV))(hp:List (Nat×au))(tr:List rE)(kn:List (Nat×Bool))(K:RC):Prop:=
 match o.guard with
 |none=>Xf P T ops base o i tm hp tr kn K
 | some (j,want)=>match tJ ops o with
   |none=>False
   | some d=>match lk tm d with
     | some (.pv (.sc v))=>match v with
       | .bool b=>match lk kn j with
         | some _=>match b with
           |true=>XY P T ops base o i want tm hp tr kn K
           |false=>XY P T ops base o i (!want) tm hp tr kn K
         | none=>(b=true→XY P T ops base o i want ((d,.pv (.sc (.bool true)))::tm) hp tr ((j,true)::kn) K) ∧
           (b=false→XY P T ops base o i (!want) ((d,.pv (.sc (.bool false)))::tm) hp tr ((j,false)::kn) K)
       |.tuple _=>y8 ops o tm hp tr kn K
       |_=>False
     |_=>False
def Kn (P:Program)(T:Tab)(ops:List Oper)(base:Nat):List Oper→Nat→List (Nat×AV)→List (Nat×au)→List rE→List (Nat×Bool)→RK→Prop
 |[],_,tm,hp,tr,_,K=>K tm hp tr
 |o::r,i,tm,hp,tr,kn,K=>oL P T ops base o i tm hp tr kn fun tm hp tr kn=>Kn P T ops base r (i+1) tm hp tr kn K
section
variable {P:Program}{T:Tab}{c:Ctx}{R:Real}{s:AS}{a:Act}{w:World}
theorem aS.XZ (g:aS c R s a w){tm:List (Nat×AV)}(h:∀t v,lk tm t=some v→lk s.tm t=some v):aS c R { s with tm:=tm } a w:=
 ⟨fun t v hv=>g.slots t v (h t v hv),g.size,g.lo,g.marks,g.fixed,g.boxes,g.inj,g.free,g.iE,g.fG,g.kept⟩
def mg (n:Nat):List Oper→Bool
 |[]=>true
 | o::r=>match o.dst with
   | some d=>match Nat.blt d n with
     |true=>mg n r
     |false=>false
   |none=>mg n r
theorem MJ (tm:List (Nat×AV))(nx:Nat)(hp:List (Nat×au))(d:Option Nat)(v:AV):(AS.mk tm nx hp).put d v=⟨XV tm d v,nx,hp⟩:=by
 cases d<;>rfl
theorem Ko {α:Type}(a:Array α)(i:Nat):nth a.toList i=a[i]? :=by rw[rF,Array.getElem?_toList]
theorem Kq {ops:Array Oper}{o:Oper}{j:Nat}{want:Bool}(ho:o.guard=some (j,want)){d:Nat}(hs:tJ ops.toList o=some d)(tmps:Array Value) :
  yielded ops tmps j=match tmps[d]? with
   |some (.bool b)=>some b
   |_=>none:=by
 unfold tJ at hs;rw[ho] at hs;simp only[Ko] at hs;split at hs
 ·rename_i oj hoj;unfold yielded;simp only[hoj,Option.bind_some,hs];rfl
 cases hs
theorem y9 (g:aS c R s a w)(hT:bA P T){ops:Array Oper}{base i:Nat}(hid:base+i<s.nx){o:Oper}(hd:∀t,o.dst=some t→t<c.n){tr:List rE}{kn:List (Nat×Bool)}{K:RC}
  (h:oL P T ops.toList base o i s.tm s.hp tr kn K) (ro:Option Nat) (Q:Exit→Act→World→Prop) :
  if Region.wanted o (yielded ops a.tmps) then o.wpIn (W1 ro) 0 P a w (fun a' w'=>∃R' tm hp oD Dr,K tm hp oD Dr∧aS c R' ⟨tm,s.nx,hp⟩ a' w') Q
  else ∃tm hp oD Dr,K tm hp oD Dr∧aS c R ⟨tm,s.nx,hp⟩ (a.put o.dst undef) w:=by
 have ex:∀(s':AS),aS c R s' a w→s'.nx=s.nx→∀kn,Xf P T ops.toList base o i s'.tm s'.hp tr kn K →
   o.wpIn (W1 ro) 0 P a w (fun a' w'=>∃R' tm hp oD Dr,K tm hp oD Dr∧aS c R' ⟨tm,s.nx,hp⟩ a' w') Q:=by
  intro s' g' hn kn h;unfold Xf at h;split at h
  ·exact h.elim
  rename_i hfr;refine Oper.wpIn_mono ?_ (Oj g' hT hfr Q ro hd h);rintro a' w' ⟨R',v,ws,⟨ids,hK⟩,g2⟩
  rw[tK,Al] at hK;refine⟨R',_,_,_,_,hK,?_⟩;rw[←hn,←MJ];exact g2
 have sk:∀(s':AS),aS c R s' a w→s'.nx=s.nx→∀kn,y8 ops.toList o s'.tm s'.hp tr kn K →
   ∃tm hp oD Dr,K tm hp oD Dr∧aS c R ⟨tm,s.nx,hp⟩ (a.put o.dst undef) w:=by
  intro s' g' hn kn h;unfold y8 at h;rw[tK] at h;refine⟨_,_,_,_,h,?_⟩;have:=g'.put o.dst hd (v:=.pv (.sc undef)) (x:=undef) (by simp only[ai,aU]);rw[←hn,←MJ];exact this
 have go:∀(want b:Bool) (s':AS),aS c R s' a w→s'.nx=s.nx→∀kn wt,wt=(b==want)→XY P T ops.toList base o i wt s'.tm s'.hp tr kn K→(Region.wanted o (yielded ops a.tmps)=(b==want)) →
   if Region.wanted o (yielded ops a.tmps) then o.wpIn (W1 ro) 0 P a w (fun a' w'=>∃R' tm hp oD Dr,K tm hp oD Dr∧aS c R' ⟨tm,s.nx,hp⟩ a' w') Q
   else ∃tm hp oD Dr,K tm hp oD Dr∧aS c R ⟨tm,s.nx,hp⟩ (a.put o.dst undef) w:=by
  intro want b s' g' hn kn wt hw h Z5;rw[Z5];subst hw;cases hb:b==want with
  |true=>rw[hb] at h;simp only[if_true];exact ex s' g' hn kn h
  |false=>rw[hb] at h;simp only[Bool.false_eq_true,if_false];exact sk s' g' hn kn h
 unfold oL at h;split at h
 ·rename_i hg;simp only[Region.wanted,hg,if_true];exact ex s g rfl _ h
 rename_i j want hg;split at h
 ·exact h.elim
 rename_i d hsl;have hy:=Kq hg hsl a.tmps;have hwd:Region.wanted o (yielded ops a.tmps)=(yielded ops a.tmps j==some want):=by simp[Region.wanted,hg]
 split at h;rotate_left;cases h
 rename_i v hv;obtain⟨x,hx,hr⟩:=g.slots d _ hv;simp only[ai,aU] at hr;subst hr;split at h
 ·rename_i b;have hyb:yielded ops a.tmps j=some b:=by rw[hy,hx]
  have hwb:Region.wanted o (yielded ops a.tmps)=(b==want):=by rw[hwd,hyb];cases b<;>cases want<;>rfl
  split at h
  ·split at h
   ·exact go want true s g rfl _ want (by cases want<;>rfl) h hwb
   exact go want false s g rfl _ (!want) (by cases want<;>rfl) h hwb
  obtain⟨h1,h2⟩:=h;have hsub:∀(b':Bool),b=b'→aS c R { s with tm:=(d,.pv (.sc (.bool b')))::s.tm } a w:=by
   rintro _ rfl
   refine g.XZ fun t u hu=>?_
   rw[ak] at hu;split at hu
   ·rename_i e;rw[←e,←hu];exact hv
   exact hu
  cases b with
  |true=>exact go want true _ (hsub true rfl) rfl _ want (by cases want<;>rfl) (h1 rfl) hwb
  |false=>exact go want false _ (hsub false rfl) rfl _ (!want) (by cases want<;>rfl) (h2 rfl) hwb
 ·have hyn:yielded ops a.tmps j=none:=by rw[hy,hx]
  have hwf:Region.wanted o (yielded ops a.tmps)=false:=by rw[hwd,hyn];rfl
  rw[hwf];simp only[Bool.false_eq_true,if_false];exact sk s g rfl _ h
 exact h.elim
theorem uU (ro:Option Nat)(hT:bA P T){ops:Array Oper}{base:Nat}{K:RK}{Q:Exit→Act→World→Prop}:∀(l:List Oper) (i:Nat) {R:Real} {s:AS} {a:Act} {w:World} {tr:List rE} {kn:List (Nat×Bool)},
  aS c R s a w→base+i+l.length≤s.nx→mg c.n l=true→Kn P T ops.toList base l i s.tm s.hp tr kn K →
  (∀R tm hp tr a w,K tm hp tr→aS c R ⟨tm,s.nx,hp⟩ a w→Q .normal a w)→wpListIn (W1 ro) 0 P ops Q l a w
 | [],i,R,s,a,w,tr,kn,g,hl,hd,h,hQ=>by
   exact wpListIn_nil (hQ R s.tm s.hp tr a w h g)
 | o::r,i,R,s,a,w,tr,kn,g,hl,hd,h,hQ=>by
   simp only[Kn] at h;simp only[List.length_cons] at hl;have hd1:∀t,o.dst=some t→t<c.n:=by
    intro t ht;simp only[mg,ht] at hd;split at hd
    ·rename_i hb;rw[Nat.blt_eq] at hb;exact hb
    cases hd
   have hd2:mg c.n r=true:=by
    simp only[mg] at hd;split at hd
    ·split at hd
     ·exact hd
     cases hd
    exact hd
   have hs:=y9 g hT (ops:=ops) (by omega) hd1 h ro Q;refine wpListIn_step fun K' nK=>?_
   split
   ·rename_i hw;rw[if_pos hw] at hs;refine Oper.wpIn_mono ?_ hs;rintro a' w' ⟨R',tm,hp,oD,Dr,h',g'⟩
    exact nK _ _ (uU ro hT r (i+1) g' (by simp only;omega) hd2 h' hQ)
   rename_i hw;rw[if_neg hw] at hs;obtain⟨tm,hp,oD,Dr,h',g'⟩:=hs;exact⟨fun _ _=>trivial,nK _ _ (uU ro hT r (i+1) g' (by simp only;omega) hd2 h' hQ)⟩
end
section
section
variable {N N':Nat→Prop}{w w':World}(hN:∀r cur e fr,w.heap[r]? = some (.cells cur e fr)→N' r→N r)
 (hw:∀r cur e fr,w.heap[r]? = some (.cells cur e fr)→¬N r→w'.heap[r]? = some (.cells cur e fr))
include hN hw
mutual
theorem pJ:∀(p:PV) (v:Value),aU N w p v→aU N' w' p v
 |.sc x,v=>by simp only[aU];exact id
 |.agg cs,v=>by simp only[aU];rintro⟨vs,h1,h2⟩;exact⟨vs,h1,CG cs _ h2⟩
 |.fM cs,v=>by simp only[aU];rintro⟨vs,h1,h2⟩;exact⟨vs,h1,mQ cs _ h2⟩
 | .sl nn st rows,v=>by
   simp only[aU];rintro⟨p,len,cap,h1,h2,h3,h4,h5⟩
   refine⟨p,len,cap,h1,h2,h3,h4,fun a ha=>?_⟩;rcases h5 a ha with h7|⟨h6,h7,cur,e,fr,h8,h9⟩
   ·exact .inl h7
   exact .inr ⟨h6,fun h=>h7 (hN _ _ _ _ h8 h),cur,e,fr,hw _ _ _ _ h8 h7,jB st rows _ h9⟩
 | .dh row off,v=>by
   simp only[aU];rintro⟨g,base,cur,e,fr,h1,h7,h8,h9⟩
   exact⟨g,base,cur,e,fr,h1,fun h=>h7 (hN _ _ _ _ h8 h),hw _ _ _ _ h8 h7,kI row _ h9⟩
 | .fn f first aT,v=>by
   simp only[aU];rintro⟨fs,cs,h1,h2,h3⟩;exact⟨fs,cs,h1,mQ _ _ h2,mQ _ _ h3⟩
 |.junk,v=>by simp only[aU];exact id
 | .J5 st rows,v=>by
   simp only[aU];rintro⟨a,h1,h2,h5⟩
   refine⟨a,h1,h2,?_⟩;rcases h5 with h7|⟨h6,h7,cur,e,fr,h8,h9⟩
   ·exact .inl h7
   exact .inr ⟨h6,fun h=>h7 (hN _ _ _ _ h8 h),cur,e,fr,hw _ _ _ _ h8 h7,jB st rows _ h9⟩
theorem mQ:∀(ps:List PV) (vs:List Value),dI N w ps vs→dI N' w' ps vs
 |[],vs=>by simp only[dI];exact id
 |p::ps,vs=>by simp only[dI];rintro⟨v,r,h1,h2,h3⟩;exact⟨v,r,h1,pJ p v h2,mQ ps r h3⟩
theorem CG:∀(ps:List PV) (vs:List Value),gG N w ps vs→gG N' w' ps vs
 |[],vs=>by simp only[gG];exact id
 |p::ps,vs=>by simp only[gG];rintro⟨v,r,h1,h0,h2,h3⟩;exact⟨v,r,h1,h0,pJ p v h2,CG ps r h3⟩
theorem kI:∀(ps:List PV) (vs:List Value),eY N w ps vs→eY N' w' ps vs
 |[],vs=>by simp only[eY];exact id
 |p::ps,vs=>by simp only[eY];rintro⟨v,r,h1,h0,h2,h3⟩;exact⟨v,r,h1,h0,pJ p v h2,kI ps r h3⟩
theorem jB (st:Nat):∀(rows:List (List PV)) (vs:List Value),bB N w st rows vs→bB N' w' st rows vs
 |[],vs=>by simp only[bB];exact id
 |row::rows,vs=>by simp only[bB];rintro⟨h1,h2,h3⟩;exact⟨h1,kI row _ h2,jB st rows _ h3⟩
end
variable {hp:List (Nat×au)}{R:Real}
mutual
theorem qB:∀(p:AV) (v:Value),ai N w hp R p v→ai N' w' hp R p v
 |.pv p,v=>by simp only[ai];exact pJ hN hw p v
 |.agg cs,v=>by simp only[ai];rintro⟨vs,a,b⟩;exact⟨vs,a,kY cs _ b⟩
 |.fM cs,v=>by simp only[ai];rintro⟨vs,a,b⟩;exact⟨vs,a,nQ cs _ b⟩
 |.ptr b off,v=>by simp only[ai];exact id
 |.aZ b ver,v=>by simp only[ai];exact id
 |.sub b ver st lo hi,v=>by simp only[ai];exact id
 |.bU b ver i off,v=>by simp only[ai];exact id
 | .fn f first aT,v=>by
   simp only[ai];rintro⟨fs,cs,a,b,c⟩;exact⟨fs,cs,a,nQ _ _ b,nQ _ _ c⟩
theorem nQ:∀(ps:List AV) (vs:List Value),bD N w hp R ps vs→bD N' w' hp R ps vs
 |[],vs=>by simp only[bD];exact id
 |p::ps,vs=>by simp only[bD];rintro⟨v,r,a,b,c⟩;exact⟨v,r,a,qB p v b,nQ ps r c⟩
theorem kY:∀(ps:List AV) (vs:List Value),bN N w hp R ps vs→bN N' w' hp R ps vs
 |[],vs=>by simp only[bN];exact id
 |p::ps,vs=>by simp only[bN];rintro⟨v,r,a,d,b,c⟩;exact⟨v,r,a,d,qB p v b,kY ps r c⟩
end
end
section
variable {N N':Nat→Prop}{w w':World}{hp:List (Nat×au)}{R:Real}
variable (hN:∀r cur e fr,w.heap[r]? = some (.cells cur e fr)→N' r→N r)(hw:∀r cur e fr,w.heap[r]? = some (.cells cur e fr)→¬N r→w'.heap[r]? = some (.cells cur e fr))
include hN hw
theorem vF {st j:Nat}{ed:TypeId}{sd:Nat} :
  ∀{hs:List (Option Value)} {rs:List (Bool×List PV)} {xs:List Value},(∀v,some v∈hs→∀k,v.ownBlock=some k→w'.heap[k]? = w.heap[k]?)→fB N w st j ed sd hs rs xs→fB N' w' st j ed sd hs rs xs
 |[],[],xs,_,h=>by simp only[fB]
 |[],_::_,xs,_,h=>by simp only[fB] at h
 |_::_,[],xs,_,h=>by simp only[fB] at h
 | h::hs,(fl,r)::rs,xs,hk,hh=>by
   simp only[fB] at hh ⊢;obtain⟨h1,h2,h3⟩:=hh;refine⟨h1,?_,vF (fun v hv=>hk v (by simp[hv])) h3⟩;cases h with
   | none=>cases fl with
     |false=>exact kI hN hw _ _ h2
     |true=>exact h2.elim
   | some v=>cases fl with
     |false=>exact h2.elim
     | true=>
       obtain⟨rr,ys,a1,a0,a2,a3,a4⟩:=h2;exact⟨rr,ys,a1,a0,kI hN hw _ _ a2,cB a3 fun k hk'=>hk v (by simp) k hk',jB hN hw _ _ _ a4⟩
theorem PI {b:Nat}{e:TypeId}{ver st j:Nat}{ed:TypeId}{sd:Nat}{pre post:List (Bool×List PV)}{row:List AV}
  (hk:∀k,ax R b k (some (.fZ e ver st j ed sd pre row post))→w'.heap[k]? = w.heap[k]?) (hrow:∀vs,bN N w hp R row vs→bN N' w' hp R row vs)
  (h:dB N w hp R b (.fZ e ver st j ed sd pre row post)):dB N' w' hp R b (.fZ e ver st j ed sd pre row post):=by
 obtain⟨xs,hs1,hs2,a1,a2,a3,a4,a5,a6,a7⟩:=h;refine⟨xs,hs1,hs2,a1,?_,vF hN hw (fun v hv k hk'=>hk k (.inr ⟨v,by rw[a1];simp[hv],hk'⟩)) a3,a4,hrow _ a5,vF hN hw (fun v hv k hk'=>hk k (.inr ⟨v,by rw[a1];simp[hv],hk'⟩)) a6,a7⟩;refine cB a2 fun k hk'=>hk k (.inl ?_)
 simp only[bO] at hk';cases hnil:R.nil b with
 |true=>simp[hnil,Value.ownBlock] at hk'
 |false=>simp[hnil,Value.ownBlock] at hk';exact⟨rfl,hk'⟩
end
theorem vZ.qc {c1 c2:Ctx}{R:Real}{hp:List (Nat×au)}{w w':World}(g:vZ c1 R hp w)(agV:∀r,aG c1 R hp r→r<w.heap.size)
  (hK:∀v x,c2.K v x→ai (aG c1 R hp) w hp R v x) (hF:∀r,r<w.heap.size→c2.F r→c1.F r)
  (hw:∀r o,w.heap[r]? = some o→(r<c1.n0.1∨o.isCells=true∨owned R hp r)→¬c1.F r→w'.heap[r]? = some o)
  (hsz:w.heap.size≤w'.heap.size) (hos:w'.os=w.os∧w'.tape=w.tape∧w'.output=w.output)
  (hfree:∀r,owned R hp r→¬c2.F r) (hfix:rf c2.fix (owned R hp) w') (Y5:kK c2.O c2.w w') (TN:∀r,owned R hp r→c2.O r∨c2.w.heap.size≤r) (hlo:c2.n0=c1.n0∧c2.n0.1≤c2.lo∧c2.lo≤w'.heap.size) :
  vZ c2 R hp w'∧∀v x,ai (aG c1 R hp) w hp R v x→ai (aG c2 R hp) w' hp R v x:=by
 have hN:∀r,r<w.heap.size→aG c2 R hp r→aG c1 R hp r:=by
  rintro r hr (h|h)
  ·exact .inl (hF r hr h)
  exact .inr h
 have QA:∀r cur e fr,w.heap[r]? = some (.cells cur e fr)→aG c2 R hp r→aG c1 R hp r:=fun r cur e fr h=>hN r (size_of_getElem? h)
 have hw2:∀r cur e fr,w.heap[r]? = some (.cells cur e fr)→¬aG c1 R hp r→w'.heap[r]? = some (.cells cur e fr):=fun r cur e fr h hn=>hw r _ h (.inr (.inl rfl)) fun hf=>hn (.inl hf)
 have hwo:∀r o,w.heap[r]? = some o→owned R hp r→w'.heap[r]? = some o:=fun r o h ho=>hw r o h (.inr (.inr ho)) (g.free r ho)
 refine⟨⟨?_,g.inj,hfree,Y5,TN,fun v x h=>qB QA hw2 v x (hK v x h),hfix,⟨by rw[hlo.1];exact g.lo.1,hlo.2⟩⟩,fun v x h=>qB QA hw2 v x h⟩;intro b box h;have hr:=g.boxes b box h;have hkeep:∀r o,ax R b r (some box)→w.heap[r]? = some o→w'.heap[r]? = some o:=fun r o ho hx=>hwo r o hx ⟨b,by rw[h];exact ho⟩
 cases box with
 | var cells=>
   obtain⟨cur,e,h8,h9⟩:=hr;exact⟨cur,e,hkeep _ _ rfl h8,kY QA hw2 _ _ h9⟩
 | lM cells=>
   obtain⟨cur,e,fr,h8,h7,h9⟩:=hr;exact⟨cur,e,fr,hw2 _ _ _ _ h8 h7,fun x=>h7 (QA _ _ _ _ h8 x),kI QA hw2 _ _ h9⟩
 | arr e ver st rows=>
   obtain⟨xs,h8,h9⟩:=hr;refine⟨xs,cB h8 fun k hk=>?_,jB QA hw2 _ _ _ h9⟩;have hlt:=(h8.lt k hk).2;have hk':ax R b k (some (.arr e ver st rows)):=by
    simp only[bO] at hk;cases hnil:R.nil b with
    |true=>simp[hnil,Value.ownBlock] at hk
    |false=>simp[hnil,Value.ownBlock] at hk;exact⟨hnil,hk⟩
   have hx:w.heap[k]? = some w.heap[k]:=by simp[hlt]
   rw[hkeep k _ hk' hx,hx]
 |gD ver st rows=>exact pJ QA hw2 _ _ hr
 | tr y ver rest st=>
   obtain⟨k0,kh,k1,k2,k3,k4⟩:=hr;refine⟨k0,kh,k1,⟨Nat.le_trans k2.size hsz,fun r o hro hz hc=>?_,hos.1.trans k2.os,hos.2.1.trans k2.tape,hos.2.2.trans k2.output⟩,k3,fun r hn=>?_⟩
   ·have h2:=k2.keep r o hro hz hc;have hD:¬c1.F r:=fun hf=>by
     rcases k4 r (.inl hf) with hd|hz'|hs
     ·exact g.free r ⟨b,by rw[h];exact hd⟩ hf
     ·exact hz hz'
     have:=size_of_getElem? hro;omega
    exact hw r o h2 (hc.imp (fun hl=>by rw[←g.lo.1];exact hl) fun hc=>hc.imp id fun hd=>⟨b,by rw[h];exact hd⟩) hD
   by_cases hlt:r<w.heap.size
   ·exact k4 r (hN r hlt hn)
   exact .inr (.inr (by have:=k2.size;omega))
 | mp kk kv es=>
   obtain⟨cur,clock,h8,h9,h10⟩:=hr;exact⟨cur,clock,hkeep _ _ ⟨h9,rfl⟩ h8,h9,h10⟩
 | fZ e ver st j ed sd pre row post=>
   have hr':=hr;exact PI QA hw2 (fun k hk'=>by
    have hlt:=AX.jb hr' hk';have hx:w.heap[k]? = some w.heap[k]:=by simp[hlt]
    rw[hkeep k _ hk' hx,hx]) (fun vs h=>kY QA hw2 _ _ h) hr'
 | dX e ver st pre row post=>
   obtain⟨xs,h8,h9,h10,h11,h12⟩:=hr;refine⟨xs,cB h8 fun k hk=>?_,jB QA hw2 _ _ _ h9,h10,kY QA hw2 _ _ h11,jB QA hw2 _ _ _ h12⟩;have hlt:=(h8.lt k hk).2;have hk':ax R b k (some (.dX e ver st pre row post)):=by
    simp only[bO] at hk;cases hnil:R.nil b with
    |true=>simp[hnil,Value.ownBlock] at hk
    |false=>simp[hnil,Value.ownBlock] at hk;exact⟨hnil,hk⟩
   have hx:w.heap[k]? = some w.heap[k]:=by simp[hlt]
   rw[hkeep k _ hk' hx,hx]
theorem aS.qc {c1 c2:Ctx}{R:Real}{s:AS}{a a':Act}{w w':World}(g:aS c1 R s a w)(hn:c2.n=c1.n)(ha:a'.tmps=a.tmps)
  (hK:∀v x,c2.K v x→ai (aG c1 R s.hp) w s.hp R v x) (hF:∀r,r<w.heap.size→c2.F r→c1.F r)
  (hw:∀r o,w.heap[r]? = some o→(r<c1.n0.1∨o.isCells=true∨owned R s.hp r)→¬c1.F r→w'.heap[r]? = some o)
  (hsz:w.heap.size≤w'.heap.size) (hos:w'.os=w.os∧w'.tape=w.tape∧w'.output=w.output)
  (hfree:∀r,owned R s.hp r→¬c2.F r) (hfix:rf c2.fix (owned R s.hp) w') (Y5:kK c2.O c2.w w') (TN:∀r,owned R s.hp r→c2.O r∨c2.w.heap.size≤r) (hlo:c2.n0=c1.n0∧c2.n0.1≤c2.lo∧c2.lo≤w'.heap.size)
  (hm:∃Ds,Marks c2.lo (owned R s.hp) w' a'.defers Ds):aS c2 R s a' w':=by
 obtain⟨h,hmap⟩:=g.hap.qc (fun r=>g.Zn) hK hF hw hsz hos hfree hfix Y5 TN hlo;refine h.U1 (fun t v hv=>?_) (by rw[ha,hn];exact g.size) hm;obtain⟨x,hx,hr⟩:=g.slots t v hv;exact⟨x,by rw[ha];exact hx,hmap v x hr⟩
end
def Z8 (P:Program)(f:FuncId)(aT:List PV)(xs:List (List PV)):Prop:=
 Enters P f∧∀(l:Nat) (J:List (List PV)→Bool→(Nat→Prop)→(Nat→Prop)→World→Prop) (D:Nat→Prop) (w:World) (bQ:Array Value),YH (P,l) w.heap.size J→(∀r,D r→r<w.heap.size) →
  J xs false (fun _=>False) D w→dI D w aT bQ.toList →
  Calls P f (#[.func (.yield l) #[] #[]]++bQ) w fun e w'=>(∃v,e=.returned v)∧∃rest st Z D' wy,J rest st Z D' wy∧Fx w.heap.size Z D' wy w'∧(st=true∨rest=[])
def rG (s s':AS):Prop:=∀(c:Ctx) (R:Real) (a:Act) (w:World),aS c R s a w→∃R',aS c R' s' a w
theorem rG.refl (s:AS):rG s s:=fun c R a w g=>⟨R,g⟩
theorem rG.trans {s1 s2 s3:AS}(h:rG s1 s2)(h':rG s2 s3):rG s1 s3:=fun c R a w g=>let ⟨R1,g1⟩:=h c R a w g;h' c R1 a w g1
mutual
def Ck:AV→Bool
 |.pv _=>true
 |.agg cs=>xu cs
 |.fM cs=>xu cs
 |.ptr b _=>Nat.blt b 1000
 |.bU b _ _ _=>Nat.blt b 1000 && !Nat.beq b 999
 |.aZ b _=>Nat.blt b 1000
 |.sub b _ _ _ _=>Nat.blt b 1000
 |.fn _ a c=>xu a&&xu c
def xu:List AV→Bool
 |[]=>true
 |v::r=>Ck v&&xu r
end
def Eb:List (Nat×AV)→Bool
 |[]=>true
 |(_,v)::r=>Ck v&&Eb r
theorem Cm:∀{tm:List (Nat×AV)} {t:Nat} {v:AV},Eb tm=true→lk tm t=some v→Ck v=true
 |[],t,v,_,h=>by simp[lk] at h
 | (t',v')::r,t,v,hl,h=>by
   simp only[Eb,Bool.and_eq_true] at hl;rw[ak] at h;split at h
   ·simp only[Option.some.injEq] at h;rw[←h];exact hl.1
   exact Cm hl.2 h
def QY:List Nat→List PV→List (Nat×AV)→Option (List (Nat×AV))
 | [],ps,tm=>match ps with
   |[]=>some tm
   |_=>none
 | p::r,ps,tm=>match ps with
   |v::vs=>QY r vs ((p,.pv v)::tm)
   |[]=>none
def Gj:Exit→Option Code
 |.ret=>some .ret
 |.exit id=>some (.exit id)
 |_=>none
def Z9 (tm:List (Nat×AV))(next:AS→Prop)(K:Exit→AS→Prop)(e:Exit)(s:AS):Prop:=
 match e with
 | .normal=>match s with
   |⟨_,nx,hp⟩=>next ⟨tm,nx,hp⟩
 | .ret=>match s with
   |⟨_,nx,hp⟩=>K .ret ⟨tm,nx,hp⟩
 | .exit id=>match s with
   |⟨_,nx,hp⟩=>K (.exit id) ⟨tm,nx,hp⟩
 |_=>False
section
variable {N N':Nat→Prop}{w w':World}{hp hp':List (Nat×au)}{R R':Real}(hN:∀r,r<w.heap.size→N' r→N r)(hw:∀r,r<w.heap.size→¬N r→w'.heap[r]? = w.heap[r]?)
 (hk:∀v x,iD v=true→ai N w hp R v x→ai N' w' hp' R' v x)
include hN hw hk
mutual
theorem Cn:∀(v:AV) (x:Value),Ck v=true→ai N w hp R v x→ai N' w' hp' R' v x
 |.pv p,x,_,h=>by simp only[ai] at h ⊢;exact bV hN hw p x h
 |.agg cs,x,hl,h=>by simp only[ai] at h ⊢;obtain⟨vs,a,b⟩:=h;exact⟨vs,a,EX cs _ (by simpa only[Ck] using hl) b⟩
 |.fM cs,x,hl,h=>by simp only[ai] at h ⊢;obtain⟨vs,a,b⟩:=h;exact⟨vs,a,uf cs _ (by simpa only[Ck] using hl) b⟩
 |.ptr b off,x,hl,h=>hk _ x (by simpa only[Ck,iD] using hl) h
 |.bU b ver i off,x,hl,h=>hk _ x (by simpa only[Ck,iD] using hl) h
 |.aZ b ver,x,hl,h=>hk _ x (by simpa only[Ck,iD] using hl) h
 | .sub b ver st lo hi,x,hl,h=>by
   simp only[ai] at h ⊢;obtain⟨u,a,c⟩:=h;have:=hk (.aZ b ver) u (by simpa only[Ck,iD] using hl) (by simpa only[ai] using a);simp only[ai] at this;exact⟨u,this,c⟩
 | .fn f a c,x,hl,h=>by
   simp only[ai] at h ⊢;simp only[Ck,Bool.and_eq_true] at hl;obtain⟨fs,cs,e,h1,h2⟩:=h;exact⟨fs,cs,e,uf a _ hl.1 h1,uf c _ hl.2 h2⟩
theorem uf:∀(vs:List AV) (xs:List Value),xu vs=true→bD N w hp R vs xs→bD N' w' hp' R' vs xs
 |[],xs,_,h=>by simpa only[bD] using h
 | v::r,xs,hl,h=>by
   simp only[bD] at h ⊢;simp only[xu,Bool.and_eq_true] at hl;obtain⟨x,ys,e,h1,h2⟩:=h;exact⟨x,ys,e,Cn v x hl.1 h1,uf r ys hl.2 h2⟩
theorem EX:∀(vs:List AV) (xs:List Value),xu vs=true→bN N w hp R vs xs→bN N' w' hp' R' vs xs
 |[],xs,_,h=>by simpa only[bN] using h
 | v::r,xs,hl,h=>by
   simp only[bN] at h ⊢;simp only[xu,Bool.and_eq_true] at hl;obtain⟨x,ys,e,h0,h1,h2⟩:=h;exact⟨x,ys,e,h0,Cn v x hl.1 h1,EX r ys hl.2 h2⟩
end
end
theorem SV {N N':Nat→Prop}{w w':World}{hp:List (Nat×au)}{R:Real}{v:AV}{x:Value}(h:iD v=true)(hr:ai N w hp R v x):ai N' w' hp R v x:=by
 cases v<;>simp only[iD] at h<;>first
  |(simp only[ai] at hr ⊢;exact hr)
  |cases h
theorem EY {c:Ctx}{R:Real}{w:World}{nx:Nat}{hp:List (Nat×au)}:∀(ps:List Nat) (x:List PV) (tm tm':List (Nat×AV)) (a:Act) (vs:List Value),(∀t∈ps,t<c.n)→QY ps x tm=some tm' →
  dI (aG c R hp) w x vs→aS c R ⟨tm,nx,hp⟩ a w→vs.length=ps.length∧aS c R ⟨tm',nx,hp⟩ { a with tmps:=(ps.zip vs).foldl (fun t (p,v)=>t.setIfInBounds p v) a.tmps } w
 | [],x,tm,tm',a,vs,_,h,hr,g=>by
   cases x with
   | nil=>
     simp only[QY,Option.some.injEq] at h;subst h;simp only[dI] at hr;subst hr;exact⟨rfl,g⟩
   |cons _ _=>simp[QY] at h
 | p::ps,x,tm,tm',a,vs,hps,h,hr,g=>by
   cases x with
   |nil=>simp[QY] at h
   | cons y ys=>
     simp only[QY] at h;simp only[dI] at hr;obtain⟨v,r,rfl,h1,h2⟩:=hr;have g1:=g.put (some p) (fun t ht=>by cases ht;exact hps p (by simp)) (v:=.pv y) (x:=v) (by simpa only[ai] using h1);obtain⟨e,g2⟩:=EY ps ys _ _ _ r (fun t ht=>hps t (by simp[ht])) h h2 g1;exact⟨by simp[e],g2⟩
structure Kr (c:Ctx)(ro:Option Nat):Prop where
 lp:∀l0,ro=some l0→∃r0,c.fix l0=some (.loop r0)
 nc:∀r o,c.fix r=some o→o.isCells=false
def U5 (c:Ctx)(Z:Nat→Prop)(l:Nat)(wy:World)(r:Nat):Prop:=(c.F r∨Z r∨r=l)∧r<wy.heap.size
def cb (c:Ctx)(Z:Nat→Prop)(l:Nat)(wy:World):Ctx where
 F:=U5 c Z l wy
 O r:=c.O r∨c.w.heap.size≤r
 w:=wy
 n:=c.n
 hF r h:=h.2
 K:=c.K
 hK:=c.hK
 fix:=c.fix
 n0:=c.n0
 lo:=c.lo
def cr (c:Ctx)(Z:Nat→Prop)(l:Nat)(W:World)(own:Nat→Prop)(Kx:AV→Value→Prop)(hKx:∀v x,Kx v x→iD v=true)(fx:Nat→Option Obj)(lo:Nat):Ctx where
 F:=U5 c Z l W
 O r:=own r∨r=l
 w:=W
 n:=c.n
 hF r h:=h.2
 K v x:=c.K v x∨Kx v x
 hK v x h:=h.elim (c.hK v x) (hKx v x)
 fix:=fx
 n0:=c.n0
 lo:=lo
def oz (c:Ctx)(l:Nat)(o:Obj)(Dl:List Nat)(r:Nat):Option Obj:=if r=l then some o else if r∈Dl then some (.deferred (some [])) else c.fix r
def Dst (c:Ctx)(l:Nat)(Dl:List Nat)(R:Real)(hp:List (Nat×au))(r:Nat):Prop:=owned R hp r∨r=l∨(∃o,c.fix r=some o)∨r∈Dl∨c.F r
structure RJ {ι:Type}(c:Ctx)(ao:Act)(l n1:Nat)(Dl:List Nat)(rec:LoopState→Option Code→Loop)(xs:List (List PV))(st:Nat→ι→AS)(K:Exit→AS→Prop)
  (R:Real) (s:AS) (rest:List (List PV)) (Pg:Bool) (Z D:Nat→Prop) (wy:World):Prop where
 zz:∀r,Z r→n1≤r∧r<wy.heap.size∧¬D r
 n1:n1≤wy.heap.size
 iE:kK c.O c.w wy
 dd:∀r,D r↔Dst c l Dl R s.hp r
 dlt:∀r,D r→r<wy.heap.size
 g:aS (cb c Z l wy) R s ao wy
 SX:Marks c.lo (owned R s.hp) wy ao.defers Dl
 run:Pg=false→∃k i,s=st k i∧rest=xs.drop k∧k≤xs.length∧wy.heap[l]? = some (.loop (rec .ready none))
 out:Pg=true→∃e code,Gj e=some code∧K e s∧wy.heap[l]? = some (.loop (rec .done (some code)))
theorem Jg {P:Program}{ι:Type}{c:Ctx}{ao:Act}{l n1:Nat}{Dl:List Nat}{fn:FuncId}{ps:Array Tmp}{J2 Hy:Code}{YN:Nat}{xs:List (List PV)}{st:Nat→ι→AS}{K:Exit→AS→Prop}
  {rec:LoopState→Option Code→Loop} (Jh:∀s p,rec s p={ state:=s,pending:=p,fn:=fn,tmps:=ao.tmps,params:=ps,assign:=J2,body:=Hy,defers:=YN })
  (hl1:c.w.heap.size≤n1) (hln:c.w.heap.size≤l) (hlD:l∉Dl) (iH:c.fix l=none) (agG:l<n1) (hn0:c.n0.1≤n1) (hlo:c.n0.1≤c.lo) (hlo1:c.lo≤n1)
  (hnc:∀r o,c.fix r=some o→o.isCells=false) (hps:∀t∈ps.toList,t<c.n) (hlow:∀k i,Eb (st k i).tm=true) {A:Nat→ι→List PV→AS→Prop}
  (YO:∀(c':Ctx) (k:Nat) (i:ι) (x:List PV) (tm:List (Nat×AV)) (R:Real) (a:Act) (w:World),c'.n=c.n→Kr c' (some l)→xs[k]? = some x→QY ps.toList x (st k i).tm=some tm →
   aS c' R ⟨tm,(st k i).nx,(st k i).hp⟩ a w→J2.wpIn (W1 (some l)) 0 P (Exit.then (fun a1 w1=>∃R1 s1,A k i x s1∧aS c' R1 s1 a1 w1) (fun _ _ _=>False)) a w)
  (YP:∀(c':Ctx) (k:Nat) (i:ι) (x:List PV) (s1:AS) (R:Real) (a:Act) (w:World),c'.n=c.n→Kr c' (some l)→xs[k]? = some x→A k i x s1 →
   aS c' R s1 a w→Hy.wpIn (W1 (some l)) 0 P (fun e a' w'=>∃R' s',Z9 (st k i).tm (fun s''=>∃j,rG s'' (st (k+1) j)) K e s'∧aS c' R' s' a' w') a w)
  (YQ:∀k i x,xs[k]? = some x→∃tm,QY ps.toList x (st k i).tm=some tm) :
  YH (P,l) n1 fun rest Pg Z D wy=>∃R s,RJ c ao l n1 Dl rec xs st K R s rest Pg Z D wy:=by
 rintro x rest Z D wy W Z' vs ⟨R0,s0,J⟩ hE hDlt hZ1 hZ2 hZ3 hvs
 obtain⟨k,i,rfl,hrest,hkl,adL⟩:=J.run rfl;have hxk:xs[k]? = some x:=by
  have:=congrArg (fun l=>l[0]?) hrest;simpa using this.symm
 have YR:rest=xs.drop (k+1):=by
  have:=congrArg List.tail hrest;simpa using this
 have Yt:k<xs.length:=(List.getElem?_eq_some_iff.1 hxk).1;obtain⟨tmx,aa9⟩:=YQ k i x hxk;have g0:=J.g;have hsz:=hE.size;have n1W:n1≤W.heap.size:=Nat.le_trans J.n1 hsz;have YT:l<W.heap.size:=by omega
 have ZE:∀(Z0:Nat→Prop) (wz:World),l<wz.heap.size→U5 c Z0 l wz l:=fun Z0 wz h=>⟨.inr (.inr rfl),h⟩
 have Ji:∀r,owned R0 (st k i).hp r→D r:=fun r h=>(J.dd r).2 (.inl h)
 have Ag:D l:=(J.dd l).2 (.inr (.inl rfl));have YU:∀r,D r→¬Z r:=fun r hd hz=>(J.zz r hz).2.2 hd
 have cwW:c.w.heap.size≤W.heap.size:=by omega
 have abb:∀r,r<wy.heap.size→U5 c Z' l W r→U5 c Z l wy r:=by
  rintro r hr ⟨h,_⟩
  exact⟨h.imp id fun h=>h.imp (fun h=>(hZ1 r h).resolve_right (by omega)) id,hr⟩
 have hl0:W.heap[l]? = some (.loop (rec .ready none)):=hE.keep l _ adL (YU l Ag) (.inr (.inr Ag));let NW:Nat→Prop:=fun r=>U5 c Z' l W r∨owned R0 (st k i).hp r
 let Kx:AV→Value→Prop:=fun v y=>iD v=true∧ai NW W (st k i).hp R0 v y
 have hKx:∀v y,Kx v y→iD v=true:=fun v y h=>h.1
 let c1:Ctx:=cr c Z' l W (owned R0 (st k i).hp) Kx hKx (oz c l (.loop (rec .ready none)) Dl) W.heap.size
 have SY:∀d∈Dl,d≠l:=fun d hd e=>hlD (e▸hd)
 have Xz:∀r o,c.fix r=some o→r≠l:=fun r o h e=>by rw[e,iH] at h;cases h
 have abd:∀(o':Obj),o'.isCells=false→∀r o,oz c l o' Dl r=some o→o.isCells=false:=by
  intro o' ho' r o h;simp only[oz] at h;split at h
  ·simp only[Option.some.injEq] at h;rw[←h];exact ho'
  split at h
  ·simp only[Option.some.injEq] at h;rw[←h];rfl
  exact hnc r o h
 have G1:aS c1 R0 (st k i) { tmps:=ao.tmps,defers:=[] } W:=by
  refine g0.qc (c2:=c1) rfl rfl ?_ abb ?_ hsz ⟨hE.os,hE.tape,hE.output⟩ ?_ ?_ (kK.refl _ _) (fun r h=>.inl (.inl h)) ⟨rfl,by show c.n0.1≤W.heap.size;omega,Nat.le_refl _⟩ ⟨[],Marks.nil⟩
  ·rintro v y (h|h)
   ·exact g0.kept v y h
   exact SV h.1 h.2
  ·intro r o ho hc hf;have hrz:¬Z r:=fun hz=>hf ⟨.inr (.inl hz),size_of_getElem? ho⟩
   exact hE.keep r o ho hrz (hc.imp (fun h=>by have:r<c.n0.1:=h;omega) fun h=>h.imp id (Ji r))
  ·intro r ho hf;exact g0.free r ho (abb r (hDlt r (Ji r ho)) hf)
  refine⟨fun r o h=>?_,fun r o h ho=>?_,abd _ rfl⟩
  ·simp only[c1,cr,oz] at h;split at h
   ·rename_i e;simp only[Option.some.injEq] at h;rw[e,←h];exact hl0
   split at h
   ·rename_i hd;simp only[Option.some.injEq] at h;have hD:=(J.dd r).2 (.inr (.inr (.inr (.inl hd))));rw[←h];exact hE.keep r _ (J.SX.obj r hd) (YU r hD) (.inr (.inr hD))
   have hD:=(J.dd r).2 (.inr (.inr (.inl ⟨o,h⟩)));exact hE.keep r _ (g0.fixed.obj r o h) (YU r hD) (.inr (.inr hD))
  simp only[c1,cr,oz] at h;split at h
  ·rename_i e;subst e;exact g0.free r ho (ZE Z wy (hDlt _ Ag))
  split at h
  ·rename_i hd;exact J.SX.free r hd ho
  exact g0.fixed.free r o h ho
 have adM:dI (aG c1 R0 (st k i).hp) W x vs:=by
  refine lN (N:=fun r=>D r∨Z' r) (fun r _ h=>?_) (fun _ _ _=>rfl) _ _ hvs;rcases h with ⟨h,_⟩|h
  ·rcases h with h|h|h
   ·exact .inl ((J.dd r).2 (.inr (.inr (.inr (.inr h)))))
   ·exact .inr h
   exact .inl (h▸Ag)
  exact .inl (Ji r h)
 obtain⟨hlen,G1p⟩:=EY (c:=c1) ps.toList x (st k i).tm tmx _ vs hps aa9 adM G1;have hrun:=run_yield (P:=P) (args:=vs.toArray) hl0 (by rw[Jh];simpa using hlen);rw[Jh] at hrun;refine⟨fn,_,J2,Hy,hrun,roundIn_of_wpIn trivial ?_⟩;have abe:∀(r0:Loop),Kr (cr c Z' l W (owned R0 (st k i).hp) Kx hKx (oz c l (.loop r0) Dl) W.heap.size) (some l):=by
  intro r0;refine⟨fun l0 e=>?_,fun r o h=>?_⟩
  ·simp only[Option.some.injEq] at e;subst e;exact⟨r0,by simp[cr,oz]⟩
  simp only[cr,oz] at h;split at h
  ·simp only[Option.some.injEq] at h;rw[←h];rfl
  split at h
  ·simp only[Option.some.injEq] at h;rw[←h];rfl
  exact hnc r o h
 have adN:c1.fix l=some (.loop (rec .ready none)):=by simp[c1,cr,oz]
 have Ol:((ps.zip vs.toArray).foldl (fun tmps (x:Nat×Value)=>tmps.setIfInBounds x.1 x.2) ao.tmps)=(ps.toList.zip vs).foldl (fun t (x:Nat×Value)=>t.setIfInBounds x.1 x.2) ao.tmps:=by
  rw[←Array.foldl_toList,Array.toList_zip]
 simp only[] at Ol ⊢;rw[Ol];refine wpIn_mono (YO c1 k i x tmx R0 _ W rfl (abe _) hxk aa9 G1p) ?_;rintro e a1 w1 h1
 cases e with
 | normal=>
   obtain⟨R1,s1,hA,G2⟩:=h1;have YV:w1.heap[l]? = some (.loop (rec .ready none)):=G2.fixed.obj l _ adN;refine⟨_,run_beginRound YV (by rw[Jh]),?_⟩;generalize S9:Obj.loop { rec .ready none with state:=.busy }=ob;let c2:Ctx:=cr c Z' l W (owned R0 (st k i).hp) Kx hKx (oz c l ob Dl) W.heap.size
   have adO:l<w1.heap.size:=size_of_getElem? YV;have G3:aS c2 R1 s1 a1 (w1.putObj l ob):=by
    refine G2.qc (c2:=c2) rfl rfl (fun v y h=>G2.kept v y h) (fun r _ h=>h) ?_ (by simp) ⟨rfl,rfl,rfl⟩ (fun r h=>G2.free r h) ?_ ?_ (fun r h=>G2.fG r h)
     ⟨rfl,by show c.n0.1≤W.heap.size;omega,by rw[World.putObj_size];exact G2.lo.2.2⟩ ?_
    ·intro r o ho _ hf;have hrl:r≠l:=fun e=>hf (e▸ZE Z' W YT)
     rw[World.putObj_heap_other hrl];exact ho
    ·refine⟨fun r o h=>?_,fun r o h=>?_,abd ob (by rw[←S9];rfl)⟩
     ·simp only[c2,cr,oz] at h;by_cases e:r=l
      ·subst e;simp only[if_true,Option.some.injEq] at h;rw[World.putObj_heap_same adO,h]
      rw[World.putObj_heap_other e];refine G2.fixed.obj r o ?_;simp only[c1,cr,oz];simpa only[if_neg e] using h
     by_cases e:r=l
     ·subst e;exact fun ho=>G2.free r ho (ZE Z' W YT)
     refine G2.fixed.free r o ?_;simp only[c2,cr,oz] at h;simp only[c1,cr,oz];simpa only[if_neg e] using h
    ·refine G2.iE.trans (O':=fun r=>r=l) ⟨by simp,fun r _ hn=>World.putObj_heap_other hn,rfl,rfl,rfl⟩ fun r _ h=>.inr h
    obtain⟨Ds,hm⟩:=G2.marks;refine⟨Ds,hm.low,hm.eq,hm.nodup,fun d hd=>?_,hm.free⟩;have:=hm.obj d hd;rw[World.putObj_heap_other]
    ·exact this
    rintro rfl
    rw[YV] at this;cases this
   have adP:c2.fix l=some ob:=by simp[c2,cr,oz]
   refine wpIn_mono (YP c2 k i x s1 R1 a1 _ rfl (by have:=abe { rec .ready none with state:=.busy };rw[S9] at this;exact this) hxk hA G3) ?_;rintro e a' w' ⟨R',s',hK,G4⟩
   have hl4:w'.heap[l]? = some (.loop { rec .ready none with state:=.busy }):=by rw[S9];exact G4.fixed.obj l _ adP
   have YW:l<w'.heap.size:=size_of_getElem? hl4;have adQ:W.heap.size≤w'.heap.size:=G4.iE.size;let c3:Ctx:=cr c Z' l W (owned R0 (st k i).hp) (fun _ _=>False) (fun _ _ h=>h.elim) c.fix c.lo
   have G5:∀o',aS c3 R' ⟨(st k i).tm,s'.nx,s'.hp⟩ ao (w'.putObj l o')∧Marks c.lo (owned R' s'.hp) (w'.putObj l o') ao.defers Dl:=by
    intro o';have hmk:Marks c.lo (owned R' s'.hp) (w'.putObj l o') ao.defers Dl:=by
     refine⟨J.SX.low,J.SX.eq,J.SX.nodup,fun d hd=>?_,fun d hd=>?_⟩
     ·rw[World.putObj_heap_other (SY d hd)];exact G4.fixed.obj d _ (by simp[c2,cr,oz,SY d hd,hd])
     exact G4.fixed.free d (.deferred (some [])) (by simp[c2,cr,oz,SY d hd,hd])
    obtain⟨H,hmap⟩:=G4.hap.qc (c2:=c3) (w':=w'.putObj l o') (fun r=>G4.Zn) (fun v y h=>by
      rcases h with h|h
      ·exact G4.kept v y (.inl h)
      ·exact h.elim) (fun r _ h=>h) (fun r o ho _ hf=>by
      have hrl:r≠l:=fun e=>hf (e▸ZE Z' W YT)
      rw[World.putObj_heap_other hrl];exact ho) (by simp) ⟨rfl,rfl,rfl⟩ (fun r h=>G4.free r h)
     ⟨fun r o h=>by
       have hrl:=Xz r o h;rw[World.putObj_heap_other hrl];by_cases hd:r∈Dl
       ·have h1:=J.SX.obj r hd;have h2:=g0.fixed.obj r o h;rw[h1] at h2;simp only[Option.some.injEq] at h2;rw[←h2];exact G4.fixed.obj r _ (by simp[c2,cr,oz,hrl,hd])
       exact G4.fixed.obj r o (by have h':c.fix r=some o:=h;simp[c2,cr,oz,hrl,hd,h']),
      fun r o h=>by
       have hrl:=Xz r o h;by_cases hd:r∈Dl
       ·exact G4.fixed.free r (.deferred (some [])) (by simp[c2,cr,oz,hrl,hd])
       exact G4.fixed.free r o (by have h':c.fix r=some o:=h;simp[c2,cr,oz,hrl,hd,h']),hnc⟩
     (G4.iE.trans (O':=fun r=>r=l) ⟨by simp,fun r _ hn=>World.putObj_heap_other hn,rfl,rfl,rfl⟩ fun r _ h=>.inr h) (fun r h=>G4.fG r h)
     ⟨rfl,hlo,by show c.lo≤_;rw[World.putObj_size];omega⟩
    refine⟨H.U1 (fun t v hv=>?_) G1.size ⟨Dl,hmk⟩,hmk⟩;obtain⟨y,hy,hr⟩:=G1.slots t v hv;refine⟨y,hy,hmap v y ?_⟩;refine Cn (N:=NW) (w:=W) (hp:=(st k i).hp) (R:=R0) (fun r hr h=>?_) (fun r hr hn=>?_) (fun v y hl h=>G4.kept v y (.inr ⟨hl,h⟩)) v y (Cm (hlow k i) hv) hr
    ·rcases h with h|h
     ·exact .inl h
     rcases G4.fG r h with (h|h)|h
     ·exact .inr h
     ·exact .inl (h▸ZE Z' W YT)
     exact absurd hr (Nat.not_lt.2 h)
    refine G4.iE.keep r hr fun ho=>?_
    rcases ho with ho|ho
    ·exact hn (.inr ho)
    exact hn (.inl (ho▸ZE Z' W YT))
   have Ta:∀(o':Obj) (R5:Real) (s5:AS) (Pg:Bool) (_:aS c3 R5 s5 ao (w'.putObj l o')) (_:Marks c.lo (owned R5 s5.hp) (w'.putObj l o') ao.defers Dl)
     (_:Pg=false→∃k i,s5=st k i∧rest=xs.drop k∧k≤xs.length∧(w'.putObj l o').heap[l]? = some (.loop (rec .ready none)))
     (_:Pg=true→∃e code,Gj e=some code∧K e s5∧(w'.putObj l o').heap[l]? = some (.loop (rec .done (some code)))),
     ∃(D':Nat→Prop),kK D W (w'.putObj l o')∧(∀r,D' r→D r∨W.heap.size≤r)∧(∀r,D' r→r<(w'.putObj l o').heap.size) ∧
      ∃R s,RJ c ao l n1 Dl rec xs st K R s rest Pg Z' D' (w'.putObj l o'):=by
    intro o' R5 s5 Pg G6 XA abf abg;have hW4:W.heap.size≤(w'.putObj l o').heap.size:=by simpa using adQ
    have hD1:∀r,Dst c l Dl R5 s5.hp r→D r∨W.heap.size≤r:=by
     rintro r (h|h|h|h|h)
     ·rcases G6.fG r h with (h|h)|h
      ·exact .inl (Ji r h)
      ·exact .inl (h▸Ag)
      exact .inr h
     ·exact .inl (h▸Ag)
     ·exact .inl ((J.dd r).2 (.inr (.inr (.inl h))))
     ·exact .inl ((J.dd r).2 (.inr (.inr (.inr (.inl h)))))
     exact .inl ((J.dd r).2 (.inr (.inr (.inr (.inr h)))))
    have abh:∀r,Dst c l Dl R5 s5.hp r→r<(w'.putObj l o').heap.size:=by
     intro r h;rcases h with ⟨b,h⟩|h
     ·exact G6.jb h
     have:D r:=by
      rcases h with h|h|h|h
      ·exact h▸Ag
      ·exact (J.dd r).2 (.inr (.inr (.inl h)))
      ·exact (J.dd r).2 (.inr (.inr (.inr (.inl h))))
      exact (J.dd r).2 (.inr (.inr (.inr (.inr h))))
     have:=hDlt r this;omega
    have hF3:∀r,U5 c Z' l (w'.putObj l o') r→U5 c Z' l W r:=by
     rintro r ⟨h,_⟩
     refine⟨h,?_⟩;rcases h with h|h|h
     ·have:=c.hF r h;omega
     ·exact hZ2 r h
     omega
    refine⟨Dst c l Dl R5 s5.hp,G6.iE.mono fun r h=>h.elim (Ji r) fun h=>h▸Ag,hD1,abh,R5,s5,?_⟩;refine⟨fun r hz=>⟨?_,?_,fun hd=>?_⟩,by omega,?_,fun r=>Iff.rfl,abh,?_,XA,abf,abg⟩
    ·rcases hZ1 r hz with h|h
     ·exact (J.zz r h).1
     have:=J.n1;omega
    ·have:=hZ2 r hz;omega
    ·rcases hd with h|h
     ·exact G6.free r h ⟨.inr (.inl hz),hZ2 r hz⟩
     have:D r:=by
      rcases h with h|h|h|h
      ·exact h▸Ag
      ·exact (J.dd r).2 (.inr (.inr (.inl h)))
      ·exact (J.dd r).2 (.inr (.inr (.inr (.inl h))))
      exact (J.dd r).2 (.inr (.inr (.inr (.inr h))))
     exact hZ3 r hz this
    ·have e1:kK c.O c.w W:=by
      refine⟨Nat.le_trans J.iE.size hsz,fun r hr hn=>?_,hE.os.trans J.iE.os,hE.tape.trans J.iE.tape,hE.output.trans J.iE.output⟩;have h1:=J.iE.keep r hr hn;have hx:c.w.heap[r]? = some c.w.heap[r]:=by simp[hr]
      rw[hx] at h1 ⊢;exact hE.keep r _ h1 (fun hz=>by have:=(J.zz r hz).1;omega) (.inl (by omega))
     refine e1.trans G6.iE fun r hr ho=>?_
     rcases ho with ho|ho
     ·rcases g0.fG r ho with (h|h)|h
      ·exact h
      ·omega
      have h:wy.heap.size≤r:=h;have:=J.n1;omega
     omega
    refine G6.qc (c2:=cb c Z' l (w'.putObj l o')) rfl rfl (fun v y h=>G6.kept v y (.inl h)) (fun r _ h=>hF3 r h) (fun r o ho _ _=>ho) (Nat.le_refl _) ⟨rfl,rfl,rfl⟩ (fun r h hf=>G6.free r h (hF3 r hf)) G6.fixed (kK.refl _ _) ?_
     ⟨rfl,hlo,by show c.lo≤_;omega⟩ ⟨Dl,XA⟩
    intro r h;rcases G6.fG r h with (h|h)|h
    ·rcases g0.fG r h with h|h
     ·exact .inl h
     refine .inl (.inr ?_);have h:wy.heap.size≤r:=h;have:=J.n1;omega
    ·exact .inl (.inr (by omega))
    exact .inl (.inr (by have h:W.heap.size≤r:=h;omega))
   cases e with
   | normal=>
     obtain⟨tm',nx',hp'⟩:=s';obtain⟨j,hj⟩:=hK;have hend:=run_endRound (P:=P) none hl4;refine⟨_,_,hend,?_⟩;simp only[Option.isNone_none,if_true];have ho:({ { rec .ready none with state:=.busy } with state:=.ready,pending:=none }:Loop)=rec .ready none:=by rw[Jh]
     rw[ho];obtain⟨G6,XA⟩:=G5 (.loop (rec .ready none));obtain⟨R7,G7⟩:=hj c3 R' ao _ G6;obtain⟨Ds,mk7⟩:=G7.marks;have ZF:Ds=Dl:=by
      have:=mk7.eq.symm.trans XA.eq;exact List.map_inj_right (fun a b h=>by simpa[mark] using h) |>.1 this
     rw[ZF] at mk7;obtain⟨D',e1,e2,e3,R8,s8,J8⟩:=Ta _ R7 _ false G7 mk7 (fun _=>⟨k+1,j,rfl,YR,Yt,World.putObj_heap_same YW⟩) (fun h=>by cases h);exact⟨D',true,rfl,e1,e2,e3,R8,s8,J8⟩
   | ret=>
     obtain⟨tm',nx',hp'⟩:=s';have hend:=run_endRound (P:=P) (some .ret) hl4;refine⟨_,_,hend,?_⟩;have ho:({ { rec .ready none with state:=.busy } with state:=.done,pending:=some .ret }:Loop)=rec .done (some .ret):=by rw[Jh,Jh]
     simp only[Option.isNone_some,Bool.false_eq_true,if_false];rw[ho];obtain⟨G6,XA⟩:=G5 (.loop (rec .done (some .ret)));obtain⟨D',e1,e2,e3,R8,s8,J8⟩:=Ta _ R' _ true G6 XA (fun h=>by cases h) (fun _=>⟨.ret,.ret,rfl,hK,World.putObj_heap_same YW⟩);exact⟨D',false,rfl,e1,e2,e3,R8,s8,J8⟩
   | exit id=>
     obtain⟨tm',nx',hp'⟩:=s';have hend:=run_endRound (P:=P) (some (.exit id)) hl4;refine⟨_,_,hend,?_⟩;have ho:({ { rec .ready none with state:=.busy } with state:=.done,pending:=some (.exit id) }:Loop)=rec .done (some (.exit id)):=by rw[Jh,Jh]
     simp only[Option.isNone_some,Bool.false_eq_true,if_false];rw[ho];obtain⟨G6,XA⟩:=G5 (.loop (rec .done (some (.exit id))));obtain⟨D',e1,e2,e3,R8,s8,J8⟩:=Ta _ R' _ true G6 XA (fun h=>by cases h) (fun _=>⟨.exit id,.exit id,rfl,hK,World.putObj_heap_same YW⟩);exact⟨D',false,rfl,e1,e2,e3,R8,s8,J8⟩
   |goto t=>exact hK.elim
   |panic ch=>exact hK.elim
   |outgrown=>exact hK.elim
 |exit id=>exact h1.elim
 |goto t=>exact h1.elim
 |ret=>exact h1.elim
 |panic ch=>exact h1.elim
 |outgrown=>exact h1.elim
end Go.AX
end
