/-
  Conditions: none. A framework for walks: abstract values, memory, and conditions that suffice; the chapters in plain terms.
-/
import Derived.Test.YtiagceoepkaeoaaGreatAc
import Derived.OrdersIn
import Derived.RangeFuncNested
set_option linter.unusedSectionVars false
set_option linter.unusedVariables false
set_option linter.unusedSimpArgs false
section
namespace Go.AX
section
variable {c:Ctx}{R:Real}{s:AS}{a:Act}{w:World}
theorem wE {b:Nat}{e:TypeId}{ver st j:Nat}{ed:TypeId}{sd:Nat}{pre post:List (Bool×List PV)}{row:List AV}(hb:lk s.hp b=some (.fK e ver st j ed sd pre row post)){r:Nat}(h:tX R b r):owned R s.hp r:=
 ⟨b,by rw[hb];exact .inr h⟩
theorem zu (g:bD c R s a w){b:Nat}{e:TypeId}{ver st j:Nat}{ed:TypeId}{sd:Nat}{pre post:List (Bool×List PV)}{row:List AV}(hb:lk s.hp b=some (.fK e ver st j ed sd pre row post)){r:Nat}(h:tX R b r) :
  ∃cur,w.heap[r]? = some (.cells cur ed (0,0)):=by
 obtain⟨xs,hs1,hs2,a1,a2,a3,a4,a5,a6,a7⟩:=g.boxes b _ hb;obtain⟨v,hv,hr⟩:=h;rw[a1] at hv;rcases List.mem_append.1 hv with hv|hv
 ·exact zo a3 v hv r hr
 exact zo a6 v hv r hr
def cF (c:Ctx)(R:Real)(s:AS)(w:World)(b:Nat)(h:∀r,c.F r∨tX R b r→r<w.heap.size)(hl:c.lo≤w.heap.size):Ctx:=
 { c with F:=fun r=>c.F r∨tX R b r,O:=fun r=>owned R s.hp r∧¬tX R b r,w:=w,hF:=h }
theorem rX (g:bD c R s a w){b:Nat}{e:TypeId}{ver st j:Nat}{ed:TypeId}{sd:Nat}{pre post:List (Bool×List PV)}{row:List AV}(hb:lk s.hp b=some (.fK e ver st j ed sd pre row post)) :
  ∀r,c.F r∨tX R b r→r<w.heap.size:=by
 rintro r (h|h)
 ·exact Nat.lt_of_lt_of_le (c.hF r h) g.jE.size
 obtain⟨cur,h⟩:=zu g hb h;exact size_of_getElem? h
def qa (pre:List (Bool×List PV))(row:List AV)(post:List (Bool×List PV)):Nat:=pre.length+(dH row+post.length)
theorem bD.KQ (g:bD c R s a w){b:Nat}{e:TypeId}{ver st j:Nat}{ed:TypeId}{sd:Nat}{pre post:List (Bool×List PV)}{row:List AV}(hb:lk s.hp b=some (.fK e ver st j ed sd pre row post)) :
  ∃(xs:List Value) (hs1 hs2:List (Option Value)),(R.cap b).2=hs1++hs2∧xs.length=qa pre row post*st∧dI (aU c R s.hp) w st j ed sd hs1 pre xs∧row.length=dH row*st ∧
   bO (aU c R s.hp) w s.hp R row ((xs.drop (pre.length*st)).take (dH row*st))∧dI (aU c R s.hp) w st j ed sd hs2 post ((xs.drop (pre.length*st)).drop (dH row*st))∧Dz R b ∧
   bD (cF c R s w b (rX g hb) g.lo.2.2) R (s.app [(b,.arr e ver st (bC st (qa pre row post) xs))]) a w ∧
   (∀u x,aj (aU c R s.hp) w s.hp R u x→aj (aU (cF c R s w b (rX g hb) g.lo.2.2) R ((b,.arr e ver st (bC st (qa pre row post) xs))::s.hp)) w ((b,.arr e ver st (bC st (qa pre row post) xs))::s.hp) R u x):=by
 obtain⟨xs,hs1,hs2,a1,a2,a3,a4,a5,a6,a7⟩:=g.boxes b _ hb;have hlen:xs.length=qa pre row post*st:=a2.1;refine⟨xs,hs1,hs2,a1,hlen,a3,a4,a5,a6,a7,?_⟩;obtain⟨o1,o2,o3⟩:=wD a3;obtain⟨p1,p2,p3⟩:=wD a6;have hone:∀v∈xs,v.oneCell'=true:=by
  intro v hv;rw[←List.take_append_drop (pre.length*st) xs] at hv;rcases List.mem_append.1 hv with hv|hv
  ·exact o3 v hv
  rw[←List.take_append_drop (dH row*st) (xs.drop (pre.length*st))] at hv;rcases List.mem_append.1 hv with hv|hv
  ·exact ((bI _ _ _ _ _ _).1 a5).one v hv
  have:post.length*st=((xs.drop (pre.length*st)).drop (dH row*st)).length:=by
   rw[List.length_drop,List.length_drop,hlen];unfold qa;rw[Nat.add_mul,Nat.add_mul];omega
  exact p3 v (by rw[this,List.take_length];exact hv)
 obtain⟨bH,hbx⟩:∃bH,bH=aD.arr e ver st (bC st (qa pre row post) xs):=⟨_,rfl⟩;rw[←hbx];have uU:lk ((b,bH)::s.hp) b=some bH:=by rw[aB,if_pos rfl]
 have sS:∀b',b'≠b→lk ((b,bH)::s.hp) b'=lk s.hp b':=fun b' h=>by rw[aB,if_neg (fun e=>h e.symm)]
 have ow:∀b' r,aN R b' r (lk ((b,bH)::s.hp) b')→aN R b' r (lk s.hp b')∧¬tX R b r:=by
  intro b' r h;by_cases e1:b'=b
  ·subst e1;rw[uU,hbx] at h;simp only[aN] at h;refine⟨by rw[hb];exact .inl h,fun⟨v,hv,hr⟩=>a7.2 v r hv hr h.1 h.2⟩
  rw[sS b' e1] at h;refine⟨h,fun hp=>e1 ?_⟩;exact g.inj b' b r h (by rw[hb];exact .inr hp)
 have ow2:∀b' r,aN R b' r (lk s.hp b')→aN R b' r (lk ((b,bH)::s.hp) b')∨tX R b r:=by
  intro b' r h;by_cases e1:b'=b
  ·subst e1;rw[hb] at h;rw[uU,hbx];rcases h with h|h
   ·exact .inl h
   exact .inr h
  rw[sS b' e1];exact .inl h
 have hN:∀r,aU (cF c R s w b (rX g hb) g.lo.2.2) R ((b,bH)::s.hp) r↔aU c R s.hp r:=by
  intro r;constructor
  ·rintro ((h|h)|⟨b',h⟩)
   ·exact .inl h
   ·exact .inr (wE hb h)
   exact .inr ⟨b',(ow b' r h).1⟩
  rintro (h|⟨b',h⟩)
  ·exact .inl (.inl h)
  rcases ow2 b' r h with h|h
  ·exact .inr ⟨b',h⟩
  exact .inl (.inr h)
 have q1:∀b' off v,aX R b' off v (lk s.hp b')→aX R b' off v (lk ((b,bH)::s.hp) b'):=fun b' off v h=>by
  by_cases e1:b'=b
  ·subst e1;rw[hb] at h;exact h.elim
  rw[sS b' e1];exact h
 have hcl:(bC st (qa pre row post) xs).length=pre.length+(dH row+post.length):=jP _ _ _;have q2:∀b' ver v,aT R b' ver v (lk s.hp b')→aT R b' ver v (lk ((b,bH)::s.hp) b'):=fun b' ver v h=>by
  by_cases e1:b'=b
  ·subst e1;rw[hb] at h;rw[uU,hbx];simp only[aT,hcl] at h ⊢;exact h
  rw[sS b' e1];exact h
 have q3:∀b' ver i off v,aZ R b' ver i off v (lk s.hp b')→aZ R b' ver i off v (lk ((b,bH)::s.hp) b'):=fun b' ver i off v h=>by
  by_cases e1:b'=b
  ·subst e1;rw[hb] at h;rw[uU,hbx];simp only[aZ] at h ⊢;exact h
  rw[sS b' e1];exact h
 have hm:∀u x,aj (aU c R s.hp) w s.hp R u x→aj (aU (cF c R s w b (rX g hb) g.lo.2.2) R ((b,bH)::s.hp)) w ((b,bH)::s.hp) R u x:=
  fun u x h=>bX (fun r _ hr=>(hN r).1 hr) (fun _ _ _=>rfl) q1 q2 q3 u x h
 have hod:∀r,owned R ((b,bH)::s.hp) r→owned R s.hp r∧¬tX R b r:=fun r ⟨b',h⟩=>⟨⟨b',(ow b' r h).1⟩,(ow b' r h).2⟩
 refine⟨⟨?_,g.size,g.lo,?_,?_,?_,?_,?_,nR.refl _ _,?_,?_⟩,hm⟩
 ·intro t v hv;obtain⟨x,hx,hr⟩:=g.slots t v hv;exact⟨x,hx,hm _ _ hr⟩
 ·obtain⟨Ds,h⟩:=g.marks;exact⟨Ds,h.low,h.eq,h.nodup,h.obj,fun D hD hx=>h.free D hD (hod D hx).1⟩
 ·exact⟨g.fixed.obj,fun r o hr hx=>g.fixed.free r o hr (hod r hx).1,g.fixed.nc⟩
 ·intro b' bx hl;by_cases e1:b'=b
  ·subst e1;have hl':lk ((b',bH)::s.hp) b'=some bx:=hl;rw[uU] at hl';cases hl';subst hbx;refine⟨xs,by rw[hcl];exact a2,FQ (by rw[hlen];exact Nat.le_refl _) fun v hv=>hone v (List.mem_of_mem_take hv)⟩
  have hl':lk ((b,bH)::s.hp) b'=some bx:=hl;rw[sS b' e1] at hl';exact zq (fun r hr=>(hN r).1 hr) q1 q2 q3 rfl rfl rfl rfl (g.boxes b' bx hl')
 ·intro b1 b2 r h1 h2;exact g.inj b1 b2 r (ow b1 r h1).1 (ow b2 r h2).1
 ·rintro r hx (hF|hp)
  ·exact g.free r (hod r hx).1 hF
  exact (hod r hx).2 hp
 ·intro r hx;exact .inl (hod r hx)
 intro v x hk;exact hm v x (g.kept v x hk)
def qX (R:Real)(b:Nat)(hs:List (Option Value)):Real:=
 { R with cap:=fun b'=>if b'=b then ((R.cap b).1,hs) else R.cap b' }
theorem SY {R:Real}{b b':Nat}{hs:List (Option Value)}(h:b'≠b):(qX R b hs).cap b'=R.cap b':=by simp[qX,h]
theorem NR {R:Real}{b b' n:Nat}{hs:List (Option Value)}:bW (qX R b hs) b' n=bW R b' n:=by
 by_cases h:b'=b
 ·subst h;simp[bW,qX]
 simp[bW,qX,h]
theorem bD.agv (g:bD c R s a w){b:Nat}{e:TypeId}{ver st j:Nat}{ed:TypeId}{sd:Nat}{pre post:List (Bool×List PV)}{row:List AV}(hb:lk s.hp b=some (.fK e ver st j ed sd pre row post))
  {R1:Real} {s1:AS} {a1:Act} {w1:World} (g1:bD (cF c R s w b (rX g hb) g.lo.2.2) R1 s1 a1 w1) {e1:TypeId} {pI:Nat} {Yg:List (List PV)} (hb1:lk s1.hp b=some (.arr e1 pI st Yg))
  {hs1 hs2:List (Option Value)} {pre' post':List (Bool×List PV)} {row':List AV} (hhs:(R.cap b).2=hs1++hs2) (hl:Yg.length=qa pre' row' post') (hrl:row'.length=dH row'*st)
  (hD:Dz R b) (hDb:∀v r,some v∈(R.cap b).2→v.ownBlock=some r→R1.nil b=false→R1.blk b≠r)
  (hH:∀ys,ys.length=qa pre' row' post'*st→bL (aU (cF c R s w b (rX g hb) g.lo.2.2) R1 s1.hp) w1 st Yg ys→dI (aU c R s.hp) w st j ed sd hs1 pre' ys ∧
   bO (aU (cF c R s w b (rX g hb) g.lo.2.2) R1 s1.hp) w1 s1.hp R1 row' ((ys.drop (pre'.length*st)).take (dH row'*st))∧dI (aU c R s.hp) w st j ed sd hs2 post' ((ys.drop (pre'.length*st)).drop (dH row'*st))) :
  bD c (qX R1 b (hs1++hs2)) (s1.app [(b,.fK e1 pI st j ed sd pre' row' post')]) a1 w1 ∧
   ∀u x,aj (aU (cF c R s w b (rX g hb) g.lo.2.2) R1 s1.hp) w1 s1.hp R1 u x→aj (aU c (qX R1 b (hs1++hs2)) ((b,.fK e1 pI st j ed sd pre' row' post')::s1.hp)) w1 ((b,.fK e1 pI st j ed sd pre' row' post')::s1.hp) (qX R1 b (hs1++hs2)) u x:=by
 obtain⟨C,hC⟩:∃C,C=cF c R s w b (rX g hb) g.lo.2.2:=⟨_,rfl⟩;have hCF:∀r,C.F r↔c.F r∨tX R b r:=fun r=>by rw[hC];exact Iff.rfl
 have hCO:∀r,C.O r↔owned R s.hp r∧¬tX R b r:=fun r=>by rw[hC];exact Iff.rfl
 have hCw:C.w=w:=by rw[hC];rfl
 have hCK:C.K=c.K:=by rw[hC];rfl
 have agy:C.fix=c.fix:=by rw[hC];rfl
 have agz:C.lo=c.lo:=by rw[hC];rfl
 have hCn:C.n=c.n:=by rw[hC];rfl
 have ai3:C.n0=c.n0:=by rw[hC];rfl
 rw[←hC] at g1 hH ⊢;obtain⟨R2,hR2⟩:∃R2,R2=qX R1 b (hs1++hs2):=⟨_,rfl⟩;rw[←hR2];have NS:∀r,tX R2 b r↔tX R b r:=fun r=>by subst hR2;unfold tX;rw[hhs];simp[qX]
 have hRb:R2.blk=R1.blk∧R2.nil=R1.nil∧R2.Y=R1.Y:=by subst hR2;exact⟨rfl,rfl,rfl⟩
 have hRc:∀b',b'≠b→R2.cap b'=R1.cap b':=fun b' h=>by subst hR2;exact SY h
 have hsl:∀b' n,bW R2 b' n=bW R1 b' n:=fun b' n=>by subst hR2;exact NR
 have hcap:(R2.cap b).2=hs1++hs2:=by subst hR2;simp[qX]
 obtain⟨bH,hbx⟩:∃bH,bH=aD.fK e1 pI st j ed sd pre' row' post':=⟨_,rfl⟩;rw[←hbx];have uU:lk ((b,bH)::s1.hp) b=some bH:=by rw[aB,if_pos rfl]
 have sS:∀b',b'≠b→lk ((b,bH)::s1.hp) b'=lk s1.hp b':=fun b' h=>by rw[aB,if_neg (fun e=>h e.symm)]
 have oc:∀b' r o,b'≠b→(aN R2 b' r o↔aN R1 b' r o):=by
  intro b' r o hne;cases o with
  |none=>exact Iff.rfl
  |some o=>cases o<;>simp only[aN,hRb.1,hRb.2.1,hRb.2.2,hRc b' hne]
 have ow:∀b' r,aN R2 b' r (lk ((b,bH)::s1.hp) b')→aN R1 b' r (lk s1.hp b')∨(b'=b∧tX R b r):=by
  intro b' r h;by_cases e1:b'=b
  ·subst e1;rw[uU,hbx] at h;rcases h with h|h
   ·rw[hb1];rw[hRb.1,hRb.2.1] at h;exact .inl h
   exact .inr ⟨rfl,(NS r).1 h⟩
  rw[sS b' e1] at h;exact .inl ((oc b' r _ e1).1 h)
 have ow2:∀b' r,aN R1 b' r (lk s1.hp b')→aN R2 b' r (lk ((b,bH)::s1.hp) b'):=by
  intro b' r h;by_cases e1:b'=b
  ·subst e1;rw[hb1] at h;rw[uU,hbx];exact .inl (by rw[hRb.1,hRb.2.1];exact h)
  rw[sS b' e1];exact (oc b' r _ e1).2 h
 have ow3:∀r,tX R b r→aN R2 b r (lk ((b,bH)::s1.hp) b):=fun r h=>by rw[uU,hbx];exact .inr ((NS r).2 h)
 have hN:∀r,aU c R2 ((b,bH)::s1.hp) r↔aU C R1 s1.hp r:=by
  intro r;constructor
  ·rintro (h|⟨b',h⟩)
   ·exact .inl ((hCF r).2 (.inl h))
   rcases ow b' r h with h|⟨_,h⟩
   ·exact .inr ⟨b',h⟩
   exact .inl ((hCF r).2 (.inr h))
  rintro (h|⟨b',h⟩)
  ·rcases (hCF r).1 h with h|h
   ·exact .inl h
   exact .inr ⟨b,ow3 r h⟩
  exact .inr ⟨b',ow2 b' r h⟩
 have q1:∀b' off v,aX R1 b' off v (lk s1.hp b')→aX R2 b' off v (lk ((b,bH)::s1.hp) b'):=fun b' off v h=>by
  by_cases e1:b'=b
  ·subst e1;rw[hb1] at h;exact h.elim
  rw[sS b' e1];exact jT ⟨by rw[hRb.1],by rw[hRb.2.1],hRc b' e1⟩ h
 have q2:∀b' ver v,aT R1 b' ver v (lk s1.hp b')→aT R2 b' ver v (lk ((b,bH)::s1.hp) b'):=fun b' ver v h=>by
  by_cases e1:b'=b
  ·subst e1;rw[hb1] at h;rw[uU,hbx];simp only[aT,hsl,hl] at h ⊢;exact h
  rw[sS b' e1];exact lF ⟨by rw[hRb.1],by rw[hRb.2.1],hRc b' e1⟩ h
 have q3:∀b' ver i off v,aZ R1 b' ver i off v (lk s1.hp b')→aZ R2 b' ver i off v (lk ((b,bH)::s1.hp) b'):=fun b' ver i off v h=>by
  by_cases e1:b'=b
  ·subst e1;rw[hb1] at h;rw[uU,hbx];simp only[aZ,hRb.1,hRb.2.1] at h ⊢;exact h
  rw[sS b' e1];exact lG ⟨by rw[hRb.1],by rw[hRb.2.1],hRc b' e1⟩ h
 have hm:∀u x,aj (aU C R1 s1.hp) w1 s1.hp R1 u x→aj (aU c R2 ((b,bH)::s1.hp)) w1 ((b,bH)::s1.hp) R2 u x:=
  fun u x h=>bX (fun r _ hr=>(hN r).1 hr) (fun _ _ _=>rfl) q1 q2 q3 u x h
 have hev:=g1.jE;rw[hCw] at hev;have hpw:∀r,tX R b r→w1.heap[r]? = w.heap[r]? :=fun r h=>by
  obtain⟨cur,hc⟩:=zu g hb h;exact hev.keep r (size_of_getElem? hc) fun hO=>((hCO r).1 hO).2 h
 have hod:∀r,owned R2 ((b,bH)::s1.hp) r→owned R1 s1.hp r∨tX R b r:=fun r ⟨b',h⟩=>(ow b' r h).imp (fun h=>⟨b',h⟩) (·.2)
 have hnp:∀r,owned R1 s1.hp r→¬tX R b r:=fun r h hp=>g1.free r h ((hCF r).2 (.inr hp))
 have hNw:∀r,r<w.heap.size→aU c R2 ((b,bH)::s1.hp) r→aU c R s.hp r:=by
  intro r hr h;rcases (hN r).1 h with h|h
  ·rcases (hCF r).1 h with h|h
   ·exact .inl h
   exact .inr (wE hb h)
  rcases g1.iN r h with h|h
  ·exact .inr ((hCO r).1 h).1
  rw[hCw] at h;omega
 have hww:∀r,r<w.heap.size→¬aU c R s.hp r→w1.heap[r]? = w.heap[r]? :=fun r hr hn=>hev.keep r hr fun hO=>hn (.inr ((hCO r).1 hO).1)
 refine⟨⟨?_,by rw[←hCn];exact g1.size,?_,?_,?_,?_,?_,?_,?_,?_,?_⟩,hm⟩
 ·intro t v hv;obtain⟨x,hx,hr⟩:=g1.slots t v hv;exact⟨x,hx,hm _ _ hr⟩
 ·rw[hRb.2.2,←ai3,←agz];exact g1.lo
 ·obtain⟨Ds,h⟩:=g1.marks;rw[agz] at h;refine⟨Ds,h.low,h.eq,h.nodup,h.obj,fun D hD hx=>?_⟩;rcases hod D hx with hx|hx
  ·exact h.free D hD hx
  obtain⟨cur,hc⟩:=zu g hb hx;have:=h.obj D hD;rw[hpw D hx,hc] at this;cases this
 ·have WI:=g1.fixed;rw[agy] at WI;refine⟨WI.obj,fun r o hr hx=>?_,WI.nc⟩;rcases hod r hx with hx|hx
  ·exact WI.free r o hr hx
  exact g.fixed.free r o hr (wE hb hx)
 ·intro b' bx hlk;have hlk:lk ((b,bH)::s1.hp) b'=some bx:=hlk;by_cases e1:b'=b
  ·subst e1;rw[uU] at hlk;cases hlk;subst hbx;obtain⟨ys,k1,k2⟩:=g1.boxes b' _ hb1;rw[hl] at k1;obtain⟨m1,m2,m3⟩:=hH ys k1.1 k2;have hkb:∀v,some v∈hs1++hs2→∀k,v.ownBlock=some k→w1.heap[k]? = w.heap[k]? :=fun v hv k hk=>hpw k ⟨v,by rw[hhs];exact hv,hk⟩
   refine⟨ys,hs1,hs2,hcap,by rw[hsl];exact k1,lH hNw hww (fun v hv k hk=>hkb v (by simp[hv]) k hk) m1,hrl,?_,lH hNw hww (fun v hv k hk=>hkb v (by simp[hv]) k hk) m3,?_⟩
   ·exact bK (fun r _ hr=>(hN r).1 hr) (fun _ _ _=>rfl) q1 q2 q3 _ _ m2
   unfold Dz at hD ⊢;rw[hcap,hRb.1,hRb.2.1,←hhs];exact⟨hD.1,hDb⟩
  rw[sS b' e1] at hlk;exact zq (fun r hr=>(hN r).1 hr) q1 q2 q3 hRb.2.2 (by rw[hRb.1]) (by rw[hRb.2.1]) (hRc b' e1) (g1.boxes b' bx hlk)
 ·intro b1 b2 r h1 h2;rcases ow b1 r h1 with k1|⟨e1,k1⟩<;>rcases ow b2 r h2 with k2|⟨e2,k2⟩
  ·exact g1.inj b1 b2 r k1 k2
  ·exact absurd k2 (hnp r ⟨b1,k1⟩)
  ·exact absurd k1 (hnp r ⟨b2,k2⟩)
  rw[e1,e2]
 ·intro r hx hF;rcases hod r hx with hx|hx
  ·exact g1.free r hx ((hCF r).2 (.inl hF))
  exact g.free r (wE hb hx) hF
 ·refine g.jE.trans hev fun r hr hO=>?_
  exact (g.iN r ((hCO r).1 hO).1).resolve_right (by omega)
 ·intro r hx;rcases hod r hx with hx|hx
  ·rcases g1.iN r hx with h|h
   ·exact g.iN r ((hCO r).1 h).1
   rw[hCw] at h;exact .inr (Nat.le_trans g.jE.size h)
  exact g.iN r (wE hb hx)
 intro v x hk;exact hm v x (g1.kept v x (by rw[hCK];exact hk))
end
theorem FR (st:Nat):∀(n m:Nat) (xs:List Value),bC st (n+m) xs=bC st n xs++bC st m (xs.drop (n*st))
 |0,m,xs=>by simp[bC]
 | n+1,m,xs=>by
   rw[show n+1+m=(n+m)+1 by omega];simp only[bC,List.cons_append,FR st n m,List.drop_drop];rw[show st+n*st=(n+1)*st by rw[Nat.succ_mul];omega]
section
variable {c:Ctx}{R:Real}{s:AS}{a:Act}{w:World}
theorem bD.aed (g:bD c R s a w){b:Nat}{e:TypeId}{ver st j:Nat}{ed:TypeId}{sd:Nat}{pre post:List (Bool×List PV)}{r0:AV}{rr:List AV}(hb:lk s.hp b=some (.fK e ver st j ed sd pre (r0::rr) post)) :
  ∃(xs zs:List Value) (hs1 hs2:List (Option Value)),(R.cap b).2=hs1++hs2∧pre.length*st≤xs.length∧post.length*st≤zs.length∧dI (aU c R s.hp) w st j ed sd hs1 pre xs∧(r0::rr).length=st ∧
   dI (aU c R s.hp) w st j ed sd hs2 post zs∧Dz R b ∧
   bD (cF c R s w b (rX g hb) g.lo.2.2) R (s.app [(b,.dM e ver st (bC st pre.length xs) (r0::rr) (bC st post.length zs))]) a w ∧
   (∀u x,aj (aU c R s.hp) w s.hp R u x→aj (aU (cF c R s w b (rX g hb) g.lo.2.2) R ((b,.dM e ver st (bC st pre.length xs) (r0::rr) (bC st post.length zs))::s.hp)) w ((b,.dM e ver st (bC st pre.length xs) (r0::rr) (bC st post.length zs))::s.hp) R u x):=by
 obtain⟨xs,hs1,hs2,a1,hlen,a3,a4,a5,a6,a7,g1,m1⟩:=g.KQ hb;simp only[dH,Nat.one_mul] at a4 a5 a6;have hn:qa pre (r0::rr) post=pre.length+(post.length+1):=by simp only[qa,dH];omega
 have hch:bC st (qa pre (r0::rr) post) xs=bC st pre.length xs++fF ((xs.drop (pre.length*st)).take st)::bC st post.length ((xs.drop (pre.length*st)).drop st):=by
  rw[hn,FR];rfl
 rw[hch] at g1 m1;obtain⟨o1,o2,o3⟩:=wD a3;obtain⟨p1,p2,p3⟩:=wD a6;have hb1:lk (s.app [(b,.arr e ver st (bC st pre.length xs++fF ((xs.drop (pre.length*st)).take st)::bC st post.length ((xs.drop (pre.length*st)).drop st)))]).hp b=some (.arr e ver st (bC st pre.length xs++fF ((xs.drop (pre.length*st)).take st)::bC st post.length ((xs.drop (pre.length*st)).drop st))):=by
  simp only[AS.app,List.singleton_append,aB,if_true]
 have hrow:=m1 (.agg (r0::rr)) (.agg ((xs.drop (pre.length*st)).take st).toArray) (by simp only[aj];exact⟨_,rfl,by simpa using a5⟩);simp only[aj] at hrow;obtain⟨us,e1,hrow⟩:=hrow;cases e1;obtain⟨g2,m2⟩:=bD.JB (row:=r0::rr) g1 hb1 hrow;have hc:∀k,lk ((b,aD.dM e ver st (bC st pre.length xs) (r0::rr) (bC st post.length ((xs.drop (pre.length*st)).drop st)))::s.hp) k =
   lk ((b,aD.dM e ver st (bC st pre.length xs) (r0::rr) (bC st post.length ((xs.drop (pre.length*st)).drop st)))::(s.app [(b,.arr e ver st (bC st pre.length xs++fF ((xs.drop (pre.length*st)).take st)::bC st post.length ((xs.drop (pre.length*st)).drop st)))]).hp) k:=by
  intro k;simp only[AS.app,List.singleton_append,aB];split<;>rfl
 exact⟨xs,(xs.drop (pre.length*st)).drop st,hs1,hs2,a1,o2,p2,a3,a4,a6,a7,bD.congr g2 (fun _=>rfl) hc,fun u x h=>xK hc (m2 u x (m1 u x h))⟩
theorem bD.Yh (g:bD c R s a w){b:Nat}{e:TypeId}{ver st j:Nat}{ed:TypeId}{sd:Nat}{pre post:List (Bool×List PV)}{row:List AV}(hb:lk s.hp b=some (.fK e ver st j ed sd pre row post))
  {R1:Real} {s1:AS} {a1:Act} {w1:World} (g1:bD (cF c R s w b (rX g hb) g.lo.2.2) R1 s1 a1 w1) {e1:TypeId} {pI:Nat} {pre' post':List (Bool×List PV)} {r0:AV} {rr:List AV} {xs zs:List Value}
  (hb1:lk s1.hp b=some (.dM e1 pI st (bC st pre'.length xs) (r0::rr) (bC st post'.length zs)))
  {hs1 hs2:List (Option Value)} (hhs:(R.cap b).2=hs1++hs2) (hD:Dz R b) (hDb:∀v r,some v∈(R.cap b).2→v.ownBlock=some r→R1.nil b=false→R1.blk b≠r)
  (hx:pre'.length*st≤xs.length) (hz:post'.length*st≤zs.length) (h1:dI (aU c R s.hp) w st j ed sd hs1 pre' xs) (h2:dI (aU c R s.hp) w st j ed sd hs2 post' zs) :
  bD c (qX R1 b (hs1++hs2)) (s1.app [(b,.fK e1 pI st j ed sd pre' (r0::rr) post')]) a1 w1 ∧
   ∀u x,aj (aU (cF c R s w b (rX g hb) g.lo.2.2) R1 s1.hp) w1 s1.hp R1 u x→aj (aU c (qX R1 b (hs1++hs2)) ((b,.fK e1 pI st j ed sd pre' (r0::rr) post')::s1.hp)) w1 ((b,.fK e1 pI st j ed sd pre' (r0::rr) post')::s1.hp) (qX R1 b (hs1++hs2)) u x:=by
 have hst:(r0::rr).length=st:=(g1.boxes b _ hb1).choose_spec.2.2.1;obtain⟨vs,hrow,hvl,g2,m2⟩:=g1.tV hb1;have hb2:lk (s1.app [(b,.arr e1 pI st (bC st pre'.length xs++fF vs::bC st post'.length zs))]).hp b=some (.arr e1 pI st (bC st pre'.length xs++fF vs::bC st post'.length zs)):=by
  simp only[AS.app,List.singleton_append,aB,if_true]
 have hrow2:=m2 (.agg (r0::rr)) (.agg vs.toArray) (by simp only[aj];exact⟨_,rfl,by simpa using hrow⟩);simp only[aj] at hrow2;obtain⟨us,e2,hrow2⟩:=hrow2;cases e2;obtain⟨g3,m3⟩:=bD.agv g hb g2 hb2 (hs1:=hs1) (hs2:=hs2) (pre':=pre') (post':=post') (row':=r0::rr) hhs (by simp only[List.length_append,List.length_cons,jP,qa,dH];omega) (by simpa[dH] using hst) hD hDb (by
  intro ys hys hr;obtain⟨b1,b2,b3,b4⟩:=vZ hr;rw[jP] at b3 b4;obtain⟨r,hr'⟩:=FE _ _ b3;refine⟨AO h1 (Ca hx b1),?_,AO h2 (by simp only[dH,Nat.one_mul];exact Ca hz b4)⟩;rw[hr'];simp only[dH,Nat.one_mul];rw[show (vs++r).take st=vs by rw[←hvl];exact List.take_left];exact hrow2)
 have hc:∀k,lk ((b,aD.fK e1 pI st j ed sd pre' (r0::rr) post')::s1.hp) k=lk ((b,aD.fK e1 pI st j ed sd pre' (r0::rr) post')::(s1.app [(b,.arr e1 pI st (bC st pre'.length xs++fF vs::bC st post'.length zs))]).hp) k:=by
  intro k;simp only[AS.app,List.singleton_append,aB];split<;>rfl
 exact⟨bD.congr g3 (fun _=>rfl) hc,fun u x h=>xK hc (m3 u x (m2 u x h))⟩
end
def yM (T:Tab)(H:List (Nat×aD))(t:TypeId)(x:AV)(K:AV→Prop):Prop:=
 match x with
 | .bn b ver k off=>match lk H b with
   | some (.fK e v st j ed sd pre row post)=>match lk T t with
     | some i=>match Nat.beq ver v,Nat.beq i.size 0 with
       | true,false=>match part off i.size row with
         |some cs=>k=pre.length∧sP i cs K
         |none=>False
       |_,_=>False
     |none=>False
   |_=>vD T H t (.bn b ver k off) K
 |x=>vD T H t x K
def sM (T:Tab)(H:List (Nat×aD))(t:TypeId)(x y:AV)(K:AV→List (Nat×aD)→Prop):Prop:=
 match x with
 | .bn b ver k off=>match lk H b with
   | some (.fK e v st j ed sd pre row post)=>match lk T t with
     | some i=>match Nat.beq ver v with
       | true=>match cellsOf i y with
         | some cs=>match Nat.beq cs.length i.size with
           | true=>match jR off row cs with
             |some (r0::rr)=>k=pre.length∧K (.pv (.sc undef)) [(b,.fK e v st j ed sd pre (r0::rr) post)]
             |_=>False
           |false=>False
         |none=>False
       |false=>False
     |none=>False
   |_=>nu T H t (.bn b ver k off) y K
 |x=>nu T H t x y K
def Pw (T:Tab)(H:List (Nat×aD))(t:TypeId)(x ix:AV)(K:AV→Prop):Prop:=
 match x with
 | .aF b ver=>match lk H b with
   | some (.fK e v st j ed sd pre row post)=>match ix with
     | .pv (.sc (.int _ i))=>match lk T t with
       | some ti=>match ti.d with
         | .slt e=>match lk T e with
           | some ei=>match Nat.beq ver v,Nat.beq st ei.size with
             |true,true=>0≤i∧i.toNat<pre.length+(dH row+post.length)∧K (.bn b ver i.toNat 0)
             |_,_=>False
           |none=>False
         |_=>False
       |none=>False
     |_=>False
   |_=>Mt T H t (.aF b ver) ix K
 |x=>Mt T H t x ix K
def EN (T:Tab)(H:List (Nat×aD))(t:TypeId)(x:AV)(K:AV→Prop):Prop:=
 match x with
 | .aF b ver=>match lk H b with
   | some (.fK e v st j ed sd pre row post)=>match lk T t with
     | some i=>match i.d with
       | .slt _=>match Nat.beq ver v with
         |true=>K (.pv (.sc (.int .i64 (pre.length+(dH row+post.length):Nat))))
         |false=>False
       |_=>False
     |none=>False
   |_=>CK T H t (.aF b ver) K
 |x=>CK T H t x K
section
variable {P:Program}{T:Tab}{c:Ctx}{R:Real}{s:AS}{a:Act}{w:World}
theorem U1 {α:Type}{off:Nat}{row cs:List α}{x:List α}(h:jR off row cs=some x):x.length=row.length:=by
 induction off generalizing row x with
 | zero=>
   cases row with
   | nil=>
     cases cs with
     |nil=>simp[jR,j4] at h;simp[←h]
     |cons c cs=>simp[jR,j4] at h
   | cons r row=>
     simp only[jR] at h;have:∀(cs row x:List α),j4 row cs=some x→x.length=row.length:=by
      intro cs;induction cs with
      |nil=>intro row x h;cases row<;>simp[j4] at h<;>simp[←h]
      | cons c cs ih=>
        intro row x h;cases row with
        |nil=>simp[j4] at h
        | cons r row=>
          simp only[j4] at h;split at h
          ·rename_i t ht;simp only[Option.some.injEq] at h;subst h;simp[ih _ _ ht]
          cases h
     exact this _ _ _ h
 | succ off ih=>
   cases row with
   |nil=>simp[jR] at h
   | cons r row=>
     simp only[jR] at h;split at h
     ·rename_i t ht;simp only[Option.some.injEq] at h;subst h;simp[ih ht]
     cases h
theorem J7 (g:bD c R s a w)(hT:bP P T){H:List (Nat×aD)}(hH:∀b box,lk H b=some box→lk s.hp b=some box){t:TypeId}{x:AV}{K:AV→Prop}
  (h:yM T H t x K) {u:Value} (hx:aj (aU c R s.hp) w s.hp R x u) :
  ∃y v,(Instr.loadAt t u).run P w=.ok y w∧K v∧aj (aU c R s.hp) w s.hp R v y:=by
 unfold yM at h;split at h
 ·rename_i b ver k off;split at h
  ·rename_i e v st j ed sd pre row post hb;have hb':=hH _ _ hb;split at h;rotate_left;exact h.elim
   rename_i i hi;have hi':=hT t i hi;split at h;rotate_left;exact h.elim
   rename_i fT hsz0;split at h;rotate_left;exact h.elim
   rename_i cs hcs;obtain⟨rfl,h⟩:=h;simp only[aj,hb',aZ] at hx;obtain⟨hn,rfl⟩:=hx.2.2 (Nat.eq_of_beq_eq_true fT);cases hrw:row with
   | nil=>
     rw[hrw] at hcs;have:=Nat.ne_of_beq_eq_false hsz0;exfalso;have hz:=(FP.part (R:=fun _ _=>True) (m:=[]) (by simp only[FP]) hcs).1;simp only[List.length_nil] at hz;omega
   | cons r0 rr=>
     obtain⟨xs,hs1,hs2,a1,a2,a3,a4,a5,a6,a7⟩:=g.boxes b _ hb';have hO:dH row=1:=by rw[hrw];rfl
     simp only[hO,Nat.one_mul] at a2 a4 a5 a6;have hrow:=(bI _ _ _ _ _ _).1 a5;obtain⟨h1,h2⟩:=hrow.fp.part hcs;obtain⟨q1,q2⟩:=a2;rcases q2 with ⟨q2,q3⟩|⟨g',cap,cur,e1,_,hg,hle,hm,hs,ht⟩
     ·omega
     simp only[bW,hn,Bool.false_eq_true,if_false,Value.slice.injEq,Option.some.injEq,Addr.mk.injEq] at e1;obtain⟨⟨eb,_⟩,_,_⟩:=e1;rw[←eb] at hg;rw[List.length_take] at h1;have hcl:cur.size=cur.toList.length:=Array.length_toList.symm;have hle2:(pre.length+(1+post.length))*st≤cur.size:=by rw[hs];exact Nat.mul_le_mul_right _ hle
     have hmul:(pre.length+(1+post.length))*st=pre.length*st+(st+post.length*st):=by rw[Nat.add_mul,Nat.add_mul,Nat.one_mul]
     have hdd:(cur.toList.drop (pre.length*st+off)).take i.size=(((xs.drop (pre.length*st)).take st).drop off).take i.size:=by
      rw[←ht,hmul];simp only[List.drop_take,List.take_take,List.drop_drop];congr 1
      omega
     have hz:pre.length*st+off+i.size≤cur.size:=by omega
     obtain⟨y,z,k1,k2,k3⟩:=Dh i hi' hg hz (by rw[hdd];exact h2) h;exact⟨y,z,by simpa[Instr.loadAt,Instr.sureAddr] using k1,k2,k3⟩
  exact AJ g hT hH h hx
 exact AJ g hT hH h hx
theorem GZ (g:bD c R s a w)(hT:bP P T){H:List (Nat×aD)}(hH:∀b box,lk H b=some box→lk s.hp b=some box){t:TypeId}{x y:AV}
  {K:AV→List (Nat×aD)→Prop} (h:sM T H t x y K) {u v:Value} (hx:aj (aU c R s.hp) w s.hp R x u) (hy:aj (aU c R s.hp) w s.hp R y v) :
  ∃w' R' ws,(Instr.storeAt t u v).run P w=.ok () w'∧K (.pv (.sc undef)) ws∧bD c R' (s.app ws) a w':=by
 unfold sM at h;split at h
 ·rename_i b ver k off;split at h
  ·rename_i e vr st j ed sd pre row post hb;have hb':=hH _ _ hb;split at h;rotate_left;exact h.elim
   rename_i i hi;split at h;rotate_left;exact h.elim
   rename_i fT;split at h;rotate_left;exact h.elim
   rename_i cs hcs;split at h;rotate_left;exact h.elim
   rename_i hlen;split at h;rotate_left;exact h.elim
   rename_i r0 rr hset;obtain⟨rfl,hK⟩:=h;have hrl:=U1 hset;cases row with
   |nil=>simp at hrl
   | cons q0 qq=>
     obtain⟨xs,zs,hs1,hs2,a1,a2,a3,a4,a5,a6,a7,g1,m1⟩:=g.aed hb';have hb1:lk (s.app [(b,.dM e vr st (bC st pre.length xs) (q0::qq) (bC st post.length zs))]).hp b=some (.dM e vr st (bC st pre.length xs) (q0::qq) (bC st post.length zs)):=by
      simp only[AS.app,List.singleton_append,aB,if_true]
     have hst:nu T (s.app [(b,.dM e vr st (bC st pre.length xs) (q0::qq) (bC st post.length zs))]).hp t (.bn b ver pre.length off) y
       (fun z ws=>ws=[(b,.dM e vr st (bC st pre.length xs) (r0::rr) (bC st post.length zs))]):=by
      unfold nu;simp only[hi,hb1,fT,hcs,hlen,hset];exact⟨(jP _ _ _).symm,trivial⟩
     obtain⟨w',ws,hrun,rfl,g2⟩:=qV g1 hT (fun _ _ h=>h) hst (u:=u) (v:=v) (m1 _ _ hx) (m1 _ _ hy);have hb2:lk ([(b,aD.dM e vr st (bC st pre.length xs) (r0::rr) (bC st post.length zs))]++(s.app [(b,.dM e vr st (bC st pre.length xs) (q0::qq) (bC st post.length zs))]).hp) b=some (.dM e vr st (bC st pre.length xs) (r0::rr) (bC st post.length zs)):=by
      rw[List.singleton_append,aB,if_pos rfl]
     obtain⟨g3,_⟩:=bD.Yh g hb' g2 (e1:=e) (pI:=vr) (pre':=pre) (post':=post) hb2 a1 a7 a7.2 a2 a3 a4 a6;refine⟨w',_,_,hrun,hK,bD.congr g3 (fun _=>rfl) fun k=>?_⟩;simp only[AS.app,List.singleton_append,aB];split<;>rfl
  obtain⟨w',ws,h1,h2,h3⟩:=qV g hT hH h hx hy;exact⟨w',R,ws,h1,h2,h3⟩
 obtain⟨w',ws,h1,h2,h3⟩:=qV g hT hH h hx hy;exact⟨w',R,ws,h1,h2,h3⟩
theorem PD (g:bD c R s a w)(hT:bP P T){H:List (Nat×aD)}(hH:∀b box,lk H b=some box→lk s.hp b=some box){t:TypeId}{x ix:AV}{K:AV→Prop}
  (h:Pw T H t x ix K) {u v:Value} (hx:aj (aU c R s.hp) w s.hp R x u) (hv:aj (aU c R s.hp) w s.hp R ix v) :
  ∃y z,(Instr.indexAt t u v).run P w=.ok y w∧K z∧aj (aU c R s.hp) w s.hp R z y:=by
 unfold Pw at h;split at h
 ·rename_i b ver;split at h
  ·rename_i e vr st j ed sd pre row post hb;have hb':=hH _ _ hb;split at h;rotate_left;exact h.elim
   rename_i kk i;split at h;rotate_left;exact h.elim
   rename_i ti hti;split at h;rotate_left;exact h.elim
   rename_i e2 hte;split at h;rotate_left;exact h.elim
   rename_i ei q9;split at h;rotate_left;exact h.elim
   rename_i h1 h2;obtain⟨h0,hlt,hK⟩:=h;obtain⟨xs,hs1,hs2,a1,hlen,a3,a4,a5,a6,a7,g1,m1⟩:=g.KQ hb';have uM:lk (s.app [(b,.arr e vr st (bC st (qa pre row post) xs))]).hp b=some (.arr e vr st (bC st (qa pre row post) xs)):=by
    simp only[AS.app,List.singleton_append,aB,if_true]
   have hi:dP T (s.app [(b,.arr e vr st (bC st (qa pre row post) xs))]).hp t (.aF b ver) (.pv (.sc (.int kk i))) (fun z=>z=.bn b ver i.toNat 0):=by
    unfold dP;simp only[hti,hte,q9,uM,h1,h2];exact⟨h0,by rw[jP];exact hlt,trivial⟩
   obtain⟨y,z,hrun,rfl,hz⟩:=jU g1 hT (fun _ _ h=>h) hi (m1 _ _ hx) (m1 _ _ hv);refine⟨y,_,hrun,hK,?_⟩;simp only[aj,uM,aZ] at hz;simp only[aj,hb',aZ];exact hz
  exact FI g hT hH h hx hv
 exact FI g hT hH h hx hv
theorem NH (g:bD c R s a w)(hT:bP P T){H:List (Nat×aD)}(hH:∀b box,lk H b=some box→lk s.hp b=some box){t ty:TypeId}{x:AV}{K:AV→Prop}
  (h:EN T H t x K) {u:Value} (hx:aj (aU c R s.hp) w s.hp R x u) :
  ∃y z,(Builtin.len_ #[t] ty #[u]).run P w=.ok y w∧K z∧aj (aU c R s.hp) w s.hp R z y:=by
 unfold EN at h;split at h
 ·rename_i b ver;split at h
  ·rename_i e vr st j ed sd pre row post hb;have hb':=hH _ _ hb;split at h;rotate_left;exact h.elim
   rename_i i hi;split at h;rotate_left;exact h.elim
   rename_i e2 hte;split at h;rotate_left;exact h.elim
   rename_i h1;obtain⟨xs,hs1,hs2,a1,hlen,a3,a4,a5,a6,a7,g1,m1⟩:=g.KQ hb';have uM:lk (s.app [(b,.arr e vr st (bC st (qa pre row post) xs))]).hp b=some (.arr e vr st (bC st (qa pre row post) xs)):=by
    simp only[AS.app,List.singleton_append,aB,if_true]
   have hi:EL T (s.app [(b,.arr e vr st (bC st (qa pre row post) xs))]).hp t (.aF b ver) (fun z=>z=.pv (.sc (.int .i64 (pre.length+(dH row+post.length):Nat)))):=by
    unfold EL;simp only[hi,hte,vw,uM,uK,h1,jP];rfl
   obtain⟨y,z,hrun,rfl,hz⟩:=tu (ty:=ty) g1 hT (fun _ _ h=>h) hi (m1 _ _ hx);refine⟨y,_,hrun,h,?_⟩;simp only[aj,bG] at hz ⊢;exact hz
  exact Di g hT hH h hx
 exact Di g hT hH h hx
end
def IV (T:Tab)(H:List (Nat×aD))(t:TypeId)(b ver k kv:Nat)(K:AV→List (Nat×aD)→Prop):Prop:=
 match lk H k with
 | some (.dM e0 v0 Pk [] (r0::rr) [])=>match Nat.beq kv v0 with
   | true=>match lk T t with
     | some i=>match i.d with
       | .slt e=>match lk T e with
         | some ei=>tiF ei fun qb LH=>match Nat.beq LH 0,Nat.beq qb 0,Nat.beq Pk qb with
           | false,false,true=>match Nat.beq b k with
             |true=>False
             | false=>match lk H b with
               | some (.fK e' v st j ed sd pre [] [])=>match Nat.beq ver v,Nat.beq st qb,Nat.beq e' e with
                 |true,true,true=>(pre.length+1)*LH≤140737488355328∧K (.aF b (v+1)) [(b,.fK e (v+1) qb j ed sd pre (r0::rr) [])]
                 |_,_,_=>False
               |_=>False
           |_,_,_=>False
         |none=>False
       |_=>False
     |none=>False
   |false=>False
 |_=>False
def agA (o:Option aD):Bool:=
 match o with
 |some (.fK _ _ _ _ _ _ _ _ _)=>true
 |_=>false
def Cz (T:Tab)(H:List (Nat×aD))(t:TypeId)(vs:List AV)(id:Nat)(K:AV→List (Nat×aD)→Prop):Prop:=
 match vs with
 | [.aF b ver,.aF k kv]=>match agA (lk H b) with
   |true=>IV T H t b ver k kv K
   |false=>yc T H t [.aF b ver,.aF k kv] id K
 |vs=>yc T H t vs id K
section
variable {P:Program}{T:Tab}{c:Ctx}{R:Real}{s:AS}{a:Act}{w:World}
theorem NT (g:bD c R s a w)(hT:bP P T){H:List (Nat×aD)}(hH:∀b box,lk H b=some box→lk s.hp b=some box){id:Nat}(hf:lk s.hp id=none)
  {t ty:TypeId} {b ver k kv:Nat} {K:AV→List (Nat×aD)→Prop} (h:IV T H t b ver k kv K) {u v:Value} (hd:aj (aU c R s.hp) w s.hp R (.aF b ver) u) (hx:aj (aU c R s.hp) w s.hp R (.aF k kv) v) :
  ∃y w' R' z ws,(Builtin.append_ #[t,t] ty #[u,v]).run P w=.ok y w'∧K z ws∧bD c R' (s.app ws) a w'∧aj (aU c R' (ws++s.hp)) w' (ws++s.hp) R' z y:=by
 unfold IV at h;simp only[dG] at h;split at h;rotate_left;exact h.elim
 rename_i e0 v0 Pk r0 rr hk;have hk':=hH _ _ hk;split at h;rotate_left;exact h.elim
 rename_i hkv;split at h;rotate_left;exact h.elim
 rename_i i hi;split at h;rotate_left;exact h.elim
 rename_i e hte;split at h;rotate_left;exact h.elim
 rename_i ei q9;split at h;rotate_left;exact h.elim
 rename_i h1 h2 h3;split at h
 ·exact h.elim
 rename_i hbk;have ai4:=Nat.ne_of_beq_eq_false hbk;split at h;rotate_left;exact h.elim
 rename_i e' vr st j ed sd pre hb;have hb':=hH _ _ hb;split at h;rotate_left;exact h.elim
 rename_i k1 k2 k3;obtain⟨hbd,hK⟩:=h;have k2':=Nat.eq_of_beq_eq_true k2;have k3':=Nat.eq_of_beq_eq_true k3;have k1':=Nat.eq_of_beq_eq_true k1;subst k2';subst k3';subst k1';obtain⟨xs,hs1,hs2,a1,hlen,a3,a4,a5,a6,a7,g1,m1⟩:=g.KQ hb';have hn:qa pre [] []=pre.length:=by simp[qa,dH]
 rw[hn] at g1 m1 hlen;have hb1:lk (s.app [(b,.arr e' ver ei.size (bC ei.size pre.length xs))]).hp b=some (.arr e' ver ei.size (bC ei.size pre.length xs)):=by
  simp only[AS.app,List.singleton_append,aB,if_true]
 have hk1:lk (s.app [(b,.arr e' ver ei.size (bC ei.size pre.length xs))]).hp k=some (.dM e0 v0 Pk [] (r0::rr) []):=by
  simp only[AS.app,List.singleton_append,aB,if_neg ai4];exact hk'
 have ad1:id≠b:=fun e=>by rw[e,hb'] at hf;cases hf
 have QK:CO T (s.app [(b,.arr e' ver ei.size (bC ei.size pre.length xs))]).hp t (.aF b ver) k kv id (fun z ws=>z=.aF b (ver+1)∧ws=[(b,.dM e' (ver+1) ei.size (bC ei.size pre.length xs) (r0::rr) [])]):=by
  unfold CO;simp only[dG,hi,hte,q9,h1,h2,h3,hk1,hkv,hbk,hb1,Nat.beq_refl,jP];exact⟨hbd,trivial,trivial⟩
 obtain⟨y,w',R',z,ws,hrun,⟨rfl,rfl⟩,g2,hz⟩:=Dj g1 hT (fun _ _ h=>h) (by
  simp only[AS.app,List.singleton_append,aB,if_neg (show ¬b=id from fun e=>ad1 e.symm)];exact hf) (ty:=ty) QK (m1 _ _ hd) (m1 _ _ hx)
 have hb2:lk ([(b,aD.dM e' (ver+1) ei.size (bC ei.size pre.length xs) (r0::rr) [])]++(s.app [(b,.arr e' ver ei.size (bC ei.size pre.length xs))]).hp) b=some (.dM e' (ver+1) ei.size (bC ei.size pre.length xs) (r0::rr) (bC ei.size ([]:List (Bool×List PV)).length [])):=by
  rw[List.singleton_append,aB,if_pos rfl];rfl
 have hDb:∀v r,some v∈(R.cap b).2→v.ownBlock=some r→R'.nil b=false→R'.blk b≠r:=by
  intro v r hv hr hn he;refine g2.free (R'.blk b) ⟨b,?_⟩ (.inr ⟨v,hv,by rw[he];exact hr⟩);show aN R' b (R'.blk b) (lk ([(b,aD.dM e' (ver+1) ei.size (bC ei.size pre.length xs) (r0::rr) [])]++(s.app [(b,.arr e' ver ei.size (bC ei.size pre.length xs))]).hp) b)
  rw[hb2];exact⟨hn,rfl⟩
 obtain⟨g3,m3⟩:=bD.Yh g hb' g2 (e1:=e') (pI:=ver+1) (pre':=pre) (post':=[]) (xs:=xs) (zs:=[]) hb2 a1 a7 hDb (by rw[hlen];exact Nat.le_refl _) (by simp) a3 (AO a6 (by simp));have hc:∀q,lk ([(b,aD.fK e' (ver+1) ei.size j ed sd pre (r0::rr) [])]++s.hp) q=lk ((b,aD.fK e' (ver+1) ei.size j ed sd pre (r0::rr) [])::([(b,aD.dM e' (ver+1) ei.size (bC ei.size pre.length xs) (r0::rr) [])]++(s.app [(b,.arr e' ver ei.size (bC ei.size pre.length xs))]).hp)) q:=by
  intro q;simp only[AS.app,List.singleton_append,aB];split<;>rfl
 exact⟨y,w',_,_,_,hrun,hK,bD.congr g3 (fun _=>rfl) hc,xK hc (m3 _ _ hz)⟩
theorem L9 (g:bD c R s a w)(hT:bP P T){H:List (Nat×aD)}(hH:∀b box,lk H b=some box→lk s.hp b=some box){id:Nat}(hf:lk s.hp id=none)
  {t ty:TypeId} {d x:AV} {K:AV→List (Nat×aD)→Prop} (h:Cz T H t [d,x] id K) {u v:Value} (hd:aj (aU c R s.hp) w s.hp R d u) (hx:aj (aU c R s.hp) w s.hp R x v) :
  ∃y w' R' z ws,(Builtin.append_ #[t,t] ty #[u,v]).run P w=.ok y w'∧K z ws∧bD c R' (s.app ws) a w'∧aj (aU c R' (ws++s.hp)) w' (ws++s.hp) R' z y:=by
 unfold Cz at h;split at h
 ·rename_i b ver k kv e;cases e;split at h
  ·exact NT g hT hH hf h hd hx
  exact Dn g hT hH hf h hd hx
 exact Dn g hT hH hf h hd hx
end
def mU:List (Int×Int)→Int→Nat→Option (Nat×Int)
 |[],_,_=>none
 |(a,v)::r,n,i=>if n=a then some (i,v) else mU r n (i+1)
def NG (es:List (Int×Int))(n:Int):Int:=
 match mU es n 0 with
 |some p=>p.2
 |none=>0
def yw (es:List (Int×Int))(n v:Int):List (Int×Int):=
 match mU es n 0 with
 |some p=>es.modify p.1 fun _=>(n,v)
 |none=>es++[(n,v)]
def rU (T:Tab)(t:TypeId):Option (IntKind×IntKind):=
 match lk T t with
 | some i=>match i.d with
   | .adx kt et=>match lk T kt,lk T et with
     | some ki,some ei=>match ki.d,ei.d with
       | .zN kk,.zN _=>match ei.zero with
         |[.int kv (.ofNat 0)]=>some (kk,kv)
         |_=>none
       |_,_=>none
     |_,_=>none
   |_=>none
 |none=>none
def Br (T:Tab)(t:TypeId)(id:Nat)(K:AV→List (Nat×aD)→Prop):Prop:=
 match rU T t with
 |some (kk,kv)=>K (.bn id 0 0 0) [(id,.mp kk kv [])]
 |none=>False
def IJ (T:Tab)(H:List (Nat×aD))(t:TypeId)(x ix:AV)(K:AV→Prop):Prop:=
 match rU T t with
 | some (kk,kv)=>match x with
   | .bn b _ _ _=>match lk H b with
     | some (.mp ZE Xj es)=>match ix with
       |.pv (.sc (.int k n))=>k=ZE∧Xj=kv∧K (.pv (.sc (.int kv (NG es n))))
       |_=>False
     |_=>False
   |_=>False
 |none=>False
def w9 (T:Tab)(H:List (Nat×aD))(t:TypeId)(x ix y:AV)(K:AV→List (Nat×aD)→Prop):Prop:=
 match rU T t with
 | some (kk,kv)=>match x with
   | .bn b _ _ _=>match lk H b with
     | some (.mp ZE Xj es)=>match ix with
       | .pv (.sc (.int k n))=>match y with
         |.pv (.sc (.int k2 m))=>k=ZE∧k2=Xj∧K (.pv (.sc undef)) [(b,.mp ZE Xj (yw es n m))]
         |_=>False
       |_=>False
     |_=>False
   |_=>False
 |none=>False
def EB (T:Tab)(H:List (Nat×aD))(t:TypeId)(x:AV)(K:AV→Prop):Prop:=
 match x with
 | .bn b ver k off=>match lk H b with
   | some (.mp _ _ es)=>match rU T t with
     |some _=>K (.pv (.sc (.int .i64 es.length)))
     |none=>False
   |_=>False
 |x=>EN T H t x K
section
variable {P:Program}{T:Tab}{c:Ctx}{R:Real}{s:AS}{a:Act}{w:World}
theorem pQ (hT:bP P T){t:TypeId}{kk kv:IntKind}(h:rU T t=some (kk,kv)) :
  ∃kt et,P.underlying t=some (.map kt et)∧P.underlying kt=some (.int kk)∧∀w:World,(zeroValue et).run P w=.ok (.int kv 0) w:=by
 unfold rU at h;split at h
 ·rename_i i hi;split at h
  ·rename_i kt et hd;split at h
   ·rename_i ki ei hk he;split at h
    ·rename_i ZE Xj h1 h2;split at h
     ·rename_i kv0 hz;simp only[Option.some.injEq,Prod.mk.injEq] at h;obtain⟨rfl,rfl⟩:=h;obtain⟨d,q1,q2⟩:=(hT t i hi).iO;obtain⟨d2,r1,r2⟩:=(hT _ _ hk).iO;rw[hd] at q2;rw[h1] at r2;cases d<;>simp[di] at q2
      cases d2<;>simp[di] at r2
      obtain⟨rfl,rfl⟩:=q2;subst r2;refine⟨_,_,q1,r1,fun w=>?_⟩;obtain⟨zv,z1,z2,z3⟩:=(hT _ _ he).rf w;rw[h2] at z3;rw[hz] at z2;have:zv=.int kv0 0:=by
       cases zv<;>simp[DI.isAgg] at z3<;>simp[Value.cells] at z2
       obtain⟨rfl,rfl⟩:=z2;rfl
      rw[z1,this]
     cases h
    cases h
   cases h
  cases h
 cases h
theorem xL {r:Nat}{es:Array MapEntry}{clock:Nat}(h:w.heap[r]? = some (.map es clock)):(getObj r).run P w=.ok (.map es clock) w:=by
 simp[getObj,Sem.run,h]
theorem zm {q kk kv:IntKind}{n:Int}:∀(cur:List MapEntry) (es:List (Int×Int)) (i:Nat),cur.map (fun e=>(e.key,e.val))=es.map (fun e=>(Value.int kk e.1,Value.int kv e.2)) →
  Instr.findNow (.int q) (.int kk n) cur i=some ((mU es n i).map fun p=>(p.1,.int kv p.2))
 |[],[],i,_=>rfl
 |[],_::_,i,h=>by simp at h
 |_::_,[],i,h=>by simp at h
 | e::cur,(x,v)::es,i,h=>by
   simp only[List.map_cons,List.cons.injEq,Prod.mk.injEq] at h;obtain⟨⟨h1,h2⟩,h3⟩:=h;have ih:=zm (q:=q) (n:=n) cur es (i+1) h3;unfold Instr.findNow;rw[h1];simp only[Instr.sameNow,if_true,mU];by_cases hx:n=x
   ·subst hx;simp[h2]
   have hb:(n==x)=false:=by simp[hx]
   rw[hb,if_neg hx];exact ih
theorem Kg (g:bD c R s a w)(hT:bP P T){id:Nat}(hf:lk s.hp id=none){t:TypeId}{K:AV→List (Nat×aD)→Prop}(h:Br T t id K) :
  ∃y w' R' z ws,(Instr.makeMap t none).run P w=.ok y w'∧K z ws∧bD c R' (s.app ws) a w'∧aj (aU c R' (ws++s.hp)) w' (ws++s.hp) R' z y:=by
 unfold Br at h;split at h;rotate_left;exact h.elim
 rename_i kk kv hk;have hw:∀b',b'≠id→_:=Real.zJ R id w.heap.size false 0;refine⟨.map (some w.heap.size),{ w with heap:=w.heap.push (.map #[] 0) },R.at id w.heap.size false 0,_,_,by simp[Instr.makeMap],h,?_,?_⟩
 ·exact (g.Qr (box:=.mp kk kv []) (w':={ w with heap:=w.heap.push (.map #[] 0) }) (o:=.map #[] 0) hf ⟨rfl,rfl,rfl,rfl⟩ hw (fun _=>by simp[Real.at]) (fun _ h=>by cases h) fun hm=>by
   refine⟨#[],0,?_,by simp[Real.at],by simp⟩;simp[Real.at]).1
 simp only[aj,List.singleton_append,aB,if_true,aZ];exact⟨Nat.zero_le _,rfl,by simp[Real.at]⟩
theorem wB {kt:TypeId}{q k:IntKind}{n:Int}(h:P.underlying kt=some (.int q))(e:Bool):(Instr.checkKey e 10000 kt (.int k n)).run P w=.ok () w:=by
 unfold Instr.checkKey;simp[run_underlying h]
theorem Mc (g:bD c R s a w)(hT:bP P T){H:List (Nat×aD)}(hH:∀b box,lk H b=some box→lk s.hp b=some box){t:TypeId}{x ix:AV}{K:AV→Prop}
  (h:IJ T H t x ix K) {u v:Value} (hx:aj (aU c R s.hp) w s.hp R x u) (hv:aj (aU c R s.hp) w s.hp R ix v) :
  ∃y z,(Instr.lookup t u v false).run P w=.ok y w∧K z∧aj (aU c R s.hp) w s.hp R z y:=by
 unfold IJ at h;split at h;rotate_left;exact h.elim
 rename_i kk kv hk;obtain⟨kt,et,h1,h2,h3⟩:=pQ hT hk;split at h;rotate_left;exact h.elim
 rename_i b ver i off;split at h;rotate_left;exact h.elim
 rename_i ZE Xj es hb;have hb':=hH _ _ hb;split at h;rotate_left;exact h.elim
 rename_i k n;obtain⟨rfl,rfl,hK⟩:=h;simp only[aj,hb',aZ] at hx;obtain⟨_,_,rfl⟩:=hx;simp only[aj,bG] at hv;subst hv;obtain⟨cur,clock,q1,q2,q3⟩:=g.boxes b _ hb';have hfind:=zm (q:=kk) (n:=n) cur.toList es 0 q3;refine⟨.int Xj (NG es n),_,?_,hK,by simp only[aj,bG]⟩;simp only[Instr.lookup,Sem.run_bind,run_underlying h1,Result.andThen_ok,xL q1,Sem.run_pure,wB h2,Instr.findKey,run_underlying h2,hfind];unfold NG;cases mU es n 0 with
 |none=>simp[h3 w]
 |some p=>simp
theorem JC {r:Nat}{es:Array MapEntry}{clock:Nat}(o:Obj)(h:w.heap[r]? = some (.map es clock)):(setObj r o).run P w=.ok () { w with heap:=w.heap.setIfInBounds r o }:=by
 simp[setObj,Sem.run,h]
theorem JD:∀{es:List (Int×Int)} {n:Int} {j:Nat} {p:Nat×Int},mU es n j=some p→j≤p.1∧es[p.1-j]? = some (n,p.2)
 |[],n,j,p,h=>by simp[mU] at h
 | (x,v)::r,n,j,p,h=>by
   simp only[mU] at h;split at h
   ·rename_i e;simp only[Option.some.injEq] at h;subst h;subst e;simp
   obtain⟨h1,h2⟩:=JD h;refine⟨by omega,?_⟩;rw[show p.1-j=(p.1-(j+1))+1 by omega];simpa using h2
theorem JE {kk kv:IntKind}{n m:Int}:∀(cur:List MapEntry) (es:List (Int×Int)) (i:Nat),cur.map (fun e=>(e.key,e.val))=es.map (fun e=>(Value.int kk e.1,Value.int kv e.2)) →
  (cur.modify i fun e=>{ e with key:=.int kk n,val:=.int kv m }).map (fun e=>(e.key,e.val))=(es.modify i fun _=>(n,m)).map (fun e=>(Value.int kk e.1,Value.int kv e.2))
 |[],[],i,_=>by cases i<;>rfl
 |[],_::_,i,h=>by simp at h
 |_::_,[],i,h=>by simp at h
 | e::cur,p::es,0,h=>by
   simp only[List.map_cons,List.cons.injEq] at h;simp only[List.modify_zero_cons,List.map_cons,h.2]
 | e::cur,p::es,i+1,h=>by
   simp only[List.map_cons,List.cons.injEq] at h;simp only[List.modify_succ_cons,List.map_cons,h.1,JE cur es i h.2]
theorem G9 (g:bD c R s a w)(hT:bP P T){H:List (Nat×aD)}(hH:∀b box,lk H b=some box→lk s.hp b=some box){t:TypeId}{x ix y:AV}{K:AV→List (Nat×aD)→Prop}
  (h:w9 T H t x ix y K) {u v z:Value} (hx:aj (aU c R s.hp) w s.hp R x u) (hv:aj (aU c R s.hp) w s.hp R ix v) (hy:aj (aU c R s.hp) w s.hp R y z) :
  ∃w' ws,(Instr.mapUpdate t u v z).run P w=.ok () w'∧K (.pv (.sc undef)) ws∧bD c R (s.app ws) a w':=by
 unfold w9 at h;split at h;rotate_left;exact h.elim
 rename_i kk kv hk;obtain⟨kt,et,h1,h2,h3⟩:=pQ hT hk;split at h;rotate_left;exact h.elim
 rename_i b ver i off;split at h;rotate_left;exact h.elim
 rename_i ZE Xj es hb;have hb':=hH _ _ hb;split at h;rotate_left;exact h.elim
 rename_i k n;split at h;rotate_left;exact h.elim
 rename_i k2 m;obtain⟨rfl,rfl,hK⟩:=h;simp only[aj,hb',aZ] at hx;obtain⟨_,_,rfl⟩:=hx;simp only[aj,bG] at hv hy;subst hv;subst hy;obtain⟨cur,clock,q1,q2,q3⟩:=g.boxes b _ hb';have hfind:=zm (q:=kk) (n:=n) cur.toList es 0 q3;have fin:∀(aaO:Array MapEntry) (QL:Nat),aaO.toList.map (fun e=>(e.key,e.val))=(yw es n m).map (fun e=>(Value.int k e.1,Value.int k2 e.2)) →
   bD c R (s.app [(b,.mp k k2 (yw es n m))]) a { w with heap:=w.heap.setIfInBounds (R.blk b) (.map aaO QL) }:=by
  intro aaO QL hq;have hlt:=(Array.getElem?_eq_some_iff.1 q1).1;have hR:∀b',b'≠b→R.blk b'=R.blk b'∧R.nil b'=R.nil b'∧R.cap b'=R.cap b':=fun _ _=>⟨rfl,rfl,rfl⟩
  refine g.upd (b:=b) (bH:=.mp k k2 (yw es n m)) (nx':=s.nx) hR (fun off v h=>by rw[hb'] at h;exact h) (fun ver v h=>by rw[hb'] at h;exact h) (fun ver i off v h=>by rw[hb'] at h;exact h)
   (fun r h=>by rw[hb'];exact .inl h) ⟨by simp,fun r hr hn=>?_,rfl,rfl,rfl⟩ ⟨aaO,QL,by simp[hlt],q2,hq⟩ rfl
  have hne:R.blk b≠r:=fun e=>hn (by rw[hb'];exact⟨q2,e⟩)
  simp only[Array.getElem?_setIfInBounds,hne,if_false]
 cases hm:mU es n 0 with
 | none=>
   rw[hm] at hfind;refine⟨_,_,?_,hK,fin (cur.push { key:=.int k n,val:=.int k2 m,born:=clock }) (clock+1) ?_⟩
   ·simp only[Instr.mapUpdate,Sem.run_bind,run_underlying h1,Result.andThen_ok,xL q1,wB h2,Instr.findKey,run_underlying h2,hfind,Option.map_none,Sem.run_pure,JC _ q1]
   simp only[yw,hm,Array.toList_push,List.map_append,q3,List.map_cons,List.map_nil]
 | some p=>
   rw[hm] at hfind;obtain⟨_,hat⟩:=JD hm;have ac1:(cur[p.1]?).map (·.key)=some (.int k n):=by
    have:=congrArg (fun l=>l[p.1]?) q3;simp only[List.getElem?_map] at this;rw[Nat.sub_zero] at hat;rw[hat] at this;simp only[Option.map_some,Array.getElem?_toList] at this;cases hc:cur[p.1]? with
    |none=>rw[hc] at this;simp at this
    |some e=>rw[hc] at this;simp at this;simp[this.1]
   refine⟨_,_,?_,hK,fin (cur.modify p.1 fun e=>{ e with key:=.int k n,val:=.int k2 m }) clock ?_⟩
   ·have hkeep:(Instr.keyThatStays (.int k n) (.int k n)).run P w=.ok (.int k n) w:=by
     simp[Instr.keyThatStays,Instr.sameBits]
    simp only[Instr.mapUpdate,Sem.run_bind,run_underlying h1,Result.andThen_ok,xL q1,wB h2,Instr.findKey,run_underlying h2,hfind,Option.map_some,Sem.run_pure,ac1,Option.getD_some,hkeep,JC _ q1]
   simp only[yw,hm,Array.toList_modify];exact JE _ _ _ q3
theorem Ma (g:bD c R s a w)(hT:bP P T){H:List (Nat×aD)}(hH:∀b box,lk H b=some box→lk s.hp b=some box){t ty:TypeId}{x:AV}{K:AV→Prop}
  (h:EB T H t x K) {u:Value} (hx:aj (aU c R s.hp) w s.hp R x u) :
  ∃y z,(Builtin.len_ #[t] ty #[u]).run P w=.ok y w∧K z∧aj (aU c R s.hp) w s.hp R z y:=by
 unfold EB at h;split at h
 ·rename_i b ver i off;split at h;rotate_left;exact h.elim
  rename_i ZE Xj es hb;have hb':=hH _ _ hb;split at h;rotate_left;exact h.elim
  rename_i kp hk;obtain⟨kt,et,h1,h2,h3⟩:=pQ (kk:=kp.1) (kv:=kp.2) hT hk;simp only[aj,hb',aZ] at hx;obtain⟨_,_,rfl⟩:=hx;obtain⟨cur,clock,q1,q2,q3⟩:=g.boxes b _ hb';have hl:cur.size=es.length:=by have:=congrArg List.length q3;simpa using this
  exact⟨.int .i64 es.length,_,by simp[Builtin.len_,run_underlying h1,xL q1,goInt,hl],h,by simp only[aj,bG]⟩
 exact NH g hT hH h hx
end
def yN (T:Tab)(t:TypeId)(x ix:AV)(K:AV→Prop):Prop:=
 match x with
 | .pv (.agg cs)=>match ix with
   | .pv (.sc (.int _ i))=>match lk T t with
     | some ti=>match ti.d with
       | .Qn n e=>match lk T e with
         | some ei=>match part (i.toNat*ei.size) ei.size cs with
           |some ds=>(0≤i∧i<n)∧sP ei (ds.map .pv) K
           |none=>False
         |none=>False
       |_=>False
     |none=>False
   |_=>False
 |x=>pq T t x ix K
section
variable {P:Program}{T:Tab}{R:Real}{w:World}
theorem Kc (hT:bP P T){N:Nat→Prop}{hp:List (Nat×aD)}{t:TypeId}{x ix:AV}{K:AV→Prop}
  (h:yN T t x ix K) {u v:Value} (hx:aj N w hp R x u) (hv:aj N w hp R ix v) :
  ∃y z,(Instr.index t u v).run P w=.ok y w∧K z∧aj N w hp R z y:=by
 unfold yN at h;split at h
 ·rename_i cs;split at h;rotate_left;exact h.elim
  rename_i k i;split at h;rotate_left;exact h.elim
  rename_i ti hti;split at h;rotate_left;exact h.elim
  rename_i n e hte;split at h;rotate_left;exact h.elim
  rename_i ei q9;split at h;rotate_left;exact h.elim
  rename_i ds hds;obtain⟨⟨h0,h1⟩,h⟩:=h;simp only[aj,bG] at hx hv;subst hv;obtain⟨vs,rfl,hx⟩:=hx;rw[gG] at hx;obtain⟨p1,p2⟩:=hx.fp.part hds;obtain⟨d,hd,iE⟩:=(hT t ti hti).iO;have hd':P.underlying t=some (.array n e):=by
   rw[hte] at iE;cases d<;>simp[di] at iE
   obtain⟨rfl,rfl⟩:=iE;exact hd
  have hf:FC (aj N w hp R) (ds.map .pv) ((vs.toList.drop (i.toNat*ei.size)).take ei.size):=FC.map (fun p v hv=>by simpa only[aj] using hv) p2;obtain⟨y,z,k1,k2,k3⟩:=Fe (hT e ei q9) h hf (by simpa using p1);refine⟨y,z,?_,k2,k3⟩;simp only[Instr.index,asIntOf,Sem.run_bind,Sem.run_pure,Result.andThen_ok,run_underlying hd',h0,h1,and_self,if_true,(hT e ei q9).run_sizeOf];exact k1
 exact Ky hT h hx hv
end
def QM (j:TI):List Nat→List AV→List AV→Option (List AV)
 |[],[],cells=>some cells
 | k::ks,v::vs,cells=>match cellsOf j v with
   | some cs=>match Nat.beq cs.length j.size with
     | true=>match jR (k*j.size) cells cs with
       |some cells'=>QM j ks vs cells'
       |none=>none
     |false=>none
   |none=>none
 |_,_,_=>none
def mH (T:Tab)(t:TypeId)(ks:List Nat)(vs:List AV)(K:AV→Prop):Prop:=
 match lk T t with
 | some i=>match i.d with
   | .Qn _ e=>match lk T e with
     | some j=>match zAV i.zero with
       | some z=>match QM j ks vs z with
         | some cells=>match zM cells with
           |some v=>K v
           |none=>False
         |none=>False
       |none=>False
     |none=>False
   |_=>Bo T t ks vs K
 |none=>False
section
variable {P:Program}{T:Tab}{R:Real}{w:World}
theorem Dp {N:Nat→Prop}{hp:List (Nat×aD)}(j:TI) :
  ∀(ks:List Nat) (vs cells cells':List AV) (us:List Value) (zs:Array Value),QM j ks vs cells=some cells'→FL (aj N w hp R) vs us→FC (aj N w hp R) cells zs.toList →
   ∃TF,Instr.fill (fun i=>some (i*j.size,j.size)) zs (ks.zip us)=some TF∧FC (aj N w hp R) cells' TF.toList
 | [],[],cells,cells',us,zs,h,hv,hz=>by
   simp only[QM,Option.some.injEq] at h;subst h;simp only[FL] at hv;subst hv;exact⟨zs,rfl,hz⟩
 |[],v::vs,cells,cells',us,zs,h,hv,hz=>by simp[QM] at h
 |f::ks,[],cells,cells',us,zs,h,hv,hz=>by simp[QM] at h
 | f::ks,v::vs,cells,cells',us,zs,h,hv,hz=>by
   obtain⟨u,r,rfl,hu,hv⟩:=hv;simp only[QM] at h;split at h
   ·rename_i cs hcs;split at h
    ·rename_i hl;have hl:=Nat.eq_of_beq_eq_true hl;split at h
     ·rename_i c2 hc2;have hcu:=jl hcs hu;obtain⟨hle,hset⟩:=FC.jR hz hcu hc2;have sJ:u.cells.size=j.size:=by rw[←hl,←hcu.length];simp
      simp only[List.zip_cons_cons,Instr.fill];have ah2:f*j.size+j.size≤zs.size:=by simp only[Array.length_toList] at hle;omega
      rw[if_neg (by simp[sJ];omega)];have Ep:(u.cells.zipIdx.foldl (fun cs (x:Value×Nat)=>cs.setIfInBounds (f*j.size+x.2) x.1) zs).toList=zs.toList.take (f*j.size)++u.cells.toList++zs.toList.drop (f*j.size+u.cells.toList.length):=by
       rw[←uW (f*j.size) u.cells.toList zs (by simpa using hle)];rw[←Array.foldl_toList,Array.toList_zipIdx]
      exact Dp j ks vs c2 cells' r _ h hv (by rw[Ep];exact hset)
     cases h
    cases h
   cases h
theorem DJ (hT:bP P T){N:Nat→Prop}{hp:List (Nat×aD)}{t:TypeId}{ks:List Nat}{vs:List AV}{us:List Value}{K:AV→Prop}(h:mH T t ks vs K)
  (hv:FL (aj N w hp R) vs us):∃y z,(Instr.build t (ks.zip us).toArray).run P w=.ok y w∧K z∧aj N w hp R z y:=by
 unfold mH at h;split at h;rotate_left;exact h.elim
 rename_i i hi;have hi':=hT _ _ hi;split at h
 ·rename_i n e hte;obtain⟨d,hd,iE⟩:=hi'.iO;obtain⟨zv,hz1,hz2,hz3⟩:=hi'.rf w;have hd':P.underlying t=some (.array n e):=by
   rw[hte] at iE;cases d<;>simp[di] at iE
   obtain⟨rfl,rfl⟩:=iE;exact hd
  split at h;rotate_left;exact h.elim
  rename_i j hj;split at h;rotate_left;exact h.elim
  rename_i z hz;have:=J4 hz;subst this;split at h;rotate_left;exact h.elim
  rename_i cells hcells;split at h;rotate_left;exact h.elim
  rename_i v hv';obtain⟨TF,hf1,hf2⟩:=Dp j ks vs _ cells us zv.cells hcells hv (by rw[hz2];exact sK hi'.TG);refine⟨.agg TF,v,?_,h,?_⟩
  ·simp only[Instr.build,Sem.run_bind,hz1,Result.andThen_ok,run_underlying hd',(hT _ _ hj).run_sizeOf,hf1,Sem.run_pure]
  unfold zM at hv';split at hv'
  ·rename_i ps hps;simp only[Option.some.injEq] at hv';subst hv';simp only[aj,bG];exact⟨TF,rfl,by rw[gG];exact rq hps hf2⟩
  simp only[Option.some.injEq] at hv';subst hv';simp only[aj];exact⟨TF,rfl,by rw[bI];exact hf2⟩
 exact J3 hT h hv
end
def jE (tm:List (Nat×AV))(x:Operand):Option AV:=
 match x with
 |.tmp t=>lk tm t
 |.const v=>some (.pv (.sc v))
 |.func f=>some (.pv (.fn (.func f) [] []))
 |.global _=>none
def evs (tm:List (Nat×AV)):List Operand→Option (List AV)
 |[]=>some []
 | x::r=>match jE tm x with
   | some v=>match evs tm r with
     |some vs=>some (v::vs)
     |none=>none
   |none=>none
def TJ:List AV→List Nat
 |v::_=>refs v
 |[]=>[]
def Ps:List AV→List Nat
 |[]=>[]
 | v::r=>match v with
   |.bn b _ _ _=>b::Ps r
   |_=>Ps r
def GU (op:Op)(vs:List AV):List Nat:=
 match op with
 |.load _ _=>dY vs
 |.store _ _ _=>TJ vs
 |.nilCheck _=>dY vs
 |.convert _ _ _=>dY vs
 |.makeFunc _ _ _=>dY vs
 |.slice _ _ _ _ _=>dY vs
 |.fieldAddr _ _ _=>dY vs
 |.indexAddr _ _ _=>dY vs
 |.buildSlice _ _ _=>dY vs
 |.call _=>dY vs
 |.unOp _ _ _=>dY vs
 |.binOp _ _ _ _ _=>Ps vs
 |.lookup _ _ _ _=>dY vs
 |.mapUpdate _ _ _ _=>dY vs
 |_=>[]
def TK (H:List (Nat×aD))(op:UnOp)(x:AV)(K:AV→Prop):Prop:=
 match x with
 | .bn b ver i off=>match op with
   | .not=>match lk H b with
     | some (.tr _ v _ st)=>match st with
       | none=>match Nat.beq ver v with
         | true=>match off with
           |0=>K (.bn b ver i 1)
           |1=>K (.bn b ver i 0)
           |_=>False
         |false=>False
       |some _=>False
     |_=>False
   |_=>False
 |x=>cUn op x K
theorem Pt {P:Program}{w:World}{R:Real}{N:Nat→Prop}{hp:List (Nat×aD)}{H:List (Nat×aD)}(hH:∀b box,lk H b=some box→lk hp b=some box){op:UnOp}{x:AV}{K:AV→Prop}(h:TK H op x K){u:Value}(hx:aj N w hp R x u) :
  ∃y v,(Op.unary op u).run P w=.ok y w∧K v∧aj N w hp R v y:=by
 unfold TK at h;split at h
 ·rename_i b ver i off;split at h;rotate_left;exact h.elim
  split at h;rotate_left;exact h.elim
  rename_i y v rest st hb;split at h;rotate_left;exact h.elim
  split at h;rotate_left;exact h.elim
  rename_i hv;have hb':=hH _ _ hb;simp only[aj,hb',aZ] at hx;obtain⟨h1,h2,h3⟩:=hx;have h3:=h3 (Nat.eq_of_beq_eq_true hv) (by trivial);subst h3;split at h
  ·refine⟨.bool (!(R.nil b != Nat.beq 0 1)),_,by simp[Op.unary],h,?_⟩;simp only[aj,hb',aZ];exact⟨h1,rfl,fun _ _=>by cases R.nil b<;>rfl⟩
  ·refine⟨.bool (!(R.nil b != Nat.beq 1 1)),_,by simp[Op.unary],h,?_⟩;simp only[aj,hb',aZ];exact⟨h1,rfl,fun _ _=>by cases R.nil b<;>rfl⟩
  exact h.elim
 exact TL h hx
def RL (H:List (Nat×aD))(v:AV):Bool:=
 match v with
 |.ptr _ _=>true
 |.pv (.bU _ _)=>true
 |.pv (.fn (.func _) _ _)=>true
 | .bn b ver _ _=>match RN (lk H b) with
   |some k=>Nat.beq ver k
   |none=>false
 |_=>false
def ah4:AV→Bool
 |.bn _ _ _ _=>true
 |_=>false
def EA (T:Tab)(H:List (Nat×aD))(op:BinOp)(t:TypeId)(x y:AV)(K:AV→Prop):Prop:=
 match ah4 x with
 | true=>match y with
   | .pv (.sc (.pointer none))=>match RL H x with
     | true=>match lk T t with
       | some i=>match i.d with
         |.Pv _=>RO op false K
         |_=>False
       |none=>False
     |false=>False
   |_=>False
 |false=>GV T op t x y K
def cop (P:Program)(T:Tab)(op:Op)(vs:List AV)(H:List (Nat×aD))(id:Nat)(K:AV→List (Nat×aD)→Prop):Prop:=
 match op with
 | .move _=>match vs with
   |[v]=>K v []
   |_=>False
 | .assign _=>match vs with
   |[v]=>K v []
   |_=>False
 | .pick _ _ _=>match vs with
   | [.pv (.sc (.bool c)),x,y]=>match c with
     |true=>K x []
     |false=>K y []
   |_=>False
 |.alloc t=>Bp T t id K
 | .box t _=>match vs with
   |[x]=>TH T t x id K
   |_=>False
 |.build t ps=>mH T t (ps.toList.map (·.1)) vs fun v=>K v []
 |.buildSlice t n ps=>qc T H t n (ps.toList.map (·.1)) vs id K
 | .load t _=>match vs with
   |[x]=>yM T H t x fun v=>K v []
   |_=>False
 | .store t _ _=>match vs with
   |[x,y]=>sM T H t x y K
   |_=>False
 | .nilCheck _=>match vs with
   | [x]=>match RL H x with
     |true=>K x []
     |false=>False
   |_=>False
 | .binOp op t _ _ _=>match vs with
   |[x,y]=>EA T H op t x y fun v=>K v []
   |_=>False
 | .unOp op _ _=>match vs with
   |[x]=>TK H op x fun v=>K v []
   |_=>False
 | .convert src dst _=>match vs with
   |[x]=>uZ T H src dst x K
   |_=>False
 |.makeFunc f first _=>IB H f first.size vs K
 |.makeSlice t _ _=>uY T t vs id K
 |.slice t _ l h m=>qd T H t l h m vs K
 | .fieldAddr t _ f=>match vs with
   |[x]=>mI T H t x f fun v=>K v []
   |_=>False
 | .field t _ f=>match vs with
   |[x]=>LY T t x f fun v=>K v []
   |_=>False
 | .indexAddr t _ _=>match vs with
   |[x,y]=>Pw T H t x y fun v=>K v []
   |_=>False
 | .index t _ _=>match vs with
   |[x,y]=>yN T t x y fun v=>K v []
   |_=>False
 | .extract _ i=>match vs with
   |[x]=>rz x i fun v=>K v []
   |_=>False
 | .call c=>match c.callee with
   |.value _=>IG P H vs K
   | .builtin b=>match b with
     | .append=>match c.argTypes.toList with
       | [t,t']=>match Nat.beq t t' with
         |true=>Cz T H t vs id K
         |false=>False
       |_=>False
     | .len=>match c.argTypes.toList with
       | [t]=>match vs with
         |[x]=>EB T H t x fun v=>K v []
         |_=>False
       |_=>False
     | .clear=>match c.argTypes.toList with
       | [t]=>match vs with
         |[x]=>Bq T H t x K
         |_=>False
       |_=>False
     |.max=>ZN true vs fun v=>K v []
     |.min=>ZN false vs fun v=>K v []
     |_=>False
   |.invoke _ _=>False
 | .makeMap t r=>match r with
   |none=>Br T t id K
   |some _=>False
 | .lookup t _ _ ok=>match ok with
   | false=>match vs with
     |[x,y]=>IJ T H t x y fun v=>K v []
     |_=>False
   |true=>False
 | .mapUpdate t _ _ _=>match vs with
   |[x,y,z]=>w9 T H t x y z K
   |_=>False
 |_=>False
def zR (P:Program)(T:Tab)(op:Op)(vs:List AV)(hp:List (Nat×aD))(id:Nat)(K:AV→List (Nat×aD)→List Nat→Prop):Prop:=
 match GU op vs with
 | ids=>match j3 hp ids with
   |some H=>cop P T op vs H id fun v ws=>K v ws ids
   |none=>False
def mJ (op:Op):Bool:=
 match op with
 | .call c=>match c.callee with
   |.value _=>true
   |_=>false
 |_=>false
def lC (P:Program)(T:Tab)(op:Op)(vs:List AV)(hp:List (Nat×aD))(id:Nat)(K:AV→List (Nat×aD)→List Nat→Prop):Prop:=
 match RP hp vs with
 |true=>dC P hp vs K
 |false=>zR P T op vs hp id K
def gen (T:Tab):Bool:=
 match T with
 | (a,_)::(b,_)::(c,_)::_=>match Nat.beq a b with
   |true=>Nat.beq b c
   |false=>false
 |_=>false
def mk3 (T:Tab):Tab:=
 match T with
 |x::r=>x::x::x::r
 |[]=>[]
theorem ac2 (T:Tab)(t:Nat):lk (mk3 T) t=lk T t:=by
 cases T with
 |nil=>rfl
 | cons x r=>
   obtain⟨k,v⟩:=x;simp only[mk3,aB];split<;>rfl
theorem bP.mk3 {P:Program}{T:Tab}(h:bP P T):bP P (mk3 T):=fun t i hi=>h t i (by rw[←ac2 T t];exact hi)
def Ws (P:Program)(T:Tab)(o:Oper)(tm:List (Nat×AV))(hp:List (Nat×aD))(id:Nat)(K:AV→List (Nat×aD)→List Nat→Prop):Prop:=
 match evs tm (kI o.op) with
 | some vs=>match mJ o.op with
   | true=>match isY vs with
     |true=>yC P hp vs K
     | false=>(lC P T o.op vs hp id K∨gC P hp id vs K)∨match gen T with
       |true=>gI P hp id vs K
       |false=>gV P hp id vs K
   |false=>zR P T o.op vs hp id K
 |none=>False
theorem CB {hp:List (Nat×aD)}:∀{ids:List Nat} {H:List (Nat×aD)},j3 hp ids=some H→∀b box,lk H b=some box→lk hp b=some box
 |[],H,h=>by simp only[j3,Option.some.injEq] at h;subst h;intro b box hb;simp[lk] at hb
 | i::r,H,h=>by
   simp only[j3] at h;split at h
   ·rename_i bx hbx;split at h
    ·rename_i t ht;simp only[Option.some.injEq] at h;subst h;intro b box hb;rw[aB] at hb;split at hb
     ·rename_i e;simp only[Option.some.injEq] at hb;rw[←e,←hb];exact hbx
     exact CB ht b box hb
    cases h
   cases h
section
variable {P:Program}{T:Tab}{c:Ctx}{R:Real}{s:AS}{a:Act}{w:World}
theorem xe (g:bD c R s a w){x:Operand}{v:AV}(h:jE s.tm x=some v):aj (aU c R s.hp) w s.hp R v (a.eval x):=by
 unfold jE at h;split at h
 ·rename_i t;obtain⟨y,h1,h2⟩:=g.slots t v h;have:a.eval (.tmp t)=y:=by simp[Act.eval,h1]
  rw[this];exact h2
 ·simp only[Option.some.injEq] at h;subst h;simp only[aj,bG,Act.eval]
 ·simp only[Option.some.injEq] at h;subst h;simp only[aj,bG,Act.eval];exact⟨#[],#[],rfl,rfl,rfl⟩
 cases h
theorem lq (g:bD c R s a w):∀{xs:List Operand} {vs:List AV},evs s.tm xs=some vs→FL (aj (aU c R s.hp) w s.hp R) vs (xs.map a.eval)
 |[],vs,h=>by simp only[evs,Option.some.injEq] at h;subst h;rfl
 | x::xs,vs,h=>by
   simp only[evs] at h;split at h
   ·rename_i v hv;split at h
    ·rename_i RQ hvs;simp only[Option.some.injEq] at h;subst h;exact⟨_,_,rfl,xe g hv,lq g hvs⟩
    cases h
   cases h
def Nx (c:Ctx)(s:AS)(o:Oper)(K:AV→List (Nat×aD)→Prop)(a:Act)(w:World):Prop:=
 ∃R v ws,K v ws∧bD c R ((s.app ws).put o.dst v) a w
theorem jH {o:Oper}{K:AV→List (Nat×aD)→Prop}{Q:Exit→Act→World→Prop}(hd:∀t,o.dst=some t→t<c.n){y:Value}{w':World}{R':Real}{v:AV}{ws:List (Nat×aD)}
  (hrun:(execOp a.eval o).run P w=.ok (.value y) w') (hK:K v ws) (g:bD c R' (s.app ws) a w') (hr:aj (aU c R' (ws++s.hp)) w' (ws++s.hp) R' v y) :
  o.wp P a w (Nx c s o K) Q:=by
 unfold Oper.wp;rw[hrun,Oper.upon_value];exact⟨R',v,ws,hK,g.put o.dst hd hr⟩
theorem jw {o:Oper}{m:Sem Value}(he:execOp a.eval o=(do pure (.value (←m)))){y:Value}{w':World}(h:m.run P w=.ok y w'):(execOp a.eval o).run P w=.ok (.value y) w':=by
 rw[he];simp[h]
theorem x9 (ps:Array (Nat×Operand))(f:Operand→Value):(ps.map fun (i,x)=>(i,f x))=((ps.toList.map (·.1)).zip ((ps.toList.map (·.2)).map f)).toArray:=by
 have:∀l:List (Nat×Operand),(l.map fun (x:Nat×Operand)=>(x.1,f x.2))=(l.map (·.1)).zip ((l.map (·.2)).map f):=by
  intro l;induction l with
  |nil=>rfl
  |cons x l ih=>simp[ih]
 rw[←this];apply Array.ext';simp
def iV (P:Program)(T:Tab)(c:Ctx)(R:Real)(s:AS)(a:Act)(w:World)(id:Nat)(Q:Exit→Act→World→Prop)(op:Op):Prop:=
 ∀(o:Oper),o.op=op→(∀t,o.dst=some t→t<c.n)→∀(vs:List AV) (H:List (Nat×aD)) (K:AV→List (Nat×aD)→Prop),
  (∀b box,lk H b=some box→lk s.hp b=some box)→FL (aj (aU c R s.hp) w s.hp R) vs ((kI op).map a.eval)→cop P T op vs H id K→o.wp P a w (Nx c s o K) Q
section
variable (g:bD c R s a w)(hT:bP P T){id:Nat}(hf:lk s.hp id=none)(Q:Exit→Act→World→Prop)
include g hT hf
theorem pure_ok {o:Oper}(hd:∀t,o.dst=some t→t<c.n){y:Value}{v:AV}{K:AV→List (Nat×aD)→Prop}(hK:K v [])(hr:aj (aU c R s.hp) w s.hp R v y)
  (hrun:(execOp a.eval o).run P w=.ok (.value y) w):o.wp P a w (Nx c s o K) Q:=jH (ws:=[]) hd hrun hK g hr
theorem ZO (x:Operand):iV P T c R s a w id Q (.move x):=by
 intro o ho hd vs H K hH hv h;unfold cop at h;simp only at h;split at h
 ·exact pure_ok g hT hf Q hd h (V4 hv) (by simp[execOp,ho])
 exact h.elim
theorem TM (x:Operand):iV P T c R s a w id Q (.assign x):=by
 intro o ho hd vs H K hH hv h;unfold cop at h;simp only at h;split at h
 ·exact pure_ok g hT hf Q hd h (V4 hv) (by simp[execOp,ho])
 exact h.elim
theorem ZP (x y z:Operand):iV P T c R s a w id Q (.pick x y z):=by
 intro o ho hd vs H K hH hv h;unfold cop at h;simp only at h;split at h;rotate_left;exact h.elim
 obtain⟨h1,h2,h3⟩:=FL3 hv;simp only[aj,bG] at h1;split at h
 ·exact pure_ok g hT hf Q hd h h2 (by simp[execOp,ho,h1,asBool])
 exact pure_ok g hT hf Q hd h h3 (by simp[execOp,ho,h1,asBool])
theorem Wt (t:TypeId):iV P T c R s a w id Q (.alloc t):=by
 intro o ho hd vs H K hH hv h;unfold cop at h;simp only at h;obtain⟨z,w',R',q,ws,h1,h2,h3,h4⟩:=J5 g hT hf h;exact jH hd (jw (m:=Instr.alloc t true (.tuple #[])) (by unfold execOp;rw[ho]) h1) h2 h3 h4
theorem ac3 (t:TypeId)(x:Operand):iV P T c R s a w id Q (.box t x):=by
 intro o ho hd vs H K hH hv h;unfold cop at h;simp only at h;split at h
 ·obtain⟨z,w',R',q,ws,h1,h2,h3,h4⟩:=Pq g hT hf h (V4 hv);exact jH hd (jw (m:=Instr.box t (a.eval x)) (by unfold execOp;rw[ho]) h1) h2 h3 h4
 exact h.elim
theorem Wu (t:TypeId)(ps:Array (Nat×Operand)):iV P T c R s a w id Q (.build t ps):=by
 intro o ho hd vs H K hH hv h;unfold cop at h;simp only at h;obtain⟨y,z,h1,h2,h3⟩:=DJ hT h hv;simp only[kI] at h1;exact pure_ok g hT hf Q hd h2 h3 (jw (m:=Instr.build t (ps.map fun (i,x)=>(i,a.eval x))) (by unfold execOp;rw[ho]) (by rw[x9];exact h1))
theorem GX (t:TypeId)(n:Nat)(ps:Array (Nat×Operand)):iV P T c R s a w id Q (.buildSlice t n ps):=by
 intro o ho hd vs H K hH hv h;unfold cop at h;simp only at h;obtain⟨z,w',R',q,ws,h1,h2,h3,h4⟩:=GY g hT hH hf h hv;simp only[kI] at h1;exact jH hd (jw (m:=Instr.buildSlice t n (ps.map fun (i,x)=>(i,a.eval x))) (by unfold execOp;rw[ho]) (by rw[x9];exact h1)) h2 h3 h4
theorem ZQ (t:TypeId)(x:Operand):iV P T c R s a w id Q (.load t x):=by
 intro o ho hd vs H K hH hv h;unfold cop at h;simp only at h;split at h
 ·obtain⟨y,v,h1,h2,h3⟩:=J7 g hT hH h (V4 hv);exact pure_ok g hT hf Q hd h2 h3 (jw (m:=Instr.loadAt t (a.eval x)) (by unfold execOp;rw[ho]) h1)
 exact h.elim
theorem Wv (t:TypeId)(x y:Operand):iV P T c R s a w id Q (.store t x y):=by
 intro o ho hd vs H K hH hv h;unfold cop at h;simp only at h;split at h;rotate_left;exact h.elim
 obtain⟨hx,hy⟩:=ZC hv;obtain⟨w',R',ws,h1,h2,h3⟩:=GZ g hT hH h hx hy;unfold Oper.wp;have:(execOp a.eval o).run P w=.ok .skip w':=by unfold execOp;rw[ho];simp[h1]
 rw[this,Oper.upon_skip];exact⟨R',_,ws,h2,h3.put o.dst hd (by simp only[aj,bG])⟩
theorem LZ (x:Operand):iV P T c R s a w id Q (.nilCheck x):=by
 intro o ho hd vs H K hH hv h;unfold cop at h;simp only at h;split at h;rotate_left;exact h.elim
 rename_i v;have hx:=V4 hv;split at h;rotate_left;exact h.elim
 rename_i hn;have key:(∃ad,a.eval x=.pointer (some ad))∨(∃f p q,a.eval x=.func (.func f) p q):=by
  unfold RL at hn;split at hn
  ·exact .inl (zS (by rfl) hx)
  ·exact .inl (zS (by rfl) hx)
  ·simp only[aj,bG] at hx;obtain⟨fs,cs,h1,_⟩:=hx;exact .inr ⟨_,_,_,h1⟩
  ·rename_i b ver k off;split at hn
   ·rename_i k' hk;simp only[aj] at hx;cases hb:lk H b with
    |none=>rw[hb] at hk;cases hk
    | some box=>
      rw[hb,←hH _ _ hb] at hk;obtain⟨st,_,hu,_⟩:=EC hx hk (Nat.eq_of_beq_eq_true hn);exact .inl ⟨_,hu⟩
   cases hn
  cases hn
 rcases key with ⟨ad,hk⟩|⟨f,p,q,hk⟩
 ·exact pure_ok g hT hf Q hd h hx (by simp[execOp,ho,hk])
 exact pure_ok g hT hf Q hd h hx (by simp[execOp,ho,hk])
theorem L6 {H:List (Nat×aD)}(hH:∀b box,lk H b=some box→lk s.hp b=some box){t:TypeId}{op:BinOp}{x y:AV}{K:AV→Prop}(h:EA T H op t x y K){u v:Value}
  (hx:aj (aU c R s.hp) w s.hp R x u) (hy:aj (aU c R s.hp) w s.hp R y v) (xo yo:Operand) :
  ∃r,(do eqGuard op t xo yo u v;binOp op t u v:Sem Value).run P w=.ok r w∧∃p,K (.pv p)∧bG (aU c R s.hp) w p r:=by
 unfold EA at h;split at h
 ·rename_i hap;split at h;rotate_left;exact h.elim
  split at h;rotate_left;exact h.elim
  rename_i hn;split at h;rotate_left;exact h.elim
  rename_i i hi;obtain⟨d,hd,iE⟩:=(hT t i hi).iO;split at h;rotate_left;exact h.elim
  rename_i el e;have hd':P.underlying t=some (.pointer el):=by
   rw[e] at iE;cases d<;>simp[di] at iE
   subst iE;exact hd
  have key:∃ad,u=.pointer (some ad):=by
   cases x with
   | bn b ver k off=>
     simp only[RL] at hn;split at hn
     ·rename_i k' hk;simp only[aj] at hx;cases hb:lk H b with
      |none=>rw[hb] at hk;cases hk
      | some box=>
        rw[hb,←hH _ _ hb] at hk;obtain⟨st,_,hu,_⟩:=EC hx hk (Nat.eq_of_beq_eq_true hn);exact⟨_,hu⟩
     cases hn
   |_=>cases hap
  obtain⟨ad,rfl⟩:=key;simp only[aj,bG] at hy;subst hy;exact fin h (acd 9999 ad hd') ⟨fun e=>by subst e;rfl,fun e=>by subst e;rfl⟩ ⟨fun _ _ ha _=>(by cases ha),fun ha _=>(by cases ha)⟩
 exact Px hT h hx hy xo yo
theorem Ww (op:BinOp)(t:TypeId)(x y:Operand)(yt:TypeId):iV P T c R s a w id Q (.binOp op t x y yt):=by
 intro o ho hd vs H K hH hv h;unfold cop at h;simp only at h;split at h
 ·obtain⟨hx,hy⟩:=ZC hv;obtain⟨r,h1,p,h2,h3⟩:=L6 (xo:=x) (yo:=y) g hT hf hH h hx hy;exact pure_ok g hT hf Q hd h2 (by simpa only[aj] using h3) (jw (m:=(do eqGuard op t x y (a.eval x) (a.eval y);binOp op t (a.eval x) (a.eval y))) (by unfold execOp;rw[ho]) h1)
 exact h.elim
theorem ZR (op:UnOp)(t:TypeId)(x:Operand):iV P T c R s a w id Q (.unOp op t x):=by
 intro o ho hd vs H K hH hv h;unfold cop at h;simp only at h;split at h
 ·obtain⟨y,v,h1,h2,h3⟩:=Pt (P:=P) (w:=w) hH h (V4 hv);exact pure_ok g hT hf Q hd h2 h3 (jw (m:=Op.unary op (a.eval x)) (by unfold execOp;rw[ho]) h1)
 exact h.elim
theorem Py (src dst:TypeId)(x:Operand):iV P T c R s a w id Q (.convert src dst x):=by
 intro o ho hd vs H K hH hv h;unfold cop at h;simp only at h;split at h
 ·obtain⟨z,w',R',q,ws,h1,h2,h3,h4⟩:=J6 g hT hH h (V4 hv);exact jH hd (jw (m:=convert src dst (a.eval x)) (by unfold execOp;rw[ho]) h1) h2 h3 h4
 exact h.elim
theorem L8 (f:Fn)(first aR:Array Operand):iV P T c R s a w id Q (.makeFunc f first aR):=by
 intro o ho hd vs H K hH hv h;unfold cop at h;simp only at h;simp only[kI,List.map_append,←Array.toList_map] at hv;rw[show first.size=(first.map a.eval).size from by simp] at h;obtain⟨z,ws,h1,h2,h3,h4⟩:=LP (P:=P) g hH h hv;exact jH hd (jw (m:=Instr.makeFunc f (first.map a.eval) (aR.map a.eval)) (by unfold execOp;rw[ho]) h1) h2 h3 h4
theorem J9 (t:TypeId)(l n:Operand):iV P T c R s a w id Q (.makeSlice t l n):=by
 intro o ho hd vs H K hH hv h;unfold cop at h;simp only at h;simp only[kI] at hv;obtain⟨x,y,rfl⟩:∃x y,vs=[x,y]:=by
  have:=hv.length;match vs with
  |[x,y]=>exact⟨x,y,rfl⟩
  |[]=>simp at this
  |[_]=>simp at this
  |_::_::_::_=>simp at this
 obtain⟨hx,hy⟩:=ZC hv;obtain⟨z,w',R',q,ws,h1,h2,h3,h4⟩:=LU g hT hf h hx hy;exact jH hd (jw (m:=Instr.makeSlice t (a.eval l) (a.eval n)) (by unfold execOp;rw[ho]) h1) h2 h3 h4
theorem ok_slice (t:TypeId)(x:Operand)(l hi m:Option Operand):iV P T c R s a w id Q (.slice t x l hi m):=by
 intro o ho hd vs H K hH hv h;unfold cop at h;simp only at h;simp only[kI] at hv;obtain⟨y,z,ws,R',h1,h2,h3,h4⟩:=G8 g hT hH h hv;exact jH hd (jw (m:=Instr.sliceAt t (a.eval x) (l.map a.eval) (hi.map a.eval) (m.map a.eval)) (by unfold execOp;rw[ho]) h1) h2 h3 h4
theorem Ka (t:TypeId)(x:Operand)(f:Nat):iV P T c R s a w id Q (.fieldAddr t x f):=by
 intro o ho hd vs H K hH hv h;unfold cop at h;simp only at h;split at h
 ·obtain⟨y,v,h1,h2,h3⟩:=Bt (w:=w) hT hH h (V4 hv);exact pure_ok g hT hf Q hd h2 h3 (jw (m:=Instr.fieldAt t (a.eval x) f) (by unfold execOp;rw[ho]) h1)
 exact h.elim
theorem Wx (t:TypeId)(x:Operand)(f:Nat):iV P T c R s a w id Q (.field t x f):=by
 intro o ho hd vs H K hH hv h;unfold cop at h;simp only at h;split at h
 ·obtain⟨y,v,h1,h2,h3⟩:=Pz hT h (V4 hv);exact pure_ok g hT hf Q hd h2 h3 (jw (m:=Instr.field t (a.eval x) f) (by unfold execOp;rw[ho]) h1)
 exact h.elim
theorem Kb (t:TypeId)(x i:Operand):iV P T c R s a w id Q (.indexAddr t x i):=by
 intro o ho hd vs H K hH hv h;unfold cop at h;simp only at h;split at h
 ·obtain⟨hx,hy⟩:=ZC hv;obtain⟨y,v,h1,h2,h3⟩:=PD g hT hH h hx hy;exact pure_ok g hT hf Q hd h2 h3 (jw (m:=Instr.indexAt t (a.eval x) (a.eval i)) (by unfold execOp;rw[ho]) h1)
 exact h.elim
theorem Wy (t:TypeId)(x i:Operand):iV P T c R s a w id Q (.index t x i):=by
 intro o ho hd vs H K hH hv h;unfold cop at h;simp only at h;split at h
 ·obtain⟨hx,hy⟩:=ZC hv;obtain⟨y,v,h1,h2,h3⟩:=Kc hT h hx hy;exact pure_ok g hT hf Q hd h2 h3 (jw (m:=Instr.index t (a.eval x) (a.eval i)) (by unfold execOp;rw[ho]) h1)
 exact h.elim
theorem PE (x:Operand)(i:Nat):iV P T c R s a w id Q (.extract x i):=by
 intro o ho hd vs H K hH hv h;unfold cop at h;simp only at h;split at h
 ·obtain⟨y,v,h1,h2,h3⟩:=ED (P:=P) h (V4 hv);exact pure_ok g hT hf Q hd h2 h3 (jw (m:=Instr.extract (a.eval x) i) (by unfold execOp;rw[ho]) h1)
 exact h.elim
theorem ZT (cc:Call):iV P T c R s a w id Q (.call cc):=by
 intro o ho hd vs H K hH hv h;unfold cop at h;simp only at h;have hex:execOp a.eval o=(do let d ←resolve a.eval cc o.type;invoke d.target d.args):=by unfold execOp;rw[ho]
 split at h
 ·-- of a function
  rename_i f u7;simp only[kI,u7,List.map_cons] at hv;cases vs with
  |nil=>exact h.elim
  | cons fv args=>
    obtain⟨u,us,e1,TN,hargs⟩:=hv;simp only[List.cons.injEq] at e1;obtain⟨e1,rfl⟩:=e1;obtain⟨fid,first,aR,rfl,⟨fn,hfn,hbody,hname⟩,yO⟩:=LX g hH h TN hargs;have hrun:(execOp a.eval o).run P w=.ok (.enter fid (first++(cc.args.toList.map a.eval).toArray++aR)) w:=by
     rw[hex];have hb:fn.body.isNone=false:=by cases uM:fn.body<;>simp[uM] at hbody ⊢
     have e3:(cc.args.toList.map a.eval).toArray=cc.args.map a.eval:=by rw[←Array.toList_map,Array.toArray_toList]
     simp only[resolve,u7,e1,Deferred.ofValue,Sem.run_bind,Sem.run_pure,Result.andThen_ok,invoke,callFunc,run_program,hfn,hname,hb,e3];simp
    unfold Oper.wp;rw[hrun,Oper.upon_enter];refine yO.mono ?_;rintro e w' ⟨v,z,ws,rfl,hK,g2,hr⟩
    exact⟨R,z,ws,hK,g2.put o.dst hd hr⟩
 ·rename_i b u7;simp only[kI,u7] at hv;have hrun:∀{y:Value} {w':World},(builtin b cc.argTypes o.type (cc.args.map fun|.const _=>true|_=>false) (cc.args.map a.eval)).run P w=.ok (.value y) w'→(execOp a.eval o).run P w=.ok (.value y) w':=by
   intro y w' hy;rw[hex];simp only[resolve,u7,Sem.run_bind,Sem.run_pure,Result.andThen_ok,invoke];exact hy
  have hargs:∀l:List Operand,cc.args.toList=l→cc.args.map a.eval=(l.map a.eval).toArray:=by
   intro l hl;rw[←hl,←Array.toList_map,Array.toArray_toList]
  split at h
  ·-- append
   split at h;rotate_left;exact h.elim
   rename_i t t' hts;split at h;rotate_left;exact h.elim
   rename_i htt;have htt:=Nat.eq_of_beq_eq_true htt;subst htt;have hat:cc.argTypes = #[t,t]:=by rw[←Array.toArray_toList (xs:=cc.argTypes),hts]
   obtain⟨d,x,rfl⟩:∃x y,vs=[x,y]:=by
    unfold Cz at h;split at h
    ·exact⟨_,_,rfl⟩
    unfold yc at h;split at h
    ·exact⟨_,_,rfl⟩
    unfold uw at h;split at h
    ·exact⟨_,_,rfl⟩
    unfold uL at h;split at h
    ·exact⟨_,_,rfl⟩
    exact h.elim
   have hl:=hv.length;obtain⟨x1,x2,hal⟩:∃x1 x2,cc.args.toList=[x1,x2]:=by
    simp only[List.length_map] at hl;match hm:cc.args.toList with
    |[x,y]=>exact⟨x,y,rfl⟩
    |[]=>rw[hm] at hl;simp at hl
    |[_]=>rw[hm] at hl;simp at hl
    |_::_::_::_=>rw[hm] at hl;simp at hl
   rw[hal] at hv;obtain⟨hx,hy⟩:=ZC hv;obtain⟨z,w',R',q,ws,h1,h2,h3,h4⟩:=L9 (ty:=o.type) g hT hH hf h hx hy;refine jH hd (hrun ?_) h2 h3 h4;rw[hargs _ hal,hat];simp only[builtin,List.map_cons,List.map_nil,Sem.run_bind,h1,Result.andThen_ok,Sem.run_pure]
  ·-- len
   split at h;rotate_left;exact h.elim
   rename_i t hts;have hat:cc.argTypes = #[t]:=by rw[←Array.toArray_toList (xs:=cc.argTypes),hts]
   split at h;rotate_left;exact h.elim
   rename_i x;have hl:=hv.length;obtain⟨x1,hal⟩:∃x1,cc.args.toList=[x1]:=by
    simp only[List.length_map] at hl;match hm:cc.args.toList with
    |[x]=>exact⟨x,rfl⟩
    |[]=>rw[hm] at hl;simp at hl
    |_::_::_=>rw[hm] at hl;simp at hl
   rw[hal] at hv;obtain⟨y,v,h1,h2,h3⟩:=Ma (ty:=o.type) g hT hH h (V4 hv);refine pure_ok g hT hf Q hd h2 h3 (hrun ?_);rw[hargs _ hal,hat];simp only[builtin,List.map_cons,List.map_nil,Sem.run_bind,h1,Result.andThen_ok,Sem.run_pure]
  ·-- clear
   split at h;rotate_left;exact h.elim
   rename_i t hts;have hat:cc.argTypes = #[t]:=by rw[←Array.toArray_toList (xs:=cc.argTypes),hts]
   split at h;rotate_left;exact h.elim
   rename_i x;have hl:=hv.length;obtain⟨x1,hal⟩:∃x1,cc.args.toList=[x1]:=by
    simp only[List.length_map] at hl;match hm:cc.args.toList with
    |[x]=>exact⟨x,rfl⟩
    |[]=>rw[hm] at hl;simp at hl
    |_::_::_=>rw[hm] at hl;simp at hl
   rw[hal] at hv;obtain⟨z,w',q,ws,h1,h2,h3,h4⟩:=Ke (ty:=o.type) g hT hH h (V4 hv);refine jH hd (hrun ?_) h2 h3 h4;rw[hargs _ hal,hat];simp only[builtin,List.map_cons,List.map_nil,Sem.run_bind,h1,Result.andThen_ok,Sem.run_pure]
  ·-- max
   obtain⟨d,x,rfl⟩:∃x y,vs=[x,y]:=by
    unfold ZN at h;split at h
    ·exact⟨_,_,rfl⟩
    exact h.elim
   have hl:=hv.length;obtain⟨x1,x2,hal⟩:∃x1 x2,cc.args.toList=[x1,x2]:=by
    simp only[List.length_map] at hl;match hm:cc.args.toList with
    |[x,y]=>exact⟨x,y,rfl⟩
    |[]=>rw[hm] at hl;simp at hl
    |[_]=>rw[hm] at hl;simp at hl
    |_::_::_::_=>rw[hm] at hl;simp at hl
   rw[hal] at hv;obtain⟨hx,hy⟩:=ZC hv;obtain⟨z,q,h1,h2,h3⟩:=II (P:=P) h hx hy cc.argTypes o.type;refine pure_ok g hT hf Q hd h2 h3 (hrun ?_);rw[hargs _ hal];simp only[if_true] at h1;simp only[builtin,List.map_cons,List.map_nil,Sem.run_bind,h1,Result.andThen_ok,Sem.run_pure]
  ·obtain⟨d,x,rfl⟩:∃x y,vs=[x,y]:=by
    unfold ZN at h;split at h
    ·exact⟨_,_,rfl⟩
    exact h.elim
   have hl:=hv.length;obtain⟨x1,x2,hal⟩:∃x1 x2,cc.args.toList=[x1,x2]:=by
    simp only[List.length_map] at hl;match hm:cc.args.toList with
    |[x,y]=>exact⟨x,y,rfl⟩
    |[]=>rw[hm] at hl;simp at hl
    |[_]=>rw[hm] at hl;simp at hl
    |_::_::_::_=>rw[hm] at hl;simp at hl
   rw[hal] at hv;obtain⟨hx,hy⟩:=ZC hv;obtain⟨z,q,h1,h2,h3⟩:=II (P:=P) h hx hy cc.argTypes o.type;refine pure_ok g hT hf Q hd h2 h3 (hrun ?_);rw[hargs _ hal];simp only[Bool.false_eq_true,if_false] at h1;simp only[builtin,List.map_cons,List.map_nil,Sem.run_bind,h1,Result.andThen_ok,Sem.run_pure]
  exact h.elim
 exact h.elim
theorem PG (t:TypeId)(r:Option Operand):iV P T c R s a w id Q (.makeMap t r):=by
 intro o ho hd vs H K hH hv h;unfold cop at h;simp only at h;split at h
 ·obtain⟨z,w',R',q,ws,h1,h2,h3,h4⟩:=Kg g hT hf h;exact jH hd (jw (m:=Instr.makeMap t none) (by unfold execOp;rw[ho];rfl) h1) h2 h3 h4
 exact h.elim
theorem TP (t:TypeId)(x i:Operand)(ok:Bool):iV P T c R s a w id Q (.lookup t x i ok):=by
 intro o ho hd vs H K hH hv h;unfold cop at h;simp only at h;split at h;rotate_left;exact h.elim
 split at h
 ·obtain⟨hx,hy⟩:=ZC hv;obtain⟨y,v,h1,h2,h3⟩:=Mc g hT hH h hx hy;exact pure_ok g hT hf Q hd h2 h3 (jw (m:=Instr.lookup t (a.eval x) (a.eval i) false) (by unfold execOp;rw[ho]) h1)
 exact h.elim
theorem Kh (t:TypeId)(x i y:Operand):iV P T c R s a w id Q (.mapUpdate t x i y):=by
 intro o ho hd vs H K hH hv h;unfold cop at h;simp only at h;split at h;rotate_left;exact h.elim
 obtain⟨hx,hy,hz⟩:=FL3 hv;obtain⟨w',ws,h1,h2,h3⟩:=G9 g hT hH h hx hy hz;unfold Oper.wp;have:(execOp a.eval o).run P w=.ok .skip w':=by unfold execOp;rw[ho];simp[h1]
 rw[this,Oper.upon_skip];exact⟨R,_,ws,h2,h3.put o.dst hd (by simp only[aj,bG])⟩
theorem ac5 (op:Op):iV P T c R s a w id Q op:=by
 cases op with
 |move x=>exact ZO g hT hf Q x
 |assign x=>exact TM g hT hf Q x
 |pick x y z=>exact ZP g hT hf Q x y z
 |alloc t=>exact Wt g hT hf Q t
 |box t x=>exact ac3 g hT hf Q t x
 |build t ps=>exact Wu g hT hf Q t ps
 |buildSlice t n ps=>exact GX g hT hf Q t n ps
 |load t x=>exact ZQ g hT hf Q t x
 |store t x y=>exact Wv g hT hf Q t x y
 |nilCheck x=>exact LZ g hT hf Q x
 |binOp op t x y yt=>exact Ww g hT hf Q op t x y yt
 |unOp op t x=>exact ZR g hT hf Q op t x
 |convert src dst x=>exact Py g hT hf Q src dst x
 |makeFunc f first aR=>exact L8 g hT hf Q f first aR
 |makeSlice t l n=>exact J9 g hT hf Q t l n
 |slice t x l h m=>exact ok_slice g hT hf Q t x l h m
 |fieldAddr t x f=>exact Ka g hT hf Q t x f
 |field t x f=>exact Wx g hT hf Q t x f
 |indexAddr t x i=>exact Kb g hT hf Q t x i
 |index t x i=>exact Wy g hT hf Q t x i
 |extract x i=>exact PE g hT hf Q x i
 |makeMap t r=>exact PG g hT hf Q t r
 |lookup t x i ok=>exact TP g hT hf Q t x i ok
 |mapUpdate t x i y=>exact Kh g hT hf Q t x i y
 |call cc=>exact ZT g hT hf Q cc
 |_=>intro o ho hd vs H K hH hv h;exact h.elim
theorem ace {o:Oper}(hd:∀t,o.dst=some t→t<c.n)(hc:mJ o.op=true){vs:List AV}{K:AV→List (Nat×aD)→List Nat→Prop}(hv:FL (aj (aU c R s.hp) w s.hp R) vs ((kI o.op).map a.eval))
  (h:gC P s.hp id vs K):o.wp P a w (Nx c s o fun v ws=>∃ids,K v ws ids) Q:=by
 cases ho:o.op<;>rw[ho] at hc<;>simp only[mJ] at hc<;>try (cases hc;done)
 rename_i cc;split at hc
 ·rename_i f u7;rw[ho] at hv;simp only[kI,u7,List.map_cons] at hv;cases vs with
  |nil=>exact h.elim
  | cons fv args=>
    obtain⟨u,us,e1,TN,hargs⟩:=hv;simp only[List.cons.injEq] at e1;obtain⟨e1,rfl⟩:=e1;obtain⟨fid,first,aR,rfl,⟨fn,hfn,hbody,hname⟩,yO⟩:=Wz g h TN hargs;have hex:execOp a.eval o=(do let d ←resolve a.eval cc o.type;invoke d.target d.args):=by unfold execOp;rw[ho]
    have hrun:(execOp a.eval o).run P w=.ok (.enter fid (first++(cc.args.toList.map a.eval).toArray++aR)) w:=by
     rw[hex];have hb:fn.body.isNone=false:=by cases uM:fn.body<;>simp[uM] at hbody ⊢
     have e3:(cc.args.toList.map a.eval).toArray=cc.args.map a.eval:=by rw[←Array.toList_map,Array.toArray_toList]
     simp only[resolve,u7,e1,Deferred.ofValue,Sem.run_bind,Sem.run_pure,Result.andThen_ok,invoke,callFunc,run_program,hfn,hname,hb,e3];simp
    unfold Oper.wp;rw[hrun,Oper.upon_enter];refine yO.mono ?_;rintro e w' ⟨v,z,ws,ids,R',rfl,hK,g2,hr⟩
    exact⟨R',z,ws,⟨ids,hK⟩,g2.put o.dst hd hr⟩
 cases hc
theorem afm {o:Oper}(hd:∀t,o.dst=some t→t<c.n)(hc:mJ o.op=true){vs:List AV}{K:AV→List (Nat×aD)→List Nat→Prop}(hv:FL (aj (aU c R s.hp) w s.hp R) vs ((kI o.op).map a.eval))
  (h:gV P s.hp id vs K):o.wp P a w (Nx c s o fun v ws=>∃ids,K v ws ids) Q:=by
 refine Oper.wp_mono ?_ (ace g hT hf Q hd hc hv h);rintro a' w' ⟨R',v,ws,⟨ids,hK⟩,g'⟩
 obtain⟨h1,h2⟩:=yP hK;refine⟨R',v,[],⟨ids,h1⟩,?_⟩;cases afn:o.dst with
 | none=>
   rw[afn] at g';exact g'.congr (fun _=>rfl) fun b=>(h2 b).symm
 | some d=>
   rw[afn] at g';exact g'.congr (fun _=>rfl) fun b=>(h2 b).symm
theorem afo {o:Oper}(hd:∀t,o.dst=some t→t<c.n)(hc:mJ o.op=true){vs:List AV}{K:AV→List (Nat×aD)→List Nat→Prop}(hv:FL (aj (aU c R s.hp) w s.hp R) vs ((kI o.op).map a.eval))
  (h:gI P s.hp id vs K):o.wp P a w (Nx c s o fun v ws=>∃ids,K v ws ids) Q:=by
 cases ho:o.op<;>rw[ho] at hc<;>simp only[mJ] at hc<;>try (cases hc;done)
 rename_i cc;split at hc
 ·rename_i f u7;rw[ho] at hv;simp only[kI,u7,List.map_cons] at hv;cases vs with
  |nil=>exact h.elim
  | cons fv args=>
    obtain⟨u,us,e1,TN,hargs⟩:=hv;simp only[List.cons.injEq] at e1;obtain⟨e1,rfl⟩:=e1;obtain⟨fid,first,aR,rfl,⟨fn,hfn,hbody,hname⟩,yO⟩:=WA g h TN hargs;have hex:execOp a.eval o=(do let d ←resolve a.eval cc o.type;invoke d.target d.args):=by unfold execOp;rw[ho]
    have hrun:(execOp a.eval o).run P w=.ok (.enter fid (first++(cc.args.toList.map a.eval).toArray++aR)) w:=by
     rw[hex];have hb:fn.body.isNone=false:=by cases uM:fn.body<;>simp[uM] at hbody ⊢
     have e3:(cc.args.toList.map a.eval).toArray=cc.args.map a.eval:=by rw[←Array.toList_map,Array.toArray_toList]
     simp only[resolve,u7,e1,Deferred.ofValue,Sem.run_bind,Sem.run_pure,Result.andThen_ok,invoke,callFunc,run_program,hfn,hname,hb,e3];simp
    unfold Oper.wp;rw[hrun,Oper.upon_enter];refine yO.mono ?_;rintro e w' ⟨v,z,ws,ids,R',rfl,hK,g2,hr⟩
    exact⟨R',z,ws,⟨ids,hK⟩,g2.put o.dst hd hr⟩
 cases hc
theorem afp {o:Oper}(hd:∀t,o.dst=some t→t<c.n)(hc:mJ o.op=true){vs:List AV}{K:AV→List (Nat×aD)→List Nat→Prop}(hv:FL (aj (aU c R s.hp) w s.hp R) vs ((kI o.op).map a.eval))
  (h:dC P s.hp vs K):o.wp P a w (Nx c s o fun v ws=>∃ids,K v ws ids) Q:=by
 cases ho:o.op<;>rw[ho] at hc<;>simp only[mJ] at hc<;>try (cases hc;done)
 rename_i cc;split at hc
 ·rename_i f u7;rw[ho] at hv;simp only[kI,u7,List.map_cons] at hv;cases vs with
  | nil=>
    unfold dC at h;simp only[ve] at h;split at h
    ·simp at h
    exact h.elim
  | cons fv args=>
    obtain⟨u,us,e1,TN,hargs⟩:=hv;simp only[List.cons.injEq] at e1;obtain⟨e1,rfl⟩:=e1;obtain⟨fid,first,aR,rfl,⟨fn,hfn,hbody,hname⟩,yO⟩:=WB g h TN hargs;have hex:execOp a.eval o=(do let d ←resolve a.eval cc o.type;invoke d.target d.args):=by unfold execOp;rw[ho]
    have hrun:(execOp a.eval o).run P w=.ok (.enter fid (first++(cc.args.toList.map a.eval).toArray++aR)) w:=by
     rw[hex];have hb:fn.body.isNone=false:=by cases uM:fn.body<;>simp[uM] at hbody ⊢
     have e3:(cc.args.toList.map a.eval).toArray=cc.args.map a.eval:=by rw[←Array.toList_map,Array.toArray_toList]
     simp only[resolve,u7,e1,Deferred.ofValue,Sem.run_bind,Sem.run_pure,Result.andThen_ok,invoke,callFunc,run_program,hfn,hname,hb,e3];simp
    unfold Oper.wp;rw[hrun,Oper.upon_enter];refine yO.mono ?_;rintro e w' ⟨v,z,ws,ids,R',rfl,hK,g2,hr⟩
    exact⟨R',z,ws,⟨ids,hK⟩,g2.put o.dst hd hr⟩
 cases hc
theorem RS {o:Oper}(hd:∀t,o.dst=some t→t<c.n){vs:List AV}{K:AV→List (Nat×aD)→List Nat→Prop}(hv:FL (aj (aU c R s.hp) w s.hp R) vs ((kI o.op).map a.eval))
  (h:zR P T o.op vs s.hp id K):o.wp P a w (Nx c s o fun v ws=>∃ids,K v ws ids) Q:=by
 unfold zR at h;simp only at h;split at h;rotate_left;exact h.elim
 rename_i H hH;refine Oper.wp_mono ?_ (ac5 g hT hf Q o.op o rfl hd vs H _ (CB hH) hv h);rintro a w ⟨R,v,ws,hK,g2⟩
 exact⟨R,v,ws,⟨_,hK⟩,g2⟩
theorem afq {o:Oper}(hd:∀t,o.dst=some t→t<c.n)(hc:mJ o.op=true){vs:List AV}{K:AV→List (Nat×aD)→List Nat→Prop}(hv:FL (aj (aU c R s.hp) w s.hp R) vs ((kI o.op).map a.eval))
  (ro:Option Nat) (h:yC P s.hp vs K):o.wpIn (W1 ro) 0 P a w (Nx c s o fun v ws=>∃ids,K v ws ids) Q:=by
 cases ho:o.op<;>rw[ho] at hc<;>simp only[mJ] at hc<;>try (cases hc;done)
 rename_i cc;split at hc
 ·rename_i f u7;rw[ho] at hv;simp only[kI,u7,List.map_cons] at hv;unfold yC at h;split at h;rotate_left;exact h.elim
  rename_i l args;obtain⟨u,us,e1,TN,hargs⟩:=hv;simp only[List.cons.injEq] at e1;obtain⟨e1,rfl⟩:=e1;split at h;rotate_left;exact h.elim
  rename_i y ver rest st h9;split at h;rotate_left;exact h.elim
  split at h;rotate_left;exact h.elim
  split at h;rotate_left;exact h.elim
  rename_i ps hps;obtain⟨rfl,x,r,rfl,hle,hK⟩:=h;have hbx:=g.boxes 999 _ h9;obtain⟨-,kh,k1,k2,k3,k4⟩:=hbx;simp only[aj,bG] at TN;obtain⟨fs,cs,rfl,hfs,hcs⟩:=TN;simp only[eu] at hfs hcs;have hfs:fs = #[]:=by simpa using hfs
  have hcs:cs = #[]:=by simpa using hcs
  subst hfs hcs;have hargs':eu (aU c R s.hp) w ps (cc.args.toList.map a.eval):=by
   have:=(eZ _ _ _ _ _ _).2 hargs;rw[Bu hps] at this;exact vg _ _ this
  have hx:eu (fun q=>R.Y.D q∨lu c R s.hp q) w x (cc.args.toList.map a.eval):=by
   refine qf (N:=aU c R s.hp) (fun q hq=>?_) _ _ _ hle hargs';rcases hq with hq|hq
   ·exact .inr ⟨999,by rw[h9];exact hq⟩
   exact hq.1
  obtain⟨fn,tmps,assign,body,hrun,Ki⟩:=kh x r R.Y.Z R.Y.D R.Y.wy w (lu c R s.hp) _ (by simpa using k1) k2 k3 (fun q hq=>(k4 q hq.1).resolve_left hq.2)
   (fun q hq=>g.Nlt hq.1) (fun q hq=>hq.2) hx
  have hex:execOp a.eval o=(do let d ←resolve a.eval cc o.type;invoke d.target d.args):=by unfold execOp;rw[ho]
  have e3:(cc.args.toList.map a.eval).toArray=cc.args.map a.eval:=by rw[←Array.toList_map,Array.toArray_toList]
  have hrun':(execOp a.eval o).run P w=.ok (.round l fn tmps assign body) w:=by
   rw[hex];rw[e3] at hrun;simp only[resolve,u7,e1,Deferred.ofValue,Sem.run_bind,Sem.run_pure,Result.andThen_ok,invoke];simpa using hrun
  have ah6:Oper.semAt ro a.eval o=execOp a.eval o:=by
   cases ro with
   |none=>rfl
   |some l=>exact Oper.semAt_some l _ _ (fun c e=>by rw[ho] at e;cases e)
  refine⟨fun _ _=>trivial,?_⟩;show o.uponIn (W1 ro) 0 P a _ Q ((Oper.semAt ro a.eval o).run P w)
  rw[ah6,hrun',Oper.uponIn_round];refine⟨fun e=>(by cases e),?_⟩;refine (show RoundIn (W1 ro) 0 P l fn tmps assign body w _ from Ki).mono ?_;rintro e w' ⟨D',b,rfl,hE,hD1,hD2,hJ⟩
  obtain⟨g2,hr⟩:=g.yielded h9 hE hD1 hD2 hJ;exact⟨_,_,_,⟨_,hK⟩,g2.put o.dst hd hr⟩
 cases hc
theorem TQ (ro:Option Nat){o:Oper}(hd:∀t,o.dst=some t→t<c.n){K:AV→List (Nat×aD)→List Nat→Prop}(h:Ws P T o s.tm s.hp id K) :
  o.wpIn (W1 ro) 0 P a w (Nx c s o fun v ws=>∃ids,K v ws ids) Q:=by
 have nd:∀{vs:List AV},zR P T o.op vs s.hp id K→∀c,o.op ≠ .defer c:=by
  intro vs hf c e;rw[e] at hf;unfold zR at hf;simp only at hf;split at hf
  ·exact hf.elim
  exact hf.elim
 have nd2:mJ o.op=true→∀c,o.op ≠ .defer c:=fun hc c e=>by rw[e] at hc;cases hc
 unfold Ws at h;split at h;rotate_left;exact h.elim
 rename_i vs hvs;split at h
 ·rename_i hc;split at h
  ·exact afq g hT hf Q hd hc (lq g hvs) ro h
  rcases h with (h|h)|h
  rotate_left 2
  ·split at h
   ·exact mK ro (nd2 hc) (afo g hT hf Q hd hc (lq g hvs) h)
   exact mK ro (nd2 hc) (afm g hT hf Q hd hc (lq g hvs) h)
  ·unfold lC at h;split at h
   ·exact mK ro (nd2 hc) (afp g hT hf Q hd hc (lq g hvs) h)
   exact mK ro (nd h) (RS g hT hf Q hd (lq g hvs) h)
  exact mK ro (nd2 hc) (ace g hT hf Q hd hc (lq g hvs) h)
 exact mK ro (nd h) (RS g hT hf Q hd (lq g hvs) h)
end
end
structure vk where
 look:List Nat
 dst:Option Nat
 rd:List Nat
 wr:List Nat
def tmpsOf:List Operand→List Nat
 |[]=>[]
 |.tmp t::r=>t::tmpsOf r
 |_::r=>tmpsOf r
def ac6 (tm:List (Nat×AV))(d:Option Nat)(v:AV):List (Nat×AV):=
 match d with
 |some d=>(d,v)::tm
 |none=>tm
def xg (ops:List Oper)(o:Oper):Option Nat:=
 match o.guard with
 |none=>none
 | some (j,_)=>match nth ops j with
   |some oj=>oj.dst
   |none=>none
def yQ (ops:List Oper)(o:Oper):List Nat:=
 match xg ops o with
 |some d=>[d]
 |none=>[]
abbrev RK:=List (Nat×AV)→List (Nat×aD)→List vk→Prop
abbrev RC:=List (Nat×AV)→List (Nat×aD)→List vk→List (Nat×Bool)→Prop
def ac7 (tm:List (Nat×AV))(d:Option Nat)(v:AV)(K:List (Nat×AV)→Prop):Prop:=
 match d with
 |some d=>K ((d,v)::tm)
 |none=>K tm
theorem xh (tm:List (Nat×AV))(d:Option Nat)(v:AV)(K:List (Nat×AV)→Prop):ac7 tm d v K=K (ac6 tm d v):=by cases d<;>rfl
def ZV:List (Nat×aD)→List (Nat×aD)→(List (Nat×aD)→Prop)→Prop
 |[],hp,K=>K hp
 |x::r,hp,K=>ZV r hp fun h=>K (x::h)
theorem D8:∀(ws hp:List (Nat×aD)) (K:List (Nat×aD)→Prop),ZV ws hp K=K (ws++hp)
 |[],_,_=>rfl
 |x::r,hp,K=>by simp only[ZV,D8 r hp];rfl
def vex (P:Program)(T:Tab)(ops:List Oper)(base:Nat)(o:Oper)(i:Nat)(tm:List (Nat×AV))(hp:List (Nat×aD))(tr:List vk)(kn:List (Nat×Bool))(K:RC):Prop:=
 match lk hp (base+i) with
 |some _=>False
 | none=>Ws P T o tm hp (base+i) fun v ws ids=>
   ac7 tm o.dst v fun tm=>ZV ws hp fun hp=>K tm hp (⟨yQ ops o++tmpsOf (kI o.op),o.dst,(base+i)::ids,keys ws⟩::tr) kn
def CF (ops:List Oper)(o:Oper)(tm:List (Nat×AV))(hp:List (Nat×aD))(tr:List vk)(kn:List (Nat×Bool))(K:RC):Prop:=
 ac7 tm o.dst (.pv (.sc undef)) fun tm=>K tm hp (⟨yQ ops o,o.dst,[],[]⟩::tr) kn
def vgo (P:Program)(T:Tab)(ops:List Oper)(base:Nat)(o:Oper)(i:Nat)(wanted:Bool)(tm:List (Nat×AV))(hp:List (Nat×aD))(tr:List vk)(kn:List (Nat×Bool))(K:RC):Prop:=
 match wanted with
 |true=>vex P T ops base o i tm hp tr kn K
 |false=>CF ops o tm hp tr kn K
def rA (P:Program)(T:Tab)(ops:List Oper)(base:Nat)(o:Oper)(i:Nat)(tm:List (Nat×AV))(hp:List (Nat×aD))(tr:List vk)(kn:List (Nat×Bool))(K:RC):Prop:=
 match o.guard with
 |none=>vex P T ops base o i tm hp tr kn K
 | some (j,want)=>match xg ops o with
   |none=>False
   | some d=>match lk tm d with
     | some (.pv (.sc v))=>match v with
       | .bool b=>match lk kn j with
         | some _=>match b with
           |true=>vgo P T ops base o i want tm hp tr kn K
           |false=>vgo P T ops base o i (!want) tm hp tr kn K
         | none=>(b=true→vgo P T ops base o i want ((d,.pv (.sc (.bool true)))::tm) hp tr ((j,true)::kn) K) ∧
           (b=false→vgo P T ops base o i (!want) ((d,.pv (.sc (.bool false)))::tm) hp tr ((j,false)::kn) K)
       |.tuple _=>CF ops o tm hp tr kn K
       |_=>False
     |_=>False
def PI (P:Program)(T:Tab)(ops:List Oper)(base:Nat):List Oper→Nat→List (Nat×AV)→List (Nat×aD)→List vk→List (Nat×Bool)→RK→Prop
 |[],_,tm,hp,tr,_,K=>K tm hp tr
 |o::r,i,tm,hp,tr,kn,K=>rA P T ops base o i tm hp tr kn fun tm hp tr kn=>PI P T ops base r (i+1) tm hp tr kn K
section
variable {P:Program}{T:Tab}{c:Ctx}{R:Real}{s:AS}{a:Act}{w:World}
theorem bD.ac9 (g:bD c R s a w){tm:List (Nat×AV)}(h:∀t v,lk tm t=some v→lk s.tm t=some v):bD c R { s with tm:=tm } a w:=
 ⟨fun t v hv=>g.slots t v (h t v hv),g.size,g.lo,g.marks,g.fixed,g.boxes,g.inj,g.free,g.jE,g.iN,g.kept⟩
def qg (n:Nat):List Oper→Bool
 |[]=>true
 | o::r=>match o.dst with
   | some d=>match Nat.blt d n with
     |true=>qg n r
     |false=>false
   |none=>qg n r
theorem RU (tm:List (Nat×AV))(nx:Nat)(hp:List (Nat×aD))(d:Option Nat)(v:AV):(AS.mk tm nx hp).put d v=⟨ac6 tm d v,nx,hp⟩:=by
 cases d<;>rfl
theorem PK {α:Type}(a:Array α)(i:Nat):nth a.toList i=a[i]? :=by rw[vo,Array.getElem?_toList]
theorem PL {ops:Array Oper}{o:Oper}{j:Nat}{want:Bool}(ho:o.guard=some (j,want)){d:Nat}(hs:xg ops.toList o=some d)(tmps:Array Value) :
  yielded ops tmps j=match tmps[d]? with
   |some (.bool b)=>some b
   |_=>none:=by
 unfold xg at hs;rw[ho] at hs;simp only[PK] at hs;split at hs
 ·rename_i oj hoj;unfold yielded;simp only[hoj,Option.bind_some,hs];rfl
 cases hs
theorem CG (g:bD c R s a w)(hT:bP P T){ops:Array Oper}{base i:Nat}(hid:base+i<s.nx){o:Oper}(hd:∀t,o.dst=some t→t<c.n){tr:List vk}{kn:List (Nat×Bool)}{K:RC}
  (h:rA P T ops.toList base o i s.tm s.hp tr kn K) (ro:Option Nat) (Q:Exit→Act→World→Prop) :
  if Region.wanted o (yielded ops a.tmps) then o.wpIn (W1 ro) 0 P a w (fun a' w'=>∃R' tm hp q8 He,K tm hp q8 He∧bD c R' ⟨tm,s.nx,hp⟩ a' w') Q
  else ∃tm hp q8 He,K tm hp q8 He∧bD c R ⟨tm,s.nx,hp⟩ (a.put o.dst undef) w:=by
 have ex:∀(s':AS),bD c R s' a w→s'.nx=s.nx→∀kn,vex P T ops.toList base o i s'.tm s'.hp tr kn K →
   o.wpIn (W1 ro) 0 P a w (fun a' w'=>∃R' tm hp q8 He,K tm hp q8 He∧bD c R' ⟨tm,s.nx,hp⟩ a' w') Q:=by
  intro s' g' hn kn h;unfold vex at h;split at h
  ·exact h.elim
  rename_i hfr;refine Oper.wpIn_mono ?_ (TQ g' hT hfr Q ro hd h);rintro a' w' ⟨R',v,ws,⟨ids,hK⟩,g2⟩
  rw[xh,D8] at hK;refine⟨R',_,_,_,_,hK,?_⟩;rw[←hn,←RU];exact g2
 have sk:∀(s':AS),bD c R s' a w→s'.nx=s.nx→∀kn,CF ops.toList o s'.tm s'.hp tr kn K →
   ∃tm hp q8 He,K tm hp q8 He∧bD c R ⟨tm,s.nx,hp⟩ (a.put o.dst undef) w:=by
  intro s' g' hn kn h;unfold CF at h;rw[xh] at h;refine⟨_,_,_,_,h,?_⟩;have:=g'.put o.dst hd (v:=.pv (.sc undef)) (x:=undef) (by simp only[aj,bG]);rw[←hn,←RU];exact this
 have go:∀(want b:Bool) (s':AS),bD c R s' a w→s'.nx=s.nx→∀kn wt,wt=(b==want)→vgo P T ops.toList base o i wt s'.tm s'.hp tr kn K→(Region.wanted o (yielded ops a.tmps)=(b==want)) →
   if Region.wanted o (yielded ops a.tmps) then o.wpIn (W1 ro) 0 P a w (fun a' w'=>∃R' tm hp q8 He,K tm hp q8 He∧bD c R' ⟨tm,s.nx,hp⟩ a' w') Q
   else ∃tm hp q8 He,K tm hp q8 He∧bD c R ⟨tm,s.nx,hp⟩ (a.put o.dst undef) w:=by
  intro want b s' g' hn kn wt hw h afr;rw[afr];subst hw;cases hb:b==want with
  |true=>rw[hb] at h;simp only[if_true];exact ex s' g' hn kn h
  |false=>rw[hb] at h;simp only[Bool.false_eq_true,if_false];exact sk s' g' hn kn h
 unfold rA at h;split at h
 ·rename_i hg;simp only[Region.wanted,hg,if_true];exact ex s g rfl _ h
 rename_i j want hg;split at h
 ·exact h.elim
 rename_i d hsl;have hy:=PL hg hsl a.tmps;have hwd:Region.wanted o (yielded ops a.tmps)=(yielded ops a.tmps j==some want):=by simp[Region.wanted,hg]
 split at h;rotate_left;exact h.elim
 rename_i v hv;obtain⟨x,hx,hr⟩:=g.slots d _ hv;simp only[aj,bG] at hr;subst hr;split at h
 ·rename_i b;have hyb:yielded ops a.tmps j=some b:=by rw[hy,hx]
  have hwb:Region.wanted o (yielded ops a.tmps)=(b==want):=by rw[hwd,hyb];cases b<;>cases want<;>rfl
  split at h
  ·split at h
   ·exact go want true s g rfl _ want (by cases want<;>rfl) h hwb
   exact go want false s g rfl _ (!want) (by cases want<;>rfl) h hwb
  obtain⟨h1,h2⟩:=h;have hsub:∀(b':Bool),b=b'→bD c R { s with tm:=(d,.pv (.sc (.bool b')))::s.tm } a w:=by
   rintro _ rfl
   refine g.ac9 fun t u hu=>?_
   rw[aB] at hu;split at hu
   ·rename_i e;rw[←e,←hu];exact hv
   exact hu
  cases b with
  |true=>exact go want true _ (hsub true rfl) rfl _ want (by cases want<;>rfl) (h1 rfl) hwb
  |false=>exact go want false _ (hsub false rfl) rfl _ (!want) (by cases want<;>rfl) (h2 rfl) hwb
 ·have hyn:yielded ops a.tmps j=none:=by rw[hy,hx]
  have hwf:Region.wanted o (yielded ops a.tmps)=false:=by rw[hwd,hyn];rfl
  rw[hwf];simp only[Bool.false_eq_true,if_false];exact sk s g rfl _ h
 exact h.elim
theorem yS (ro:Option Nat)(hT:bP P T){ops:Array Oper}{base:Nat}{K:RK}{Q:Exit→Act→World→Prop}:∀(l:List Oper) (i:Nat) {R:Real} {s:AS} {a:Act} {w:World} {tr:List vk} {kn:List (Nat×Bool)},
  bD c R s a w→base+i+l.length≤s.nx→qg c.n l=true→PI P T ops.toList base l i s.tm s.hp tr kn K →
  (∀R tm hp tr a w,K tm hp tr→bD c R ⟨tm,s.nx,hp⟩ a w→Q .normal a w)→wpListIn (W1 ro) 0 P ops Q l a w
 | [],i,R,s,a,w,tr,kn,g,hl,hd,h,hQ=>by
   exact wpListIn_nil (hQ R s.tm s.hp tr a w h g)
 | o::r,i,R,s,a,w,tr,kn,g,hl,hd,h,hQ=>by
   simp only[PI] at h;simp only[List.length_cons] at hl;have hd1:∀t,o.dst=some t→t<c.n:=by
    intro t ht;simp only[qg,ht] at hd;split at hd
    ·rename_i hb;rw[Nat.blt_eq] at hb;exact hb
    cases hd
   have hd2:qg c.n r=true:=by
    simp only[qg] at hd;split at hd
    ·split at hd
     ·exact hd
     cases hd
    exact hd
   have hs:=CG g hT (ops:=ops) (by omega) hd1 h ro Q;refine wpListIn_step fun K' qh=>?_
   split
   ·rename_i hw;rw[if_pos hw] at hs;refine Oper.wpIn_mono ?_ hs;rintro a' w' ⟨R',tm,hp,q8,He,h',g'⟩
    exact qh _ _ (yS ro hT r (i+1) g' (by simp only;omega) hd2 h' hQ)
   rename_i hw;rw[if_neg hw] at hs;obtain⟨tm,hp,q8,He,h',g'⟩:=hs;exact⟨fun _ _=>trivial,qh _ _ (yS ro hT r (i+1) g' (by simp only;omega) hd2 h' hQ)⟩
end
section
section
variable {N N':Nat→Prop}{w w':World}(hN:∀r cur e fr,w.heap[r]? = some (.cells cur e fr)→N' r→N r)
 (hw:∀r cur e fr,w.heap[r]? = some (.cells cur e fr)→¬N r→w'.heap[r]? = some (.cells cur e fr))
include hN hw
mutual
theorem rY:∀(p:PV) (v:Value),bG N w p v→bG N' w' p v
 |.sc x,v=>by simp only[bG];exact id
 |.agg cs,v=>by simp only[bG];rintro⟨vs,h1,h2⟩;exact⟨vs,h1,FV cs _ h2⟩
 |.dn cs,v=>by simp only[bG];rintro⟨vs,h1,h2⟩;exact⟨vs,h1,pR cs _ h2⟩
 | .sl nn st rows,v=>by
   simp only[bG];rintro⟨p,len,cap,h1,h2,h3,h4,h5⟩
   refine⟨p,len,cap,h1,h2,h3,h4,fun a ha=>?_⟩;rcases h5 a ha with h7|⟨h6,h7,cur,e,fr,h8,h9⟩
   ·exact .inl h7
   exact .inr ⟨h6,fun h=>h7 (hN _ _ _ _ h8 h),cur,e,fr,hw _ _ _ _ h8 h7,kY st rows _ h9⟩
 | .bU row off,v=>by
   simp only[bG];rintro⟨g,base,cur,e,fr,h1,h7,h8,h9⟩
   exact⟨g,base,cur,e,fr,h1,fun h=>h7 (hN _ _ _ _ h8 h),hw _ _ _ _ h8 h7,mV row _ h9⟩
 | .fn f first aR,v=>by
   simp only[bG];rintro⟨fs,cs,h1,h2,h3⟩;exact⟨fs,cs,h1,pR _ _ h2,pR _ _ h3⟩
 |.junk,v=>by simp only[bG];exact id
 | .Pj st rows,v=>by
   simp only[bG];rintro⟨a,h1,h2,h5⟩
   refine⟨a,h1,h2,?_⟩;rcases h5 with h7|⟨h6,h7,cur,e,fr,h8,h9⟩
   ·exact .inl h7
   exact .inr ⟨h6,fun h=>h7 (hN _ _ _ _ h8 h),cur,e,fr,hw _ _ _ _ h8 h7,kY st rows _ h9⟩
theorem pR:∀(ps:List PV) (vs:List Value),eu N w ps vs→eu N' w' ps vs
 |[],vs=>by simp only[eu];exact id
 |p::ps,vs=>by simp only[eu];rintro⟨v,r,h1,h2,h3⟩;exact⟨v,r,h1,rY p v h2,pR ps r h3⟩
theorem FV:∀(ps:List PV) (vs:List Value),iU N w ps vs→iU N' w' ps vs
 |[],vs=>by simp only[iU];exact id
 |p::ps,vs=>by simp only[iU];rintro⟨v,r,h1,h0,h2,h3⟩;exact⟨v,r,h1,h0,rY p v h2,FV ps r h3⟩
theorem mV:∀(ps:List PV) (vs:List Value),fP N w ps vs→fP N' w' ps vs
 |[],vs=>by simp only[fP];exact id
 |p::ps,vs=>by simp only[fP];rintro⟨v,r,h1,h0,h2,h3⟩;exact⟨v,r,h1,h0,rY p v h2,mV ps r h3⟩
theorem kY (st:Nat):∀(rows:List (List PV)) (vs:List Value),bL N w st rows vs→bL N' w' st rows vs
 |[],vs=>by simp only[bL];exact id
 |row::rows,vs=>by simp only[bL];rintro⟨h1,h2,h3⟩;exact⟨h1,mV row _ h2,kY st rows _ h3⟩
end
variable {hp:List (Nat×aD)}{R:Real}
mutual
theorem tY:∀(p:AV) (v:Value),aj N w hp R p v→aj N' w' hp R p v
 |.pv p,v=>by simp only[aj];exact rY hN hw p v
 |.agg cs,v=>by simp only[aj];rintro⟨vs,a,b⟩;exact⟨vs,a,nP cs _ b⟩
 |.dn cs,v=>by simp only[aj];rintro⟨vs,a,b⟩;exact⟨vs,a,qD cs _ b⟩
 |.ptr b off,v=>by simp only[aj];exact id
 |.aF b ver,v=>by simp only[aj];exact id
 |.sub b ver st lo hi,v=>by simp only[aj];exact id
 |.bn b ver i off,v=>by simp only[aj];exact id
 | .fn f first aR,v=>by
   simp only[aj];rintro⟨fs,cs,a,b,c⟩;exact⟨fs,cs,a,qD _ _ b,qD _ _ c⟩
theorem qD:∀(ps:List AV) (vs:List Value),bQ N w hp R ps vs→bQ N' w' hp R ps vs
 |[],vs=>by simp only[bQ];exact id
 |p::ps,vs=>by simp only[bQ];rintro⟨v,r,a,b,c⟩;exact⟨v,r,a,tY p v b,qD ps r c⟩
theorem nP:∀(ps:List AV) (vs:List Value),bO N w hp R ps vs→bO N' w' hp R ps vs
 |[],vs=>by simp only[bO];exact id
 |p::ps,vs=>by simp only[bO];rintro⟨v,r,a,d,b,c⟩;exact⟨v,r,a,d,tY p v b,nP ps r c⟩
end
end
section
variable {N N':Nat→Prop}{w w':World}{hp:List (Nat×aD)}{R:Real}
variable (hN:∀r cur e fr,w.heap[r]? = some (.cells cur e fr)→N' r→N r)(hw:∀r cur e fr,w.heap[r]? = some (.cells cur e fr)→¬N r→w'.heap[r]? = some (.cells cur e fr))
include hN hw
theorem zx {st j:Nat}{ed:TypeId}{sd:Nat} :
  ∀{hs:List (Option Value)} {rs:List (Bool×List PV)} {xs:List Value},(∀v,some v∈hs→∀k,v.ownBlock=some k→w'.heap[k]? = w.heap[k]?)→dI N w st j ed sd hs rs xs→dI N' w' st j ed sd hs rs xs
 |[],[],xs,_,h=>by simp only[dI]
 |[],_::_,xs,_,h=>by simp only[dI] at h
 |_::_,[],xs,_,h=>by simp only[dI] at h
 | h::hs,(fl,r)::rs,xs,hk,hh=>by
   simp only[dI] at hh ⊢;obtain⟨h1,h2,h3⟩:=hh;refine⟨h1,?_,zx (fun v hv=>hk v (by simp[hv])) h3⟩;cases h with
   | none=>cases fl with
     |false=>exact mV hN hw _ _ h2
     |true=>exact h2.elim
   | some v=>cases fl with
     |false=>exact h2.elim
     | true=>
       obtain⟨rr,ys,a1,a0,a2,a3,a4⟩:=h2;exact⟨rr,ys,a1,a0,mV hN hw _ _ a2,dD a3 fun k hk'=>hk v (by simp) k hk',kY hN hw _ _ _ a4⟩
theorem U6 {b:Nat}{e:TypeId}{ver st j:Nat}{ed:TypeId}{sd:Nat}{pre post:List (Bool×List PV)}{row:List AV}
  (hk:∀k,aN R b k (some (.fK e ver st j ed sd pre row post))→w'.heap[k]? = w.heap[k]?) (hrow:∀vs,bO N w hp R row vs→bO N' w' hp R row vs)
  (h:eG N w hp R b (.fK e ver st j ed sd pre row post)):eG N' w' hp R b (.fK e ver st j ed sd pre row post):=by
 obtain⟨xs,hs1,hs2,a1,a2,a3,a4,a5,a6,a7⟩:=h;refine⟨xs,hs1,hs2,a1,?_,zx hN hw (fun v hv k hk'=>hk k (.inr ⟨v,by rw[a1];simp[hv],hk'⟩)) a3,a4,hrow _ a5,zx hN hw (fun v hv k hk'=>hk k (.inr ⟨v,by rw[a1];simp[hv],hk'⟩)) a6,a7⟩;refine dD a2 fun k hk'=>hk k (.inl ?_)
 simp only[bW] at hk';cases hnil:R.nil b with
 |true=>simp[hnil,Value.ownBlock] at hk'
 |false=>simp[hnil,Value.ownBlock] at hk';exact⟨rfl,hk'⟩
end
theorem GK.sO {c1 c2:Ctx}{R:Real}{hp:List (Nat×aD)}{w w':World}(g:GK c1 R hp w)(amb:∀r,aU c1 R hp r→r<w.heap.size)
  (hK:∀v x,c2.K v x→aj (aU c1 R hp) w hp R v x) (hF:∀r,r<w.heap.size→c2.F r→c1.F r)
  (hw:∀r o,w.heap[r]? = some o→(r<c1.n0.1∨o.isCells=true∨owned R hp r)→¬c1.F r→w'.heap[r]? = some o)
  (hsz:w.heap.size≤w'.heap.size) (hos:w'.os=w.os∧w'.tape=w.tape∧w'.output=w.output)
  (hfree:∀r,owned R hp r→¬c2.F r) (hfix:uV c2.fix (owned R hp) w') (aeh:nR c2.O c2.w w') (Yk:∀r,owned R hp r→c2.O r∨c2.w.heap.size≤r) (hlo:c2.n0=c1.n0∧c2.n0.1≤c2.lo∧c2.lo≤w'.heap.size) :
  GK c2 R hp w'∧∀v x,aj (aU c1 R hp) w hp R v x→aj (aU c2 R hp) w' hp R v x:=by
 have hN:∀r,r<w.heap.size→aU c2 R hp r→aU c1 R hp r:=by
  rintro r hr (h|h)
  ·exact .inl (hF r hr h)
  exact .inr h
 have V8:∀r cur e fr,w.heap[r]? = some (.cells cur e fr)→aU c2 R hp r→aU c1 R hp r:=fun r cur e fr h=>hN r (size_of_getElem? h)
 have hw2:∀r cur e fr,w.heap[r]? = some (.cells cur e fr)→¬aU c1 R hp r→w'.heap[r]? = some (.cells cur e fr):=fun r cur e fr h hn=>hw r _ h (.inr (.inl rfl)) fun hf=>hn (.inl hf)
 have hwo:∀r o,w.heap[r]? = some o→owned R hp r→w'.heap[r]? = some o:=fun r o h ho=>hw r o h (.inr (.inr ho)) (g.free r ho)
 refine⟨⟨?_,g.inj,hfree,aeh,Yk,fun v x h=>tY V8 hw2 v x (hK v x h),hfix,⟨by rw[hlo.1];exact g.lo.1,hlo.2⟩⟩,fun v x h=>tY V8 hw2 v x h⟩;intro b box h;have hr:=g.boxes b box h;have hkeep:∀r o,aN R b r (some box)→w.heap[r]? = some o→w'.heap[r]? = some o:=fun r o ho hx=>hwo r o hx ⟨b,by rw[h];exact ho⟩
 cases box with
 | var cells=>
   obtain⟨cur,e,h8,h9⟩:=hr;exact⟨cur,e,hkeep _ _ rfl h8,nP V8 hw2 _ _ h9⟩
 | sF cells=>
   obtain⟨cur,e,fr,h8,h7,h9⟩:=hr;exact⟨cur,e,fr,hw2 _ _ _ _ h8 h7,fun x=>h7 (V8 _ _ _ _ h8 x),mV V8 hw2 _ _ h9⟩
 | arr e ver st rows=>
   obtain⟨xs,h8,h9⟩:=hr;refine⟨xs,dD h8 fun k hk=>?_,kY V8 hw2 _ _ _ h9⟩;have hlt:=(h8.lt k hk).2;have hk':aN R b k (some (.arr e ver st rows)):=by
    simp only[bW] at hk;cases hnil:R.nil b with
    |true=>simp[hnil,Value.ownBlock] at hk
    |false=>simp[hnil,Value.ownBlock] at hk;exact⟨hnil,hk⟩
   have hx:w.heap[k]? = some w.heap[k]:=by simp[hlt]
   rw[hkeep k _ hk' hx,hx]
 |kG ver st rows=>exact rY V8 hw2 _ _ hr
 | tr y ver rest st=>
   obtain⟨k0,kh,k1,k2,k3,k4⟩:=hr;refine⟨k0,kh,k1,⟨Nat.le_trans k2.size hsz,fun r o hro hz hc=>?_,hos.1.trans k2.os,hos.2.1.trans k2.tape,hos.2.2.trans k2.output⟩,k3,fun r hn=>?_⟩
   ·have h2:=k2.keep r o hro hz hc;have hD:¬c1.F r:=fun hf=>by
     rcases k4 r (.inl hf) with hd|hz'|hs
     ·exact g.free r ⟨b,by rw[h];exact hd⟩ hf
     ·exact hz hz'
     have:=size_of_getElem? hro;omega
    exact hw r o h2 (hc.imp (fun hl=>by rw[←g.lo.1];exact hl) fun hc=>hc.imp id fun hd=>⟨b,by rw[h];exact hd⟩) hD
   by_cases hlt:r<w.heap.size
   ·exact k4 r (hN r hlt hn)
   exact .inr (.inr (by have:=k2.size;omega))
 | mp kk kv es=>
   obtain⟨cur,clock,h8,h9,h10⟩:=hr;exact⟨cur,clock,hkeep _ _ ⟨h9,rfl⟩ h8,h9,h10⟩
 | fK e ver st j ed sd pre row post=>
   have hr':=hr;exact U6 V8 hw2 (fun k hk'=>by
    have hlt:=AX.kz hr' hk';have hx:w.heap[k]? = some w.heap[k]:=by simp[hlt]
    rw[hkeep k _ hk' hx,hx]) (fun vs h=>nP V8 hw2 _ _ h) hr'
 | dM e ver st pre row post=>
   obtain⟨xs,h8,h9,h10,h11,h12⟩:=hr;refine⟨xs,dD h8 fun k hk=>?_,kY V8 hw2 _ _ _ h9,h10,nP V8 hw2 _ _ h11,kY V8 hw2 _ _ _ h12⟩;have hlt:=(h8.lt k hk).2;have hk':aN R b k (some (.dM e ver st pre row post)):=by
    simp only[bW] at hk;cases hnil:R.nil b with
    |true=>simp[hnil,Value.ownBlock] at hk
    |false=>simp[hnil,Value.ownBlock] at hk;exact⟨hnil,hk⟩
   have hx:w.heap[k]? = some w.heap[k]:=by simp[hlt]
   rw[hkeep k _ hk' hx,hx]
theorem bD.sO {c1 c2:Ctx}{R:Real}{s:AS}{a a':Act}{w w':World}(g:bD c1 R s a w)(hn:c2.n=c1.n)(ha:a'.tmps=a.tmps)
  (hK:∀v x,c2.K v x→aj (aU c1 R s.hp) w s.hp R v x) (hF:∀r,r<w.heap.size→c2.F r→c1.F r)
  (hw:∀r o,w.heap[r]? = some o→(r<c1.n0.1∨o.isCells=true∨owned R s.hp r)→¬c1.F r→w'.heap[r]? = some o)
  (hsz:w.heap.size≤w'.heap.size) (hos:w'.os=w.os∧w'.tape=w.tape∧w'.output=w.output)
  (hfree:∀r,owned R s.hp r→¬c2.F r) (hfix:uV c2.fix (owned R s.hp) w') (aeh:nR c2.O c2.w w') (Yk:∀r,owned R s.hp r→c2.O r∨c2.w.heap.size≤r) (hlo:c2.n0=c1.n0∧c2.n0.1≤c2.lo∧c2.lo≤w'.heap.size)
  (hm:∃Ds,Marks c2.lo (owned R s.hp) w' a'.defers Ds):bD c2 R s a' w':=by
 obtain⟨h,hmap⟩:=g.hap.sO (fun r=>g.Nlt) hK hF hw hsz hos hfree hfix aeh Yk hlo;refine h.WL (fun t v hv=>?_) (by rw[ha,hn];exact g.size) hm;obtain⟨x,hx,hr⟩:=g.slots t v hv;exact⟨x,by rw[ha];exact hx,hmap v x hr⟩
end
def afu (P:Program)(f:FuncId)(aR:List PV)(xs:List (List PV)):Prop:=
 Enters P f∧∀(l:Nat) (J:List (List PV)→Bool→(Nat→Prop)→(Nat→Prop)→World→Prop) (D:Nat→Prop) (w:World) (dw:Array Value),YH (P,l) w.heap.size J→(∀r,D r→r<w.heap.size) →
  J xs false (fun _=>False) D w→eu D w aR dw.toList →
  Calls P f (#[.func (.yield l) #[] #[]]++dw) w fun e w'=>(∃v,e=.returned v)∧∃rest st Z D' wy,J rest st Z D' wy∧JX w.heap.size Z D' wy w'∧(st=true∨rest=[])
def qM (s s':AS):Prop:=∀(c:Ctx) (R:Real) (a:Act) (w:World),bD c R s a w→∃R',bD c R' s' a w
theorem qM.refl (s:AS):qM s s:=fun c R a w g=>⟨R,g⟩
theorem qM.trans {s1 s2 s3:AS}(h:qM s1 s2)(h':qM s2 s3):qM s1 s3:=fun c R a w g=>let ⟨R1,g1⟩:=h c R a w g;h' c R1 a w g1
mutual
def FK:AV→Bool
 |.pv _=>true
 |.agg cs=>AL cs
 |.dn cs=>AL cs
 |.ptr b _=>Nat.blt b 1000
 |.bn b _ _ _=>Nat.blt b 1000 && !Nat.beq b 999
 |.aF b _=>Nat.blt b 1000
 |.sub b _ _ _ _=>Nat.blt b 1000
 |.fn _ a c=>AL a&&AL c
def AL:List AV→Bool
 |[]=>true
 |v::r=>FK v&&AL r
end
def IK:List (Nat×AV)→Bool
 |[]=>true
 |(_,v)::r=>FK v&&IK r
theorem FM:∀{tm:List (Nat×AV)} {t:Nat} {v:AV},IK tm=true→lk tm t=some v→FK v=true
 |[],t,v,_,h=>by simp[lk] at h
 | (t',v')::r,t,v,hl,h=>by
   simp only[IK,Bool.and_eq_true] at hl;rw[aB] at h;split at h
   ·simp only[Option.some.injEq] at h;rw[←h];exact hl.1
   exact FM hl.2 h
def WC:List Nat→List PV→List (Nat×AV)→Option (List (Nat×AV))
 | [],ps,tm=>match ps with
   |[]=>some tm
   |_=>none
 | p::r,ps,tm=>match ps with
   |v::vs=>WC r vs ((p,.pv v)::tm)
   |[]=>none
def KO:Exit→Option Code
 |.ret=>some .ret
 |.exit id=>some (.exit id)
 |_=>none
def rfK (tm:List (Nat×AV))(next:AS→Prop)(K:Exit→AS→Prop)(e:Exit)(s:AS):Prop:=
 match e with
 | .normal=>match s with
   |⟨_,nx,hp⟩=>next ⟨tm,nx,hp⟩
 | .ret=>match s with
   |⟨_,nx,hp⟩=>K .ret ⟨tm,nx,hp⟩
 | .exit id=>match s with
   |⟨_,nx,hp⟩=>K (.exit id) ⟨tm,nx,hp⟩
 |_=>False
section
variable {N N':Nat→Prop}{w w':World}{hp hp':List (Nat×aD)}{R R':Real}(hN:∀r,r<w.heap.size→N' r→N r)(hw:∀r,r<w.heap.size→¬N r→w'.heap[r]? = w.heap[r]?)
 (hk:∀v x,ku v=true→aj N w hp R v x→aj N' w' hp' R' v x)
include hN hw hk
mutual
theorem FN:∀(v:AV) (x:Value),FK v=true→aj N w hp R v x→aj N' w' hp' R' v x
 |.pv p,x,_,h=>by simp only[aj] at h ⊢;exact dA hN hw p x h
 |.agg cs,x,hl,h=>by simp only[aj] at h ⊢;obtain⟨vs,a,b⟩:=h;exact⟨vs,a,JH cs _ (by simpa only[FK] using hl) b⟩
 |.dn cs,x,hl,h=>by simp only[aj] at h ⊢;obtain⟨vs,a,b⟩:=h;exact⟨vs,a,xM cs _ (by simpa only[FK] using hl) b⟩
 |.ptr b off,x,hl,h=>hk _ x (by simpa only[FK,ku] using hl) h
 |.bn b ver i off,x,hl,h=>hk _ x (by simpa only[FK,ku] using hl) h
 |.aF b ver,x,hl,h=>hk _ x (by simpa only[FK,ku] using hl) h
 | .sub b ver st lo hi,x,hl,h=>by
   simp only[aj] at h ⊢;obtain⟨u,a,c⟩:=h;have:=hk (.aF b ver) u (by simpa only[FK,ku] using hl) (by simpa only[aj] using a);simp only[aj] at this;exact⟨u,this,c⟩
 | .fn f a c,x,hl,h=>by
   simp only[aj] at h ⊢;simp only[FK,Bool.and_eq_true] at hl;obtain⟨fs,cs,e,h1,h2⟩:=h;exact⟨fs,cs,e,xM a _ hl.1 h1,xM c _ hl.2 h2⟩
theorem xM:∀(vs:List AV) (xs:List Value),AL vs=true→bQ N w hp R vs xs→bQ N' w' hp' R' vs xs
 |[],xs,_,h=>by simpa only[bQ] using h
 | v::r,xs,hl,h=>by
   simp only[bQ] at h ⊢;simp only[AL,Bool.and_eq_true] at hl;obtain⟨x,ys,e,h1,h2⟩:=h;exact⟨x,ys,e,FN v x hl.1 h1,xM r ys hl.2 h2⟩
theorem JH:∀(vs:List AV) (xs:List Value),AL vs=true→bO N w hp R vs xs→bO N' w' hp' R' vs xs
 |[],xs,_,h=>by simpa only[bO] using h
 | v::r,xs,hl,h=>by
   simp only[bO] at h ⊢;simp only[AL,Bool.and_eq_true] at hl;obtain⟨x,ys,e,h0,h1,h2⟩:=h;exact⟨x,ys,e,h0,FN v x hl.1 h1,JH r ys hl.2 h2⟩
end
end
theorem X9 {N N':Nat→Prop}{w w':World}{hp:List (Nat×aD)}{R:Real}{v:AV}{x:Value}(h:ku v=true)(hr:aj N w hp R v x):aj N' w' hp R v x:=by
 cases v<;>simp only[ku] at h<;>first
  |(simp only[aj] at hr ⊢;exact hr)
  |cases h
theorem JI {c:Ctx}{R:Real}{w:World}{nx:Nat}{hp:List (Nat×aD)}:∀(ps:List Nat) (x:List PV) (tm tm':List (Nat×AV)) (a:Act) (vs:List Value),(∀t∈ps,t<c.n)→WC ps x tm=some tm' →
  eu (aU c R hp) w x vs→bD c R ⟨tm,nx,hp⟩ a w→vs.length=ps.length∧bD c R ⟨tm',nx,hp⟩ { a with tmps:=(ps.zip vs).foldl (fun t (p,v)=>t.setIfInBounds p v) a.tmps } w
 | [],x,tm,tm',a,vs,_,h,hr,g=>by
   cases x with
   | nil=>
     simp only[WC,Option.some.injEq] at h;subst h;simp only[eu] at hr;subst hr;exact⟨rfl,g⟩
   |cons _ _=>simp[WC] at h
 | p::ps,x,tm,tm',a,vs,hps,h,hr,g=>by
   cases x with
   |nil=>simp[WC] at h
   | cons y ys=>
     simp only[WC] at h;simp only[eu] at hr;obtain⟨v,r,rfl,h1,h2⟩:=hr;have g1:=g.put (some p) (fun t ht=>by cases ht;exact hps p (by simp)) (v:=.pv y) (x:=v) (by simpa only[aj] using h1);obtain⟨e,g2⟩:=JI ps ys _ _ _ r (fun t ht=>hps t (by simp[ht])) h h2 g1;exact⟨by simp[e],g2⟩
structure PN (c:Ctx)(ro:Option Nat):Prop where
 lp:∀l0,ro=some l0→∃r0,c.fix l0=some (.loop r0)
 nc:∀r o,c.fix r=some o→o.isCells=false
def ZI (c:Ctx)(Z:Nat→Prop)(l:Nat)(wy:World)(r:Nat):Prop:=(c.F r∨Z r∨r=l)∧r<wy.heap.size
def cb (c:Ctx)(Z:Nat→Prop)(l:Nat)(wy:World):Ctx where
 F:=ZI c Z l wy
 O r:=c.O r∨c.w.heap.size≤r
 w:=wy
 n:=c.n
 hF r h:=h.2
 K:=c.K
 hK:=c.hK
 fix:=c.fix
 n0:=c.n0
 lo:=c.lo
def cr (c:Ctx)(Z:Nat→Prop)(l:Nat)(W:World)(own:Nat→Prop)(Kx:AV→Value→Prop)(hKx:∀v x,Kx v x→ku v=true)(fx:Nat→Option Obj)(lo:Nat):Ctx where
 F:=ZI c Z l W
 O r:=own r∨r=l
 w:=W
 n:=c.n
 hF r h:=h.2
 K v x:=c.K v x∨Kx v x
 hK v x h:=h.elim (c.hK v x) (hKx v x)
 fix:=fx
 n0:=c.n0
 lo:=lo
def qW (c:Ctx)(l:Nat)(o:Obj)(Dl:List Nat)(r:Nat):Option Obj:=if r=l then some o else if r∈Dl then some (.deferred (some [])) else c.fix r
def Dst (c:Ctx)(l:Nat)(Dl:List Nat)(R:Real)(hp:List (Nat×aD))(r:Nat):Prop:=owned R hp r∨r=l∨(∃o,c.fix r=some o)∨r∈Dl∨c.F r
structure RJ {ι:Type}(c:Ctx)(ao:Act)(l n1:Nat)(Dl:List Nat)(rec:LoopState→Option Code→Loop)(xs:List (List PV))(st:Nat→ι→AS)(K:Exit→AS→Prop)
  (R:Real) (s:AS) (rest:List (List PV)) (UZ:Bool) (Z D:Nat→Prop) (wy:World):Prop where
 zz:∀r,Z r→n1≤r∧r<wy.heap.size∧¬D r
 n1:n1≤wy.heap.size
 jE:nR c.O c.w wy
 dd:∀r,D r↔Dst c l Dl R s.hp r
 dlt:∀r,D r→r<wy.heap.size
 g:bD (cb c Z l wy) R s ao wy
 UE:Marks c.lo (owned R s.hp) wy ao.defers Dl
 run:UZ=false→∃k i,s=st k i∧rest=xs.drop k∧k≤xs.length∧wy.heap[l]? = some (.loop (rec .ready none))
 out:UZ=true→∃e code,KO e=some code∧K e s∧wy.heap[l]? = some (.loop (rec .done (some code)))
theorem NJ {P:Program}{ι:Type}{c:Ctx}{ao:Act}{l n1:Nat}{Dl:List Nat}{fn:FuncId}{ps:Array Tmp}{O8 Me:Code}{dfr:Nat}{xs:List (List PV)}{st:Nat→ι→AS}{K:Exit→AS→Prop}
  {rec:LoopState→Option Code→Loop} (NK:∀s p,rec s p={ state:=s,pending:=p,fn:=fn,tmps:=ao.tmps,params:=ps,assign:=O8,body:=Me,defers:=dfr })
  (hl1:c.w.heap.size≤n1) (hln:c.w.heap.size≤l) (hlD:l∉Dl) (QO:c.fix l=none) (alZ:l<n1) (hn0:c.n0.1≤n1) (hlo:c.n0.1≤c.lo) (hlo1:c.lo≤n1)
  (hnc:∀r o,c.fix r=some o→o.isCells=false) (hps:∀t∈ps.toList,t<c.n) (hlow:∀k i,IK (st k i).tm=true) {A:Nat→ι→List PV→AS→Prop}
  (ad4:∀(c':Ctx) (k:Nat) (i:ι) (x:List PV) (tm:List (Nat×AV)) (R:Real) (a:Act) (w:World),c'.n=c.n→PN c' (some l)→xs[k]? = some x→WC ps.toList x (st k i).tm=some tm →
   bD c' R ⟨tm,(st k i).nx,(st k i).hp⟩ a w→O8.wpIn (W1 (some l)) 0 P (Exit.then (fun a1 w1=>∃R1 s1,A k i x s1∧bD c' R1 s1 a1 w1) (fun _ _ _=>False)) a w)
  (ad5:∀(c':Ctx) (k:Nat) (i:ι) (x:List PV) (s1:AS) (R:Real) (a:Act) (w:World),c'.n=c.n→PN c' (some l)→xs[k]? = some x→A k i x s1 →
   bD c' R s1 a w→Me.wpIn (W1 (some l)) 0 P (fun e a' w'=>∃R' s',rfK (st k i).tm (fun s''=>∃j,qM s'' (st (k+1) j)) K e s'∧bD c' R' s' a' w') a w)
  (ad6:∀k i x,xs[k]? = some x→∃tm,WC ps.toList x (st k i).tm=some tm) :
  YH (P,l) n1 fun rest UZ Z D wy=>∃R s,RJ c ao l n1 Dl rec xs st K R s rest UZ Z D wy:=by
 rintro x rest Z D wy W Z' vs ⟨R0,s0,J⟩ hE hDlt hZ1 hZ2 hZ3 hvs
 obtain⟨k,i,rfl,hrest,hkl,aiR⟩:=J.run rfl;have hxk:xs[k]? = some x:=by
  have:=congrArg (fun l=>l[0]?) hrest;simpa using this.symm
 have ad7:rest=xs.drop (k+1):=by
  have:=congrArg List.tail hrest;simpa using this
 have adG:k<xs.length:=(List.getElem?_eq_some_iff.1 hxk).1;obtain⟨tmx,agm⟩:=ad6 k i x hxk;have g0:=J.g;have hsz:=hE.size;have n1W:n1≤W.heap.size:=Nat.le_trans J.n1 hsz;have hlW:l<W.heap.size:=by omega
 have hlZ:∀(Z0:Nat→Prop) (wz:World),l<wz.heap.size→ZI c Z0 l wz l:=fun Z0 wz h=>⟨.inr (.inr rfl),h⟩
 have NM:∀r,owned R0 (st k i).hp r→D r:=fun r h=>(J.dd r).2 (.inl h)
 have DU:D l:=(J.dd l).2 (.inr (.inl rfl));have hZD:∀r,D r→¬Z r:=fun r hd hz=>(J.zz r hz).2.2 hd
 have cwW:c.w.heap.size≤W.heap.size:=by omega
 have agn:∀r,r<wy.heap.size→ZI c Z' l W r→ZI c Z l wy r:=by
  rintro r hr ⟨h,_⟩
  exact⟨h.imp id fun h=>h.imp (fun h=>(hZ1 r h).resolve_right (by omega)) id,hr⟩
 have hl0:W.heap[l]? = some (.loop (rec .ready none)):=hE.keep l _ aiR (hZD l DU) (.inr (.inr DU));let NW:Nat→Prop:=fun r=>ZI c Z' l W r∨owned R0 (st k i).hp r
 let Kx:AV→Value→Prop:=fun v y=>ku v=true∧aj NW W (st k i).hp R0 v y
 have hKx:∀v y,Kx v y→ku v=true:=fun v y h=>h.1
 let c1:Ctx:=cr c Z' l W (owned R0 (st k i).hp) Kx hKx (qW c l (.loop (rec .ready none)) Dl) W.heap.size
 have Ya:∀d∈Dl,d≠l:=fun d hd e=>hlD (e▸hd)
 have acI:∀r o,c.fix r=some o→r≠l:=fun r o h e=>by rw[e,QO] at h;cases h
 have agp:∀(o':Obj),o'.isCells=false→∀r o,qW c l o' Dl r=some o→o.isCells=false:=by
  intro o' ho' r o h;simp only[qW] at h;split at h
  ·simp only[Option.some.injEq] at h;rw[←h];exact ho'
  split at h
  ·simp only[Option.some.injEq] at h;rw[←h];rfl
  exact hnc r o h
 have G1:bD c1 R0 (st k i) { tmps:=ao.tmps,defers:=[] } W:=by
  refine g0.sO (c2:=c1) rfl rfl ?_ agn ?_ hsz ⟨hE.os,hE.tape,hE.output⟩ ?_ ?_ (nR.refl _ _) (fun r h=>.inl (.inl h)) ⟨rfl,by show c.n0.1≤W.heap.size;omega,Nat.le_refl _⟩ ⟨[],Marks.nil⟩
  ·rintro v y (h|h)
   ·exact g0.kept v y h
   exact X9 h.1 h.2
  ·intro r o ho hc hf;have hrz:¬Z r:=fun hz=>hf ⟨.inr (.inl hz),size_of_getElem? ho⟩
   exact hE.keep r o ho hrz (hc.imp (fun h=>by have:r<c.n0.1:=h;omega) fun h=>h.imp id (NM r))
  ·intro r ho hf;exact g0.free r ho (agn r (hDlt r (NM r ho)) hf)
  refine⟨fun r o h=>?_,fun r o h ho=>?_,agp _ rfl⟩
  ·simp only[c1,cr,qW] at h;split at h
   ·rename_i e;simp only[Option.some.injEq] at h;rw[e,←h];exact hl0
   split at h
   ·rename_i hd;simp only[Option.some.injEq] at h;have hD:=(J.dd r).2 (.inr (.inr (.inr (.inl hd))));rw[←h];exact hE.keep r _ (J.UE.obj r hd) (hZD r hD) (.inr (.inr hD))
   have hD:=(J.dd r).2 (.inr (.inr (.inl ⟨o,h⟩)));exact hE.keep r _ (g0.fixed.obj r o h) (hZD r hD) (.inr (.inr hD))
  simp only[c1,cr,qW] at h;split at h
  ·rename_i e;subst e;exact g0.free r ho (hlZ Z wy (hDlt _ DU))
  split at h
  ·rename_i hd;exact J.UE.free r hd ho
  exact g0.fixed.free r o h ho
 have aiS:eu (aU c1 R0 (st k i).hp) W x vs:=by
  refine oI (N:=fun r=>D r∨Z' r) (fun r _ h=>?_) (fun _ _ _=>rfl) _ _ hvs;rcases h with ⟨h,_⟩|h
  ·rcases h with h|h|h
   ·exact .inl ((J.dd r).2 (.inr (.inr (.inr (.inr h)))))
   ·exact .inr h
   exact .inl (h▸DU)
  exact .inl (NM r h)
 obtain⟨hlen,G1p⟩:=JI (c:=c1) ps.toList x (st k i).tm tmx _ vs hps agm aiS G1;have hrun:=run_yield (P:=P) (args:=vs.toArray) hl0 (by rw[NK];simpa using hlen);rw[NK] at hrun;refine⟨fn,_,O8,Me,hrun,roundIn_of_wpIn trivial ?_⟩;have agq:∀(r0:Loop),PN (cr c Z' l W (owned R0 (st k i).hp) Kx hKx (qW c l (.loop r0) Dl) W.heap.size) (some l):=by
  intro r0;refine⟨fun l0 e=>?_,fun r o h=>?_⟩
  ·simp only[Option.some.injEq] at e;subst e;exact⟨r0,by simp[cr,qW]⟩
  simp only[cr,qW] at h;split at h
  ·simp only[Option.some.injEq] at h;rw[←h];rfl
  split at h
  ·simp only[Option.some.injEq] at h;rw[←h];rfl
  exact hnc r o h
 have aiT:c1.fix l=some (.loop (rec .ready none)):=by simp[c1,cr,qW]
 have RY:((ps.zip vs.toArray).foldl (fun tmps (x:Nat×Value)=>tmps.setIfInBounds x.1 x.2) ao.tmps)=(ps.toList.zip vs).foldl (fun t (x:Nat×Value)=>t.setIfInBounds x.1 x.2) ao.tmps:=by
  rw[←Array.foldl_toList,Array.toList_zip]
 simp only[] at RY ⊢;rw[RY];refine wpIn_mono (ad4 c1 k i x tmx R0 _ W rfl (agq _) hxk agm G1p) ?_;rintro e a1 w1 h1
 cases e with
 | normal=>
   obtain⟨R1,s1,hA,G2⟩:=h1;have aea:w1.heap[l]? = some (.loop (rec .ready none)):=G2.fixed.obj l _ aiT;refine⟨_,run_beginRound aea (by rw[NK]),?_⟩;generalize Yb:Obj.loop { rec .ready none with state:=.busy }=ob;let c2:Ctx:=cr c Z' l W (owned R0 (st k i).hp) Kx hKx (qW c l ob Dl) W.heap.size
   have aiU:l<w1.heap.size:=size_of_getElem? aea;have G3:bD c2 R1 s1 a1 (w1.putObj l ob):=by
    refine G2.sO (c2:=c2) rfl rfl (fun v y h=>G2.kept v y h) (fun r _ h=>h) ?_ (by simp) ⟨rfl,rfl,rfl⟩ (fun r h=>G2.free r h) ?_ ?_ (fun r h=>G2.iN r h)
     ⟨rfl,by show c.n0.1≤W.heap.size;omega,by rw[World.putObj_size];exact G2.lo.2.2⟩ ?_
    ·intro r o ho _ hf;have hrl:r≠l:=fun e=>hf (e▸hlZ Z' W hlW)
     rw[World.putObj_heap_other hrl];exact ho
    ·refine⟨fun r o h=>?_,fun r o h=>?_,agp ob (by rw[←Yb];rfl)⟩
     ·simp only[c2,cr,qW] at h;by_cases e:r=l
      ·subst e;simp only[if_true,Option.some.injEq] at h;rw[World.putObj_heap_same aiU,h]
      rw[World.putObj_heap_other e];refine G2.fixed.obj r o ?_;simp only[c1,cr,qW];simpa only[if_neg e] using h
     by_cases e:r=l
     ·subst e;exact fun ho=>G2.free r ho (hlZ Z' W hlW)
     refine G2.fixed.free r o ?_;simp only[c2,cr,qW] at h;simp only[c1,cr,qW];simpa only[if_neg e] using h
    ·refine G2.jE.trans (O':=fun r=>r=l) ⟨by simp,fun r _ hn=>World.putObj_heap_other hn,rfl,rfl,rfl⟩ fun r _ h=>.inr h
    obtain⟨Ds,hm⟩:=G2.marks;refine⟨Ds,hm.low,hm.eq,hm.nodup,fun d hd=>?_,hm.free⟩;have:=hm.obj d hd;rw[World.putObj_heap_other]
    ·exact this
    rintro rfl
    rw[aea] at this;cases this
   have aiV:c2.fix l=some ob:=by simp[c2,cr,qW]
   refine wpIn_mono (ad5 c2 k i x s1 R1 a1 _ rfl (by have:=agq { rec .ready none with state:=.busy };rw[Yb] at this;exact this) hxk hA G3) ?_;rintro e a' w' ⟨R',s',hK,G4⟩
   have hl4:w'.heap[l]? = some (.loop { rec .ready none with state:=.busy }):=by rw[Yb];exact G4.fixed.obj l _ aiV
   have aeb:l<w'.heap.size:=size_of_getElem? hl4;have aiW:W.heap.size≤w'.heap.size:=G4.jE.size;let c3:Ctx:=cr c Z' l W (owned R0 (st k i).hp) (fun _ _=>False) (fun _ _ h=>h.elim) c.fix c.lo
   have G5:∀o',bD c3 R' ⟨(st k i).tm,s'.nx,s'.hp⟩ ao (w'.putObj l o')∧Marks c.lo (owned R' s'.hp) (w'.putObj l o') ao.defers Dl:=by
    intro o';have hmk:Marks c.lo (owned R' s'.hp) (w'.putObj l o') ao.defers Dl:=by
     refine⟨J.UE.low,J.UE.eq,J.UE.nodup,fun d hd=>?_,fun d hd=>?_⟩
     ·rw[World.putObj_heap_other (Ya d hd)];exact G4.fixed.obj d _ (by simp[c2,cr,qW,Ya d hd,hd])
     exact G4.fixed.free d (.deferred (some [])) (by simp[c2,cr,qW,Ya d hd,hd])
    obtain⟨H,hmap⟩:=G4.hap.sO (c2:=c3) (w':=w'.putObj l o') (fun r=>G4.Nlt) (fun v y h=>by
      rcases h with h|h
      ·exact G4.kept v y (.inl h)
      ·exact h.elim) (fun r _ h=>h) (fun r o ho _ hf=>by
      have hrl:r≠l:=fun e=>hf (e▸hlZ Z' W hlW)
      rw[World.putObj_heap_other hrl];exact ho) (by simp) ⟨rfl,rfl,rfl⟩ (fun r h=>G4.free r h)
     ⟨fun r o h=>by
       have hrl:=acI r o h;rw[World.putObj_heap_other hrl];by_cases hd:r∈Dl
       ·have h1:=J.UE.obj r hd;have h2:=g0.fixed.obj r o h;rw[h1] at h2;simp only[Option.some.injEq] at h2;rw[←h2];exact G4.fixed.obj r _ (by simp[c2,cr,qW,hrl,hd])
       exact G4.fixed.obj r o (by have h':c.fix r=some o:=h;simp[c2,cr,qW,hrl,hd,h']),
      fun r o h=>by
       have hrl:=acI r o h;by_cases hd:r∈Dl
       ·exact G4.fixed.free r (.deferred (some [])) (by simp[c2,cr,qW,hrl,hd])
       exact G4.fixed.free r o (by have h':c.fix r=some o:=h;simp[c2,cr,qW,hrl,hd,h']),hnc⟩
     (G4.jE.trans (O':=fun r=>r=l) ⟨by simp,fun r _ hn=>World.putObj_heap_other hn,rfl,rfl,rfl⟩ fun r _ h=>.inr h) (fun r h=>G4.iN r h)
     ⟨rfl,hlo,by show c.lo≤_;rw[World.putObj_size];omega⟩
    refine⟨H.WL (fun t v hv=>?_) G1.size ⟨Dl,hmk⟩,hmk⟩;obtain⟨y,hy,hr⟩:=G1.slots t v hv;refine⟨y,hy,hmap v y ?_⟩;refine FN (N:=NW) (w:=W) (hp:=(st k i).hp) (R:=R0) (fun r hr h=>?_) (fun r hr hn=>?_) (fun v y hl h=>G4.kept v y (.inr ⟨hl,h⟩)) v y (FM (hlow k i) hv) hr
    ·rcases h with h|h
     ·exact .inl h
     rcases G4.iN r h with (h|h)|h
     ·exact .inr h
     ·exact .inl (h▸hlZ Z' W hlW)
     exact absurd hr (Nat.not_lt.2 h)
    refine G4.jE.keep r hr fun ho=>?_
    rcases ho with ho|ho
    ·exact hn (.inr ho)
    exact hn (.inl (ho▸hlZ Z' W hlW))
   have Yc:∀(o':Obj) (R5:Real) (s5:AS) (UZ:Bool) (_:bD c3 R5 s5 ao (w'.putObj l o')) (_:Marks c.lo (owned R5 s5.hp) (w'.putObj l o') ao.defers Dl)
     (_:UZ=false→∃k i,s5=st k i∧rest=xs.drop k∧k≤xs.length∧(w'.putObj l o').heap[l]? = some (.loop (rec .ready none)))
     (_:UZ=true→∃e code,KO e=some code∧K e s5∧(w'.putObj l o').heap[l]? = some (.loop (rec .done (some code)))),
     ∃(D':Nat→Prop),nR D W (w'.putObj l o')∧(∀r,D' r→D r∨W.heap.size≤r)∧(∀r,D' r→r<(w'.putObj l o').heap.size) ∧
      ∃R s,RJ c ao l n1 Dl rec xs st K R s rest UZ Z' D' (w'.putObj l o'):=by
    intro o' R5 s5 UZ G6 mk6 agr ags;have hW4:W.heap.size≤(w'.putObj l o').heap.size:=by simpa using aiW
    have hD1:∀r,Dst c l Dl R5 s5.hp r→D r∨W.heap.size≤r:=by
     rintro r (h|h|h|h|h)
     ·rcases G6.iN r h with (h|h)|h
      ·exact .inl (NM r h)
      ·exact .inl (h▸DU)
      exact .inr h
     ·exact .inl (h▸DU)
     ·exact .inl ((J.dd r).2 (.inr (.inr (.inl h))))
     ·exact .inl ((J.dd r).2 (.inr (.inr (.inr (.inl h)))))
     exact .inl ((J.dd r).2 (.inr (.inr (.inr (.inr h)))))
    have agt:∀r,Dst c l Dl R5 s5.hp r→r<(w'.putObj l o').heap.size:=by
     intro r h;rcases h with ⟨b,h⟩|h
     ·exact G6.kz h
     have:D r:=by
      rcases h with h|h|h|h
      ·exact h▸DU
      ·exact (J.dd r).2 (.inr (.inr (.inl h)))
      ·exact (J.dd r).2 (.inr (.inr (.inr (.inl h))))
      exact (J.dd r).2 (.inr (.inr (.inr (.inr h))))
     have:=hDlt r this;omega
    have hF3:∀r,ZI c Z' l (w'.putObj l o') r→ZI c Z' l W r:=by
     rintro r ⟨h,_⟩
     refine⟨h,?_⟩;rcases h with h|h|h
     ·have:=c.hF r h;omega
     ·exact hZ2 r h
     omega
    refine⟨Dst c l Dl R5 s5.hp,G6.jE.mono fun r h=>h.elim (NM r) fun h=>h▸DU,hD1,agt,R5,s5,?_⟩;refine⟨fun r hz=>⟨?_,?_,fun hd=>?_⟩,by omega,?_,fun r=>Iff.rfl,agt,?_,mk6,agr,ags⟩
    ·rcases hZ1 r hz with h|h
     ·exact (J.zz r h).1
     have:=J.n1;omega
    ·have:=hZ2 r hz;omega
    ·rcases hd with h|h
     ·exact G6.free r h ⟨.inr (.inl hz),hZ2 r hz⟩
     have:D r:=by
      rcases h with h|h|h|h
      ·exact h▸DU
      ·exact (J.dd r).2 (.inr (.inr (.inl h)))
      ·exact (J.dd r).2 (.inr (.inr (.inr (.inl h))))
      exact (J.dd r).2 (.inr (.inr (.inr (.inr h))))
     exact hZ3 r hz this
    ·have e1:nR c.O c.w W:=by
      refine⟨Nat.le_trans J.jE.size hsz,fun r hr hn=>?_,hE.os.trans J.jE.os,hE.tape.trans J.jE.tape,hE.output.trans J.jE.output⟩;have h1:=J.jE.keep r hr hn;have hx:c.w.heap[r]? = some c.w.heap[r]:=by simp[hr]
      rw[hx] at h1 ⊢;exact hE.keep r _ h1 (fun hz=>by have:=(J.zz r hz).1;omega) (.inl (by omega))
     refine e1.trans G6.jE fun r hr ho=>?_
     rcases ho with ho|ho
     ·rcases g0.iN r ho with (h|h)|h
      ·exact h
      ·omega
      have h:wy.heap.size≤r:=h;have:=J.n1;omega
     omega
    refine G6.sO (c2:=cb c Z' l (w'.putObj l o')) rfl rfl (fun v y h=>G6.kept v y (.inl h)) (fun r _ h=>hF3 r h) (fun r o ho _ _=>ho) (Nat.le_refl _) ⟨rfl,rfl,rfl⟩ (fun r h hf=>G6.free r h (hF3 r hf)) G6.fixed (nR.refl _ _) ?_
     ⟨rfl,hlo,by show c.lo≤_;omega⟩ ⟨Dl,mk6⟩
    intro r h;rcases G6.iN r h with (h|h)|h
    ·rcases g0.iN r h with h|h
     ·exact .inl h
     refine .inl (.inr ?_);have h:wy.heap.size≤r:=h;have:=J.n1;omega
    ·exact .inl (.inr (by omega))
    exact .inl (.inr (by have h:W.heap.size≤r:=h;omega))
   cases e with
   | normal=>
     obtain⟨tm',nx',hp'⟩:=s';obtain⟨j,hj⟩:=hK;have hend:=run_endRound (P:=P) none hl4;refine⟨_,_,hend,?_⟩;simp only[Option.isNone_none,if_true];have ho:({ { rec .ready none with state:=.busy } with state:=.ready,pending:=none }:Loop)=rec .ready none:=by rw[NK]
     rw[ho];obtain⟨G6,mk6⟩:=G5 (.loop (rec .ready none));obtain⟨R7,G7⟩:=hj c3 R' ao _ G6;obtain⟨Ds,mk7⟩:=G7.marks;have hDs:Ds=Dl:=by
      have:=mk7.eq.symm.trans mk6.eq;exact List.map_inj_right (fun a b h=>by simpa[mark] using h) |>.1 this
     rw[hDs] at mk7;obtain⟨D',e1,e2,e3,R8,s8,J8⟩:=Yc _ R7 _ false G7 mk7 (fun _=>⟨k+1,j,rfl,ad7,adG,World.putObj_heap_same aeb⟩) (fun h=>by cases h);exact⟨D',true,rfl,e1,e2,e3,R8,s8,J8⟩
   | ret=>
     obtain⟨tm',nx',hp'⟩:=s';have hend:=run_endRound (P:=P) (some .ret) hl4;refine⟨_,_,hend,?_⟩;have ho:({ { rec .ready none with state:=.busy } with state:=.done,pending:=some .ret }:Loop)=rec .done (some .ret):=by rw[NK,NK]
     simp only[Option.isNone_some,Bool.false_eq_true,if_false];rw[ho];obtain⟨G6,mk6⟩:=G5 (.loop (rec .done (some .ret)));obtain⟨D',e1,e2,e3,R8,s8,J8⟩:=Yc _ R' _ true G6 mk6 (fun h=>by cases h) (fun _=>⟨.ret,.ret,rfl,hK,World.putObj_heap_same aeb⟩);exact⟨D',false,rfl,e1,e2,e3,R8,s8,J8⟩
   | exit id=>
     obtain⟨tm',nx',hp'⟩:=s';have hend:=run_endRound (P:=P) (some (.exit id)) hl4;refine⟨_,_,hend,?_⟩;have ho:({ { rec .ready none with state:=.busy } with state:=.done,pending:=some (.exit id) }:Loop)=rec .done (some (.exit id)):=by rw[NK,NK]
     simp only[Option.isNone_some,Bool.false_eq_true,if_false];rw[ho];obtain⟨G6,mk6⟩:=G5 (.loop (rec .done (some (.exit id))));obtain⟨D',e1,e2,e3,R8,s8,J8⟩:=Yc _ R' _ true G6 mk6 (fun h=>by cases h) (fun _=>⟨.exit id,.exit id,rfl,hK,World.putObj_heap_same aeb⟩);exact⟨D',false,rfl,e1,e2,e3,R8,s8,J8⟩
   |goto t=>exact hK.elim
   |panic ch=>exact hK.elim
   |outgrown=>exact hK.elim
 |exit id=>exact h1.elim
 |goto t=>exact h1.elim
 |ret=>exact h1.elim
 |panic ch=>exact h1.elim
 |outgrown=>exact h1.elim
theorem WG {P:Program}{c:Ctx}{R:Real}{s:AS}{a:Act}{w:World}{ro:Option Nat}(g:bD c R s a w)(hro:PN c ro)
  {go:Operand} {ps:Array Tmp} {O8 Me:Code} {f:FuncId} {aR:List PV} {xs:List (List PV)}  (hs:afu P f aR xs)
  (hps:∀t∈ps.toList,t<c.n) {ι:Type} {st:Nat→ι→AS} (hgo:∀i,jE (st 0 i).tm go=some (.pv (.fn (.func f) [] aR))) (h0:∃i,qM s (st 0 i)) (hlow:∀k i,IK (st k i).tm=true) {K:Exit→AS→Prop} {A:Nat→ι→List PV→AS→Prop}
  (ad4:∀(l:Nat) (c':Ctx) (k:Nat) (i:ι) (x:List PV) (tm:List (Nat×AV)) (R:Real) (a:Act) (w:World),c'.n=c.n→PN c' (some l)→xs[k]? = some x→WC ps.toList x (st k i).tm=some tm →
   bD c' R ⟨tm,(st k i).nx,(st k i).hp⟩ a w→O8.wpIn (W1 (some l)) 0 P (Exit.then (fun a1 w1=>∃R1 s1,A k i x s1∧bD c' R1 s1 a1 w1) (fun _ _ _=>False)) a w)
  (ad5:∀(l:Nat) (c':Ctx) (k:Nat) (i:ι) (x:List PV) (s1:AS) (R:Real) (a:Act) (w:World),c'.n=c.n→PN c' (some l)→xs[k]? = some x→A k i x s1 →
   bD c' R s1 a w→Me.wpIn (W1 (some l)) 0 P (fun e a' w'=>∃R' s',rfK (st k i).tm (fun s''=>∃j,qM s'' (st (k+1) j)) K e s'∧bD c' R' s' a' w') a w)
  (ad6:∀k i x,xs[k]? = some x→∃tm,WC ps.toList x (st k i).tm=some tm) (hend:∀i,K .normal (st xs.length i)) :
  (Code.rangeFunc go ps O8 Me).wpIn (W1 ro) 0 P (fun e a' w'=>∃R' s',K e s'∧bD c R' s' a' w') a w:=by
 obtain⟨i0,h0⟩:=h0;obtain⟨R0,g0⟩:=h0 c R a w g;have TN:=xe g0 (hgo i0);obtain⟨Ds,mk0⟩:=g0.marks;refine wpIn_rangeFunc fun fn _=>?_
 have hent:∃(l dfr:Nat) (Dm:List Nat) (W1':World),(Instr.enterLoop fn a.tmps ps O8 Me ro).run P w=.ok (l,Dm.map mark) W1' ∧
   (∀r,r<w.heap.size→W1'.heap[r]? = w.heap[r]?)∧w.heap.size≤W1'.heap.size∧(W1'.os=w.os∧W1'.tape=w.tape∧W1'.output=w.output)∧w.heap.size≤l∧l<W1'.heap.size ∧
   W1'.heap[l]? = some (.loop { state:=.ready,pending:=none,fn:=fn,tmps:=a.tmps,params:=ps,assign:=O8,body:=Me,defers:=dfr })∧Dm.Nodup ∧
   (∀d∈Dm,w.heap.size≤d∧W1'.heap[d]? = some (.deferred (some []))∧d≠l):=by
  cases hr:ro with
  | none=>
    refine⟨w.heap.size+1,w.heap.size,[w.heap.size],_,run_enterLoop_outer _ _ _ _ _,fun r hr=>?_,by simp;omega,⟨rfl,rfl,rfl⟩,by omega,by simp,?_,by simp,?_⟩
    ·rw[Go.RowKit.Below.heap_alloc _ _ _ (by simp;omega),Go.RowKit.Below.heap_alloc _ _ _ hr]
    ·have:=World.alloc_heap_new (w.alloc (.deferred (some []))) (.loop { state:=.ready,pending:=none,fn:=fn,tmps:=a.tmps,params:=ps,assign:=O8,body:=Me,defers:=w.heap.size });rwa [World.size_alloc] at this
    intro d hd;simp only[List.mem_singleton] at hd;subst hd;exact⟨Nat.le_refl _,(Go.RowKit.Below.heap_alloc _ _ _ (by simp)).trans (World.alloc_heap_new w _),by omega⟩
  | some l0=>
    obtain⟨r0,hr0⟩:=hro.lp l0 hr;have hl0:=g.fixed.obj l0 _ hr0;refine⟨w.heap.size,r0.defers,[],_,run_enterLoop_inner hl0 _ _ _ _ _,fun r hr=>Go.RowKit.Below.heap_alloc _ _ _ hr,by simp,⟨rfl,rfl,rfl⟩,Nat.le_refl _,by simp,World.alloc_heap_new w _,by simp,by simp⟩
 obtain⟨l,dfr,Dm,W,hrun,hold,hsz,hos,hlw,hlW,agu,aiY,QR⟩:=hent;let U0:LoopState→Option Code→Loop:=fun s p=>{ state:=s,pending:=p,fn:=fn,tmps:=a.tmps,params:=ps,assign:=O8,body:=Me,defers:=dfr }
 simp only[aj,bG] at TN;obtain⟨fs,cs,hval,hfs,hcs⟩:=TN;simp only[eu] at hfs;have hfs:fs = #[]:=by simpa using hfs
 subst hfs;let ao:Act:={ a with defers:=Dm.map mark++a.defers }
 have hcw:c.w.heap.size≤w.heap.size:=g.jE.size;have Yd:∀r o,c.fix r=some o→r<w.heap.size:=fun r o h=>size_of_getElem? (g.fixed.obj r o h)
 have QO:c.fix l=none:=by
  cases h:c.fix l with
  |none=>rfl
  |some o=>have:=Yd l o h;omega
 have hDs:∀d∈Ds,d<w.heap.size:=fun d hd=>size_of_getElem? (mk0.obj d hd)
 have hlD:l∉Dm++Ds:=by
  intro h;rcases List.mem_append.1 h with h|h
  ·exact (QR l h).2.2 rfl
  have:=hDs l h;omega
 have KP:∀r,owned R0 (st 0 i0).hp r→r<w.heap.size:=fun r ⟨b,h⟩=>g0.kz h
 have kz:∀r,owned R s.hp r→r<w.heap.size:=fun r ⟨b,h⟩=>g.kz h
 have hE:nR (fun _=>False) w W:=⟨hsz,fun r hr _=>hold r hr,hos.1,hos.2.1,hos.2.2⟩;have mkW:Marks c.lo (owned R0 (st 0 i0).hp) W ao.defers (Dm++Ds):=by
  refine⟨fun d hd=>?_,?_,?_,fun d hd=>?_,fun d hd=>?_⟩
  ·rcases List.mem_append.1 hd with h|h
   ·exact Nat.le_trans g.lo.2.2 (QR d h).1
   exact mk0.low d h
  ·simp only[ao,List.map_append,mk0.eq]
  ·rw[List.nodup_append];refine⟨aiY,mk0.nodup,fun x hx y hy e=>?_⟩;have h1:=(QR x hx).1;have h2:=hDs y hy;omega
  ·rcases List.mem_append.1 hd with h|h
   ·exact (QR d h).2.1
   rw[hold d (hDs d h)];exact mk0.obj d h
  rcases List.mem_append.1 hd with h|h
  ·exact fun ho=>by have:=KP d ho;have:=(QR d h).1;omega
  exact mk0.free d h
 have hF0:∀r,r<w.heap.size→ZI c (fun _=>False) l W r→c.F r:=by
  rintro r hr ⟨h,_⟩
  rcases h with h|h|h
  ·exact h
  ·exact h.elim
  omega
 have GW:bD (cb c (fun _=>False) l W) R0 (st 0 i0) ao W:=by
  refine g0.sO (c2:=cb c (fun _=>False) l W) rfl rfl (fun v y h=>g0.kept v y h) hF0 (fun r o ho _ _=>by rw[hold r (size_of_getElem? ho)];exact ho) hsz hos
   (fun r ho hf=>g0.free r ho (hF0 r (KP r ho) hf)) (g0.fixed.kept (fun r hr _=>hold r hr) (fun _ _ h=>h)) (nR.refl _ _) (fun r ho=>.inl ?_) ⟨rfl,g.lo.2.1,Nat.le_trans g.lo.2.2 hsz⟩ ⟨_,mkW⟩
  exact g0.iN r ho
 let D0:Nat→Prop:=Dst c l (Dm++Ds) R0 (st 0 i0).hp
 have hD0:∀r,D0 r→r<W.heap.size:=by
  rintro r (h|h|⟨o,h⟩|h|h)
  ·have:=KP r h;omega
  ·omega
  ·have:=Yd r o h;omega
  ·rcases List.mem_append.1 h with h|h
   ·exact size_of_getElem? (QR r h).2.1
   have:=hDs r h;omega
  have:=c.hF r h;omega
 have hJ0:∃R s,RJ c ao l W.heap.size (Dm++Ds) U0 xs st K R s xs false (fun _=>False) D0 W:=
  ⟨R0,st 0 i0,fun r h=>h.elim,Nat.le_refl _,g.jE.trans hE fun _ _ h=>h.elim,fun r=>Iff.rfl,hD0,GW,mkW,fun _=>⟨0,i0,rfl,by simp,Nat.zero_le _,agu⟩,fun h=>by cases h⟩
 have hY:YH (P,l) W.heap.size fun rest UZ Z D wy=>∃R s,RJ c ao l W.heap.size (Dm++Ds) U0 xs st K R s rest UZ Z D wy:=
  NJ (fn:=fn) (dfr:=dfr) (fun _ _=>rfl) (by omega) (by omega) hlD QO hlW (by have:=g.lo.2.1;have:=g.lo.2.2;omega) g.lo.2.1 (by have:=g.lo.2.2;omega) hro.nc hps hlow
   (fun c' k i x tm R a w h1 h2 h3 h4 h5=>ad4 l c' k i x tm R a w h1 h2 h3 h4 h5) (fun c' k i x s1 R a w h1 h2 h3 h4 h5=>ad5 l c' k i x s1 R a w h1 h2 h3 h4 h5) ad6
 have hcs':eu D0 W aR cs.toList:=by
  refine pR (N:=aU c R0 (st 0 i0).hp) (w:=w) (fun r cur e fr h hd=>?_) (fun r cur e fr h _=>by rw[hold r (size_of_getElem? h)];exact h) _ _ hcs;have hr:=size_of_getElem? h;rcases hd with hd|hd|⟨o,hd⟩|hd|hd
  ·exact .inr hd
  ·omega
  ·have h1:=g.fixed.obj r o hd;rw[h] at h1;simp only[Option.some.injEq] at h1;have:=hro.nc r o hd;rw[←h1] at this;cases this
  ·rcases List.mem_append.1 hd with hd|hd
   ·have:=(QR r hd).1;omega
   have h1:=mk0.obj r hd;rw[h] at h1;cases h1
  exact .inl hd
 obtain⟨aaT,hcall⟩:=hs;obtain⟨fnf,hff,hfb,aiZ⟩:=aaT;have hbn:fnf.body.isNone=false:=by cases uM:fnf.body<;>simp[uM] at hfb ⊢
 have hC:=hcall l _ D0 W cs hY hD0 hJ0 hcs';refine⟨l,Dm.map mark,W,{ target:=.fn (.func f) cs,args:=#[.func (.yield l) #[] #[]] },W,f,#[.func (.yield l) #[] #[]]++cs,W,hrun,?_,fun _ _=>trivial,?_,fun e=>(by cases e),?_⟩
 ·simp only[resolve,hval];simp[Deferred.ofValue,Act.eval]
 ·simp only[invoke,callFunc,run_program,Sem.run_bind,Result.andThen_ok,hff,aiZ,hbn];simp
 refine FO (hC.mono ?_);rintro e w3 ⟨⟨v,rfl⟩,rest,UZ,Z,D,wy,⟨R5,s5,J⟩,hE5,hdone⟩
 have DU:D l:=(J.dd l).2 (.inr (.inl rfl));have hZD:∀r,D r→¬Z r:=fun r hd hz=>(J.zz r hz).2.2 hd
 have ai0:c.w.heap.size≤wy.heap.size:=J.jE.size;have hn1:c.w.heap.size≤W.heap.size:=by omega
 have fin:∀(o o':Obj),wy.heap[l]? = some o→o.isCells=false→w3.heap[l]? = some o∧bD c R5 s5 ao (w3.putObj l o'):=by
  intro o o' ho hoc;have hl3:=hE5.keep l o ho (hZD l DU) (.inr (.inr DU));refine⟨hl3,?_⟩;have hsz5:wy.heap.size≤(w3.putObj l o').heap.size:=by rw[World.putObj_size];exact hE5.size
  have hFc:∀r,r<wy.heap.size→c.F r→ZI c Z l wy r:=fun r hr h=>⟨.inl h,hr⟩
  have hkeep:∀r o,wy.heap[r]? = some o→(r<W.heap.size∨o.isCells=true∨D r)→¬Z r→r≠l→(w3.putObj l o').heap[r]? = some o:=by
   intro r o hr hc hz hne;rw[World.putObj_heap_other hne];exact hE5.keep r o hr hz hc
  refine J.g.sO (c2:=c) rfl rfl (fun v y h=>J.g.kept v y h) hFc ?_ hsz5 ⟨hE5.os,hE5.tape,hE5.output⟩ (fun r h hf=>J.g.free r h (hFc r (J.dlt r ((J.dd r).2 (.inl h))) hf)) ?_ ?_ ?_ ⟨rfl,g.lo.2.1,?_⟩ ⟨Dm++Ds,?_⟩
  ·intro r o hr hc hf;refine hkeep r o hr (hc.imp (fun h=>?_) fun h=>h.imp id fun h=>(J.dd r).2 (.inl h)) (fun hz=>hf ⟨.inr (.inl hz),size_of_getElem? hr⟩) fun e=>hf ⟨.inr (.inr e),size_of_getElem? hr⟩
   have h:r<c.n0.1:=h;have:=g.lo.2.1;have:=g.lo.2.2;omega
  ·refine⟨fun r o h=>?_,fun r o h=>J.g.fixed.free r o h,hro.nc⟩;have hD:=(J.dd r).2 (.inr (.inr (.inl ⟨o,h⟩)));exact hkeep r o (J.g.fixed.obj r o h) (.inr (.inr hD)) (hZD r hD) fun e=>by rw[e,QO] at h;cases h
  ·refine⟨Nat.le_trans J.jE.size hsz5,fun r hr hn=>?_,hE5.os.trans J.jE.os,hE5.tape.trans J.jE.tape,hE5.output.trans J.jE.output⟩;have h1:=J.jE.keep r hr hn;have hx:c.w.heap[r]? = some c.w.heap[r]:=by simp[hr]
   rw[hx] at h1 ⊢;exact hkeep r _ h1 (.inl (by omega)) (fun hz=>by have:=(J.zz r hz).1;omega) (by omega)
  ·intro r h;rcases J.g.iN r h with h|h
   ·exact h
   exact .inr (Nat.le_trans ai0 h)
  ·have:=g.lo.2.2;have:=J.n1;omega
  refine⟨J.UE.low,J.UE.eq,J.UE.nodup,fun d hd=>?_,J.UE.free⟩;have hD:=(J.dd d).2 (.inr (.inr (.inr (.inl hd))));exact hkeep d _ (J.UE.obj d hd) (.inr (.inr hD)) (hZD d hD) fun e=>hlD (e▸hd)
 cases UZ with
 | false=>
   obtain⟨k,i,rfl,hrest,hkl,hlr⟩:=J.run rfl;have hrn:rest=[]:=hdone.resolve_left (by simp);have hk:k=xs.length:=by
    have:=congrArg List.length hrest;rw[hrn] at this;simp at this;omega
   subst hk;obtain⟨hl3,G⟩:=fin _ (.loop { U0 .ready none with state:=.exhausted }) hlr rfl;refine⟨none,_,run_endLoop (P:=P) hl3 (by simp[U0]),?_⟩;exact⟨R5,_,hend i,G⟩
 | true=>
   obtain⟨e,code,hj,hK,hlr⟩:=J.out rfl;obtain⟨hl3,G⟩:=fin _ (.loop { U0 .done (some code) with state:=.exhausted }) hlr rfl;refine⟨some code,_,run_endLoop (P:=P) hl3 (by simp[U0]),?_⟩;cases e with
   | ret=>
     simp only[KO,Option.some.injEq] at hj;subst hj;exact wpIn_ret ⟨R5,_,hK,G⟩
   | exit id=>
     simp only[KO,Option.some.injEq] at hj;subst hj;exact wpIn_exit ⟨R5,_,hK,G⟩
   |normal=>cases hj
   |goto t=>cases hj
   |panic ch=>cases hj
   |outgrown=>cases hj
end Go.AX
end
