/-
  Conditions: none. A framework for walks: abstract values, memory, and conditions that suffice; the chapters in plain terms.
-/
import Derived.Test.YtiagceoepkaeoaaGreatAc
import Derived.OrdersIn
import Derived.RangeFuncNested
set_option linter.unusedSectionVars false
set_option linter.unusedVariables false
set_option linter.unusedSimpArgs false
section
namespace Go.AX
section
variable {c:Ctx}{R:Real}{s:AS}{a:Act}{w:World}
theorem wG {b:Nat}{e:TypeId}{ver st j:Nat}{ed:TypeId}{sd:Nat}{pre post:List (Bool×List PV)}{row:List AV}(hb:lk s.hp b=some (.fP e ver st j ed sd pre row post)){r:Nat}(h:ug R b r):owned R s.hp r:=
 ⟨b,by rw[hb];exact .inr h⟩
theorem zu (g:bB c R s a w){b:Nat}{e:TypeId}{ver st j:Nat}{ed:TypeId}{sd:Nat}{pre post:List (Bool×List PV)}{row:List AV}(hb:lk s.hp b=some (.fP e ver st j ed sd pre row post)){r:Nat}(h:ug R b r) :
  ∃cur,w.heap[r]? = some (.cells cur ed (0,0)):=by
 obtain⟨xs,hs1,hs2,a1,a2,a3,a4,a5,a6,a7⟩:=g.boxes b _ hb;obtain⟨v,hv,hr⟩:=h;rw[a1] at hv;rcases List.mem_append.1 hv with hv|hv
 ·exact zo a3 v hv r hr
 exact zo a6 v hv r hr
def cF (c:Ctx)(R:Real)(s:AS)(w:World)(b:Nat)(h:∀r,c.F r∨ug R b r→r<w.heap.size)(hl:c.lo≤w.heap.size):Ctx:=
 { c with F:=fun r=>c.F r∨ug R b r,O:=fun r=>owned R s.hp r∧¬ug R b r,w:=w,hF:=h }
theorem rX (g:bB c R s a w){b:Nat}{e:TypeId}{ver st j:Nat}{ed:TypeId}{sd:Nat}{pre post:List (Bool×List PV)}{row:List AV}(hb:lk s.hp b=some (.fP e ver st j ed sd pre row post)) :
  ∀r,c.F r∨ug R b r→r<w.heap.size:=by
 rintro r (h|h)
 ·exact Nat.lt_of_lt_of_le (c.hF r h) g.jE.size
 obtain⟨cur,h⟩:=zu g hb h;exact size_of_getElem? h
def qa (pre:List (Bool×List PV))(row:List AV)(post:List (Bool×List PV)):Nat:=pre.length+(dJ row+post.length)
theorem bB.Ld (g:bB c R s a w){b:Nat}{e:TypeId}{ver st j:Nat}{ed:TypeId}{sd:Nat}{pre post:List (Bool×List PV)}{row:List AV}(hb:lk s.hp b=some (.fP e ver st j ed sd pre row post)) :
  ∃(xs:List Value) (hs1 hs2:List (Option Value)),(R.cap b).2=hs1++hs2∧xs.length=qa pre row post*st∧dK (aT c R s.hp) w st j ed sd hs1 pre xs∧row.length=dJ row*st ∧
   bN (aT c R s.hp) w s.hp R row ((xs.drop (pre.length*st)).take (dJ row*st))∧dK (aT c R s.hp) w st j ed sd hs2 post ((xs.drop (pre.length*st)).drop (dJ row*st))∧DL R b ∧
   bB (cF c R s w b (rX g hb) g.lo.2.2) R (s.app [(b,.arr e ver st (bA st (qa pre row post) xs))]) a w ∧
   (∀u x,ai (aT c R s.hp) w s.hp R u x→ai (aT (cF c R s w b (rX g hb) g.lo.2.2) R ((b,.arr e ver st (bA st (qa pre row post) xs))::s.hp)) w ((b,.arr e ver st (bA st (qa pre row post) xs))::s.hp) R u x):=by
 obtain⟨xs,hs1,hs2,a1,a2,a3,a4,a5,a6,a7⟩:=g.boxes b _ hb;have hlen:xs.length=qa pre row post*st:=a2.1;refine⟨xs,hs1,hs2,a1,hlen,a3,a4,a5,a6,a7,?_⟩;obtain⟨o1,o2,o3⟩:=wF a3;obtain⟨p1,p2,p3⟩:=wF a6;have hone:∀v∈xs,v.oneCell'=true:=by
  intro v hv;rw[←List.take_append_drop (pre.length*st) xs] at hv;rcases List.mem_append.1 hv with hv|hv
  ·exact o3 v hv
  rw[←List.take_append_drop (dJ row*st) (xs.drop (pre.length*st))] at hv;rcases List.mem_append.1 hv with hv|hv
  ·exact ((bF _ _ _ _ _ _).1 a5).one v hv
  have:post.length*st=((xs.drop (pre.length*st)).drop (dJ row*st)).length:=by
   rw[List.length_drop,List.length_drop,hlen];unfold qa;rw[Nat.add_mul,Nat.add_mul];omega
  exact p3 v (by rw[this,List.take_length];exact hv)
 obtain⟨bD,hbx⟩:∃bD,bD=aA.arr e ver st (bA st (qa pre row post) xs):=⟨_,rfl⟩;rw[←hbx];have uW:lk ((b,bD)::s.hp) b=some bD:=by rw[ax,if_pos rfl]
 have sU:∀b',b'≠b→lk ((b,bD)::s.hp) b'=lk s.hp b':=fun b' h=>by rw[ax,if_neg (fun e=>h e.symm)]
 have ow:∀b' r,aI R b' r (lk ((b,bD)::s.hp) b')→aI R b' r (lk s.hp b')∧¬ug R b r:=by
  intro b' r h;by_cases e1:b'=b
  ·subst e1;rw[uW,hbx] at h;simp only[aI] at h;refine⟨by rw[hb];exact .inl h,fun⟨v,hv,hr⟩=>a7.2 v r hv hr h.1 h.2⟩
  rw[sU b' e1] at h;refine⟨h,fun hp=>e1 ?_⟩;exact g.inj b' b r h (by rw[hb];exact .inr hp)
 have ow2:∀b' r,aI R b' r (lk s.hp b')→aI R b' r (lk ((b,bD)::s.hp) b')∨ug R b r:=by
  intro b' r h;by_cases e1:b'=b
  ·subst e1;rw[hb] at h;rw[uW,hbx];rcases h with h|h
   ·exact .inl h
   exact .inr h
  rw[sU b' e1];exact .inl h
 have hN:∀r,aT (cF c R s w b (rX g hb) g.lo.2.2) R ((b,bD)::s.hp) r↔aT c R s.hp r:=by
  intro r;constructor
  ·rintro ((h|h)|⟨b',h⟩)
   ·exact .inl h
   ·exact .inr (wG hb h)
   exact .inr ⟨b',(ow b' r h).1⟩
  rintro (h|⟨b',h⟩)
  ·exact .inl (.inl h)
  rcases ow2 b' r h with h|h
  ·exact .inr ⟨b',h⟩
  exact .inl (.inr h)
 have q1:∀b' off v,aX R b' off v (lk s.hp b')→aX R b' off v (lk ((b,bD)::s.hp) b'):=fun b' off v h=>by
  by_cases e1:b'=b
  ·subst e1;rw[hb] at h;exact h.elim
  rw[sU b' e1];exact h
 have hcl:(bA st (qa pre row post) xs).length=pre.length+(dJ row+post.length):=jR _ _ _;have q2:∀b' ver v,aS R b' ver v (lk s.hp b')→aS R b' ver v (lk ((b,bD)::s.hp) b'):=fun b' ver v h=>by
  by_cases e1:b'=b
  ·subst e1;rw[hb] at h;rw[uW,hbx];simp only[aS,hcl] at h ⊢;exact h
  rw[sU b' e1];exact h
 have q3:∀b' ver i off v,aZ R b' ver i off v (lk s.hp b')→aZ R b' ver i off v (lk ((b,bD)::s.hp) b'):=fun b' ver i off v h=>by
  by_cases e1:b'=b
  ·subst e1;rw[hb] at h;rw[uW,hbx];simp only[aZ] at h ⊢;exact h
  rw[sU b' e1];exact h
 have hm:∀u x,ai (aT c R s.hp) w s.hp R u x→ai (aT (cF c R s w b (rX g hb) g.lo.2.2) R ((b,bD)::s.hp)) w ((b,bD)::s.hp) R u x:=
  fun u x h=>bZ (fun r _ hr=>(hN r).1 hr) (fun _ _ _=>rfl) q1 q2 q3 u x h
 have hod:∀r,owned R ((b,bD)::s.hp) r→owned R s.hp r∧¬ug R b r:=fun r ⟨b',h⟩=>⟨⟨b',(ow b' r h).1⟩,(ow b' r h).2⟩
 refine⟨⟨?_,g.size,g.lo,?_,?_,?_,?_,?_,nI.refl _ _,?_,?_⟩,hm⟩
 ·intro t v hv;obtain⟨x,hx,hr⟩:=g.slots t v hv;exact⟨x,hx,hm _ _ hr⟩
 ·obtain⟨Ds,h⟩:=g.marks;exact⟨Ds,h.low,h.eq,h.nodup,h.obj,fun D hD hx=>h.free D hD (hod D hx).1⟩
 ·exact⟨g.fixed.obj,fun r o hr hx=>g.fixed.free r o hr (hod r hx).1,g.fixed.nc⟩
 ·intro b' bx hl;by_cases e1:b'=b
  ·subst e1;have hl':lk ((b',bD)::s.hp) b'=some bx:=hl;rw[uW] at hl';cases hl';subst hbx;refine⟨xs,by rw[hcl];exact a2,Gd (by rw[hlen];exact Nat.le_refl _) fun v hv=>hone v (List.mem_of_mem_take hv)⟩
  have hl':lk ((b,bD)::s.hp) b'=some bx:=hl;rw[sU b' e1] at hl';exact zq (fun r hr=>(hN r).1 hr) q1 q2 q3 rfl rfl rfl rfl (g.boxes b' bx hl')
 ·intro b1 b2 r h1 h2;exact g.inj b1 b2 r (ow b1 r h1).1 (ow b2 r h2).1
 ·rintro r hx (hF|hp)
  ·exact g.free r (hod r hx).1 hF
  exact (hod r hx).2 hp
 ·intro r hx;exact .inl (hod r hx)
 intro v x hk;exact hm v x (g.kept v x hk)
def qV (R:Real)(b:Nat)(hs:List (Option Value)):Real:=
 { R with cap:=fun b'=>if b'=b then ((R.cap b).1,hs) else R.cap b' }
theorem TT {R:Real}{b b':Nat}{hs:List (Option Value)}(h:b'≠b):(qV R b hs).cap b'=R.cap b':=by simp[qV,h]
theorem Ox {R:Real}{b b' n:Nat}{hs:List (Option Value)}:bY (qV R b hs) b' n=bY R b' n:=by
 by_cases h:b'=b
 ·subst h;simp[bY,qV]
 simp[bY,qV,h]
theorem bB.ahE (g:bB c R s a w){b:Nat}{e:TypeId}{ver st j:Nat}{ed:TypeId}{sd:Nat}{pre post:List (Bool×List PV)}{row:List AV}(hb:lk s.hp b=some (.fP e ver st j ed sd pre row post))
  {R1:Real} {s1:AS} {a1:Act} {w1:World} (g1:bB (cF c R s w b (rX g hb) g.lo.2.2) R1 s1 a1 w1) {e1:TypeId} {pz:Nat} {YW:List (List PV)} (hb1:lk s1.hp b=some (.arr e1 pz st YW))
  {hs1 hs2:List (Option Value)} {pre' post':List (Bool×List PV)} {row':List AV} (hhs:(R.cap b).2=hs1++hs2) (hl:YW.length=qa pre' row' post') (hrl:row'.length=dJ row'*st)
  (hD:DL R b) (hDb:∀v r,some v∈(R.cap b).2→v.ownBlock=some r→R1.nil b=false→R1.blk b≠r)
  (hH:∀ys,ys.length=qa pre' row' post'*st→bK (aT (cF c R s w b (rX g hb) g.lo.2.2) R1 s1.hp) w1 st YW ys→dK (aT c R s.hp) w st j ed sd hs1 pre' ys ∧
   bN (aT (cF c R s w b (rX g hb) g.lo.2.2) R1 s1.hp) w1 s1.hp R1 row' ((ys.drop (pre'.length*st)).take (dJ row'*st))∧dK (aT c R s.hp) w st j ed sd hs2 post' ((ys.drop (pre'.length*st)).drop (dJ row'*st))) :
  bB c (qV R1 b (hs1++hs2)) (s1.app [(b,.fP e1 pz st j ed sd pre' row' post')]) a1 w1 ∧
   ∀u x,ai (aT (cF c R s w b (rX g hb) g.lo.2.2) R1 s1.hp) w1 s1.hp R1 u x→ai (aT c (qV R1 b (hs1++hs2)) ((b,.fP e1 pz st j ed sd pre' row' post')::s1.hp)) w1 ((b,.fP e1 pz st j ed sd pre' row' post')::s1.hp) (qV R1 b (hs1++hs2)) u x:=by
 obtain⟨C,hC⟩:∃C,C=cF c R s w b (rX g hb) g.lo.2.2:=⟨_,rfl⟩;have hCF:∀r,C.F r↔c.F r∨ug R b r:=fun r=>by rw[hC];exact Iff.rfl
 have hCO:∀r,C.O r↔owned R s.hp r∧¬ug R b r:=fun r=>by rw[hC];exact Iff.rfl
 have hCw:C.w=w:=by rw[hC];rfl
 have hCK:C.K=c.K:=by rw[hC];rfl
 have ahH:C.fix=c.fix:=by rw[hC];rfl
 have ahI:C.lo=c.lo:=by rw[hC];rfl
 have hCn:C.n=c.n:=by rw[hC];rfl
 have aj2:C.n0=c.n0:=by rw[hC];rfl
 rw[←hC] at g1 hH ⊢;obtain⟨R2,hR2⟩:∃R2,R2=qV R1 b (hs1++hs2):=⟨_,rfl⟩;rw[←hR2];have Oy:∀r,ug R2 b r↔ug R b r:=fun r=>by subst hR2;unfold ug;rw[hhs];simp[qV]
 have hRb:R2.blk=R1.blk∧R2.nil=R1.nil∧R2.Y=R1.Y:=by subst hR2;exact⟨rfl,rfl,rfl⟩
 have hRc:∀b',b'≠b→R2.cap b'=R1.cap b':=fun b' h=>by subst hR2;exact TT h
 have hsl:∀b' n,bY R2 b' n=bY R1 b' n:=fun b' n=>by subst hR2;exact Ox
 have hcap:(R2.cap b).2=hs1++hs2:=by subst hR2;simp[qV]
 obtain⟨bD,hbx⟩:∃bD,bD=aA.fP e1 pz st j ed sd pre' row' post':=⟨_,rfl⟩;rw[←hbx];have uW:lk ((b,bD)::s1.hp) b=some bD:=by rw[ax,if_pos rfl]
 have sU:∀b',b'≠b→lk ((b,bD)::s1.hp) b'=lk s1.hp b':=fun b' h=>by rw[ax,if_neg (fun e=>h e.symm)]
 have oc:∀b' r o,b'≠b→(aI R2 b' r o↔aI R1 b' r o):=by
  intro b' r o hne;cases o with
  |none=>exact Iff.rfl
  |some o=>cases o<;>simp only[aI,hRb.1,hRb.2.1,hRb.2.2,hRc b' hne]
 have ow:∀b' r,aI R2 b' r (lk ((b,bD)::s1.hp) b')→aI R1 b' r (lk s1.hp b')∨(b'=b∧ug R b r):=by
  intro b' r h;by_cases e1:b'=b
  ·subst e1;rw[uW,hbx] at h;rcases h with h|h
   ·rw[hb1];rw[hRb.1,hRb.2.1] at h;exact .inl h
   exact .inr ⟨rfl,(Oy r).1 h⟩
  rw[sU b' e1] at h;exact .inl ((oc b' r _ e1).1 h)
 have ow2:∀b' r,aI R1 b' r (lk s1.hp b')→aI R2 b' r (lk ((b,bD)::s1.hp) b'):=by
  intro b' r h;by_cases e1:b'=b
  ·subst e1;rw[hb1] at h;rw[uW,hbx];exact .inl (by rw[hRb.1,hRb.2.1];exact h)
  rw[sU b' e1];exact (oc b' r _ e1).2 h
 have ow3:∀r,ug R b r→aI R2 b r (lk ((b,bD)::s1.hp) b):=fun r h=>by rw[uW,hbx];exact .inr ((Oy r).2 h)
 have hN:∀r,aT c R2 ((b,bD)::s1.hp) r↔aT C R1 s1.hp r:=by
  intro r;constructor
  ·rintro (h|⟨b',h⟩)
   ·exact .inl ((hCF r).2 (.inl h))
   rcases ow b' r h with h|⟨_,h⟩
   ·exact .inr ⟨b',h⟩
   exact .inl ((hCF r).2 (.inr h))
  rintro (h|⟨b',h⟩)
  ·rcases (hCF r).1 h with h|h
   ·exact .inl h
   exact .inr ⟨b,ow3 r h⟩
  exact .inr ⟨b',ow2 b' r h⟩
 have q1:∀b' off v,aX R1 b' off v (lk s1.hp b')→aX R2 b' off v (lk ((b,bD)::s1.hp) b'):=fun b' off v h=>by
  by_cases e1:b'=b
  ·subst e1;rw[hb1] at h;exact h.elim
  rw[sU b' e1];exact jW ⟨by rw[hRb.1],by rw[hRb.2.1],hRc b' e1⟩ h
 have q2:∀b' ver v,aS R1 b' ver v (lk s1.hp b')→aS R2 b' ver v (lk ((b,bD)::s1.hp) b'):=fun b' ver v h=>by
  by_cases e1:b'=b
  ·subst e1;rw[hb1] at h;rw[uW,hbx];simp only[aS,hsl,hl] at h ⊢;exact h
  rw[sU b' e1];exact lu ⟨by rw[hRb.1],by rw[hRb.2.1],hRc b' e1⟩ h
 have q3:∀b' ver i off v,aZ R1 b' ver i off v (lk s1.hp b')→aZ R2 b' ver i off v (lk ((b,bD)::s1.hp) b'):=fun b' ver i off v h=>by
  by_cases e1:b'=b
  ·subst e1;rw[hb1] at h;rw[uW,hbx];simp only[aZ,hRb.1,hRb.2.1] at h ⊢;exact h
  rw[sU b' e1];exact lD ⟨by rw[hRb.1],by rw[hRb.2.1],hRc b' e1⟩ h
 have hm:∀u x,ai (aT C R1 s1.hp) w1 s1.hp R1 u x→ai (aT c R2 ((b,bD)::s1.hp)) w1 ((b,bD)::s1.hp) R2 u x:=
  fun u x h=>bZ (fun r _ hr=>(hN r).1 hr) (fun _ _ _=>rfl) q1 q2 q3 u x h
 have hev:=g1.jE;rw[hCw] at hev;have hpw:∀r,ug R b r→w1.heap[r]? = w.heap[r]? :=fun r h=>by
  obtain⟨cur,hc⟩:=zu g hb h;exact hev.keep r (size_of_getElem? hc) fun hO=>((hCO r).1 hO).2 h
 have hod:∀r,owned R2 ((b,bD)::s1.hp) r→owned R1 s1.hp r∨ug R b r:=fun r ⟨b',h⟩=>(ow b' r h).imp (fun h=>⟨b',h⟩) (·.2)
 have hnp:∀r,owned R1 s1.hp r→¬ug R b r:=fun r h hp=>g1.free r h ((hCF r).2 (.inr hp))
 have hNw:∀r,r<w.heap.size→aT c R2 ((b,bD)::s1.hp) r→aT c R s.hp r:=by
  intro r hr h;rcases (hN r).1 h with h|h
  ·rcases (hCF r).1 h with h|h
   ·exact .inl h
   exact .inr (wG hb h)
  rcases g1.iL r h with h|h
  ·exact .inr ((hCO r).1 h).1
  rw[hCw] at h;omega
 have hww:∀r,r<w.heap.size→¬aT c R s.hp r→w1.heap[r]? = w.heap[r]? :=fun r hr hn=>hev.keep r hr fun hO=>hn (.inr ((hCO r).1 hO).1)
 refine⟨⟨?_,by rw[←hCn];exact g1.size,?_,?_,?_,?_,?_,?_,?_,?_,?_⟩,hm⟩
 ·intro t v hv;obtain⟨x,hx,hr⟩:=g1.slots t v hv;exact⟨x,hx,hm _ _ hr⟩
 ·rw[hRb.2.2,←aj2,←ahI];exact g1.lo
 ·obtain⟨Ds,h⟩:=g1.marks;rw[ahI] at h;refine⟨Ds,h.low,h.eq,h.nodup,h.obj,fun D hD hx=>?_⟩;rcases hod D hx with hx|hx
  ·exact h.free D hD hx
  obtain⟨cur,hc⟩:=zu g hb hx;have:=h.obj D hD;rw[hpw D hx,hc] at this;cases this
 ·have Xt:=g1.fixed;rw[ahH] at Xt;refine⟨Xt.obj,fun r o hr hx=>?_,Xt.nc⟩;rcases hod r hx with hx|hx
  ·exact Xt.free r o hr hx
  exact g.fixed.free r o hr (wG hb hx)
 ·intro b' bx hlk;have hlk:lk ((b,bD)::s1.hp) b'=some bx:=hlk;by_cases e1:b'=b
  ·subst e1;rw[uW] at hlk;cases hlk;subst hbx;obtain⟨ys,k1,k2⟩:=g1.boxes b' _ hb1;rw[hl] at k1;obtain⟨m1,m2,m3⟩:=hH ys k1.1 k2;have hkb:∀v,some v∈hs1++hs2→∀k,v.ownBlock=some k→w1.heap[k]? = w.heap[k]? :=fun v hv k hk=>hpw k ⟨v,by rw[hhs];exact hv,hk⟩
   refine⟨ys,hs1,hs2,hcap,by rw[hsl];exact k1,lF hNw hww (fun v hv k hk=>hkb v (by simp[hv]) k hk) m1,hrl,?_,lF hNw hww (fun v hv k hk=>hkb v (by simp[hv]) k hk) m3,?_⟩
   ·exact bI (fun r _ hr=>(hN r).1 hr) (fun _ _ _=>rfl) q1 q2 q3 _ _ m2
   unfold DL at hD ⊢;rw[hcap,hRb.1,hRb.2.1,←hhs];exact⟨hD.1,hDb⟩
  rw[sU b' e1] at hlk;exact zq (fun r hr=>(hN r).1 hr) q1 q2 q3 hRb.2.2 (by rw[hRb.1]) (by rw[hRb.2.1]) (hRc b' e1) (g1.boxes b' bx hlk)
 ·intro b1 b2 r h1 h2;rcases ow b1 r h1 with k1|⟨e1,k1⟩<;>rcases ow b2 r h2 with k2|⟨e2,k2⟩
  ·exact g1.inj b1 b2 r k1 k2
  ·exact absurd k2 (hnp r ⟨b1,k1⟩)
  ·exact absurd k1 (hnp r ⟨b2,k2⟩)
  rw[e1,e2]
 ·intro r hx hF;rcases hod r hx with hx|hx
  ·exact g1.free r hx ((hCF r).2 (.inl hF))
  exact g.free r (wG hb hx) hF
 ·refine g.jE.trans hev fun r hr hO=>?_
  exact (g.iL r ((hCO r).1 hO).1).resolve_right (by omega)
 ·intro r hx;rcases hod r hx with hx|hx
  ·rcases g1.iL r hx with h|h
   ·exact g.iL r ((hCO r).1 h).1
   rw[hCw] at h;exact .inr (Nat.le_trans g.jE.size h)
  exact g.iL r (wG hb hx)
 intro v x hk;exact hm v x (g1.kept v x (by rw[hCK];exact hk))
end
theorem Gf (st:Nat):∀(n m:Nat) (xs:List Value),bA st (n+m) xs=bA st n xs++bA st m (xs.drop (n*st))
 |0,m,xs=>by simp[bA]
 | n+1,m,xs=>by
   rw[show n+1+m=(n+m)+1 by omega];simp only[bA,List.cons_append,Gf st n m,List.drop_drop];rw[show st+n*st=(n+1)*st by rw[Nat.succ_mul];omega]
section
variable {c:Ctx}{R:Real}{s:AS}{a:Act}{w:World}
theorem bB.afh (g:bB c R s a w){b:Nat}{e:TypeId}{ver st j:Nat}{ed:TypeId}{sd:Nat}{pre post:List (Bool×List PV)}{r0:AV}{rr:List AV}(hb:lk s.hp b=some (.fP e ver st j ed sd pre (r0::rr) post)) :
  ∃(xs zs:List Value) (hs1 hs2:List (Option Value)),(R.cap b).2=hs1++hs2∧pre.length*st≤xs.length∧post.length*st≤zs.length∧dK (aT c R s.hp) w st j ed sd hs1 pre xs∧(r0::rr).length=st ∧
   dK (aT c R s.hp) w st j ed sd hs2 post zs∧DL R b ∧
   bB (cF c R s w b (rX g hb) g.lo.2.2) R (s.app [(b,.dN e ver st (bA st pre.length xs) (r0::rr) (bA st post.length zs))]) a w ∧
   (∀u x,ai (aT c R s.hp) w s.hp R u x→ai (aT (cF c R s w b (rX g hb) g.lo.2.2) R ((b,.dN e ver st (bA st pre.length xs) (r0::rr) (bA st post.length zs))::s.hp)) w ((b,.dN e ver st (bA st pre.length xs) (r0::rr) (bA st post.length zs))::s.hp) R u x):=by
 obtain⟨xs,hs1,hs2,a1,hlen,a3,a4,a5,a6,a7,g1,m1⟩:=g.Ld hb;simp only[dJ,Nat.one_mul] at a4 a5 a6;have hn:qa pre (r0::rr) post=pre.length+(post.length+1):=by simp only[qa,dJ];omega
 have hch:bA st (qa pre (r0::rr) post) xs=bA st pre.length xs++fH ((xs.drop (pre.length*st)).take st)::bA st post.length ((xs.drop (pre.length*st)).drop st):=by
  rw[hn,Gf];rfl
 rw[hch] at g1 m1;obtain⟨o1,o2,o3⟩:=wF a3;obtain⟨p1,p2,p3⟩:=wF a6;have hb1:lk (s.app [(b,.arr e ver st (bA st pre.length xs++fH ((xs.drop (pre.length*st)).take st)::bA st post.length ((xs.drop (pre.length*st)).drop st)))]).hp b=some (.arr e ver st (bA st pre.length xs++fH ((xs.drop (pre.length*st)).take st)::bA st post.length ((xs.drop (pre.length*st)).drop st))):=by
  simp only[AS.app,List.singleton_append,ax,if_true]
 have hrow:=m1 (.agg (r0::rr)) (.agg ((xs.drop (pre.length*st)).take st).toArray) (by simp only[ai];exact⟨_,rfl,by simpa using a5⟩);simp only[ai] at hrow;obtain⟨us,e1,hrow⟩:=hrow;cases e1;obtain⟨g2,m2⟩:=bB.JU (row:=r0::rr) g1 hb1 hrow;have hc:∀k,lk ((b,aA.dN e ver st (bA st pre.length xs) (r0::rr) (bA st post.length ((xs.drop (pre.length*st)).drop st)))::s.hp) k =
   lk ((b,aA.dN e ver st (bA st pre.length xs) (r0::rr) (bA st post.length ((xs.drop (pre.length*st)).drop st)))::(s.app [(b,.arr e ver st (bA st pre.length xs++fH ((xs.drop (pre.length*st)).take st)::bA st post.length ((xs.drop (pre.length*st)).drop st)))]).hp) k:=by
  intro k;simp only[AS.app,List.singleton_append,ax];split<;>rfl
 exact⟨xs,(xs.drop (pre.length*st)).drop st,hs1,hs2,a1,o2,p2,a3,a4,a6,a7,bB.congr g2 (fun _=>rfl) hc,fun u x h=>xO hc (m2 u x (m1 u x h))⟩
theorem bB.YX (g:bB c R s a w){b:Nat}{e:TypeId}{ver st j:Nat}{ed:TypeId}{sd:Nat}{pre post:List (Bool×List PV)}{row:List AV}(hb:lk s.hp b=some (.fP e ver st j ed sd pre row post))
  {R1:Real} {s1:AS} {a1:Act} {w1:World} (g1:bB (cF c R s w b (rX g hb) g.lo.2.2) R1 s1 a1 w1) {e1:TypeId} {pz:Nat} {pre' post':List (Bool×List PV)} {r0:AV} {rr:List AV} {xs zs:List Value}
  (hb1:lk s1.hp b=some (.dN e1 pz st (bA st pre'.length xs) (r0::rr) (bA st post'.length zs)))
  {hs1 hs2:List (Option Value)} (hhs:(R.cap b).2=hs1++hs2) (hD:DL R b) (hDb:∀v r,some v∈(R.cap b).2→v.ownBlock=some r→R1.nil b=false→R1.blk b≠r)
  (hx:pre'.length*st≤xs.length) (hz:post'.length*st≤zs.length) (h1:dK (aT c R s.hp) w st j ed sd hs1 pre' xs) (h2:dK (aT c R s.hp) w st j ed sd hs2 post' zs) :
  bB c (qV R1 b (hs1++hs2)) (s1.app [(b,.fP e1 pz st j ed sd pre' (r0::rr) post')]) a1 w1 ∧
   ∀u x,ai (aT (cF c R s w b (rX g hb) g.lo.2.2) R1 s1.hp) w1 s1.hp R1 u x→ai (aT c (qV R1 b (hs1++hs2)) ((b,.fP e1 pz st j ed sd pre' (r0::rr) post')::s1.hp)) w1 ((b,.fP e1 pz st j ed sd pre' (r0::rr) post')::s1.hp) (qV R1 b (hs1++hs2)) u x:=by
 have hst:(r0::rr).length=st:=(g1.boxes b _ hb1).choose_spec.2.2.1;obtain⟨vs,hrow,hvl,g2,m2⟩:=g1.uf hb1;have hb2:lk (s1.app [(b,.arr e1 pz st (bA st pre'.length xs++fH vs::bA st post'.length zs))]).hp b=some (.arr e1 pz st (bA st pre'.length xs++fH vs::bA st post'.length zs)):=by
  simp only[AS.app,List.singleton_append,ax,if_true]
 have hrow2:=m2 (.agg (r0::rr)) (.agg vs.toArray) (by simp only[ai];exact⟨_,rfl,by simpa using hrow⟩);simp only[ai] at hrow2;obtain⟨us,e2,hrow2⟩:=hrow2;cases e2;obtain⟨g3,m3⟩:=bB.ahE g hb g2 hb2 (hs1:=hs1) (hs2:=hs2) (pre':=pre') (post':=post') (row':=r0::rr) hhs (by simp only[List.length_append,List.length_cons,jR,qa,dJ];omega) (by simpa[dJ] using hst) hD hDb (by
  intro ys hys hr;obtain⟨b1,b2,b3,b4⟩:=wD hr;rw[jR] at b3 b4;obtain⟨r,hr'⟩:=F5 _ _ b3;refine⟨A7 h1 (Ck hx b1),?_,A7 h2 (by simp only[dJ,Nat.one_mul];exact Ck hz b4)⟩;rw[hr'];simp only[dJ,Nat.one_mul];rw[show (vs++r).take st=vs by rw[←hvl];exact List.take_left];exact hrow2)
 have hc:∀k,lk ((b,aA.fP e1 pz st j ed sd pre' (r0::rr) post')::s1.hp) k=lk ((b,aA.fP e1 pz st j ed sd pre' (r0::rr) post')::(s1.app [(b,.arr e1 pz st (bA st pre'.length xs++fH vs::bA st post'.length zs))]).hp) k:=by
  intro k;simp only[AS.app,List.singleton_append,ax];split<;>rfl
 exact⟨bB.congr g3 (fun _=>rfl) hc,fun u x h=>xO hc (m3 u x (m2 u x h))⟩
end
def yS (T:Tab)(H:List (Nat×aA))(t:TypeId)(x:AV)(K:AV→Prop):Prop:=
 match x with
 | .bn b ver k off=>match lk H b with
   | some (.fP e v st j ed sd pre row post)=>match lk T t with
     | some i=>match Nat.beq ver v,Nat.beq i.size 0 with
       | true,false=>match part off i.size row with
         |some cs=>k=pre.length∧sQ i cs K
         |none=>False
       |_,_=>False
     |none=>False
   |_=>vE T H t (.bn b ver k off) K
 |x=>vE T H t x K
def sM (T:Tab)(H:List (Nat×aA))(t:TypeId)(x y:AV)(K:AV→List (Nat×aA)→Prop):Prop:=
 match x with
 | .bn b ver k off=>match lk H b with
   | some (.fP e v st j ed sd pre row post)=>match lk T t with
     | some i=>match Nat.beq ver v with
       | true=>match cellsOf i y with
         | some cs=>match Nat.beq cs.length i.size with
           | true=>match jU off row cs with
             |some (r0::rr)=>k=pre.length∧K (.pv (.sc undef)) [(b,.fP e v st j ed sd pre (r0::rr) post)]
             |_=>False
           |false=>False
         |none=>False
       |false=>False
     |none=>False
   |_=>nk T H t (.bn b ver k off) y K
 |x=>nk T H t x y K
def Qh (T:Tab)(H:List (Nat×aA))(t:TypeId)(x ix:AV)(K:AV→Prop):Prop:=
 match x with
 | .aB b ver=>match lk H b with
   | some (.fP e v st j ed sd pre row post)=>match ix with
     | .pv (.sc (.int _ i))=>match lk T t with
       | some ti=>match ti.d with
         | .slt e=>match lk T e with
           | some ei=>match Nat.beq ver v,Nat.beq st ei.size with
             |true,true=>0≤i∧i.toNat<pre.length+(dJ row+post.length)∧K (.bn b ver i.toNat 0)
             |_,_=>False
           |none=>False
         |_=>False
       |none=>False
     |_=>False
   |_=>MZ T H t (.aB b ver) ix K
 |x=>MZ T H t x ix K
def EU (T:Tab)(H:List (Nat×aA))(t:TypeId)(x:AV)(K:AV→Prop):Prop:=
 match x with
 | .aB b ver=>match lk H b with
   | some (.fP e v st j ed sd pre row post)=>match lk T t with
     | some i=>match i.d with
       | .slt _=>match Nat.beq ver v with
         |true=>K (.pv (.sc (.int .i64 (pre.length+(dJ row+post.length):Nat))))
         |false=>False
       |_=>False
     |none=>False
   |_=>CX T H t (.aB b ver) K
 |x=>CX T H t x K
section
variable {P:Program}{T:Tab}{c:Ctx}{R:Real}{s:AS}{a:Act}{w:World}
theorem Vz {α:Type}{off:Nat}{row cs:List α}{x:List α}(h:jU off row cs=some x):x.length=row.length:=by
 induction off generalizing row x with
 | zero=>
   cases row with
   | nil=>
     cases cs with
     |nil=>simp[jU,j6] at h;simp[←h]
     |cons c cs=>simp[jU,j6] at h
   | cons r row=>
     simp only[jU] at h;have:∀(cs row x:List α),j6 row cs=some x→x.length=row.length:=by
      intro cs;induction cs with
      |nil=>intro row x h;cases row<;>simp[j6] at h<;>simp[←h]
      | cons c cs ih=>
        intro row x h;cases row with
        |nil=>simp[j6] at h
        | cons r row=>
          simp only[j6] at h;split at h
          ·rename_i t ht;simp only[Option.some.injEq] at h;subst h;simp[ih _ _ ht]
          cases h
     exact this _ _ _ h
 | succ off ih=>
   cases row with
   |nil=>simp[jU] at h
   | cons r row=>
     simp only[jU] at h;split at h
     ·rename_i t ht;simp only[Option.some.injEq] at h;subst h;simp[ih ht]
     cases h
theorem Kt (g:bB c R s a w)(hT:bO P T){H:List (Nat×aA)}(hH:∀b box,lk H b=some box→lk s.hp b=some box){t:TypeId}{x:AV}{K:AV→Prop}
  (h:yS T H t x K) {u:Value} (hx:ai (aT c R s.hp) w s.hp R x u) :
  ∃y v,(Instr.loadAt t u).run P w=.ok y w∧K v∧ai (aT c R s.hp) w s.hp R v y:=by
 unfold yS at h;split at h
 ·rename_i b ver k off;split at h
  ·rename_i e v st j ed sd pre row post hb;have hb':=hH _ _ hb;split at h;rotate_left;cases h
   rename_i i hi;have hi':=hT t i hi;split at h;rotate_left;cases h
   rename_i gy hsz0;split at h;rotate_left;cases h
   rename_i cs hcs;obtain⟨rfl,h⟩:=h;simp only[ai,hb',aZ] at hx;obtain⟨hn,rfl⟩:=hx.2.2 (Nat.eq_of_beq_eq_true gy);cases hrw:row with
   | nil=>
     rw[hrw] at hcs;have:=Nat.ne_of_beq_eq_false hsz0;exfalso;have hz:=(FP.part (R:=fun _ _=>True) (m:=[]) (by simp only[FP]) hcs).1;simp only[List.length_nil] at hz;omega
   | cons r0 rr=>
     obtain⟨xs,hs1,hs2,a1,a2,a3,a4,a5,a6,a7⟩:=g.boxes b _ hb';have hO:dJ row=1:=by rw[hrw];rfl
     simp only[hO,Nat.one_mul] at a2 a4 a5 a6;have hrow:=(bF _ _ _ _ _ _).1 a5;obtain⟨h1,h2⟩:=hrow.fp.part hcs;obtain⟨q1,q2⟩:=a2;rcases q2 with ⟨q2,q3⟩|⟨g',cap,cur,e1,_,hg,hle,hm,hs,ht⟩
     ·omega
     simp only[bY,hn,Bool.false_eq_true,if_false,Value.slice.injEq,Option.some.injEq,Addr.mk.injEq] at e1;obtain⟨⟨eb,_⟩,_,_⟩:=e1;rw[←eb] at hg;rw[List.length_take] at h1;have hcl:cur.size=cur.toList.length:=Array.length_toList.symm;have hle2:(pre.length+(1+post.length))*st≤cur.size:=by rw[hs];exact Nat.mul_le_mul_right _ hle
     have hmul:(pre.length+(1+post.length))*st=pre.length*st+(st+post.length*st):=by rw[Nat.add_mul,Nat.add_mul,Nat.one_mul]
     have hdd:(cur.toList.drop (pre.length*st+off)).take i.size=(((xs.drop (pre.length*st)).take st).drop off).take i.size:=by
      rw[←ht,hmul];simp only[List.drop_take,List.take_take,List.drop_drop];congr 1
      omega
     have hz:pre.length*st+off+i.size≤cur.size:=by omega
     obtain⟨y,z,k1,k2,k3⟩:=Dn i hi' hg hz (by rw[hdd];exact h2) h;exact⟨y,z,by simpa[Instr.loadAt,Instr.sureAddr] using k1,k2,k3⟩
  exact AY g hT hH h hx
 exact AY g hT hH h hx
theorem HY (g:bB c R s a w)(hT:bO P T){H:List (Nat×aA)}(hH:∀b box,lk H b=some box→lk s.hp b=some box){t:TypeId}{x y:AV}
  {K:AV→List (Nat×aA)→Prop} (h:sM T H t x y K) {u v:Value} (hx:ai (aT c R s.hp) w s.hp R x u) (hy:ai (aT c R s.hp) w s.hp R y v) :
  ∃w' R' ws,(Instr.storeAt t u v).run P w=.ok () w'∧K (.pv (.sc undef)) ws∧bB c R' (s.app ws) a w':=by
 unfold sM at h;split at h
 ·rename_i b ver k off;split at h
  ·rename_i e vr st j ed sd pre row post hb;have hb':=hH _ _ hb;split at h;rotate_left;cases h
   rename_i i hi;split at h;rotate_left;cases h
   rename_i gy;split at h;rotate_left;cases h
   rename_i cs hcs;split at h;rotate_left;cases h
   rename_i hlen;split at h;rotate_left;cases h
   rename_i r0 rr hset;obtain⟨rfl,hK⟩:=h;have hrl:=Vz hset;cases row with
   |nil=>simp at hrl
   | cons q0 qq=>
     obtain⟨xs,zs,hs1,hs2,a1,a2,a3,a4,a5,a6,a7,g1,m1⟩:=g.afh hb';have hb1:lk (s.app [(b,.dN e vr st (bA st pre.length xs) (q0::qq) (bA st post.length zs))]).hp b=some (.dN e vr st (bA st pre.length xs) (q0::qq) (bA st post.length zs)):=by
      simp only[AS.app,List.singleton_append,ax,if_true]
     have hst:nk T (s.app [(b,.dN e vr st (bA st pre.length xs) (q0::qq) (bA st post.length zs))]).hp t (.bn b ver pre.length off) y
       (fun z ws=>ws=[(b,.dN e vr st (bA st pre.length xs) (r0::rr) (bA st post.length zs))]):=by
      unfold nk;simp only[hi,hb1,gy,hcs,hlen,hset];exact⟨(jR _ _ _).symm,trivial⟩
     obtain⟨w',ws,hrun,rfl,g2⟩:=qR g1 hT (fun _ _ h=>h) hst (u:=u) (v:=v) (m1 _ _ hx) (m1 _ _ hy);have hb2:lk ([(b,aA.dN e vr st (bA st pre.length xs) (r0::rr) (bA st post.length zs))]++(s.app [(b,.dN e vr st (bA st pre.length xs) (q0::qq) (bA st post.length zs))]).hp) b=some (.dN e vr st (bA st pre.length xs) (r0::rr) (bA st post.length zs)):=by
      rw[List.singleton_append,ax,if_pos rfl]
     obtain⟨g3,_⟩:=bB.YX g hb' g2 (e1:=e) (pz:=vr) (pre':=pre) (post':=post) hb2 a1 a7 a7.2 a2 a3 a4 a6;refine⟨w',_,_,hrun,hK,bB.congr g3 (fun _=>rfl) fun k=>?_⟩;simp only[AS.app,List.singleton_append,ax];split<;>rfl
  obtain⟨w',ws,h1,h2,h3⟩:=qR g hT hH h hx hy;exact⟨w',R,ws,h1,h2,h3⟩
 obtain⟨w',ws,h1,h2,h3⟩:=qR g hT hH h hx hy;exact⟨w',R,ws,h1,h2,h3⟩
theorem Ql (g:bB c R s a w)(hT:bO P T){H:List (Nat×aA)}(hH:∀b box,lk H b=some box→lk s.hp b=some box){t:TypeId}{x ix:AV}{K:AV→Prop}
  (h:Qh T H t x ix K) {u v:Value} (hx:ai (aT c R s.hp) w s.hp R x u) (hv:ai (aT c R s.hp) w s.hp R ix v) :
  ∃y z,(Instr.indexAt t u v).run P w=.ok y w∧K z∧ai (aT c R s.hp) w s.hp R z y:=by
 unfold Qh at h;split at h
 ·rename_i b ver;split at h
  ·rename_i e vr st j ed sd pre row post hb;have hb':=hH _ _ hb;split at h;rotate_left;cases h
   rename_i kk i;split at h;rotate_left;cases h
   rename_i ti hti;split at h;rotate_left;cases h
   rename_i e2 hte;split at h;rotate_left;cases h
   rename_i ei qZ;split at h;rotate_left;cases h
   rename_i h1 h2;obtain⟨h0,hlt,hK⟩:=h;obtain⟨xs,hs1,hs2,a1,hlen,a3,a4,a5,a6,a7,g1,m1⟩:=g.Ld hb';have w9:lk (s.app [(b,.arr e vr st (bA st (qa pre row post) xs))]).hp b=some (.arr e vr st (bA st (qa pre row post) xs)):=by
    simp only[AS.app,List.singleton_append,ax,if_true]
   have hi:dS T (s.app [(b,.arr e vr st (bA st (qa pre row post) xs))]).hp t (.aB b ver) (.pv (.sc (.int kk i))) (fun z=>z=.bn b ver i.toNat 0):=by
    unfold dS;simp only[hti,hte,qZ,w9,h1,h2];exact⟨h0,by rw[jR];exact hlt,trivial⟩
   obtain⟨y,z,hrun,rfl,hz⟩:=jX g1 hT (fun _ _ h=>h) hi (m1 _ _ hx) (m1 _ _ hv);refine⟨y,_,hrun,hK,?_⟩;simp only[ai,w9,aZ] at hz;simp only[ai,hb',aZ];exact hz
  exact F7 g hT hH h hx hv
 exact F7 g hT hH h hx hv
theorem Om (g:bB c R s a w)(hT:bO P T){H:List (Nat×aA)}(hH:∀b box,lk H b=some box→lk s.hp b=some box){t ty:TypeId}{x:AV}{K:AV→Prop}
  (h:EU T H t x K) {u:Value} (hx:ai (aT c R s.hp) w s.hp R x u) :
  ∃y z,(Builtin.len_ #[t] ty #[u]).run P w=.ok y w∧K z∧ai (aT c R s.hp) w s.hp R z y:=by
 unfold EU at h;split at h
 ·rename_i b ver;split at h
  ·rename_i e vr st j ed sd pre row post hb;have hb':=hH _ _ hb;split at h;rotate_left;cases h
   rename_i i hi;split at h;rotate_left;cases h
   rename_i e2 hte;split at h;rotate_left;cases h
   rename_i h1;obtain⟨xs,hs1,hs2,a1,hlen,a3,a4,a5,a6,a7,g1,m1⟩:=g.Ld hb';have w9:lk (s.app [(b,.arr e vr st (bA st (qa pre row post) xs))]).hp b=some (.arr e vr st (bA st (qa pre row post) xs)):=by
    simp only[AS.app,List.singleton_append,ax,if_true]
   have hi:ES T (s.app [(b,.arr e vr st (bA st (qa pre row post) xs))]).hp t (.aB b ver) (fun z=>z=.pv (.sc (.int .i64 (pre.length+(dJ row+post.length):Nat)))):=by
    unfold ES;simp only[hi,hte,vw,w9,uM,h1,jR];rfl
   obtain⟨y,z,hrun,rfl,hz⟩:=tF (ty:=ty) g1 hT (fun _ _ h=>h) hi (m1 _ _ hx);refine⟨y,_,hrun,h,?_⟩;simp only[ai,bE] at hz ⊢;exact hz
  exact Dp g hT hH h hx
 exact Dp g hT hH h hx
end
def Jf (T:Tab)(H:List (Nat×aA))(t:TypeId)(b ver k kv:Nat)(K:AV→List (Nat×aA)→Prop):Prop:=
 match lk H k with
 | some (.dN e0 v0 P9 [] (r0::rr) [])=>match Nat.beq kv v0 with
   | true=>match lk T t with
     | some i=>match i.d with
       | .slt e=>match lk T e with
         | some ei=>tiF ei fun qb Mj=>match Nat.beq Mj 0,Nat.beq qb 0,Nat.beq P9 qb with
           | false,false,true=>match Nat.beq b k with
             |true=>False
             | false=>match lk H b with
               | some (.fP e' v st j ed sd pre [] [])=>match Nat.beq ver v,Nat.beq st qb,Nat.beq e' e with
                 |true,true,true=>(pre.length+1)*Mj≤140737488355328∧K (.aB b (v+1)) [(b,.fP e (v+1) qb j ed sd pre (r0::rr) [])]
                 |_,_,_=>False
               |_=>False
           |_,_,_=>False
         |none=>False
       |_=>False
     |none=>False
   |false=>False
 |_=>False
def ahJ (o:Option aA):Bool:=
 match o with
 |some (.fP _ _ _ _ _ _ _ _ _)=>true
 |_=>false
def CR (T:Tab)(H:List (Nat×aA))(t:TypeId)(vs:List AV)(id:Nat)(K:AV→List (Nat×aA)→Prop):Prop:=
 match vs with
 | [.aB b ver,.aB k kv]=>match ahJ (lk H b) with
   |true=>Jf T H t b ver k kv K
   |false=>yw T H t [.aB b ver,.aB k kv] id K
 |vs=>yw T H t vs id K
section
variable {P:Program}{T:Tab}{c:Ctx}{R:Real}{s:AS}{a:Act}{w:World}
theorem Oz (g:bB c R s a w)(hT:bO P T){H:List (Nat×aA)}(hH:∀b box,lk H b=some box→lk s.hp b=some box){id:Nat}(hf:lk s.hp id=none)
  {t ty:TypeId} {b ver k kv:Nat} {K:AV→List (Nat×aA)→Prop} (h:Jf T H t b ver k kv K) {u v:Value} (hd:ai (aT c R s.hp) w s.hp R (.aB b ver) u) (hx:ai (aT c R s.hp) w s.hp R (.aB k kv) v) :
  ∃y w' R' z ws,(Builtin.append_ #[t,t] ty #[u,v]).run P w=.ok y w'∧K z ws∧bB c R' (s.app ws) a w'∧ai (aT c R' (ws++s.hp)) w' (ws++s.hp) R' z y:=by
 unfold Jf at h;simp only[dH] at h;split at h;rotate_left;cases h
 rename_i e0 v0 P9 r0 rr hk;have hk':=hH _ _ hk;split at h;rotate_left;cases h
 rename_i hkv;split at h;rotate_left;cases h
 rename_i i hi;split at h;rotate_left;cases h
 rename_i e hte;split at h;rotate_left;cases h
 rename_i ei qZ;split at h;rotate_left;cases h
 rename_i h1 h2 h3;split at h
 ·exact h.elim
 rename_i hbk;have aj3:=Nat.ne_of_beq_eq_false hbk;split at h;rotate_left;cases h
 rename_i e' vr st j ed sd pre hb;have hb':=hH _ _ hb;split at h;rotate_left;cases h
 rename_i k1 k2 k3;obtain⟨hbd,hK⟩:=h;have k2':=Nat.eq_of_beq_eq_true k2;have k3':=Nat.eq_of_beq_eq_true k3;have k1':=Nat.eq_of_beq_eq_true k1;subst k2';subst k3';subst k1';obtain⟨xs,hs1,hs2,a1,hlen,a3,a4,a5,a6,a7,g1,m1⟩:=g.Ld hb';have hn:qa pre [] []=pre.length:=by simp[qa,dJ]
 rw[hn] at g1 m1 hlen;have hb1:lk (s.app [(b,.arr e' ver ei.size (bA ei.size pre.length xs))]).hp b=some (.arr e' ver ei.size (bA ei.size pre.length xs)):=by
  simp only[AS.app,List.singleton_append,ax,if_true]
 have hk1:lk (s.app [(b,.arr e' ver ei.size (bA ei.size pre.length xs))]).hp k=some (.dN e0 v0 P9 [] (r0::rr) []):=by
  simp only[AS.app,List.singleton_append,ax,if_neg aj3];exact hk'
 have ae5:id≠b:=fun e=>by rw[e,hb'] at hf;cases hf
 have Rv:CY T (s.app [(b,.arr e' ver ei.size (bA ei.size pre.length xs))]).hp t (.aB b ver) k kv id (fun z ws=>z=.aB b (ver+1)∧ws=[(b,.dN e' (ver+1) ei.size (bA ei.size pre.length xs) (r0::rr) [])]):=by
  unfold CY;simp only[dH,hi,hte,qZ,h1,h2,h3,hk1,hkv,hbk,hb1,Nat.beq_refl,jR];exact⟨hbd,trivial,trivial⟩
 obtain⟨y,w',R',z,ws,hrun,⟨rfl,rfl⟩,g2,hz⟩:=Dq g1 hT (fun _ _ h=>h) (by
  simp only[AS.app,List.singleton_append,ax,if_neg (show ¬b=id from fun e=>ae5 e.symm)];exact hf) (ty:=ty) Rv (m1 _ _ hd) (m1 _ _ hx)
 have hb2:lk ([(b,aA.dN e' (ver+1) ei.size (bA ei.size pre.length xs) (r0::rr) [])]++(s.app [(b,.arr e' ver ei.size (bA ei.size pre.length xs))]).hp) b=some (.dN e' (ver+1) ei.size (bA ei.size pre.length xs) (r0::rr) (bA ei.size ([]:List (Bool×List PV)).length [])):=by
  rw[List.singleton_append,ax,if_pos rfl];rfl
 have hDb:∀v r,some v∈(R.cap b).2→v.ownBlock=some r→R'.nil b=false→R'.blk b≠r:=by
  intro v r hv hr hn he;refine g2.free (R'.blk b) ⟨b,?_⟩ (.inr ⟨v,hv,by rw[he];exact hr⟩);show aI R' b (R'.blk b) (lk ([(b,aA.dN e' (ver+1) ei.size (bA ei.size pre.length xs) (r0::rr) [])]++(s.app [(b,.arr e' ver ei.size (bA ei.size pre.length xs))]).hp) b)
  rw[hb2];exact⟨hn,rfl⟩
 obtain⟨g3,m3⟩:=bB.YX g hb' g2 (e1:=e') (pz:=ver+1) (pre':=pre) (post':=[]) (xs:=xs) (zs:=[]) hb2 a1 a7 hDb (by rw[hlen];exact Nat.le_refl _) (by simp) a3 (A7 a6 (by simp));have hc:∀q,lk ([(b,aA.fP e' (ver+1) ei.size j ed sd pre (r0::rr) [])]++s.hp) q=lk ((b,aA.fP e' (ver+1) ei.size j ed sd pre (r0::rr) [])::([(b,aA.dN e' (ver+1) ei.size (bA ei.size pre.length xs) (r0::rr) [])]++(s.app [(b,.arr e' ver ei.size (bA ei.size pre.length xs))]).hp)) q:=by
  intro q;simp only[AS.app,List.singleton_append,ax];split<;>rfl
 exact⟨y,w',_,_,_,hrun,hK,bB.congr g3 (fun _=>rfl) hc,xO hc (m3 _ _ hz)⟩
theorem MJ (g:bB c R s a w)(hT:bO P T){H:List (Nat×aA)}(hH:∀b box,lk H b=some box→lk s.hp b=some box){id:Nat}(hf:lk s.hp id=none)
  {t ty:TypeId} {d x:AV} {K:AV→List (Nat×aA)→Prop} (h:CR T H t [d,x] id K) {u v:Value} (hd:ai (aT c R s.hp) w s.hp R d u) (hx:ai (aT c R s.hp) w s.hp R x v) :
  ∃y w' R' z ws,(Builtin.append_ #[t,t] ty #[u,v]).run P w=.ok y w'∧K z ws∧bB c R' (s.app ws) a w'∧ai (aT c R' (ws++s.hp)) w' (ws++s.hp) R' z y:=by
 unfold CR at h;split at h
 ·rename_i b ver k kv e;cases e;split at h
  ·exact Oz g hT hH hf h hd hx
  exact Dt g hT hH hf h hd hx
 exact Dt g hT hH hf h hd hx
end
def mV:List (Int×Int)→Int→Nat→Option (Nat×Int)
 |[],_,_=>none
 |(a,v)::r,n,i=>if n=a then some (i,v) else mV r n (i+1)
def Ol (es:List (Int×Int))(n:Int):Int:=
 match mV es n 0 with
 |some p=>p.2
 |none=>0
def yE (es:List (Int×Int))(n v:Int):List (Int×Int):=
 match mV es n 0 with
 |some p=>es.modify p.1 fun _=>(n,v)
 |none=>es++[(n,v)]
def rU (T:Tab)(t:TypeId):Option (IntKind×IntKind):=
 match lk T t with
 | some i=>match i.d with
   | .aeA kt et=>match lk T kt,lk T et with
     | some ki,some ei=>match ki.d,ei.d with
       | .zN kk,.zN _=>match ei.zero with
         |[.int kv (.ofNat 0)]=>some (kk,kv)
         |_=>none
       |_,_=>none
     |_,_=>none
   |_=>none
 |none=>none
def BB (T:Tab)(t:TypeId)(id:Nat)(K:AV→List (Nat×aA)→Prop):Prop:=
 match rU T t with
 |some (kk,kv)=>K (.bn id 0 0 0) [(id,.mp kk kv [])]
 |none=>False
def Ja (T:Tab)(H:List (Nat×aA))(t:TypeId)(x ix:AV)(K:AV→Prop):Prop:=
 match rU T t with
 | some (kk,kv)=>match x with
   | .bn b _ _ _=>match lk H b with
     | some (.mp kk' XV es)=>match ix with
       |.pv (.sc (.int k n))=>k=kk'∧XV=kv∧K (.pv (.sc (.int kv (Ol es n))))
       |_=>False
     |_=>False
   |_=>False
 |none=>False
def wY (T:Tab)(H:List (Nat×aA))(t:TypeId)(x ix y:AV)(K:AV→List (Nat×aA)→Prop):Prop:=
 match rU T t with
 | some (kk,kv)=>match x with
   | .bn b _ _ _=>match lk H b with
     | some (.mp kk' XV es)=>match ix with
       | .pv (.sc (.int k n))=>match y with
         |.pv (.sc (.int k2 m))=>k=kk'∧k2=XV∧K (.pv (.sc undef)) [(b,.mp kk' XV (yE es n m))]
         |_=>False
       |_=>False
     |_=>False
   |_=>False
 |none=>False
def EI (T:Tab)(H:List (Nat×aA))(t:TypeId)(x:AV)(K:AV→Prop):Prop:=
 match x with
 | .bn b ver k off=>match lk H b with
   | some (.mp _ _ es)=>match rU T t with
     |some _=>K (.pv (.sc (.int .i64 es.length)))
     |none=>False
   |_=>False
 |x=>EU T H t x K
section
variable {P:Program}{T:Tab}{c:Ctx}{R:Real}{s:AS}{a:Act}{w:World}
theorem pQ (hT:bO P T){t:TypeId}{kk kv:IntKind}(h:rU T t=some (kk,kv)) :
  ∃kt et,P.underlying t=some (.map kt et)∧P.underlying kt=some (.int kk)∧∀w:World,(zeroValue et).run P w=.ok (.int kv 0) w:=by
 unfold rU at h;split at h
 ·rename_i i hi;split at h
  ·rename_i kt et hd;split at h
   ·rename_i ki ei hk he;split at h
    ·rename_i kk' XV h1 h2;split at h
     ·rename_i kv0 hz;simp only[Option.some.injEq,Prod.mk.injEq] at h;obtain⟨rfl,rfl⟩:=h;obtain⟨d,q1,q2⟩:=(hT t i hi).iM;obtain⟨d2,r1,r2⟩:=(hT _ _ hk).iM;rw[hd] at q2;rw[h1] at r2;cases d<;>simp[di] at q2
      cases d2<;>simp[di] at r2
      obtain⟨rfl,rfl⟩:=q2;subst r2;refine⟨_,_,q1,r1,fun w=>?_⟩;obtain⟨zv,z1,z2,z3⟩:=(hT _ _ he).q8 w;rw[h2] at z3;rw[hz] at z2;have:zv=.int kv0 0:=by
       cases zv<;>simp[DI.isAgg] at z3<;>simp[Value.cells] at z2
       obtain⟨rfl,rfl⟩:=z2;rfl
      rw[z1,this]
     cases h
    cases h
   cases h
  cases h
 cases h
theorem xP {r:Nat}{es:Array MapEntry}{clock:Nat}(h:w.heap[r]? = some (.map es clock)):(getObj r).run P w=.ok (.map es clock) w:=by
 simp[getObj,Sem.run,h]
theorem zm {q kk kv:IntKind}{n:Int}:∀(cur:List MapEntry) (es:List (Int×Int)) (i:Nat),cur.map (fun e=>(e.key,e.val))=es.map (fun e=>(Value.int kk e.1,Value.int kv e.2)) →
  Instr.findNow (.int q) (.int kk n) cur i=some ((mV es n i).map fun p=>(p.1,.int kv p.2))
 |[],[],i,_=>rfl
 |[],_::_,i,h=>by simp at h
 |_::_,[],i,h=>by simp at h
 | e::cur,(x,v)::es,i,h=>by
   simp only[List.map_cons,List.cons.injEq,Prod.mk.injEq] at h;obtain⟨⟨h1,h2⟩,h3⟩:=h;have ih:=zm (q:=q) (n:=n) cur es (i+1) h3;unfold Instr.findNow;rw[h1];simp only[Instr.sameNow,if_true,mV];by_cases hx:n=x
   ·subst hx;simp[h2]
   have hb:(n==x)=false:=by simp[hx]
   rw[hb,if_neg hx];exact ih
theorem KA (g:bB c R s a w)(hT:bO P T){id:Nat}(hf:lk s.hp id=none){t:TypeId}{K:AV→List (Nat×aA)→Prop}(h:BB T t id K) :
  ∃y w' R' z ws,(Instr.makeMap t none).run P w=.ok y w'∧K z ws∧bB c R' (s.app ws) a w'∧ai (aT c R' (ws++s.hp)) w' (ws++s.hp) R' z y:=by
 unfold BB at h;split at h;rotate_left;cases h
 rename_i kk kv hk;have hw:∀b',b'≠id→_:=Real.zJ R id w.heap.size false 0;refine⟨.map (some w.heap.size),{ w with heap:=w.heap.push (.map #[] 0) },R.at id w.heap.size false 0,_,_,by simp[Instr.makeMap],h,?_,?_⟩
 ·exact (g.QZ (box:=.mp kk kv []) (w':={ w with heap:=w.heap.push (.map #[] 0) }) (o:=.map #[] 0) hf ⟨rfl,rfl,rfl,rfl⟩ hw (fun _=>by simp[Real.at]) (fun _ h=>by cases h) fun hm=>by
   refine⟨#[],0,?_,by simp[Real.at],by simp⟩;simp[Real.at]).1
 simp only[ai,List.singleton_append,ax,if_true,aZ];exact⟨Nat.zero_le _,rfl,by simp[Real.at]⟩
theorem wE {kt:TypeId}{q k:IntKind}{n:Int}(h:P.underlying kt=some (.int q))(e:Bool):(Instr.checkKey e 10000 kt (.int k n)).run P w=.ok () w:=by
 unfold Instr.checkKey;simp[run_underlying h]
theorem ML (g:bB c R s a w)(hT:bO P T){H:List (Nat×aA)}(hH:∀b box,lk H b=some box→lk s.hp b=some box){t:TypeId}{x ix:AV}{K:AV→Prop}
  (h:Ja T H t x ix K) {u v:Value} (hx:ai (aT c R s.hp) w s.hp R x u) (hv:ai (aT c R s.hp) w s.hp R ix v) :
  ∃y z,(Instr.lookup t u v false).run P w=.ok y w∧K z∧ai (aT c R s.hp) w s.hp R z y:=by
 unfold Ja at h;split at h;rotate_left;cases h
 rename_i kk kv hk;obtain⟨kt,et,h1,h2,h3⟩:=pQ hT hk;split at h;rotate_left;cases h
 rename_i b ver i off;split at h;rotate_left;cases h
 rename_i kk' XV es hb;have hb':=hH _ _ hb;split at h;rotate_left;cases h
 rename_i k n;obtain⟨rfl,rfl,hK⟩:=h;simp only[ai,hb',aZ] at hx;obtain⟨_,_,rfl⟩:=hx;simp only[ai,bE] at hv;subst hv;obtain⟨cur,clock,q1,q2,q3⟩:=g.boxes b _ hb';have hfind:=zm (q:=kk) (n:=n) cur.toList es 0 q3;refine⟨.int XV (Ol es n),_,?_,hK,by simp only[ai,bE]⟩;simp only[Instr.lookup,Sem.run_bind,run_underlying h1,Result.andThen_ok,xP q1,Sem.run_pure,wE h2,Instr.findKey,run_underlying h2,hfind];unfold Ol;cases mV es n 0 with
 |none=>simp[h3 w]
 |some p=>simp
theorem JV {r:Nat}{es:Array MapEntry}{clock:Nat}(o:Obj)(h:w.heap[r]? = some (.map es clock)):(setObj r o).run P w=.ok () { w with heap:=w.heap.setIfInBounds r o }:=by
 simp[setObj,Sem.run,h]
theorem JW:∀{es:List (Int×Int)} {n:Int} {j:Nat} {p:Nat×Int},mV es n j=some p→j≤p.1∧es[p.1-j]? = some (n,p.2)
 |[],n,j,p,h=>by simp[mV] at h
 | (x,v)::r,n,j,p,h=>by
   simp only[mV] at h;split at h
   ·rename_i e;simp only[Option.some.injEq] at h;subst h;subst e;simp
   obtain⟨h1,h2⟩:=JW h;refine⟨by omega,?_⟩;rw[show p.1-j=(p.1-(j+1))+1 by omega];simpa using h2
theorem JX {kk kv:IntKind}{n m:Int}:∀(cur:List MapEntry) (es:List (Int×Int)) (i:Nat),cur.map (fun e=>(e.key,e.val))=es.map (fun e=>(Value.int kk e.1,Value.int kv e.2)) →
  (cur.modify i fun e=>{ e with key:=.int kk n,val:=.int kv m }).map (fun e=>(e.key,e.val))=(es.modify i fun _=>(n,m)).map (fun e=>(Value.int kk e.1,Value.int kv e.2))
 |[],[],i,_=>by cases i<;>rfl
 |[],_::_,i,h=>by simp at h
 |_::_,[],i,h=>by simp at h
 | e::cur,p::es,0,h=>by
   simp only[List.map_cons,List.cons.injEq] at h;simp only[List.modify_zero_cons,List.map_cons,h.2]
 | e::cur,p::es,i+1,h=>by
   simp only[List.map_cons,List.cons.injEq] at h;simp only[List.modify_succ_cons,List.map_cons,h.1,JX cur es i h.2]
theorem H6 (g:bB c R s a w)(hT:bO P T){H:List (Nat×aA)}(hH:∀b box,lk H b=some box→lk s.hp b=some box){t:TypeId}{x ix y:AV}{K:AV→List (Nat×aA)→Prop}
  (h:wY T H t x ix y K) {u v z:Value} (hx:ai (aT c R s.hp) w s.hp R x u) (hv:ai (aT c R s.hp) w s.hp R ix v) (hy:ai (aT c R s.hp) w s.hp R y z) :
  ∃w' ws,(Instr.mapUpdate t u v z).run P w=.ok () w'∧K (.pv (.sc undef)) ws∧bB c R (s.app ws) a w':=by
 unfold wY at h;split at h;rotate_left;cases h
 rename_i kk kv hk;obtain⟨kt,et,h1,h2,h3⟩:=pQ hT hk;split at h;rotate_left;cases h
 rename_i b ver i off;split at h;rotate_left;cases h
 rename_i kk' XV es hb;have hb':=hH _ _ hb;split at h;rotate_left;cases h
 rename_i k n;split at h;rotate_left;cases h
 rename_i k2 m;obtain⟨rfl,rfl,hK⟩:=h;simp only[ai,hb',aZ] at hx;obtain⟨_,_,rfl⟩:=hx;simp only[ai,bE] at hv hy;subst hv;subst hy;obtain⟨cur,clock,q1,q2,q3⟩:=g.boxes b _ hb';have hfind:=zm (q:=kk) (n:=n) cur.toList es 0 q3;have fin:∀(abM:Array MapEntry) (Rw:Nat),abM.toList.map (fun e=>(e.key,e.val))=(yE es n m).map (fun e=>(Value.int k e.1,Value.int k2 e.2)) →
   bB c R (s.app [(b,.mp k k2 (yE es n m))]) a { w with heap:=w.heap.setIfInBounds (R.blk b) (.map abM Rw) }:=by
  intro abM Rw hq;have hlt:=(Array.getElem?_eq_some_iff.1 q1).1;have hR:∀b',b'≠b→R.blk b'=R.blk b'∧R.nil b'=R.nil b'∧R.cap b'=R.cap b':=fun _ _=>⟨rfl,rfl,rfl⟩
  refine g.upd (b:=b) (bD:=.mp k k2 (yE es n m)) (nx':=s.nx) hR (fun off v h=>by rw[hb'] at h;exact h) (fun ver v h=>by rw[hb'] at h;exact h) (fun ver i off v h=>by rw[hb'] at h;exact h)
   (fun r h=>by rw[hb'];exact .inl h) ⟨by simp,fun r hr hn=>?_,rfl,rfl,rfl⟩ ⟨abM,Rw,by simp[hlt],q2,hq⟩ rfl
  have hne:R.blk b≠r:=fun e=>hn (by rw[hb'];exact⟨q2,e⟩)
  simp only[Array.getElem?_setIfInBounds,hne,if_false]
 cases hm:mV es n 0 with
 | none=>
   rw[hm] at hfind;refine⟨_,_,?_,hK,fin (cur.push { key:=.int k n,val:=.int k2 m,born:=clock }) (clock+1) ?_⟩
   ·simp only[Instr.mapUpdate,Sem.run_bind,run_underlying h1,Result.andThen_ok,xP q1,wE h2,Instr.findKey,run_underlying h2,hfind,Option.map_none,Sem.run_pure,JV _ q1]
   simp only[yE,hm,Array.toList_push,List.map_append,q3,List.map_cons,List.map_nil]
 | some p=>
   rw[hm] at hfind;obtain⟨_,hat⟩:=JW hm;have ad6:(cur[p.1]?).map (·.key)=some (.int k n):=by
    have:=congrArg (fun l=>l[p.1]?) q3;simp only[List.getElem?_map] at this;rw[Nat.sub_zero] at hat;rw[hat] at this;simp only[Option.map_some,Array.getElem?_toList] at this;cases hc:cur[p.1]? with
    |none=>rw[hc] at this;simp at this
    |some e=>rw[hc] at this;simp at this;simp[this.1]
   refine⟨_,_,?_,hK,fin (cur.modify p.1 fun e=>{ e with key:=.int k n,val:=.int k2 m }) clock ?_⟩
   ·have hkeep:(Instr.keyThatStays (.int k n) (.int k n)).run P w=.ok (.int k n) w:=by
     simp[Instr.keyThatStays,Instr.sameBits]
    simp only[Instr.mapUpdate,Sem.run_bind,run_underlying h1,Result.andThen_ok,xP q1,wE h2,Instr.findKey,run_underlying h2,hfind,Option.map_some,Sem.run_pure,ad6,Option.getD_some,hkeep,JV _ q1]
   simp only[yE,hm,Array.toList_modify];exact JX _ _ _ q3
theorem MK (g:bB c R s a w)(hT:bO P T){H:List (Nat×aA)}(hH:∀b box,lk H b=some box→lk s.hp b=some box){t ty:TypeId}{x:AV}{K:AV→Prop}
  (h:EI T H t x K) {u:Value} (hx:ai (aT c R s.hp) w s.hp R x u) :
  ∃y z,(Builtin.len_ #[t] ty #[u]).run P w=.ok y w∧K z∧ai (aT c R s.hp) w s.hp R z y:=by
 unfold EI at h;split at h
 ·rename_i b ver i off;split at h;rotate_left;cases h
  rename_i kk' XV es hb;have hb':=hH _ _ hb;split at h;rotate_left;cases h
  rename_i kp hk;obtain⟨kt,et,h1,h2,h3⟩:=pQ (kk:=kp.1) (kv:=kp.2) hT hk;simp only[ai,hb',aZ] at hx;obtain⟨_,_,rfl⟩:=hx;obtain⟨cur,clock,q1,q2,q3⟩:=g.boxes b _ hb';have hl:cur.size=es.length:=by have:=congrArg List.length q3;simpa using this
  exact⟨.int .i64 es.length,_,by simp[Builtin.len_,run_underlying h1,xP q1,goInt,hl],h,by simp only[ai,bE]⟩
 exact Om g hT hH h hx
end
def yT (T:Tab)(t:TypeId)(x ix:AV)(K:AV→Prop):Prop:=
 match x with
 | .pv (.agg cs)=>match ix with
   | .pv (.sc (.int _ i))=>match lk T t with
     | some ti=>match ti.d with
       | .QV n e=>match lk T e with
         | some ei=>match part (i.toNat*ei.size) ei.size cs with
           |some ds=>(0≤i∧i<n)∧sQ ei (ds.map .pv) K
           |none=>False
         |none=>False
       |_=>False
     |none=>False
   |_=>False
 |x=>oW T t x ix K
section
variable {P:Program}{T:Tab}{R:Real}{w:World}
theorem Ky (hT:bO P T){N:Nat→Prop}{hp:List (Nat×aA)}{t:TypeId}{x ix:AV}{K:AV→Prop}
  (h:yT T t x ix K) {u v:Value} (hx:ai N w hp R x u) (hv:ai N w hp R ix v) :
  ∃y z,(Instr.index t u v).run P w=.ok y w∧K z∧ai N w hp R z y:=by
 unfold yT at h;split at h
 ·rename_i cs;split at h;rotate_left;cases h
  rename_i k i;split at h;rotate_left;cases h
  rename_i ti hti;split at h;rotate_left;cases h
  rename_i n e hte;split at h;rotate_left;cases h
  rename_i ei qZ;split at h;rotate_left;cases h
  rename_i ds hds;obtain⟨⟨h0,h1⟩,h⟩:=h;simp only[ai,bE] at hx hv;subst hv;obtain⟨vs,rfl,hx⟩:=hx;rw[gM] at hx;obtain⟨p1,p2⟩:=hx.fp.part hds;obtain⟨d,hd,iE⟩:=(hT t ti hti).iM;have hd':P.underlying t=some (.array n e):=by
   rw[hte] at iE;cases d<;>simp[di] at iE
   obtain⟨rfl,rfl⟩:=iE;exact hd
  have hf:FC (ai N w hp R) (ds.map .pv) ((vs.toList.drop (i.toNat*ei.size)).take ei.size):=FC.map (fun p v hv=>by simpa only[ai] using hv) p2;obtain⟨y,z,k1,k2,k3⟩:=Fv (hT e ei qZ) h hf (by simpa using p1);refine⟨y,z,?_,k2,k3⟩;simp only[Instr.index,asIntOf,Sem.run_bind,Sem.run_pure,Result.andThen_ok,run_underlying hd',h0,h1,and_self,if_true,(hT e ei qZ).run_sizeOf];exact k1
 exact KU hT h hx hv
end
def Rx (j:TI):List Nat→List AV→List AV→Option (List AV)
 |[],[],cells=>some cells
 | k::ks,v::vs,cells=>match cellsOf j v with
   | some cs=>match Nat.beq cs.length j.size with
     | true=>match jU (k*j.size) cells cs with
       |some cells'=>Rx j ks vs cells'
       |none=>none
     |false=>none
   |none=>none
 |_,_,_=>none
def mI (T:Tab)(t:TypeId)(ks:List Nat)(vs:List AV)(K:AV→Prop):Prop:=
 match lk T t with
 | some i=>match i.d with
   | .QV _ e=>match lk T e with
     | some j=>match zAV i.zero with
       | some z=>match Rx j ks vs z with
         | some cells=>match zM cells with
           |some v=>K v
           |none=>False
         |none=>False
       |none=>False
     |none=>False
   |_=>Bw T t ks vs K
 |none=>False
section
variable {P:Program}{T:Tab}{R:Real}{w:World}
theorem Du {N:Nat→Prop}{hp:List (Nat×aA)}(j:TI) :
  ∀(ks:List Nat) (vs cells cells':List AV) (us:List Value) (zs:Array Value),Rx j ks vs cells=some cells'→FL (ai N w hp R) vs us→FC (ai N w hp R) cells zs.toList →
   ∃Ut,Instr.fill (fun i=>some (i*j.size,j.size)) zs (ks.zip us)=some Ut∧FC (ai N w hp R) cells' Ut.toList
 | [],[],cells,cells',us,zs,h,hv,hz=>by
   simp only[Rx,Option.some.injEq] at h;subst h;simp only[FL] at hv;subst hv;exact⟨zs,rfl,hz⟩
 |[],v::vs,cells,cells',us,zs,h,hv,hz=>by simp[Rx] at h
 |f::ks,[],cells,cells',us,zs,h,hv,hz=>by simp[Rx] at h
 | f::ks,v::vs,cells,cells',us,zs,h,hv,hz=>by
   obtain⟨u,r,rfl,hu,hv⟩:=hv;simp only[Rx] at h;split at h
   ·rename_i cs hcs;split at h
    ·rename_i hl;have hl:=Nat.eq_of_beq_eq_true hl;split at h
     ·rename_i c2 hc2;have hcu:=jl hcs hu;obtain⟨hle,hset⟩:=FC.jU hz hcu hc2;have sJ:u.cells.size=j.size:=by rw[←hl,←hcu.length];simp
      simp only[List.zip_cons_cons,Instr.fill];have ai5:f*j.size+j.size≤zs.size:=by simp only[Array.length_toList] at hle;omega
      rw[if_neg (by simp[sJ];omega)];have Ey:(u.cells.zipIdx.foldl (fun cs (x:Value×Nat)=>cs.setIfInBounds (f*j.size+x.2) x.1) zs).toList=zs.toList.take (f*j.size)++u.cells.toList++zs.toList.drop (f*j.size+u.cells.toList.length):=by
       rw[←uX (f*j.size) u.cells.toList zs (by simpa using hle)];rw[←Array.foldl_toList,Array.toList_zipIdx]
      exact Du j ks vs c2 cells' r _ h hv (by rw[Ey];exact hset)
     cases h
    cases h
   cases h
theorem DU (hT:bO P T){N:Nat→Prop}{hp:List (Nat×aA)}{t:TypeId}{ks:List Nat}{vs:List AV}{us:List Value}{K:AV→Prop}(h:mI T t ks vs K)
  (hv:FL (ai N w hp R) vs us):∃y z,(Instr.build t (ks.zip us).toArray).run P w=.ok y w∧K z∧ai N w hp R z y:=by
 unfold mI at h;split at h;rotate_left;cases h
 rename_i i hi;have hi':=hT _ _ hi;split at h
 ·rename_i n e hte;obtain⟨d,hd,iE⟩:=hi'.iM;obtain⟨zv,hz1,hz2,hz3⟩:=hi'.q8 w;have hd':P.underlying t=some (.array n e):=by
   rw[hte] at iE;cases d<;>simp[di] at iE
   obtain⟨rfl,rfl⟩:=iE;exact hd
  split at h;rotate_left;cases h
  rename_i j hj;split at h;rotate_left;cases h
  rename_i z hz;have:=Ko hz;subst this;split at h;rotate_left;cases h
  rename_i cells hcells;split at h;rotate_left;cases h
  rename_i v hv';obtain⟨Ut,hf1,hf2⟩:=Du j ks vs _ cells us zv.cells hcells hv (by rw[hz2];exact sK hi'.Uu);refine⟨.agg Ut,v,?_,h,?_⟩
  ·simp only[Instr.build,Sem.run_bind,hz1,Result.andThen_ok,run_underlying hd',(hT _ _ hj).run_sizeOf,hf1,Sem.run_pure]
  unfold zM at hv';split at hv'
  ·rename_i ps hps;simp only[Option.some.injEq] at hv';subst hv';simp only[ai,bE];exact⟨Ut,rfl,by rw[gM];exact q9 hps hf2⟩
  simp only[Option.some.injEq] at hv';subst hv';simp only[ai];exact⟨Ut,rfl,by rw[bF];exact hf2⟩
 exact Kn hT h hv
end
def jE (tm:List (Nat×AV))(x:Operand):Option AV:=
 match x with
 |.tmp t=>lk tm t
 |.const v=>some (.pv (.sc v))
 |.func f=>some (.pv (.fn (.func f) [] []))
 |.global _=>none
def evs (tm:List (Nat×AV)):List Operand→Option (List AV)
 |[]=>some []
 | x::r=>match jE tm x with
   | some v=>match evs tm r with
     |some vs=>some (v::vs)
     |none=>none
   |none=>none
def Uw:List AV→List Nat
 |v::_=>refs v
 |[]=>[]
def Qe:List AV→List Nat
 |[]=>[]
 | v::r=>match v with
   |.bn b _ _ _=>b::Qe r
   |_=>Qe r
def Hw (op:Op)(vs:List AV):List Nat:=
 match op with
 |.load _ _=>dY vs
 |.store _ _ _=>Uw vs
 |.nilCheck _=>dY vs
 |.convert _ _ _=>dY vs
 |.makeFunc _ _ _=>dY vs
 |.slice _ _ _ _ _=>dY vs
 |.fieldAddr _ _ _=>dY vs
 |.indexAddr _ _ _=>dY vs
 |.buildSlice _ _ _=>dY vs
 |.call _=>dY vs
 |.unOp _ _ _=>dY vs
 |.binOp _ _ _ _ _=>Qe vs
 |.lookup _ _ _ _=>dY vs
 |.mapUpdate _ _ _ _=>dY vs
 |_=>[]
def Ux (H:List (Nat×aA))(op:UnOp)(x:AV)(K:AV→Prop):Prop:=
 match x with
 | .bn b ver i off=>match op with
   | .not=>match lk H b with
     | some (.tr _ v _ st)=>match st with
       | none=>match Nat.beq ver v with
         | true=>match off with
           |0=>K (.bn b ver i 1)
           |1=>K (.bn b ver i 0)
           |_=>False
         |false=>False
       |some _=>False
     |_=>False
   |_=>False
 |x=>cUn op x K
theorem Qf {P:Program}{w:World}{R:Real}{N:Nat→Prop}{hp:List (Nat×aA)}{H:List (Nat×aA)}(hH:∀b box,lk H b=some box→lk hp b=some box){op:UnOp}{x:AV}{K:AV→Prop}(h:Ux H op x K){u:Value}(hx:ai N w hp R x u) :
  ∃y v,(Op.unary op u).run P w=.ok y w∧K v∧ai N w hp R v y:=by
 unfold Ux at h;split at h
 ·rename_i b ver i off;split at h;rotate_left;cases h
  split at h;rotate_left;cases h
  rename_i y v rest st hb;split at h;rotate_left;cases h
  split at h;rotate_left;cases h
  rename_i hv;have hb':=hH _ _ hb;simp only[ai,hb',aZ] at hx;obtain⟨h1,h2,h3⟩:=hx;have h3:=h3 (Nat.eq_of_beq_eq_true hv) (by trivial);subst h3;split at h
  ·refine⟨.bool (!(R.nil b != Nat.beq 0 1)),_,by simp[Op.unary],h,?_⟩;simp only[ai,hb',aZ];exact⟨h1,rfl,fun _ _=>by cases R.nil b<;>rfl⟩
  ·refine⟨.bool (!(R.nil b != Nat.beq 1 1)),_,by simp[Op.unary],h,?_⟩;simp only[ai,hb',aZ];exact⟨h1,rfl,fun _ _=>by cases R.nil b<;>rfl⟩
  exact h.elim
 exact Uy h hx
def SG (H:List (Nat×aA))(v:AV):Bool:=
 match v with
 |.ptr _ _=>true
 |.pv (.bJ _ _)=>true
 |.pv (.fn (.func _) _ _)=>true
 | .bn b ver _ _=>match SH (lk H b) with
   |some k=>Nat.beq ver k
   |none=>false
 |_=>false
def ai7:AV→Bool
 |.bn _ _ _ _=>true
 |_=>false
def EH (T:Tab)(H:List (Nat×aA))(op:BinOp)(t:TypeId)(x y:AV)(K:AV→Prop):Prop:=
 match ai7 x with
 | true=>match y with
   | .pv (.sc (.pointer none))=>match SG H x with
     | true=>match lk T t with
       | some i=>match i.d with
         |.Qg _=>SI op false K
         |_=>False
       |none=>False
     |false=>False
   |_=>False
 |false=>Hy T op t x y K
def cop (P:Program)(T:Tab)(op:Op)(vs:List AV)(H:List (Nat×aA))(id:Nat)(K:AV→List (Nat×aA)→Prop):Prop:=
 match op with
 | .move _=>match vs with
   |[v]=>K v []
   |_=>False
 | .assign _=>match vs with
   |[v]=>K v []
   |_=>False
 | .pick _ _ _=>match vs with
   | [.pv (.sc (.bool c)),x,y]=>match c with
     |true=>K x []
     |false=>K y []
   |_=>False
 |.alloc t=>Bz T t id K
 | .box t _=>match vs with
   |[x]=>Uv T t x id K
   |_=>False
 |.build t ps=>mI T t (ps.toList.map (·.1)) vs fun v=>K v []
 |.buildSlice t n ps=>qc T H t n (ps.toList.map (·.1)) vs id K
 | .load t _=>match vs with
   |[x]=>yS T H t x fun v=>K v []
   |_=>False
 | .store t _ _=>match vs with
   |[x,y]=>sM T H t x y K
   |_=>False
 | .nilCheck _=>match vs with
   | [x]=>match SG H x with
     |true=>K x []
     |false=>False
   |_=>False
 | .binOp op t _ _ _=>match vs with
   |[x,y]=>EH T H op t x y fun v=>K v []
   |_=>False
 | .unOp op _ _=>match vs with
   |[x]=>Ux H op x fun v=>K v []
   |_=>False
 | .convert src dst _=>match vs with
   |[x]=>u6 T H src dst x K
   |_=>False
 |.makeFunc f first _=>I5 H f first.size vs K
 |.makeSlice t _ _=>uZ T t vs id K
 |.slice t _ l h m=>qd T H t l h m vs K
 | .fieldAddr t _ f=>match vs with
   |[x]=>mJ T H t x f fun v=>K v []
   |_=>False
 | .field t _ f=>match vs with
   |[x]=>MF T t x f fun v=>K v []
   |_=>False
 | .indexAddr t _ _=>match vs with
   |[x,y]=>Qh T H t x y fun v=>K v []
   |_=>False
 | .index t _ _=>match vs with
   |[x,y]=>yT T t x y fun v=>K v []
   |_=>False
 | .extract _ i=>match vs with
   |[x]=>rq x i fun v=>K v []
   |_=>False
 | .call c=>match c.callee with
   |.value _=>I8 P H vs K
   | .builtin b=>match b with
     | .append=>match c.argTypes.toList with
       | [t,t']=>match Nat.beq t t' with
         |true=>CR T H t vs id K
         |false=>False
       |_=>False
     | .len=>match c.argTypes.toList with
       | [t]=>match vs with
         |[x]=>EI T H t x fun v=>K v []
         |_=>False
       |_=>False
     | .clear=>match c.argTypes.toList with
       | [t]=>match vs with
         |[x]=>BA T H t x K
         |_=>False
       |_=>False
     |.max=>cMM true vs fun v=>K v []
     |.min=>cMM false vs fun v=>K v []
     |_=>False
   |.invoke _ _=>False
 | .makeMap t r=>match r with
   |none=>BB T t id K
   |some _=>False
 | .lookup t _ _ ok=>match ok with
   | false=>match vs with
     |[x,y]=>Ja T H t x y fun v=>K v []
     |_=>False
   |true=>False
 | .mapUpdate t _ _ _=>match vs with
   |[x,y,z]=>wY T H t x y z K
   |_=>False
 |_=>False
def zR (P:Program)(T:Tab)(op:Op)(vs:List AV)(hp:List (Nat×aA))(id:Nat)(K:AV→List (Nat×aA)→List Nat→Prop):Prop:=
 match Hw op vs with
 | ids=>match j5 hp ids with
   |some H=>cop P T op vs H id fun v ws=>K v ws ids
   |none=>False
def mK (op:Op):Bool:=
 match op with
 | .call c=>match c.callee with
   |.value _=>true
   |_=>false
 |_=>false
def lC (P:Program)(T:Tab)(op:Op)(vs:List AV)(hp:List (Nat×aA))(id:Nat)(K:AV→List (Nat×aA)→List Nat→Prop):Prop:=
 match SK hp vs with
 |true=>dC P hp vs K
 |false=>zR P T op vs hp id K
def gen (T:Tab):Bool:=
 match T with
 | (a,_)::(b,_)::(c,_)::_=>match Nat.beq a b with
   |true=>Nat.beq b c
   |false=>false
 |_=>false
def mk3 (T:Tab):Tab:=
 match T with
 |x::r=>x::x::x::r
 |[]=>[]
theorem ad7 (T:Tab)(t:Nat):lk (mk3 T) t=lk T t:=by
 cases T with
 |nil=>rfl
 | cons x r=>
   obtain⟨k,v⟩:=x;simp only[mk3,ax];split<;>rfl
theorem bO.mk3 {P:Program}{T:Tab}(h:bO P T):bO P (mk3 T):=fun t i hi=>h t i (by rw[←ad7 T t];exact hi)
def Xe (P:Program)(T:Tab)(o:Oper)(tm:List (Nat×AV))(hp:List (Nat×aA))(id:Nat)(K:AV→List (Nat×aA)→List Nat→Prop):Prop:=
 match evs tm (kG o.op) with
 | some vs=>match mK o.op with
   | true=>match isY vs with
     |true=>yC P hp vs K
     | false=>(lC P T o.op vs hp id K∨gC P hp id vs K)∨match gen T with
       |true=>gI P hp id vs K
       |false=>gV P hp id vs K
   |false=>zR P T o.op vs hp id K
 |none=>False
theorem CS {hp:List (Nat×aA)}:∀{ids:List Nat} {H:List (Nat×aA)},j5 hp ids=some H→∀b box,lk H b=some box→lk hp b=some box
 |[],H,h=>by simp only[j5,Option.some.injEq] at h;subst h;intro b box hb;simp[lk] at hb
 | i::r,H,h=>by
   simp only[j5] at h;split at h
   ·rename_i bx hbx;split at h
    ·rename_i t ht;simp only[Option.some.injEq] at h;subst h;intro b box hb;rw[ax] at hb;split at hb
     ·rename_i e;simp only[Option.some.injEq] at hb;rw[←e,←hb];exact hbx
     exact CS ht b box hb
    cases h
   cases h
section
variable {P:Program}{T:Tab}{c:Ctx}{R:Real}{s:AS}{a:Act}{w:World}
theorem wZ (g:bB c R s a w){x:Operand}{v:AV}(h:jE s.tm x=some v):ai (aT c R s.hp) w s.hp R v (a.eval x):=by
 unfold jE at h;split at h
 ·rename_i t;obtain⟨y,h1,h2⟩:=g.slots t v h;have:a.eval (.tmp t)=y:=by simp[Act.eval,h1]
  rw[this];exact h2
 ·simp only[Option.some.injEq] at h;subst h;simp only[ai,bE,Act.eval]
 ·simp only[Option.some.injEq] at h;subst h;simp only[ai,bE,Act.eval];exact⟨#[],#[],rfl,rfl,rfl⟩
 cases h
theorem kZ (g:bB c R s a w):∀{xs:List Operand} {vs:List AV},evs s.tm xs=some vs→FL (ai (aT c R s.hp) w s.hp R) vs (xs.map a.eval)
 |[],vs,h=>by simp only[evs,Option.some.injEq] at h;subst h;rfl
 | x::xs,vs,h=>by
   simp only[evs] at h;split at h
   ·rename_i v hv;split at h
    ·rename_i SL hvs;simp only[Option.some.injEq] at h;subst h;exact⟨_,_,rfl,wZ g hv,kZ g hvs⟩
    cases h
   cases h
def Nx (c:Ctx)(s:AS)(o:Oper)(K:AV→List (Nat×aA)→Prop)(a:Act)(w:World):Prop:=
 ∃R v ws,K v ws∧bB c R ((s.app ws).put o.dst v) a w
theorem jG {o:Oper}{K:AV→List (Nat×aA)→Prop}{Q:Exit→Act→World→Prop}(hd:∀t,o.dst=some t→t<c.n){y:Value}{w':World}{R':Real}{v:AV}{ws:List (Nat×aA)}
  (hrun:(execOp a.eval o).run P w=.ok (.value y) w') (hK:K v ws) (g:bB c R' (s.app ws) a w') (hr:ai (aT c R' (ws++s.hp)) w' (ws++s.hp) R' v y) :
  o.wp P a w (Nx c s o K) Q:=by
 unfold Oper.wp;rw[hrun,Oper.upon_value];exact⟨R',v,ws,hK,g.put o.dst hd hr⟩
theorem jw {o:Oper}{m:Sem Value}(he:execOp a.eval o=(do pure (.value (←m)))){y:Value}{w':World}(h:m.run P w=.ok y w'):(execOp a.eval o).run P w=.ok (.value y) w':=by
 rw[he];simp[h]
theorem yu (ps:Array (Nat×Operand))(f:Operand→Value):(ps.map fun (i,x)=>(i,f x))=((ps.toList.map (·.1)).zip ((ps.toList.map (·.2)).map f)).toArray:=by
 have:∀l:List (Nat×Operand),(l.map fun (x:Nat×Operand)=>(x.1,f x.2))=(l.map (·.1)).zip ((l.map (·.2)).map f):=by
  intro l;induction l with
  |nil=>rfl
  |cons x l ih=>simp[ih]
 rw[←this];apply Array.ext';simp
def iT (P:Program)(T:Tab)(c:Ctx)(R:Real)(s:AS)(a:Act)(w:World)(id:Nat)(Q:Exit→Act→World→Prop)(op:Op):Prop:=
 ∀(o:Oper),o.op=op→(∀t,o.dst=some t→t<c.n)→∀(vs:List AV) (H:List (Nat×aA)) (K:AV→List (Nat×aA)→Prop),
  (∀b box,lk H b=some box→lk s.hp b=some box)→FL (ai (aT c R s.hp) w s.hp R) vs ((kG op).map a.eval)→cop P T op vs H id K→o.wp P a w (Nx c s o K) Q
section
variable (g:bB c R s a w)(hT:bO P T){id:Nat}(hf:lk s.hp id=none)(Q:Exit→Act→World→Prop)
include g hT hf
theorem pure_ok {o:Oper}(hd:∀t,o.dst=some t→t<c.n){y:Value}{v:AV}{K:AV→List (Nat×aA)→Prop}(hK:K v [])(hr:ai (aT c R s.hp) w s.hp R v y)
  (hrun:(execOp a.eval o).run P w=.ok (.value y) w):o.wp P a w (Nx c s o K) Q:=jG (ws:=[]) hd hrun hK g hr
theorem aaG (x:Operand):iT P T c R s a w id Q (.move x):=by
 intro o ho hd vs H K hH hv h;unfold cop at h;simp only at h;split at h
 ·exact pure_ok g hT hf Q hd h (WQ hv) (by simp[execOp,ho])
 exact h.elim
theorem Uz (x:Operand):iT P T c R s a w id Q (.assign x):=by
 intro o ho hd vs H K hH hv h;unfold cop at h;simp only at h;split at h
 ·exact pure_ok g hT hf Q hd h (WQ hv) (by simp[execOp,ho])
 exact h.elim
theorem aaH (x y z:Operand):iT P T c R s a w id Q (.pick x y z):=by
 intro o ho hd vs H K hH hv h;unfold cop at h;simp only at h;split at h;rotate_left;cases h
 obtain⟨h1,h2,h3⟩:=FL3 hv;simp only[ai,bE] at h1;split at h
 ·exact pure_ok g hT hf Q hd h h2 (by simp[execOp,ho,h1,asBool])
 exact pure_ok g hT hf Q hd h h3 (by simp[execOp,ho,h1,asBool])
theorem Xf (t:TypeId):iT P T c R s a w id Q (.alloc t):=by
 intro o ho hd vs H K hH hv h;unfold cop at h;simp only at h;obtain⟨z,w',R',q,ws,h1,h2,h3,h4⟩:=Kq g hT hf h;exact jG hd (jw (m:=Instr.alloc t true (.tuple #[])) (by unfold execOp;rw[ho]) h1) h2 h3 h4
theorem ad8 (t:TypeId)(x:Operand):iT P T c R s a w id Q (.box t x):=by
 intro o ho hd vs H K hH hv h;unfold cop at h;simp only at h;split at h
 ·obtain⟨z,w',R',q,ws,h1,h2,h3,h4⟩:=Qd g hT hf h (WQ hv);exact jG hd (jw (m:=Instr.box t (a.eval x)) (by unfold execOp;rw[ho]) h1) h2 h3 h4
 exact h.elim
theorem Xg (t:TypeId)(ps:Array (Nat×Operand)):iT P T c R s a w id Q (.build t ps):=by
 intro o ho hd vs H K hH hv h;unfold cop at h;simp only at h;obtain⟨y,z,h1,h2,h3⟩:=DU hT h hv;simp only[kG] at h1;exact pure_ok g hT hf Q hd h2 h3 (jw (m:=Instr.build t (ps.map fun (i,x)=>(i,a.eval x))) (by unfold execOp;rw[ho]) (by rw[yu];exact h1))
theorem Hz (t:TypeId)(n:Nat)(ps:Array (Nat×Operand)):iT P T c R s a w id Q (.buildSlice t n ps):=by
 intro o ho hd vs H K hH hv h;unfold cop at h;simp only at h;obtain⟨z,w',R',q,ws,h1,h2,h3,h4⟩:=HV g hT hH hf h hv;simp only[kG] at h1;exact jG hd (jw (m:=Instr.buildSlice t n (ps.map fun (i,x)=>(i,a.eval x))) (by unfold execOp;rw[ho]) (by rw[yu];exact h1)) h2 h3 h4
theorem aaI (t:TypeId)(x:Operand):iT P T c R s a w id Q (.load t x):=by
 intro o ho hd vs H K hH hv h;unfold cop at h;simp only at h;split at h
 ·obtain⟨y,v,h1,h2,h3⟩:=Kt g hT hH h (WQ hv);exact pure_ok g hT hf Q hd h2 h3 (jw (m:=Instr.loadAt t (a.eval x)) (by unfold execOp;rw[ho]) h1)
 exact h.elim
theorem Xh (t:TypeId)(x y:Operand):iT P T c R s a w id Q (.store t x y):=by
 intro o ho hd vs H K hH hv h;unfold cop at h;simp only at h;split at h;rotate_left;cases h
 obtain⟨hx,hy⟩:=FL2 hv;obtain⟨w',R',ws,h1,h2,h3⟩:=HY g hT hH h hx hy;unfold Oper.wp;have:(execOp a.eval o).run P w=.ok .skip w':=by unfold execOp;rw[ho];simp[h1]
 rw[this,Oper.upon_skip];exact⟨R',_,ws,h2,h3.put o.dst hd (by simp only[ai,bE])⟩
theorem MG (x:Operand):iT P T c R s a w id Q (.nilCheck x):=by
 intro o ho hd vs H K hH hv h;unfold cop at h;simp only at h;split at h;rotate_left;cases h
 rename_i v;have hx:=WQ hv;split at h;rotate_left;cases h
 rename_i hn;have key:(∃ad,a.eval x=.pointer (some ad))∨(∃f p q,a.eval x=.func (.func f) p q):=by
  unfold SG at hn;split at hn
  ·exact .inl (zS (by rfl) hx)
  ·exact .inl (zS (by rfl) hx)
  ·simp only[ai,bE] at hx;obtain⟨fs,cs,h1,_⟩:=hx;exact .inr ⟨_,_,_,h1⟩
  ·rename_i b ver k off;split at hn
   ·rename_i k' hk;simp only[ai] at hx;cases hb:lk H b with
    |none=>rw[hb] at hk;cases hk
    | some box=>
      rw[hb,←hH _ _ hb] at hk;obtain⟨st,_,hu,_⟩:=EJ hx hk (Nat.eq_of_beq_eq_true hn);exact .inl ⟨_,hu⟩
   cases hn
  cases hn
 rcases key with ⟨ad,hk⟩|⟨f,p,q,hk⟩
 ·exact pure_ok g hT hf Q hd h hx (by simp[execOp,ho,hk])
 exact pure_ok g hT hf Q hd h hx (by simp[execOp,ho,hk])
theorem MH {H:List (Nat×aA)}(hH:∀b box,lk H b=some box→lk s.hp b=some box){t:TypeId}{op:BinOp}{x y:AV}{K:AV→Prop}(h:EH T H op t x y K){u v:Value}
  (hx:ai (aT c R s.hp) w s.hp R x u) (hy:ai (aT c R s.hp) w s.hp R y v) (xo yo:Operand) :
  ∃r,(do eqGuard op t xo yo u v;binOp op t u v:Sem Value).run P w=.ok r w∧∃p,K (.pv p)∧bE (aT c R s.hp) w p r:=by
 unfold EH at h;split at h
 ·rename_i hap;split at h;rotate_left;cases h
  split at h;rotate_left;cases h
  rename_i hn;split at h;rotate_left;cases h
  rename_i i hi;obtain⟨d,hd,iE⟩:=(hT t i hi).iM;split at h;rotate_left;cases h
  rename_i el e;have hd':P.underlying t=some (.pointer el):=by
   rw[e] at iE;cases d<;>simp[di] at iE
   subst iE;exact hd
  have key:∃ad,u=.pointer (some ad):=by
   cases x with
   | bn b ver k off=>
     simp only[SG] at hn;split at hn
     ·rename_i k' hk;simp only[ai] at hx;cases hb:lk H b with
      |none=>rw[hb] at hk;cases hk
      | some box=>
        rw[hb,←hH _ _ hb] at hk;obtain⟨st,_,hu,_⟩:=EJ hx hk (Nat.eq_of_beq_eq_true hn);exact⟨_,hu⟩
     cases hn
   |_=>cases hap
  obtain⟨ad,rfl⟩:=key;simp only[ai,bE] at hy;subst hy;exact fin h (adj 9999 ad hd') ⟨fun e=>by subst e;rfl,fun e=>by subst e;rfl⟩ ⟨fun _ _ ha _=>(by cases ha),fun ha _=>(by cases ha)⟩
 exact Qi hT h hx hy xo yo
theorem Xi (op:BinOp)(t:TypeId)(x y:Operand)(yt:TypeId):iT P T c R s a w id Q (.binOp op t x y yt):=by
 intro o ho hd vs H K hH hv h;unfold cop at h;simp only at h;split at h
 ·obtain⟨hx,hy⟩:=FL2 hv;obtain⟨r,h1,p,h2,h3⟩:=MH (xo:=x) (yo:=y) g hT hf hH h hx hy;exact pure_ok g hT hf Q hd h2 (by simpa only[ai] using h3) (jw (m:=(do eqGuard op t x y (a.eval x) (a.eval y);binOp op t (a.eval x) (a.eval y))) (by unfold execOp;rw[ho]) h1)
 exact h.elim
theorem aaJ (op:UnOp)(t:TypeId)(x:Operand):iT P T c R s a w id Q (.unOp op t x):=by
 intro o ho hd vs H K hH hv h;unfold cop at h;simp only at h;split at h
 ·obtain⟨y,v,h1,h2,h3⟩:=Qf (P:=P) (w:=w) hH h (WQ hv);exact pure_ok g hT hf Q hd h2 h3 (jw (m:=Op.unary op (a.eval x)) (by unfold execOp;rw[ho]) h1)
 exact h.elim
theorem Qj (src dst:TypeId)(x:Operand):iT P T c R s a w id Q (.convert src dst x):=by
 intro o ho hd vs H K hH hv h;unfold cop at h;simp only at h;split at h
 ·obtain⟨z,w',R',q,ws,h1,h2,h3,h4⟩:=Kr g hT hH h (WQ hv);exact jG hd (jw (m:=convert src dst (a.eval x)) (by unfold execOp;rw[ho]) h1) h2 h3 h4
 exact h.elim
theorem MI (f:Fn)(first aM:Array Operand):iT P T c R s a w id Q (.makeFunc f first aM):=by
 intro o ho hd vs H K hH hv h;unfold cop at h;simp only at h;simp only[kG,List.map_append,←Array.toList_map] at hv;rw[show first.size=(first.map a.eval).size from by simp] at h;obtain⟨z,ws,h1,h2,h3,h4⟩:=Mv (P:=P) g hH h hv;exact jG hd (jw (m:=Instr.makeFunc f (first.map a.eval) (aM.map a.eval)) (by unfold execOp;rw[ho]) h1) h2 h3 h4
theorem Ku (t:TypeId)(l n:Operand):iT P T c R s a w id Q (.makeSlice t l n):=by
 intro o ho hd vs H K hH hv h;unfold cop at h;simp only at h;simp only[kG] at hv;obtain⟨x,y,rfl⟩:∃x y,vs=[x,y]:=by
  have:=hv.length;match vs with
  |[x,y]=>exact⟨x,y,rfl⟩
  |[]=>simp at this
  |[_]=>simp at this
  |_::_::_::_=>simp at this
 obtain⟨hx,hy⟩:=FL2 hv;obtain⟨z,w',R',q,ws,h1,h2,h3,h4⟩:=Mx g hT hf h hx hy;exact jG hd (jw (m:=Instr.makeSlice t (a.eval l) (a.eval n)) (by unfold execOp;rw[ho]) h1) h2 h3 h4
theorem ok_slice (t:TypeId)(x:Operand)(l hi m:Option Operand):iT P T c R s a w id Q (.slice t x l hi m):=by
 intro o ho hd vs H K hH hv h;unfold cop at h;simp only at h;simp only[kG] at hv;obtain⟨y,z,ws,R',h1,h2,h3,h4⟩:=HZ g hT hH h hv;exact jG hd (jw (m:=Instr.sliceAt t (a.eval x) (l.map a.eval) (hi.map a.eval) (m.map a.eval)) (by unfold execOp;rw[ho]) h1) h2 h3 h4
theorem Kv (t:TypeId)(x:Operand)(f:Nat):iT P T c R s a w id Q (.fieldAddr t x f):=by
 intro o ho hd vs H K hH hv h;unfold cop at h;simp only at h;split at h
 ·obtain⟨y,v,h1,h2,h3⟩:=BD (w:=w) hT hH h (WQ hv);exact pure_ok g hT hf Q hd h2 h3 (jw (m:=Instr.fieldAt t (a.eval x) f) (by unfold execOp;rw[ho]) h1)
 exact h.elim
theorem Xj (t:TypeId)(x:Operand)(f:Nat):iT P T c R s a w id Q (.field t x f):=by
 intro o ho hd vs H K hH hv h;unfold cop at h;simp only at h;split at h
 ·obtain⟨y,v,h1,h2,h3⟩:=Qk hT h (WQ hv);exact pure_ok g hT hf Q hd h2 h3 (jw (m:=Instr.field t (a.eval x) f) (by unfold execOp;rw[ho]) h1)
 exact h.elim
theorem Kw (t:TypeId)(x i:Operand):iT P T c R s a w id Q (.indexAddr t x i):=by
 intro o ho hd vs H K hH hv h;unfold cop at h;simp only at h;split at h
 ·obtain⟨hx,hy⟩:=FL2 hv;obtain⟨y,v,h1,h2,h3⟩:=Ql g hT hH h hx hy;exact pure_ok g hT hf Q hd h2 h3 (jw (m:=Instr.indexAt t (a.eval x) (a.eval i)) (by unfold execOp;rw[ho]) h1)
 exact h.elim
theorem Xk (t:TypeId)(x i:Operand):iT P T c R s a w id Q (.index t x i):=by
 intro o ho hd vs H K hH hv h;unfold cop at h;simp only at h;split at h
 ·obtain⟨hx,hy⟩:=FL2 hv;obtain⟨y,v,h1,h2,h3⟩:=Ky hT h hx hy;exact pure_ok g hT hf Q hd h2 h3 (jw (m:=Instr.index t (a.eval x) (a.eval i)) (by unfold execOp;rw[ho]) h1)
 exact h.elim
theorem Qm (x:Operand)(i:Nat):iT P T c R s a w id Q (.extract x i):=by
 intro o ho hd vs H K hH hv h;unfold cop at h;simp only at h;split at h
 ·obtain⟨y,v,h1,h2,h3⟩:=EL (P:=P) h (WQ hv);exact pure_ok g hT hf Q hd h2 h3 (jw (m:=Instr.extract (a.eval x) i) (by unfold execOp;rw[ho]) h1)
 exact h.elim
theorem aaK (cc:Call):iT P T c R s a w id Q (.call cc):=by
 intro o ho hd vs H K hH hv h;unfold cop at h;simp only at h;have hex:execOp a.eval o=(do let d ←resolve a.eval cc o.type;invoke d.target d.args):=by unfold execOp;rw[ho]
 split at h
 ·-- of a function
  rename_i f ve;simp only[kG,ve,List.map_cons] at hv;cases vs with
  |nil=>exact h.elim
  | cons fv args=>
    obtain⟨u,us,e1,UA,hargs⟩:=hv;simp only[List.cons.injEq] at e1;obtain⟨e1,rfl⟩:=e1;obtain⟨fid,first,aM,rfl,⟨fn,hfn,hbody,hname⟩,yU⟩:=ME g hH h UA hargs;have hrun:(execOp a.eval o).run P w=.ok (.enter fid (first++(cc.args.toList.map a.eval).toArray++aM)) w:=by
     rw[hex];have hb:fn.body.isNone=false:=by cases w9:fn.body<;>simp[w9] at hbody ⊢
     have e3:(cc.args.toList.map a.eval).toArray=cc.args.map a.eval:=by rw[←Array.toList_map,Array.toArray_toList]
     simp only[resolve,ve,e1,Deferred.ofValue,Sem.run_bind,Sem.run_pure,Result.andThen_ok,invoke,callFunc,run_program,hfn,hname,hb,e3];simp
    unfold Oper.wp;rw[hrun,Oper.upon_enter];refine yU.mono ?_;rintro e w' ⟨v,z,ws,rfl,hK,g2,hr⟩
    exact⟨R,z,ws,hK,g2.put o.dst hd hr⟩
 ·rename_i b ve;simp only[kG,ve] at hv;have hrun:∀{y:Value} {w':World},(builtin b cc.argTypes o.type (cc.args.map fun|.const _=>true|_=>false) (cc.args.map a.eval)).run P w=.ok (.value y) w'→(execOp a.eval o).run P w=.ok (.value y) w':=by
   intro y w' hy;rw[hex];simp only[resolve,ve,Sem.run_bind,Sem.run_pure,Result.andThen_ok,invoke];exact hy
  have hargs:∀l:List Operand,cc.args.toList=l→cc.args.map a.eval=(l.map a.eval).toArray:=by
   intro l hl;rw[←hl,←Array.toList_map,Array.toArray_toList]
  split at h
  ·-- append
   split at h;rotate_left;cases h
   rename_i t t' hts;split at h;rotate_left;cases h
   rename_i htt;have htt:=Nat.eq_of_beq_eq_true htt;subst htt;have hat:cc.argTypes = #[t,t]:=by rw[←Array.toArray_toList (xs:=cc.argTypes),hts]
   obtain⟨d,x,rfl⟩:∃x y,vs=[x,y]:=by
    unfold CR at h;split at h
    ·exact⟨_,_,rfl⟩
    unfold yw at h;split at h
    ·exact⟨_,_,rfl⟩
    unfold uD at h;split at h
    ·exact⟨_,_,rfl⟩
    unfold uN at h;split at h
    ·exact⟨_,_,rfl⟩
    exact h.elim
   have hl:=hv.length;obtain⟨x1,x2,hal⟩:∃x1 x2,cc.args.toList=[x1,x2]:=by
    simp only[List.length_map] at hl;match hm:cc.args.toList with
    |[x,y]=>exact⟨x,y,rfl⟩
    |[]=>rw[hm] at hl;simp at hl
    |[_]=>rw[hm] at hl;simp at hl
    |_::_::_::_=>rw[hm] at hl;simp at hl
   rw[hal] at hv;obtain⟨hx,hy⟩:=FL2 hv;obtain⟨z,w',R',q,ws,h1,h2,h3,h4⟩:=MJ (ty:=o.type) g hT hH hf h hx hy;refine jG hd (hrun ?_) h2 h3 h4;rw[hargs _ hal,hat];simp only[builtin,List.map_cons,List.map_nil,Sem.run_bind,h1,Result.andThen_ok,Sem.run_pure]
  ·-- len
   split at h;rotate_left;cases h
   rename_i t hts;have hat:cc.argTypes = #[t]:=by rw[←Array.toArray_toList (xs:=cc.argTypes),hts]
   split at h;rotate_left;cases h
   rename_i x;have hl:=hv.length;obtain⟨x1,hal⟩:∃x1,cc.args.toList=[x1]:=by
    simp only[List.length_map] at hl;match hm:cc.args.toList with
    |[x]=>exact⟨x,rfl⟩
    |[]=>rw[hm] at hl;simp at hl
    |_::_::_=>rw[hm] at hl;simp at hl
   rw[hal] at hv;obtain⟨y,v,h1,h2,h3⟩:=MK (ty:=o.type) g hT hH h (WQ hv);refine pure_ok g hT hf Q hd h2 h3 (hrun ?_);rw[hargs _ hal,hat];simp only[builtin,List.map_cons,List.map_nil,Sem.run_bind,h1,Result.andThen_ok,Sem.run_pure]
  ·-- clear
   split at h;rotate_left;cases h
   rename_i t hts;have hat:cc.argTypes = #[t]:=by rw[←Array.toArray_toList (xs:=cc.argTypes),hts]
   split at h;rotate_left;cases h
   rename_i x;have hl:=hv.length;obtain⟨x1,hal⟩:∃x1,cc.args.toList=[x1]:=by
    simp only[List.length_map] at hl;match hm:cc.args.toList with
    |[x]=>exact⟨x,rfl⟩
    |[]=>rw[hm] at hl;simp at hl
    |_::_::_=>rw[hm] at hl;simp at hl
   rw[hal] at hv;obtain⟨z,w',q,ws,h1,h2,h3,h4⟩:=Kz (ty:=o.type) g hT hH h (WQ hv);refine jG hd (hrun ?_) h2 h3 h4;rw[hargs _ hal,hat];simp only[builtin,List.map_cons,List.map_nil,Sem.run_bind,h1,Result.andThen_ok,Sem.run_pure]
  ·-- max
   obtain⟨d,x,rfl⟩:∃x y,vs=[x,y]:=by
    unfold cMM at h;split at h
    ·exact⟨_,_,rfl⟩
    exact h.elim
   have hl:=hv.length;obtain⟨x1,x2,hal⟩:∃x1 x2,cc.args.toList=[x1,x2]:=by
    simp only[List.length_map] at hl;match hm:cc.args.toList with
    |[x,y]=>exact⟨x,y,rfl⟩
    |[]=>rw[hm] at hl;simp at hl
    |[_]=>rw[hm] at hl;simp at hl
    |_::_::_::_=>rw[hm] at hl;simp at hl
   rw[hal] at hv;obtain⟨hx,hy⟩:=FL2 hv;obtain⟨z,q,h1,h2,h3⟩:=I9 (P:=P) h hx hy cc.argTypes o.type;refine pure_ok g hT hf Q hd h2 h3 (hrun ?_);rw[hargs _ hal];simp only[if_true] at h1;simp only[builtin,List.map_cons,List.map_nil,Sem.run_bind,h1,Result.andThen_ok,Sem.run_pure]
  ·obtain⟨d,x,rfl⟩:∃x y,vs=[x,y]:=by
    unfold cMM at h;split at h
    ·exact⟨_,_,rfl⟩
    exact h.elim
   have hl:=hv.length;obtain⟨x1,x2,hal⟩:∃x1 x2,cc.args.toList=[x1,x2]:=by
    simp only[List.length_map] at hl;match hm:cc.args.toList with
    |[x,y]=>exact⟨x,y,rfl⟩
    |[]=>rw[hm] at hl;simp at hl
    |[_]=>rw[hm] at hl;simp at hl
    |_::_::_::_=>rw[hm] at hl;simp at hl
   rw[hal] at hv;obtain⟨hx,hy⟩:=FL2 hv;obtain⟨z,q,h1,h2,h3⟩:=I9 (P:=P) h hx hy cc.argTypes o.type;refine pure_ok g hT hf Q hd h2 h3 (hrun ?_);rw[hargs _ hal];simp only[Bool.false_eq_true,if_false] at h1;simp only[builtin,List.map_cons,List.map_nil,Sem.run_bind,h1,Result.andThen_ok,Sem.run_pure]
  exact h.elim
 exact h.elim
theorem Qn (t:TypeId)(r:Option Operand):iT P T c R s a w id Q (.makeMap t r):=by
 intro o ho hd vs H K hH hv h;unfold cop at h;simp only at h;split at h
 ·obtain⟨z,w',R',q,ws,h1,h2,h3,h4⟩:=KA g hT hf h;exact jG hd (jw (m:=Instr.makeMap t none) (by unfold execOp;rw[ho];rfl) h1) h2 h3 h4
 exact h.elim
theorem UB (t:TypeId)(x i:Operand)(ok:Bool):iT P T c R s a w id Q (.lookup t x i ok):=by
 intro o ho hd vs H K hH hv h;unfold cop at h;simp only at h;split at h;rotate_left;cases h
 split at h
 ·obtain⟨hx,hy⟩:=FL2 hv;obtain⟨y,v,h1,h2,h3⟩:=ML g hT hH h hx hy;exact pure_ok g hT hf Q hd h2 h3 (jw (m:=Instr.lookup t (a.eval x) (a.eval i) false) (by unfold execOp;rw[ho]) h1)
 exact h.elim
theorem KC (t:TypeId)(x i y:Operand):iT P T c R s a w id Q (.mapUpdate t x i y):=by
 intro o ho hd vs H K hH hv h;unfold cop at h;simp only at h;split at h;rotate_left;cases h
 obtain⟨hx,hy,hz⟩:=FL3 hv;obtain⟨w',ws,h1,h2,h3⟩:=H6 g hT hH h hx hy hz;unfold Oper.wp;have:(execOp a.eval o).run P w=.ok .skip w':=by unfold execOp;rw[ho];simp[h1]
 rw[this,Oper.upon_skip];exact⟨R,_,ws,h2,h3.put o.dst hd (by simp only[ai,bE])⟩
theorem aea (op:Op):iT P T c R s a w id Q op:=by
 cases op with
 |move x=>exact aaG g hT hf Q x
 |assign x=>exact Uz g hT hf Q x
 |pick x y z=>exact aaH g hT hf Q x y z
 |alloc t=>exact Xf g hT hf Q t
 |box t x=>exact ad8 g hT hf Q t x
 |build t ps=>exact Xg g hT hf Q t ps
 |buildSlice t n ps=>exact Hz g hT hf Q t n ps
 |load t x=>exact aaI g hT hf Q t x
 |store t x y=>exact Xh g hT hf Q t x y
 |nilCheck x=>exact MG g hT hf Q x
 |binOp op t x y yt=>exact Xi g hT hf Q op t x y yt
 |unOp op t x=>exact aaJ g hT hf Q op t x
 |convert src dst x=>exact Qj g hT hf Q src dst x
 |makeFunc f first aM=>exact MI g hT hf Q f first aM
 |makeSlice t l n=>exact Ku g hT hf Q t l n
 |slice t x l h m=>exact ok_slice g hT hf Q t x l h m
 |fieldAddr t x f=>exact Kv g hT hf Q t x f
 |field t x f=>exact Xj g hT hf Q t x f
 |indexAddr t x i=>exact Kw g hT hf Q t x i
 |index t x i=>exact Xk g hT hf Q t x i
 |extract x i=>exact Qm g hT hf Q x i
 |makeMap t r=>exact Qn g hT hf Q t r
 |lookup t x i ok=>exact UB g hT hf Q t x i ok
 |mapUpdate t x i y=>exact KC g hT hf Q t x i y
 |call cc=>exact aaK g hT hf Q cc
 |_=>intro o ho hd vs H K hH hv h;exact h.elim
theorem adk {o:Oper}(hd:∀t,o.dst=some t→t<c.n)(hc:mK o.op=true){vs:List AV}{K:AV→List (Nat×aA)→List Nat→Prop}(hv:FL (ai (aT c R s.hp) w s.hp R) vs ((kG o.op).map a.eval))
  (h:gC P s.hp id vs K):o.wp P a w (Nx c s o fun v ws=>∃ids,K v ws ids) Q:=by
 cases ho:o.op<;>rw[ho] at hc<;>simp only[mK] at hc<;>try (cases hc;done)
 rename_i cc;split at hc
 ·rename_i f ve;rw[ho] at hv;simp only[kG,ve,List.map_cons] at hv;cases vs with
  |nil=>exact h.elim
  | cons fv args=>
    obtain⟨u,us,e1,UA,hargs⟩:=hv;simp only[List.cons.injEq] at e1;obtain⟨e1,rfl⟩:=e1;obtain⟨fid,first,aM,rfl,⟨fn,hfn,hbody,hname⟩,yU⟩:=Xl g h UA hargs;have hex:execOp a.eval o=(do let d ←resolve a.eval cc o.type;invoke d.target d.args):=by unfold execOp;rw[ho]
    have hrun:(execOp a.eval o).run P w=.ok (.enter fid (first++(cc.args.toList.map a.eval).toArray++aM)) w:=by
     rw[hex];have hb:fn.body.isNone=false:=by cases w9:fn.body<;>simp[w9] at hbody ⊢
     have e3:(cc.args.toList.map a.eval).toArray=cc.args.map a.eval:=by rw[←Array.toList_map,Array.toArray_toList]
     simp only[resolve,ve,e1,Deferred.ofValue,Sem.run_bind,Sem.run_pure,Result.andThen_ok,invoke,callFunc,run_program,hfn,hname,hb,e3];simp
    unfold Oper.wp;rw[hrun,Oper.upon_enter];refine yU.mono ?_;rintro e w' ⟨v,z,ws,ids,R',rfl,hK,g2,hr⟩
    exact⟨R',z,ws,⟨ids,hK⟩,g2.put o.dst hd hr⟩
 cases hc
theorem agv {o:Oper}(hd:∀t,o.dst=some t→t<c.n)(hc:mK o.op=true){vs:List AV}{K:AV→List (Nat×aA)→List Nat→Prop}(hv:FL (ai (aT c R s.hp) w s.hp R) vs ((kG o.op).map a.eval))
  (h:gV P s.hp id vs K):o.wp P a w (Nx c s o fun v ws=>∃ids,K v ws ids) Q:=by
 refine Oper.wp_mono ?_ (adk g hT hf Q hd hc hv h);rintro a' w' ⟨R',v,ws,⟨ids,hK⟩,g'⟩
 obtain⟨h1,h2⟩:=yV hK;refine⟨R',v,[],⟨ids,h1⟩,?_⟩;cases agw:o.dst with
 | none=>
   rw[agw] at g';exact g'.congr (fun _=>rfl) fun b=>(h2 b).symm
 | some d=>
   rw[agw] at g';exact g'.congr (fun _=>rfl) fun b=>(h2 b).symm
theorem agx {o:Oper}(hd:∀t,o.dst=some t→t<c.n)(hc:mK o.op=true){vs:List AV}{K:AV→List (Nat×aA)→List Nat→Prop}(hv:FL (ai (aT c R s.hp) w s.hp R) vs ((kG o.op).map a.eval))
  (h:gI P s.hp id vs K):o.wp P a w (Nx c s o fun v ws=>∃ids,K v ws ids) Q:=by
 cases ho:o.op<;>rw[ho] at hc<;>simp only[mK] at hc<;>try (cases hc;done)
 rename_i cc;split at hc
 ·rename_i f ve;rw[ho] at hv;simp only[kG,ve,List.map_cons] at hv;cases vs with
  |nil=>exact h.elim
  | cons fv args=>
    obtain⟨u,us,e1,UA,hargs⟩:=hv;simp only[List.cons.injEq] at e1;obtain⟨e1,rfl⟩:=e1;obtain⟨fid,first,aM,rfl,⟨fn,hfn,hbody,hname⟩,yU⟩:=Xm g h UA hargs;have hex:execOp a.eval o=(do let d ←resolve a.eval cc o.type;invoke d.target d.args):=by unfold execOp;rw[ho]
    have hrun:(execOp a.eval o).run P w=.ok (.enter fid (first++(cc.args.toList.map a.eval).toArray++aM)) w:=by
     rw[hex];have hb:fn.body.isNone=false:=by cases w9:fn.body<;>simp[w9] at hbody ⊢
     have e3:(cc.args.toList.map a.eval).toArray=cc.args.map a.eval:=by rw[←Array.toList_map,Array.toArray_toList]
     simp only[resolve,ve,e1,Deferred.ofValue,Sem.run_bind,Sem.run_pure,Result.andThen_ok,invoke,callFunc,run_program,hfn,hname,hb,e3];simp
    unfold Oper.wp;rw[hrun,Oper.upon_enter];refine yU.mono ?_;rintro e w' ⟨v,z,ws,ids,R',rfl,hK,g2,hr⟩
    exact⟨R',z,ws,⟨ids,hK⟩,g2.put o.dst hd hr⟩
 cases hc
theorem agy {o:Oper}(hd:∀t,o.dst=some t→t<c.n)(hc:mK o.op=true){vs:List AV}{K:AV→List (Nat×aA)→List Nat→Prop}(hv:FL (ai (aT c R s.hp) w s.hp R) vs ((kG o.op).map a.eval))
  (h:dC P s.hp vs K):o.wp P a w (Nx c s o fun v ws=>∃ids,K v ws ids) Q:=by
 cases ho:o.op<;>rw[ho] at hc<;>simp only[mK] at hc<;>try (cases hc;done)
 rename_i cc;split at hc
 ·rename_i f ve;rw[ho] at hv;simp only[kG,ve,List.map_cons] at hv;cases vs with
  | nil=>
    unfold dC at h;simp only[vg] at h;split at h
    ·simp at h
    exact h.elim
  | cons fv args=>
    obtain⟨u,us,e1,UA,hargs⟩:=hv;simp only[List.cons.injEq] at e1;obtain⟨e1,rfl⟩:=e1;obtain⟨fid,first,aM,rfl,⟨fn,hfn,hbody,hname⟩,yU⟩:=Xn g h UA hargs;have hex:execOp a.eval o=(do let d ←resolve a.eval cc o.type;invoke d.target d.args):=by unfold execOp;rw[ho]
    have hrun:(execOp a.eval o).run P w=.ok (.enter fid (first++(cc.args.toList.map a.eval).toArray++aM)) w:=by
     rw[hex];have hb:fn.body.isNone=false:=by cases w9:fn.body<;>simp[w9] at hbody ⊢
     have e3:(cc.args.toList.map a.eval).toArray=cc.args.map a.eval:=by rw[←Array.toList_map,Array.toArray_toList]
     simp only[resolve,ve,e1,Deferred.ofValue,Sem.run_bind,Sem.run_pure,Result.andThen_ok,invoke,callFunc,run_program,hfn,hname,hb,e3];simp
    unfold Oper.wp;rw[hrun,Oper.upon_enter];refine yU.mono ?_;rintro e w' ⟨v,z,ws,ids,R',rfl,hK,g2,hr⟩
    exact⟨R',z,ws,⟨ids,hK⟩,g2.put o.dst hd hr⟩
 cases hc
theorem SN {o:Oper}(hd:∀t,o.dst=some t→t<c.n){vs:List AV}{K:AV→List (Nat×aA)→List Nat→Prop}(hv:FL (ai (aT c R s.hp) w s.hp R) vs ((kG o.op).map a.eval))
  (h:zR P T o.op vs s.hp id K):o.wp P a w (Nx c s o fun v ws=>∃ids,K v ws ids) Q:=by
 unfold zR at h;simp only at h;split at h;rotate_left;cases h
 rename_i H hH;refine Oper.wp_mono ?_ (aea g hT hf Q o.op o rfl hd vs H _ (CS hH) hv h);rintro a w ⟨R,v,ws,hK,g2⟩
 exact⟨R,v,ws,⟨_,hK⟩,g2⟩
theorem agz {o:Oper}(hd:∀t,o.dst=some t→t<c.n)(hc:mK o.op=true){vs:List AV}{K:AV→List (Nat×aA)→List Nat→Prop}(hv:FL (ai (aT c R s.hp) w s.hp R) vs ((kG o.op).map a.eval))
  (ro:Option Nat) (h:yC P s.hp vs K):o.wpIn (W1 ro) 0 P a w (Nx c s o fun v ws=>∃ids,K v ws ids) Q:=by
 cases ho:o.op<;>rw[ho] at hc<;>simp only[mK] at hc<;>try (cases hc;done)
 rename_i cc;split at hc
 ·rename_i f ve;rw[ho] at hv;simp only[kG,ve,List.map_cons] at hv;unfold yC at h;split at h;rotate_left;cases h
  rename_i l args;obtain⟨u,us,e1,UA,hargs⟩:=hv;simp only[List.cons.injEq] at e1;obtain⟨e1,rfl⟩:=e1;split at h;rotate_left;cases h
  rename_i y ver rest st h9;split at h;rotate_left;cases h
  split at h;rotate_left;cases h
  split at h;rotate_left;cases h
  rename_i ps hps;obtain⟨rfl,x,r,rfl,hle,hK⟩:=h;have hbx:=g.boxes 999 _ h9;obtain⟨-,kh,k1,k2,k3,k4⟩:=hbx;simp only[ai,bE] at UA;obtain⟨fs,cs,rfl,hfs,hcs⟩:=UA;simp only[dX] at hfs hcs;have hfs:fs = #[]:=by simpa using hfs
  have hcs:cs = #[]:=by simpa using hcs
  subst hfs hcs;have hargs':dX (aT c R s.hp) w ps (cc.args.toList.map a.eval):=by
   have:=(eO _ _ _ _ _ _).2 hargs;rw[BF hps] at this;exact vk _ _ this
  have hx:dX (fun q=>R.Y.D q∨lm c R s.hp q) w x (cc.args.toList.map a.eval):=by
   refine qf (N:=aT c R s.hp) (fun q hq=>?_) _ _ _ hle hargs';rcases hq with hq|hq
   ·exact .inr ⟨999,by rw[h9];exact hq⟩
   exact hq.1
  obtain⟨fn,tmps,assign,body,hrun,KD⟩:=kh x r R.Y.Z R.Y.D R.Y.wy w (lm c R s.hp) _ (by simpa using k1) k2 k3 (fun q hq=>(k4 q hq.1).resolve_left hq.2)
   (fun q hq=>g.Nlt hq.1) (fun q hq=>hq.2) hx
  have hex:execOp a.eval o=(do let d ←resolve a.eval cc o.type;invoke d.target d.args):=by unfold execOp;rw[ho]
  have e3:(cc.args.toList.map a.eval).toArray=cc.args.map a.eval:=by rw[←Array.toList_map,Array.toArray_toList]
  have hrun':(execOp a.eval o).run P w=.ok (.round l fn tmps assign body) w:=by
   rw[hex];rw[e3] at hrun;simp only[resolve,ve,e1,Deferred.ofValue,Sem.run_bind,Sem.run_pure,Result.andThen_ok,invoke];simpa using hrun
  have ai9:Oper.semAt ro a.eval o=execOp a.eval o:=by
   cases ro with
   |none=>rfl
   |some l=>exact Oper.semAt_some l _ _ (fun c e=>by rw[ho] at e;cases e)
  refine⟨fun _ _=>trivial,?_⟩;show o.uponIn (W1 ro) 0 P a _ Q ((Oper.semAt ro a.eval o).run P w)
  rw[ai9,hrun',Oper.uponIn_round];refine⟨fun e=>(by cases e),?_⟩;refine (show RoundIn (W1 ro) 0 P l fn tmps assign body w _ from KD).mono ?_;rintro e w' ⟨D',b,rfl,hE,hD1,hD2,hJ⟩
  obtain⟨g2,hr⟩:=g.yielded h9 hE hD1 hD2 hJ;exact⟨_,_,_,⟨_,hK⟩,g2.put o.dst hd hr⟩
 cases hc
theorem UC (ro:Option Nat){o:Oper}(hd:∀t,o.dst=some t→t<c.n){K:AV→List (Nat×aA)→List Nat→Prop}(h:Xe P T o s.tm s.hp id K) :
  o.wpIn (W1 ro) 0 P a w (Nx c s o fun v ws=>∃ids,K v ws ids) Q:=by
 have nd:∀{vs:List AV},zR P T o.op vs s.hp id K→∀c,o.op ≠ .defer c:=by
  intro vs hf c e;rw[e] at hf;unfold zR at hf;simp only at hf;split at hf
  ·exact hf.elim
  exact hf.elim
 have nd2:mK o.op=true→∀c,o.op ≠ .defer c:=fun hc c e=>by rw[e] at hc;cases hc
 unfold Xe at h;split at h;rotate_left;cases h
 rename_i vs hvs;split at h
 ·rename_i hc;split at h
  ·exact agz g hT hf Q hd hc (kZ g hvs) ro h
  rcases h with (h|h)|h
  rotate_left 2
  ·split at h
   ·exact mM ro (nd2 hc) (agx g hT hf Q hd hc (kZ g hvs) h)
   exact mM ro (nd2 hc) (agv g hT hf Q hd hc (kZ g hvs) h)
  ·unfold lC at h;split at h
   ·exact mM ro (nd2 hc) (agy g hT hf Q hd hc (kZ g hvs) h)
   exact mM ro (nd h) (SN g hT hf Q hd (kZ g hvs) h)
  exact mM ro (nd2 hc) (adk g hT hf Q hd hc (kZ g hvs) h)
 exact mM ro (nd h) (SN g hT hf Q hd (kZ g hvs) h)
end
end
structure vo where
 look:List Nat
 dst:Option Nat
 rd:List Nat
 wr:List Nat
def tmpsOf:List Operand→List Nat
 |[]=>[]
 |.tmp t::r=>t::tmpsOf r
 |_::r=>tmpsOf r
def aeb (tm:List (Nat×AV))(d:Option Nat)(v:AV):List (Nat×AV):=
 match d with
 |some d=>(d,v)::tm
 |none=>tm
def xe (ops:List Oper)(o:Oper):Option Nat:=
 match o.guard with
 |none=>none
 | some (j,_)=>match nth ops j with
   |some oj=>oj.dst
   |none=>none
def yX (ops:List Oper)(o:Oper):List Nat:=
 match xe ops o with
 |some d=>[d]
 |none=>[]
abbrev RK:=List (Nat×AV)→List (Nat×aA)→List vo→Prop
abbrev RC:=List (Nat×AV)→List (Nat×aA)→List vo→List (Nat×Bool)→Prop
def aec (tm:List (Nat×AV))(d:Option Nat)(v:AV)(K:List (Nat×AV)→Prop):Prop:=
 match d with
 |some d=>K ((d,v)::tm)
 |none=>K tm
theorem xg (tm:List (Nat×AV))(d:Option Nat)(v:AV)(K:List (Nat×AV)→Prop):aec tm d v K=K (aeb tm d v):=by cases d<;>rfl
def aaM:List (Nat×aA)→List (Nat×aA)→(List (Nat×aA)→Prop)→Prop
 |[],hp,K=>K hp
 |x::r,hp,K=>aaM r hp fun h=>K (x::h)
theorem Eg:∀(ws hp:List (Nat×aA)) (K:List (Nat×aA)→Prop),aaM ws hp K=K (ws++hp)
 |[],_,_=>rfl
 |x::r,hp,K=>by simp only[aaM,Eg r hp];rfl
def vex (P:Program)(T:Tab)(ops:List Oper)(base:Nat)(o:Oper)(i:Nat)(tm:List (Nat×AV))(hp:List (Nat×aA))(tr:List vo)(kn:List (Nat×Bool))(K:RC):Prop:=
 match lk hp (base+i) with
 |some _=>False
 | none=>Xe P T o tm hp (base+i) fun v ws ids=>
   aec tm o.dst v fun tm=>aaM ws hp fun hp=>K tm hp (⟨yX ops o++tmpsOf (kG o.op),o.dst,(base+i)::ids,keys ws⟩::tr) kn
def CU (ops:List Oper)(o:Oper)(tm:List (Nat×AV))(hp:List (Nat×aA))(tr:List vo)(kn:List (Nat×Bool))(K:RC):Prop:=
 aec tm o.dst (.pv (.sc undef)) fun tm=>K tm hp (⟨yX ops o,o.dst,[],[]⟩::tr) kn
def vgo (P:Program)(T:Tab)(ops:List Oper)(base:Nat)(o:Oper)(i:Nat)(wanted:Bool)(tm:List (Nat×AV))(hp:List (Nat×aA))(tr:List vo)(kn:List (Nat×Bool))(K:RC):Prop:=
 match wanted with
 |true=>vex P T ops base o i tm hp tr kn K
 |false=>CU ops o tm hp tr kn K
def ru (P:Program)(T:Tab)(ops:List Oper)(base:Nat)(o:Oper)(i:Nat)(tm:List (Nat×AV))(hp:List (Nat×aA))(tr:List vo)(kn:List (Nat×Bool))(K:RC):Prop:=
 match o.guard with
 |none=>vex P T ops base o i tm hp tr kn K
 | some (j,want)=>match xe ops o with
   |none=>False
   | some d=>match lk tm d with
     | some (.pv (.sc v))=>match v with
       | .bool b=>match lk kn j with
         | some _=>match b with
           |true=>vgo P T ops base o i want tm hp tr kn K
           |false=>vgo P T ops base o i (!want) tm hp tr kn K
         | none=>(b=true→vgo P T ops base o i want ((d,.pv (.sc (.bool true)))::tm) hp tr ((j,true)::kn) K) ∧
           (b=false→vgo P T ops base o i (!want) ((d,.pv (.sc (.bool false)))::tm) hp tr ((j,false)::kn) K)
       |.tuple _=>CU ops o tm hp tr kn K
       |_=>False
     |_=>False
def Qo (P:Program)(T:Tab)(ops:List Oper)(base:Nat):List Oper→Nat→List (Nat×AV)→List (Nat×aA)→List vo→List (Nat×Bool)→RK→Prop
 |[],_,tm,hp,tr,_,K=>K tm hp tr
 |o::r,i,tm,hp,tr,kn,K=>ru P T ops base o i tm hp tr kn fun tm hp tr kn=>Qo P T ops base r (i+1) tm hp tr kn K
section
variable {P:Program}{T:Tab}{c:Ctx}{R:Real}{s:AS}{a:Act}{w:World}
theorem bB.aee (g:bB c R s a w){tm:List (Nat×AV)}(h:∀t v,lk tm t=some v→lk s.tm t=some v):bB c R { s with tm:=tm } a w:=
 ⟨fun t v hv=>g.slots t v (h t v hv),g.size,g.lo,g.marks,g.fixed,g.boxes,g.inj,g.free,g.jE,g.iL,g.kept⟩
def oU (n:Nat):List Oper→Bool
 |[]=>true
 | o::r=>match o.dst with
   | some d=>match Nat.blt d n with
     |true=>oU n r
     |false=>false
   |none=>oU n r
theorem SQ (tm:List (Nat×AV))(nx:Nat)(hp:List (Nat×aA))(d:Option Nat)(v:AV):(AS.mk tm nx hp).put d v=⟨aeb tm d v,nx,hp⟩:=by
 cases d<;>rfl
theorem Qp {α:Type}(a:Array α)(i:Nat):nth a.toList i=a[i]? :=by rw[vz,Array.getElem?_toList]
theorem Qq {ops:Array Oper}{o:Oper}{j:Nat}{want:Bool}(ho:o.guard=some (j,want)){d:Nat}(hs:xe ops.toList o=some d)(tmps:Array Value) :
  yielded ops tmps j=match tmps[d]? with
   |some (.bool b)=>some b
   |_=>none:=by
 unfold xe at hs;rw[ho] at hs;simp only[Qp] at hs;split at hs
 ·rename_i oj hoj;unfold yielded;simp only[hoj,Option.bind_some,hs];rfl
 cases hs
theorem CV (g:bB c R s a w)(hT:bO P T){ops:Array Oper}{base i:Nat}(hid:base+i<s.nx){o:Oper}(hd:∀t,o.dst=some t→t<c.n){tr:List vo}{kn:List (Nat×Bool)}{K:RC}
  (h:ru P T ops.toList base o i s.tm s.hp tr kn K) (ro:Option Nat) (Q:Exit→Act→World→Prop) :
  if Region.wanted o (yielded ops a.tmps) then o.wpIn (W1 ro) 0 P a w (fun a' w'=>∃R' tm hp qY H7,K tm hp qY H7∧bB c R' ⟨tm,s.nx,hp⟩ a' w') Q
  else ∃tm hp qY H7,K tm hp qY H7∧bB c R ⟨tm,s.nx,hp⟩ (a.put o.dst undef) w:=by
 have ex:∀(s':AS),bB c R s' a w→s'.nx=s.nx→∀kn,vex P T ops.toList base o i s'.tm s'.hp tr kn K →
   o.wpIn (W1 ro) 0 P a w (fun a' w'=>∃R' tm hp qY H7,K tm hp qY H7∧bB c R' ⟨tm,s.nx,hp⟩ a' w') Q:=by
  intro s' g' hn kn h;unfold vex at h;split at h
  ·exact h.elim
  rename_i hfr;refine Oper.wpIn_mono ?_ (UC g' hT hfr Q ro hd h);rintro a' w' ⟨R',v,ws,⟨ids,hK⟩,g2⟩
  rw[xg,Eg] at hK;refine⟨R',_,_,_,_,hK,?_⟩;rw[←hn,←SQ];exact g2
 have sk:∀(s':AS),bB c R s' a w→s'.nx=s.nx→∀kn,CU ops.toList o s'.tm s'.hp tr kn K →
   ∃tm hp qY H7,K tm hp qY H7∧bB c R ⟨tm,s.nx,hp⟩ (a.put o.dst undef) w:=by
  intro s' g' hn kn h;unfold CU at h;rw[xg] at h;refine⟨_,_,_,_,h,?_⟩;have:=g'.put o.dst hd (v:=.pv (.sc undef)) (x:=undef) (by simp only[ai,bE]);rw[←hn,←SQ];exact this
 have go:∀(want b:Bool) (s':AS),bB c R s' a w→s'.nx=s.nx→∀kn wt,wt=(b==want)→vgo P T ops.toList base o i wt s'.tm s'.hp tr kn K→(Region.wanted o (yielded ops a.tmps)=(b==want)) →
   if Region.wanted o (yielded ops a.tmps) then o.wpIn (W1 ro) 0 P a w (fun a' w'=>∃R' tm hp qY H7,K tm hp qY H7∧bB c R' ⟨tm,s.nx,hp⟩ a' w') Q
   else ∃tm hp qY H7,K tm hp qY H7∧bB c R ⟨tm,s.nx,hp⟩ (a.put o.dst undef) w:=by
  intro want b s' g' hn kn wt hw h agA;rw[agA];subst hw;cases hb:b==want with
  |true=>rw[hb] at h;simp only[if_true];exact ex s' g' hn kn h
  |false=>rw[hb] at h;simp only[Bool.false_eq_true,if_false];exact sk s' g' hn kn h
 unfold ru at h;split at h
 ·rename_i hg;simp only[Region.wanted,hg,if_true];exact ex s g rfl _ h
 rename_i j want hg;split at h
 ·exact h.elim
 rename_i d hsl;have hy:=Qq hg hsl a.tmps;have hwd:Region.wanted o (yielded ops a.tmps)=(yielded ops a.tmps j==some want):=by simp[Region.wanted,hg]
 split at h;rotate_left;cases h
 rename_i v hv;obtain⟨x,hx,hr⟩:=g.slots d _ hv;simp only[ai,bE] at hr;subst hr;split at h
 ·rename_i b;have hyb:yielded ops a.tmps j=some b:=by rw[hy,hx]
  have hwb:Region.wanted o (yielded ops a.tmps)=(b==want):=by rw[hwd,hyb];cases b<;>cases want<;>rfl
  split at h
  ·split at h
   ·exact go want true s g rfl _ want (by cases want<;>rfl) h hwb
   exact go want false s g rfl _ (!want) (by cases want<;>rfl) h hwb
  obtain⟨h1,h2⟩:=h;have hsub:∀(b':Bool),b=b'→bB c R { s with tm:=(d,.pv (.sc (.bool b')))::s.tm } a w:=by
   rintro _ rfl
   refine g.aee fun t u hu=>?_
   rw[ax] at hu;split at hu
   ·rename_i e;rw[←e,←hu];exact hv
   exact hu
  cases b with
  |true=>exact go want true _ (hsub true rfl) rfl _ want (by cases want<;>rfl) (h1 rfl) hwb
  |false=>exact go want false _ (hsub false rfl) rfl _ (!want) (by cases want<;>rfl) (h2 rfl) hwb
 ·have hyn:yielded ops a.tmps j=none:=by rw[hy,hx]
  have hwf:Region.wanted o (yielded ops a.tmps)=false:=by rw[hwd,hyn];rfl
  rw[hwf];simp only[Bool.false_eq_true,if_false];exact sk s g rfl _ h
 exact h.elim
theorem yY (ro:Option Nat)(hT:bO P T){ops:Array Oper}{base:Nat}{K:RK}{Q:Exit→Act→World→Prop}:∀(l:List Oper) (i:Nat) {R:Real} {s:AS} {a:Act} {w:World} {tr:List vo} {kn:List (Nat×Bool)},
  bB c R s a w→base+i+l.length≤s.nx→oU c.n l=true→Qo P T ops.toList base l i s.tm s.hp tr kn K →
  (∀R tm hp tr a w,K tm hp tr→bB c R ⟨tm,s.nx,hp⟩ a w→Q .normal a w)→wpListIn (W1 ro) 0 P ops Q l a w
 | [],i,R,s,a,w,tr,kn,g,hl,hd,h,hQ=>by
   exact wpListIn_nil (hQ R s.tm s.hp tr a w h g)
 | o::r,i,R,s,a,w,tr,kn,g,hl,hd,h,hQ=>by
   simp only[Qo] at h;simp only[List.length_cons] at hl;have hd1:∀t,o.dst=some t→t<c.n:=by
    intro t ht;simp only[oU,ht] at hd;split at hd
    ·rename_i hb;rw[Nat.blt_eq] at hb;exact hb
    cases hd
   have hd2:oU c.n r=true:=by
    simp only[oU] at hd;split at hd
    ·split at hd
     ·exact hd
     cases hd
    exact hd
   have hs:=CV g hT (ops:=ops) (by omega) hd1 h ro Q;refine wpListIn_step fun K' qg=>?_
   split
   ·rename_i hw;rw[if_pos hw] at hs;refine Oper.wpIn_mono ?_ hs;rintro a' w' ⟨R',tm,hp,qY,H7,h',g'⟩
    exact qg _ _ (yY ro hT r (i+1) g' (by simp only;omega) hd2 h' hQ)
   rename_i hw;rw[if_neg hw] at hs;obtain⟨tm,hp,qY,H7,h',g'⟩:=hs;exact⟨fun _ _=>trivial,qg _ _ (yY ro hT r (i+1) g' (by simp only;omega) hd2 h' hQ)⟩
end
section
section
variable {N N':Nat→Prop}{w w':World}(hN:∀r cur e fr,w.heap[r]? = some (.cells cur e fr)→N' r→N r)
 (hw:∀r cur e fr,w.heap[r]? = some (.cells cur e fr)→¬N r→w'.heap[r]? = some (.cells cur e fr))
include hN hw
mutual
theorem rY:∀(p:PV) (v:Value),bE N w p v→bE N' w' p v
 |.sc x,v=>by simp only[bE];exact id
 |.agg cs,v=>by simp only[bE];rintro⟨vs,h1,h2⟩;exact⟨vs,h1,Gi cs _ h2⟩
 |.dn cs,v=>by simp only[bE];rintro⟨vs,h1,h2⟩;exact⟨vs,h1,pR cs _ h2⟩
 | .sl nn st rows,v=>by
   simp only[bE];rintro⟨p,len,cap,h1,h2,h3,h4,h5⟩
   refine⟨p,len,cap,h1,h2,h3,h4,fun a ha=>?_⟩;rcases h5 a ha with h7|⟨h6,h7,cur,e,fr,h8,h9⟩
   ·exact .inl h7
   exact .inr ⟨h6,fun h=>h7 (hN _ _ _ _ h8 h),cur,e,fr,hw _ _ _ _ h8 h7,kX st rows _ h9⟩
 | .bJ row off,v=>by
   simp only[bE];rintro⟨g,base,cur,e,fr,h1,h7,h8,h9⟩
   exact⟨g,base,cur,e,fr,h1,fun h=>h7 (hN _ _ _ _ h8 h),hw _ _ _ _ h8 h7,mW row _ h9⟩
 | .fn f first aM,v=>by
   simp only[bE];rintro⟨fs,cs,h1,h2,h3⟩;exact⟨fs,cs,h1,pR _ _ h2,pR _ _ h3⟩
 |.junk,v=>by simp only[bE];exact id
 | .P8 st rows,v=>by
   simp only[bE];rintro⟨a,h1,h2,h5⟩
   refine⟨a,h1,h2,?_⟩;rcases h5 with h7|⟨h6,h7,cur,e,fr,h8,h9⟩
   ·exact .inl h7
   exact .inr ⟨h6,fun h=>h7 (hN _ _ _ _ h8 h),cur,e,fr,hw _ _ _ _ h8 h7,kX st rows _ h9⟩
theorem pR:∀(ps:List PV) (vs:List Value),dX N w ps vs→dX N' w' ps vs
 |[],vs=>by simp only[dX];exact id
 |p::ps,vs=>by simp only[dX];rintro⟨v,r,h1,h2,h3⟩;exact⟨v,r,h1,rY p v h2,pR ps r h3⟩
theorem Gi:∀(ps:List PV) (vs:List Value),iR N w ps vs→iR N' w' ps vs
 |[],vs=>by simp only[iR];exact id
 |p::ps,vs=>by simp only[iR];rintro⟨v,r,h1,h0,h2,h3⟩;exact⟨v,r,h1,h0,rY p v h2,Gi ps r h3⟩
theorem mW:∀(ps:List PV) (vs:List Value),gq N w ps vs→gq N' w' ps vs
 |[],vs=>by simp only[gq];exact id
 |p::ps,vs=>by simp only[gq];rintro⟨v,r,h1,h0,h2,h3⟩;exact⟨v,r,h1,h0,rY p v h2,mW ps r h3⟩
theorem kX (st:Nat):∀(rows:List (List PV)) (vs:List Value),bK N w st rows vs→bK N' w' st rows vs
 |[],vs=>by simp only[bK];exact id
 |row::rows,vs=>by simp only[bK];rintro⟨h1,h2,h3⟩;exact⟨h1,mW row _ h2,kX st rows _ h3⟩
end
variable {hp:List (Nat×aA)}{R:Real}
mutual
theorem uh:∀(p:AV) (v:Value),ai N w hp R p v→ai N' w' hp R p v
 |.pv p,v=>by simp only[ai];exact rY hN hw p v
 |.agg cs,v=>by simp only[ai];rintro⟨vs,a,b⟩;exact⟨vs,a,nP cs _ b⟩
 |.dn cs,v=>by simp only[ai];rintro⟨vs,a,b⟩;exact⟨vs,a,qD cs _ b⟩
 |.ptr b off,v=>by simp only[ai];exact id
 |.aB b ver,v=>by simp only[ai];exact id
 |.sub b ver st lo hi,v=>by simp only[ai];exact id
 |.bn b ver i off,v=>by simp only[ai];exact id
 | .fn f first aM,v=>by
   simp only[ai];rintro⟨fs,cs,a,b,c⟩;exact⟨fs,cs,a,qD _ _ b,qD _ _ c⟩
theorem qD:∀(ps:List AV) (vs:List Value),bT N w hp R ps vs→bT N' w' hp R ps vs
 |[],vs=>by simp only[bT];exact id
 |p::ps,vs=>by simp only[bT];rintro⟨v,r,a,b,c⟩;exact⟨v,r,a,uh p v b,qD ps r c⟩
theorem nP:∀(ps:List AV) (vs:List Value),bN N w hp R ps vs→bN N' w' hp R ps vs
 |[],vs=>by simp only[bN];exact id
 |p::ps,vs=>by simp only[bN];rintro⟨v,r,a,d,b,c⟩;exact⟨v,r,a,d,uh p v b,nP ps r c⟩
end
end
section
variable {N N':Nat→Prop}{w w':World}{hp:List (Nat×aA)}{R:Real}
variable (hN:∀r cur e fr,w.heap[r]? = some (.cells cur e fr)→N' r→N r)(hw:∀r cur e fr,w.heap[r]? = some (.cells cur e fr)→¬N r→w'.heap[r]? = some (.cells cur e fr))
include hN hw
theorem zx {st j:Nat}{ed:TypeId}{sd:Nat} :
  ∀{hs:List (Option Value)} {rs:List (Bool×List PV)} {xs:List Value},(∀v,some v∈hs→∀k,v.ownBlock=some k→w'.heap[k]? = w.heap[k]?)→dK N w st j ed sd hs rs xs→dK N' w' st j ed sd hs rs xs
 |[],[],xs,_,h=>by simp only[dK]
 |[],_::_,xs,_,h=>by simp only[dK] at h
 |_::_,[],xs,_,h=>by simp only[dK] at h
 | h::hs,(fl,r)::rs,xs,hk,hh=>by
   simp only[dK] at hh ⊢;obtain⟨h1,h2,h3⟩:=hh;refine⟨h1,?_,zx (fun v hv=>hk v (by simp[hv])) h3⟩;cases h with
   | none=>cases fl with
     |false=>exact mW hN hw _ _ h2
     |true=>exact h2.elim
   | some v=>cases fl with
     |false=>exact h2.elim
     | true=>
       obtain⟨rr,ys,a1,a0,a2,a3,a4⟩:=h2;exact⟨rr,ys,a1,a0,mW hN hw _ _ a2,dD a3 fun k hk'=>hk v (by simp) k hk',kX hN hw _ _ _ a4⟩
theorem VF {b:Nat}{e:TypeId}{ver st j:Nat}{ed:TypeId}{sd:Nat}{pre post:List (Bool×List PV)}{row:List AV}
  (hk:∀k,aI R b k (some (.fP e ver st j ed sd pre row post))→w'.heap[k]? = w.heap[k]?) (hrow:∀vs,bN N w hp R row vs→bN N' w' hp R row vs)
  (h:eB N w hp R b (.fP e ver st j ed sd pre row post)):eB N' w' hp R b (.fP e ver st j ed sd pre row post):=by
 obtain⟨xs,hs1,hs2,a1,a2,a3,a4,a5,a6,a7⟩:=h;refine⟨xs,hs1,hs2,a1,?_,zx hN hw (fun v hv k hk'=>hk k (.inr ⟨v,by rw[a1];simp[hv],hk'⟩)) a3,a4,hrow _ a5,zx hN hw (fun v hv k hk'=>hk k (.inr ⟨v,by rw[a1];simp[hv],hk'⟩)) a6,a7⟩;refine dD a2 fun k hk'=>hk k (.inl ?_)
 simp only[bY] at hk';cases hnil:R.nil b with
 |true=>simp[hnil,Value.ownBlock] at hk'
 |false=>simp[hnil,Value.ownBlock] at hk';exact⟨rfl,hk'⟩
end
theorem Hq.sP {c1 c2:Ctx}{R:Real}{hp:List (Nat×aA)}{w w':World}(g:Hq c1 R hp w)(ana:∀r,aT c1 R hp r→r<w.heap.size)
  (hK:∀v x,c2.K v x→ai (aT c1 R hp) w hp R v x) (hF:∀r,r<w.heap.size→c2.F r→c1.F r)
  (hw:∀r o,w.heap[r]? = some o→(r<c1.n0.1∨o.isCells=true∨owned R hp r)→¬c1.F r→w'.heap[r]? = some o)
  (hsz:w.heap.size≤w'.heap.size) (hos:w'.os=w.os∧w'.tape=w.tape∧w'.output=w.output)
  (hfree:∀r,owned R hp r→¬c2.F r) (hfix:uz c2.fix (owned R hp) w') (afl:nI c2.O c2.w w') (Y1:∀r,owned R hp r→c2.O r∨c2.w.heap.size≤r) (hlo:c2.n0=c1.n0∧c2.n0.1≤c2.lo∧c2.lo≤w'.heap.size) :
  Hq c2 R hp w'∧∀v x,ai (aT c1 R hp) w hp R v x→ai (aT c2 R hp) w' hp R v x:=by
 have hN:∀r,r<w.heap.size→aT c2 R hp r→aT c1 R hp r:=by
  rintro r hr (h|h)
  ·exact .inl (hF r hr h)
  exact .inr h
 have WS:∀r cur e fr,w.heap[r]? = some (.cells cur e fr)→aT c2 R hp r→aT c1 R hp r:=fun r cur e fr h=>hN r (size_of_getElem? h)
 have hw2:∀r cur e fr,w.heap[r]? = some (.cells cur e fr)→¬aT c1 R hp r→w'.heap[r]? = some (.cells cur e fr):=fun r cur e fr h hn=>hw r _ h (.inr (.inl rfl)) fun hf=>hn (.inl hf)
 have hwo:∀r o,w.heap[r]? = some o→owned R hp r→w'.heap[r]? = some o:=fun r o h ho=>hw r o h (.inr (.inr ho)) (g.free r ho)
 refine⟨⟨?_,g.inj,hfree,afl,Y1,fun v x h=>uh WS hw2 v x (hK v x h),hfix,⟨by rw[hlo.1];exact g.lo.1,hlo.2⟩⟩,fun v x h=>uh WS hw2 v x h⟩;intro b box h;have hr:=g.boxes b box h;have hkeep:∀r o,aI R b r (some box)→w.heap[r]? = some o→w'.heap[r]? = some o:=fun r o ho hx=>hwo r o hx ⟨b,by rw[h];exact ho⟩
 cases box with
 | var cells=>
   obtain⟨cur,e,h8,h9⟩:=hr;exact⟨cur,e,hkeep _ _ rfl h8,nP WS hw2 _ _ h9⟩
 | sD cells=>
   obtain⟨cur,e,fr,h8,h7,h9⟩:=hr;exact⟨cur,e,fr,hw2 _ _ _ _ h8 h7,fun x=>h7 (WS _ _ _ _ h8 x),mW WS hw2 _ _ h9⟩
 | arr e ver st rows=>
   obtain⟨xs,h8,h9⟩:=hr;refine⟨xs,dD h8 fun k hk=>?_,kX WS hw2 _ _ _ h9⟩;have hlt:=(h8.lt k hk).2;have hk':aI R b k (some (.arr e ver st rows)):=by
    simp only[bY] at hk;cases hnil:R.nil b with
    |true=>simp[hnil,Value.ownBlock] at hk
    |false=>simp[hnil,Value.ownBlock] at hk;exact⟨hnil,hk⟩
   have hx:w.heap[k]? = some w.heap[k]:=by simp[hlt]
   rw[hkeep k _ hk' hx,hx]
 |kE ver st rows=>exact rY WS hw2 _ _ hr
 | tr y ver rest st=>
   obtain⟨k0,kh,k1,k2,k3,k4⟩:=hr;refine⟨k0,kh,k1,⟨Nat.le_trans k2.size hsz,fun r o hro hz hc=>?_,hos.1.trans k2.os,hos.2.1.trans k2.tape,hos.2.2.trans k2.output⟩,k3,fun r hn=>?_⟩
   ·have h2:=k2.keep r o hro hz hc;have hD:¬c1.F r:=fun hf=>by
     rcases k4 r (.inl hf) with hd|hz'|hs
     ·exact g.free r ⟨b,by rw[h];exact hd⟩ hf
     ·exact hz hz'
     have:=size_of_getElem? hro;omega
    exact hw r o h2 (hc.imp (fun hl=>by rw[←g.lo.1];exact hl) fun hc=>hc.imp id fun hd=>⟨b,by rw[h];exact hd⟩) hD
   by_cases hlt:r<w.heap.size
   ·exact k4 r (hN r hlt hn)
   exact .inr (.inr (by have:=k2.size;omega))
 | mp kk kv es=>
   obtain⟨cur,clock,h8,h9,h10⟩:=hr;exact⟨cur,clock,hkeep _ _ ⟨h9,rfl⟩ h8,h9,h10⟩
 | fP e ver st j ed sd pre row post=>
   have hr':=hr;exact VF WS hw2 (fun k hk'=>by
    have hlt:=AX.ko hr' hk';have hx:w.heap[k]? = some w.heap[k]:=by simp[hlt]
    rw[hkeep k _ hk' hx,hx]) (fun vs h=>nP WS hw2 _ _ h) hr'
 | dN e ver st pre row post=>
   obtain⟨xs,h8,h9,h10,h11,h12⟩:=hr;refine⟨xs,dD h8 fun k hk=>?_,kX WS hw2 _ _ _ h9,h10,nP WS hw2 _ _ h11,kX WS hw2 _ _ _ h12⟩;have hlt:=(h8.lt k hk).2;have hk':aI R b k (some (.dN e ver st pre row post)):=by
    simp only[bY] at hk;cases hnil:R.nil b with
    |true=>simp[hnil,Value.ownBlock] at hk
    |false=>simp[hnil,Value.ownBlock] at hk;exact⟨hnil,hk⟩
   have hx:w.heap[k]? = some w.heap[k]:=by simp[hlt]
   rw[hkeep k _ hk' hx,hx]
theorem bB.sP {c1 c2:Ctx}{R:Real}{s:AS}{a a':Act}{w w':World}(g:bB c1 R s a w)(hn:c2.n=c1.n)(ha:a'.tmps=a.tmps)
  (hK:∀v x,c2.K v x→ai (aT c1 R s.hp) w s.hp R v x) (hF:∀r,r<w.heap.size→c2.F r→c1.F r)
  (hw:∀r o,w.heap[r]? = some o→(r<c1.n0.1∨o.isCells=true∨owned R s.hp r)→¬c1.F r→w'.heap[r]? = some o)
  (hsz:w.heap.size≤w'.heap.size) (hos:w'.os=w.os∧w'.tape=w.tape∧w'.output=w.output)
  (hfree:∀r,owned R s.hp r→¬c2.F r) (hfix:uz c2.fix (owned R s.hp) w') (afl:nI c2.O c2.w w') (Y1:∀r,owned R s.hp r→c2.O r∨c2.w.heap.size≤r) (hlo:c2.n0=c1.n0∧c2.n0.1≤c2.lo∧c2.lo≤w'.heap.size)
  (hm:∃Ds,Marks c2.lo (owned R s.hp) w' a'.defers Ds):bB c2 R s a' w':=by
 obtain⟨h,hmap⟩:=g.hap.sP (fun r=>g.Nlt) hK hF hw hsz hos hfree hfix afl Y1 hlo;refine h.Xx (fun t v hv=>?_) (by rw[ha,hn];exact g.size) hm;obtain⟨x,hx,hr⟩:=g.slots t v hv;exact⟨x,by rw[ha];exact hx,hmap v x hr⟩
end
def Qr (P:Program)(f:FuncId)(aM:List PV)(xs:List (List PV)):Prop:=
 Enters P f∧∀(l:Nat) (J:List (List PV)→Bool→(Nat→Prop)→(Nat→Prop)→World→Prop) (D:Nat→Prop) (w:World) (dm:Array Value),YH (P,l) w.heap.size J→(∀r,D r→r<w.heap.size) →
  J xs false (fun _=>False) D w→dX D w aM dm.toList →
  Calls P f (#[.func (.yield l) #[] #[]]++dm) w fun e w'=>(∃v,e=.returned v)∧∃rest st Z D' wy,J rest st Z D' wy∧DK w.heap.size Z D' wy w'∧(st=true∨rest=[])
def qM (s s':AS):Prop:=∀(c:Ctx) (R:Real) (a:Act) (w:World),bB c R s a w→∃R',bB c R' s' a w
theorem qM.refl (s:AS):qM s s:=fun c R a w g=>⟨R,g⟩
theorem qM.trans {s1 s2 s3:AS}(h:qM s1 s2)(h':qM s2 s3):qM s1 s3:=fun c R a w g=>let ⟨R1,g1⟩:=h c R a w g;h' c R1 a w g1
mutual
def F9:AV→Bool
 |.pv _=>true
 |.agg cs=>AZ cs
 |.dn cs=>AZ cs
 |.ptr b _=>Nat.blt b 1000
 |.bn b _ _ _=>Nat.blt b 1000 && !Nat.beq b 999
 |.aB b _=>Nat.blt b 1000
 |.sub b _ _ _ _=>Nat.blt b 1000
 |.fn _ a c=>AZ a&&AZ c
def AZ:List AV→Bool
 |[]=>true
 |v::r=>F9 v&&AZ r
end
def Jb:List (Nat×AV)→Bool
 |[]=>true
 |(_,v)::r=>F9 v&&Jb r
theorem Ga:∀{tm:List (Nat×AV)} {t:Nat} {v:AV},Jb tm=true→lk tm t=some v→F9 v=true
 |[],t,v,_,h=>by simp[lk] at h
 | (t',v')::r,t,v,hl,h=>by
   simp only[Jb,Bool.and_eq_true] at hl;rw[ax] at h;split at h
   ·simp only[Option.some.injEq] at h;rw[←h];exact hl.1
   exact Ga hl.2 h
def Xo:List Nat→List PV→List (Nat×AV)→Option (List (Nat×AV))
 | [],ps,tm=>match ps with
   |[]=>some tm
   |_=>none
 | p::r,ps,tm=>match ps with
   |v::vs=>Xo r vs ((p,.pv v)::tm)
   |[]=>none
def Lb:Exit→Option Code
 |.ret=>some .ret
 |.exit id=>some (.exit id)
 |_=>none
def rfK (tm:List (Nat×AV))(next:AS→Prop)(K:Exit→AS→Prop)(e:Exit)(s:AS):Prop:=
 match e with
 | .normal=>match s with
   |⟨_,nx,hp⟩=>next ⟨tm,nx,hp⟩
 | .ret=>match s with
   |⟨_,nx,hp⟩=>K .ret ⟨tm,nx,hp⟩
 | .exit id=>match s with
   |⟨_,nx,hp⟩=>K (.exit id) ⟨tm,nx,hp⟩
 |_=>False
section
variable {N N':Nat→Prop}{w w':World}{hp hp':List (Nat×aA)}{R R':Real}(hN:∀r,r<w.heap.size→N' r→N r)(hw:∀r,r<w.heap.size→¬N r→w'.heap[r]? = w.heap[r]?)
 (hk:∀v x,kg v=true→ai N w hp R v x→ai N' w' hp' R' v x)
include hN hw hk
mutual
theorem Gb:∀(v:AV) (x:Value),F9 v=true→ai N w hp R v x→ai N' w' hp' R' v x
 |.pv p,x,_,h=>by simp only[ai] at h ⊢;exact dw hN hw p x h
 |.agg cs,x,hl,h=>by simp only[ai] at h ⊢;obtain⟨vs,a,b⟩:=h;exact⟨vs,a,J2 cs _ (by simpa only[F9] using hl) b⟩
 |.dn cs,x,hl,h=>by simp only[ai] at h ⊢;obtain⟨vs,a,b⟩:=h;exact⟨vs,a,xQ cs _ (by simpa only[F9] using hl) b⟩
 |.ptr b off,x,hl,h=>hk _ x (by simpa only[F9,kg] using hl) h
 |.bn b ver i off,x,hl,h=>hk _ x (by simpa only[F9,kg] using hl) h
 |.aB b ver,x,hl,h=>hk _ x (by simpa only[F9,kg] using hl) h
 | .sub b ver st lo hi,x,hl,h=>by
   simp only[ai] at h ⊢;obtain⟨u,a,c⟩:=h;have:=hk (.aB b ver) u (by simpa only[F9,kg] using hl) (by simpa only[ai] using a);simp only[ai] at this;exact⟨u,this,c⟩
 | .fn f a c,x,hl,h=>by
   simp only[ai] at h ⊢;simp only[F9,Bool.and_eq_true] at hl;obtain⟨fs,cs,e,h1,h2⟩:=h;exact⟨fs,cs,e,xQ a _ hl.1 h1,xQ c _ hl.2 h2⟩
theorem xQ:∀(vs:List AV) (xs:List Value),AZ vs=true→bT N w hp R vs xs→bT N' w' hp' R' vs xs
 |[],xs,_,h=>by simpa only[bT] using h
 | v::r,xs,hl,h=>by
   simp only[bT] at h ⊢;simp only[AZ,Bool.and_eq_true] at hl;obtain⟨x,ys,e,h1,h2⟩:=h;exact⟨x,ys,e,Gb v x hl.1 h1,xQ r ys hl.2 h2⟩
theorem J2:∀(vs:List AV) (xs:List Value),AZ vs=true→bN N w hp R vs xs→bN N' w' hp' R' vs xs
 |[],xs,_,h=>by simpa only[bN] using h
 | v::r,xs,hl,h=>by
   simp only[bN] at h ⊢;simp only[AZ,Bool.and_eq_true] at hl;obtain⟨x,ys,e,h0,h1,h2⟩:=h;exact⟨x,ys,e,h0,Gb v x hl.1 h1,J2 r ys hl.2 h2⟩
end
end
theorem YO {N N':Nat→Prop}{w w':World}{hp:List (Nat×aA)}{R:Real}{v:AV}{x:Value}(h:kg v=true)(hr:ai N w hp R v x):ai N' w' hp R v x:=by
 cases v<;>simp only[kg] at h<;>first
  |(simp only[ai] at hr ⊢;exact hr)
  |cases h
theorem J3 {c:Ctx}{R:Real}{w:World}{nx:Nat}{hp:List (Nat×aA)}:∀(ps:List Nat) (x:List PV) (tm tm':List (Nat×AV)) (a:Act) (vs:List Value),(∀t∈ps,t<c.n)→Xo ps x tm=some tm' →
  dX (aT c R hp) w x vs→bB c R ⟨tm,nx,hp⟩ a w→vs.length=ps.length∧bB c R ⟨tm',nx,hp⟩ { a with tmps:=(ps.zip vs).foldl (fun t (p,v)=>t.setIfInBounds p v) a.tmps } w
 | [],x,tm,tm',a,vs,_,h,hr,g=>by
   cases x with
   | nil=>
     simp only[Xo,Option.some.injEq] at h;subst h;simp only[dX] at hr;subst hr;exact⟨rfl,g⟩
   |cons _ _=>simp[Xo] at h
 | p::ps,x,tm,tm',a,vs,hps,h,hr,g=>by
   cases x with
   |nil=>simp[Xo] at h
   | cons y ys=>
     simp only[Xo] at h;simp only[dX] at hr;obtain⟨v,r,rfl,h1,h2⟩:=hr;have g1:=g.put (some p) (fun t ht=>by cases ht;exact hps p (by simp)) (v:=.pv y) (x:=v) (by simpa only[ai] using h1);obtain⟨e,g2⟩:=J3 ps ys _ _ _ r (fun t ht=>hps t (by simp[ht])) h h2 g1;exact⟨by simp[e],g2⟩
structure Qs (c:Ctx)(ro:Option Nat):Prop where
 lp:∀l0,ro=some l0→∃r0,c.fix l0=some (.loop r0)
 nc:∀r o,c.fix r=some o→o.isCells=false
def cbF (c:Ctx)(Z:Nat→Prop)(l:Nat)(wy:World)(r:Nat):Prop:=(c.F r∨Z r∨r=l)∧r<wy.heap.size
def cb (c:Ctx)(Z:Nat→Prop)(l:Nat)(wy:World):Ctx where
 F:=cbF c Z l wy
 O r:=c.O r∨c.w.heap.size≤r
 w:=wy
 n:=c.n
 hF r h:=h.2
 K:=c.K
 hK:=c.hK
 fix:=c.fix
 n0:=c.n0
 lo:=c.lo
def cr (c:Ctx)(Z:Nat→Prop)(l:Nat)(W:World)(own:Nat→Prop)(Kx:AV→Value→Prop)(hKx:∀v x,Kx v x→kg v=true)(fx:Nat→Option Obj)(lo:Nat):Ctx where
 F:=cbF c Z l W
 O r:=own r∨r=l
 w:=W
 n:=c.n
 hF r h:=h.2
 K v x:=c.K v x∨Kx v x
 hK v x h:=h.elim (c.hK v x) (hKx v x)
 fix:=fx
 n0:=c.n0
 lo:=lo
def qU (c:Ctx)(l:Nat)(o:Obj)(Dl:List Nat)(r:Nat):Option Obj:=if r=l then some o else if r∈Dl then some (.deferred (some [])) else c.fix r
def Dst (c:Ctx)(l:Nat)(Dl:List Nat)(R:Real)(hp:List (Nat×aA))(r:Nat):Prop:=owned R hp r∨r=l∨(∃o,c.fix r=some o)∨r∈Dl∨c.F r
structure RJ {ι:Type}(c:Ctx)(ao:Act)(l n1:Nat)(Dl:List Nat)(rec:LoopState→Option Code→Loop)(xs:List (List PV))(st:Nat→ι→AS)(K:Exit→AS→Prop)
  (R:Real) (s:AS) (rest:List (List PV)) (Vx:Bool) (Z D:Nat→Prop) (wy:World):Prop where
 zz:∀r,Z r→n1≤r∧r<wy.heap.size∧¬D r
 n1:n1≤wy.heap.size
 jE:nI c.O c.w wy
 dd:∀r,D r↔Dst c l Dl R s.hp r
 dlt:∀r,D r→r<wy.heap.size
 g:bB (cb c Z l wy) R s ao wy
 Vi:Marks c.lo (owned R s.hp) wy ao.defers Dl
 run:Vx=false→∃k i,s=st k i∧rest=xs.drop k∧k≤xs.length∧wy.heap[l]? = some (.loop (rec .ready none))
 out:Vx=true→∃e code,Lb e=some code∧K e s∧wy.heap[l]? = some (.loop (rec .done (some code)))
theorem Oq {P:Program}{ι:Type}{c:Ctx}{ao:Act}{l n1:Nat}{Dl:List Nat}{fn:FuncId}{ps:Array Tmp}{PU MO:Code}{dfr:Nat}{xs:List (List PV)}{st:Nat→ι→AS}{K:Exit→AS→Prop}
  {rec:LoopState→Option Code→Loop} (Ot:∀s p,rec s p={ state:=s,pending:=p,fn:=fn,tmps:=ao.tmps,params:=ps,assign:=PU,body:=MO,defers:=dfr })
  (hl1:c.w.heap.size≤n1) (hln:c.w.heap.size≤l) (hlD:l∉Dl) (Rz:c.fix l=none) (amZ:l<n1) (hn0:c.n0.1≤n1) (hlo:c.n0.1≤c.lo) (hlo1:c.lo≤n1)
  (hnc:∀r o,c.fix r=some o→o.isCells=false) (hps:∀t∈ps.toList,t<c.n) (hlow:∀k i,Jb (st k i).tm=true) {A:Nat→ι→List PV→AS→Prop}
  (ae8:∀(c':Ctx) (k:Nat) (i:ι) (x:List PV) (tm:List (Nat×AV)) (R:Real) (a:Act) (w:World),c'.n=c.n→Qs c' (some l)→xs[k]? = some x→Xo ps.toList x (st k i).tm=some tm →
   bB c' R ⟨tm,(st k i).nx,(st k i).hp⟩ a w→PU.wpIn (W1 (some l)) 0 P (Exit.then (fun a1 w1=>∃R1 s1,A k i x s1∧bB c' R1 s1 a1 w1) (fun _ _ _=>False)) a w)
  (ae9:∀(c':Ctx) (k:Nat) (i:ι) (x:List PV) (s1:AS) (R:Real) (a:Act) (w:World),c'.n=c.n→Qs c' (some l)→xs[k]? = some x→A k i x s1 →
   bB c' R s1 a w→MO.wpIn (W1 (some l)) 0 P (fun e a' w'=>∃R' s',rfK (st k i).tm (fun s''=>∃j,qM s'' (st (k+1) j)) K e s'∧bB c' R' s' a' w') a w)
  (afa:∀k i x,xs[k]? = some x→∃tm,Xo ps.toList x (st k i).tm=some tm) :
  YH (P,l) n1 fun rest Vx Z D wy=>∃R s,RJ c ao l n1 Dl rec xs st K R s rest Vx Z D wy:=by
 rintro x rest Z D wy W Z' vs ⟨R0,s0,J⟩ hE hDlt hZ1 hZ2 hZ3 hvs
 obtain⟨k,i,rfl,hrest,hkl,ajQ⟩:=J.run rfl;have hxk:xs[k]? = some x:=by
  have:=congrArg (fun l=>l[0]?) hrest;simpa using this.symm
 have afb:rest=xs.drop (k+1):=by
  have:=congrArg List.tail hrest;simpa using this
 have aeJ:k<xs.length:=(List.getElem?_eq_some_iff.1 hxk).1;obtain⟨tmx,ahw⟩:=afa k i x hxk;have g0:=J.g;have hsz:=hE.size;have n1W:n1≤W.heap.size:=Nat.le_trans J.n1 hsz;have hlW:l<W.heap.size:=by omega
 have hlZ:∀(Z0:Nat→Prop) (wz:World),l<wz.heap.size→cbF c Z0 l wz l:=fun Z0 wz h=>⟨.inr (.inr rfl),h⟩
 have Ou:∀r,owned R0 (st k i).hp r→D r:=fun r h=>(J.dd r).2 (.inl h)
 have D6:D l:=(J.dd l).2 (.inr (.inl rfl));have hZD:∀r,D r→¬Z r:=fun r hd hz=>(J.zz r hz).2.2 hd
 have cwW:c.w.heap.size≤W.heap.size:=by omega
 have ahx:∀r,r<wy.heap.size→cbF c Z' l W r→cbF c Z l wy r:=by
  rintro r hr ⟨h,_⟩
  exact⟨h.imp id fun h=>h.imp (fun h=>(hZ1 r h).resolve_right (by omega)) id,hr⟩
 have hl0:W.heap[l]? = some (.loop (rec .ready none)):=hE.keep l _ ajQ (hZD l D6) (.inr (.inr D6));let NW:Nat→Prop:=fun r=>cbF c Z' l W r∨owned R0 (st k i).hp r
 let Kx:AV→Value→Prop:=fun v y=>kg v=true∧ai NW W (st k i).hp R0 v y
 have hKx:∀v y,Kx v y→kg v=true:=fun v y h=>h.1
 let c1:Ctx:=cr c Z' l W (owned R0 (st k i).hp) Kx hKx (qU c l (.loop (rec .ready none)) Dl) W.heap.size
 have YP:∀d∈Dl,d≠l:=fun d hd e=>hlD (e▸hd)
 have adO:∀r o,c.fix r=some o→r≠l:=fun r o h e=>by rw[e,Rz] at h;cases h
 have ahy:∀(o':Obj),o'.isCells=false→∀r o,qU c l o' Dl r=some o→o.isCells=false:=by
  intro o' ho' r o h;simp only[qU] at h;split at h
  ·simp only[Option.some.injEq] at h;rw[←h];exact ho'
  split at h
  ·simp only[Option.some.injEq] at h;rw[←h];rfl
  exact hnc r o h
 have G1:bB c1 R0 (st k i) { tmps:=ao.tmps,defers:=[] } W:=by
  refine g0.sP (c2:=c1) rfl rfl ?_ ahx ?_ hsz ⟨hE.os,hE.tape,hE.output⟩ ?_ ?_ (nI.refl _ _) (fun r h=>.inl (.inl h)) ⟨rfl,by show c.n0.1≤W.heap.size;omega,Nat.le_refl _⟩ ⟨[],Marks.nil⟩
  ·rintro v y (h|h)
   ·exact g0.kept v y h
   exact YO h.1 h.2
  ·intro r o ho hc hf;have hrz:¬Z r:=fun hz=>hf ⟨.inr (.inl hz),size_of_getElem? ho⟩
   exact hE.keep r o ho hrz (hc.imp (fun h=>by have:r<c.n0.1:=h;omega) fun h=>h.imp id (Ou r))
  ·intro r ho hf;exact g0.free r ho (ahx r (hDlt r (Ou r ho)) hf)
  refine⟨fun r o h=>?_,fun r o h ho=>?_,ahy _ rfl⟩
  ·simp only[c1,cr,qU] at h;split at h
   ·rename_i e;simp only[Option.some.injEq] at h;rw[e,←h];exact hl0
   split at h
   ·rename_i hd;simp only[Option.some.injEq] at h;have hD:=(J.dd r).2 (.inr (.inr (.inr (.inl hd))));rw[←h];exact hE.keep r _ (J.Vi.obj r hd) (hZD r hD) (.inr (.inr hD))
   have hD:=(J.dd r).2 (.inr (.inr (.inl ⟨o,h⟩)));exact hE.keep r _ (g0.fixed.obj r o h) (hZD r hD) (.inr (.inr hD))
  simp only[c1,cr,qU] at h;split at h
  ·rename_i e;subst e;exact g0.free r ho (hlZ Z wy (hDlt _ D6))
  split at h
  ·rename_i hd;exact J.Vi.free r hd ho
  exact g0.fixed.free r o h ho
 have ajR:dX (aT c1 R0 (st k i).hp) W x vs:=by
  refine oC (N:=fun r=>D r∨Z' r) (fun r _ h=>?_) (fun _ _ _=>rfl) _ _ hvs;rcases h with ⟨h,_⟩|h
  ·rcases h with h|h|h
   ·exact .inl ((J.dd r).2 (.inr (.inr (.inr (.inr h)))))
   ·exact .inr h
   exact .inl (h▸D6)
  exact .inl (Ou r h)
 obtain⟨hlen,G1p⟩:=J3 (c:=c1) ps.toList x (st k i).tm tmx _ vs hps ahw ajR G1;have hrun:=run_yield (P:=P) (args:=vs.toArray) hl0 (by rw[Ot];simpa using hlen);rw[Ot] at hrun;refine⟨fn,_,PU,MO,hrun,roundIn_of_wpIn trivial ?_⟩;have ahz:∀(r0:Loop),Qs (cr c Z' l W (owned R0 (st k i).hp) Kx hKx (qU c l (.loop r0) Dl) W.heap.size) (some l):=by
  intro r0;refine⟨fun l0 e=>?_,fun r o h=>?_⟩
  ·simp only[Option.some.injEq] at e;subst e;exact⟨r0,by simp[cr,qU]⟩
  simp only[cr,qU] at h;split at h
  ·simp only[Option.some.injEq] at h;rw[←h];rfl
  split at h
  ·simp only[Option.some.injEq] at h;rw[←h];rfl
  exact hnc r o h
 have ajS:c1.fix l=some (.loop (rec .ready none)):=by simp[c1,cr,qU]
 have SX:((ps.zip vs.toArray).foldl (fun tmps (x:Nat×Value)=>tmps.setIfInBounds x.1 x.2) ao.tmps)=(ps.toList.zip vs).foldl (fun t (x:Nat×Value)=>t.setIfInBounds x.1 x.2) ao.tmps:=by
  rw[←Array.foldl_toList,Array.toList_zip]
 simp only[] at SX ⊢;rw[SX];refine wpIn_mono (ae8 c1 k i x tmx R0 _ W rfl (ahz _) hxk ahw G1p) ?_;rintro e a1 w1 h1
 cases e with
 | normal=>
   obtain⟨R1,s1,hA,G2⟩:=h1;have afe:w1.heap[l]? = some (.loop (rec .ready none)):=G2.fixed.obj l _ ajS;refine⟨_,run_beginRound afe (by rw[Ot]),?_⟩;generalize YQ:Obj.loop { rec .ready none with state:=.busy }=ob;let c2:Ctx:=cr c Z' l W (owned R0 (st k i).hp) Kx hKx (qU c l ob Dl) W.heap.size
   have ajT:l<w1.heap.size:=size_of_getElem? afe;have G3:bB c2 R1 s1 a1 (w1.putObj l ob):=by
    refine G2.sP (c2:=c2) rfl rfl (fun v y h=>G2.kept v y h) (fun r _ h=>h) ?_ (by simp) ⟨rfl,rfl,rfl⟩ (fun r h=>G2.free r h) ?_ ?_ (fun r h=>G2.iL r h)
     ⟨rfl,by show c.n0.1≤W.heap.size;omega,by rw[World.putObj_size];exact G2.lo.2.2⟩ ?_
    ·intro r o ho _ hf;have hrl:r≠l:=fun e=>hf (e▸hlZ Z' W hlW)
     rw[World.putObj_heap_other hrl];exact ho
    ·refine⟨fun r o h=>?_,fun r o h=>?_,ahy ob (by rw[←YQ];rfl)⟩
     ·simp only[c2,cr,qU] at h;by_cases e:r=l
      ·subst e;simp only[if_true,Option.some.injEq] at h;rw[World.putObj_heap_same ajT,h]
      rw[World.putObj_heap_other e];refine G2.fixed.obj r o ?_;simp only[c1,cr,qU];simpa only[if_neg e] using h
     by_cases e:r=l
     ·subst e;exact fun ho=>G2.free r ho (hlZ Z' W hlW)
     refine G2.fixed.free r o ?_;simp only[c2,cr,qU] at h;simp only[c1,cr,qU];simpa only[if_neg e] using h
    ·refine G2.jE.trans (O':=fun r=>r=l) ⟨by simp,fun r _ hn=>World.putObj_heap_other hn,rfl,rfl,rfl⟩ fun r _ h=>.inr h
    obtain⟨Ds,hm⟩:=G2.marks;refine⟨Ds,hm.low,hm.eq,hm.nodup,fun d hd=>?_,hm.free⟩;have:=hm.obj d hd;rw[World.putObj_heap_other]
    ·exact this
    rintro rfl
    rw[afe] at this;cases this
   have ajU:c2.fix l=some ob:=by simp[c2,cr,qU]
   refine wpIn_mono (ae9 c2 k i x s1 R1 a1 _ rfl (by have:=ahz { rec .ready none with state:=.busy };rw[YQ] at this;exact this) hxk hA G3) ?_;rintro e a' w' ⟨R',s',hK,G4⟩
   have hl4:w'.heap[l]? = some (.loop { rec .ready none with state:=.busy }):=by rw[YQ];exact G4.fixed.obj l _ ajU
   have aff:l<w'.heap.size:=size_of_getElem? hl4;have ajV:W.heap.size≤w'.heap.size:=G4.jE.size;let c3:Ctx:=cr c Z' l W (owned R0 (st k i).hp) (fun _ _=>False) (fun _ _ h=>h.elim) c.fix c.lo
   have G5:∀o',bB c3 R' ⟨(st k i).tm,s'.nx,s'.hp⟩ ao (w'.putObj l o')∧Marks c.lo (owned R' s'.hp) (w'.putObj l o') ao.defers Dl:=by
    intro o';have hmk:Marks c.lo (owned R' s'.hp) (w'.putObj l o') ao.defers Dl:=by
     refine⟨J.Vi.low,J.Vi.eq,J.Vi.nodup,fun d hd=>?_,fun d hd=>?_⟩
     ·rw[World.putObj_heap_other (YP d hd)];exact G4.fixed.obj d _ (by simp[c2,cr,qU,YP d hd,hd])
     exact G4.fixed.free d (.deferred (some [])) (by simp[c2,cr,qU,YP d hd,hd])
    obtain⟨H,hmap⟩:=G4.hap.sP (c2:=c3) (w':=w'.putObj l o') (fun r=>G4.Nlt) (fun v y h=>by
      rcases h with h|h
      ·exact G4.kept v y (.inl h)
      ·exact h.elim) (fun r _ h=>h) (fun r o ho _ hf=>by
      have hrl:r≠l:=fun e=>hf (e▸hlZ Z' W hlW)
      rw[World.putObj_heap_other hrl];exact ho) (by simp) ⟨rfl,rfl,rfl⟩ (fun r h=>G4.free r h)
     ⟨fun r o h=>by
       have hrl:=adO r o h;rw[World.putObj_heap_other hrl];by_cases hd:r∈Dl
       ·have h1:=J.Vi.obj r hd;have h2:=g0.fixed.obj r o h;rw[h1] at h2;simp only[Option.some.injEq] at h2;rw[←h2];exact G4.fixed.obj r _ (by simp[c2,cr,qU,hrl,hd])
       exact G4.fixed.obj r o (by have h':c.fix r=some o:=h;simp[c2,cr,qU,hrl,hd,h']),
      fun r o h=>by
       have hrl:=adO r o h;by_cases hd:r∈Dl
       ·exact G4.fixed.free r (.deferred (some [])) (by simp[c2,cr,qU,hrl,hd])
       exact G4.fixed.free r o (by have h':c.fix r=some o:=h;simp[c2,cr,qU,hrl,hd,h']),hnc⟩
     (G4.jE.trans (O':=fun r=>r=l) ⟨by simp,fun r _ hn=>World.putObj_heap_other hn,rfl,rfl,rfl⟩ fun r _ h=>.inr h) (fun r h=>G4.iL r h)
     ⟨rfl,hlo,by show c.lo≤_;rw[World.putObj_size];omega⟩
    refine⟨H.Xx (fun t v hv=>?_) G1.size ⟨Dl,hmk⟩,hmk⟩;obtain⟨y,hy,hr⟩:=G1.slots t v hv;refine⟨y,hy,hmap v y ?_⟩;refine Gb (N:=NW) (w:=W) (hp:=(st k i).hp) (R:=R0) (fun r hr h=>?_) (fun r hr hn=>?_) (fun v y hl h=>G4.kept v y (.inr ⟨hl,h⟩)) v y (Ga (hlow k i) hv) hr
    ·rcases h with h|h
     ·exact .inl h
     rcases G4.iL r h with (h|h)|h
     ·exact .inr h
     ·exact .inl (h▸hlZ Z' W hlW)
     exact absurd hr (Nat.not_lt.2 h)
    refine G4.jE.keep r hr fun ho=>?_
    rcases ho with ho|ho
    ·exact hn (.inr ho)
    exact hn (.inl (ho▸hlZ Z' W hlW))
   have YR:∀(o':Obj) (R5:Real) (s5:AS) (Vx:Bool) (_:bB c3 R5 s5 ao (w'.putObj l o')) (_:Marks c.lo (owned R5 s5.hp) (w'.putObj l o') ao.defers Dl)
     (_:Vx=false→∃k i,s5=st k i∧rest=xs.drop k∧k≤xs.length∧(w'.putObj l o').heap[l]? = some (.loop (rec .ready none)))
     (_:Vx=true→∃e code,Lb e=some code∧K e s5∧(w'.putObj l o').heap[l]? = some (.loop (rec .done (some code)))),
     ∃(D':Nat→Prop),nI D W (w'.putObj l o')∧(∀r,D' r→D r∨W.heap.size≤r)∧(∀r,D' r→r<(w'.putObj l o').heap.size) ∧
      ∃R s,RJ c ao l n1 Dl rec xs st K R s rest Vx Z' D' (w'.putObj l o'):=by
    intro o' R5 s5 Vx G6 mk6 ahA ahB;have hW4:W.heap.size≤(w'.putObj l o').heap.size:=by simpa using ajV
    have hD1:∀r,Dst c l Dl R5 s5.hp r→D r∨W.heap.size≤r:=by
     rintro r (h|h|h|h|h)
     ·rcases G6.iL r h with (h|h)|h
      ·exact .inl (Ou r h)
      ·exact .inl (h▸D6)
      exact .inr h
     ·exact .inl (h▸D6)
     ·exact .inl ((J.dd r).2 (.inr (.inr (.inl h))))
     ·exact .inl ((J.dd r).2 (.inr (.inr (.inr (.inl h)))))
     exact .inl ((J.dd r).2 (.inr (.inr (.inr (.inr h)))))
    have ahC:∀r,Dst c l Dl R5 s5.hp r→r<(w'.putObj l o').heap.size:=by
     intro r h;rcases h with ⟨b,h⟩|h
     ·exact G6.ko h
     have:D r:=by
      rcases h with h|h|h|h
      ·exact h▸D6
      ·exact (J.dd r).2 (.inr (.inr (.inl h)))
      ·exact (J.dd r).2 (.inr (.inr (.inr (.inl h))))
      exact (J.dd r).2 (.inr (.inr (.inr (.inr h))))
     have:=hDlt r this;omega
    have hF3:∀r,cbF c Z' l (w'.putObj l o') r→cbF c Z' l W r:=by
     rintro r ⟨h,_⟩
     refine⟨h,?_⟩;rcases h with h|h|h
     ·have:=c.hF r h;omega
     ·exact hZ2 r h
     omega
    refine⟨Dst c l Dl R5 s5.hp,G6.jE.mono fun r h=>h.elim (Ou r) fun h=>h▸D6,hD1,ahC,R5,s5,?_⟩;refine⟨fun r hz=>⟨?_,?_,fun hd=>?_⟩,by omega,?_,fun r=>Iff.rfl,ahC,?_,mk6,ahA,ahB⟩
    ·rcases hZ1 r hz with h|h
     ·exact (J.zz r h).1
     have:=J.n1;omega
    ·have:=hZ2 r hz;omega
    ·rcases hd with h|h
     ·exact G6.free r h ⟨.inr (.inl hz),hZ2 r hz⟩
     have:D r:=by
      rcases h with h|h|h|h
      ·exact h▸D6
      ·exact (J.dd r).2 (.inr (.inr (.inl h)))
      ·exact (J.dd r).2 (.inr (.inr (.inr (.inl h))))
      exact (J.dd r).2 (.inr (.inr (.inr (.inr h))))
     exact hZ3 r hz this
    ·have e1:nI c.O c.w W:=by
      refine⟨Nat.le_trans J.jE.size hsz,fun r hr hn=>?_,hE.os.trans J.jE.os,hE.tape.trans J.jE.tape,hE.output.trans J.jE.output⟩;have h1:=J.jE.keep r hr hn;have hx:c.w.heap[r]? = some c.w.heap[r]:=by simp[hr]
      rw[hx] at h1 ⊢;exact hE.keep r _ h1 (fun hz=>by have:=(J.zz r hz).1;omega) (.inl (by omega))
     refine e1.trans G6.jE fun r hr ho=>?_
     rcases ho with ho|ho
     ·rcases g0.iL r ho with (h|h)|h
      ·exact h
      ·omega
      have h:wy.heap.size≤r:=h;have:=J.n1;omega
     omega
    refine G6.sP (c2:=cb c Z' l (w'.putObj l o')) rfl rfl (fun v y h=>G6.kept v y (.inl h)) (fun r _ h=>hF3 r h) (fun r o ho _ _=>ho) (Nat.le_refl _) ⟨rfl,rfl,rfl⟩ (fun r h hf=>G6.free r h (hF3 r hf)) G6.fixed (nI.refl _ _) ?_
     ⟨rfl,hlo,by show c.lo≤_;omega⟩ ⟨Dl,mk6⟩
    intro r h;rcases G6.iL r h with (h|h)|h
    ·rcases g0.iL r h with h|h
     ·exact .inl h
     refine .inl (.inr ?_);have h:wy.heap.size≤r:=h;have:=J.n1;omega
    ·exact .inl (.inr (by omega))
    exact .inl (.inr (by have h:W.heap.size≤r:=h;omega))
   cases e with
   | normal=>
     obtain⟨tm',nx',hp'⟩:=s';obtain⟨j,hj⟩:=hK;have hend:=run_endRound (P:=P) none hl4;refine⟨_,_,hend,?_⟩;simp only[Option.isNone_none,if_true];have ho:({ { rec .ready none with state:=.busy } with state:=.ready,pending:=none }:Loop)=rec .ready none:=by rw[Ot]
     rw[ho];obtain⟨G6,mk6⟩:=G5 (.loop (rec .ready none));obtain⟨R7,G7⟩:=hj c3 R' ao _ G6;obtain⟨Ds,mk7⟩:=G7.marks;have hDs:Ds=Dl:=by
      have:=mk7.eq.symm.trans mk6.eq;exact List.map_inj_right (fun a b h=>by simpa[mark] using h) |>.1 this
     rw[hDs] at mk7;obtain⟨D',e1,e2,e3,R8,s8,J8⟩:=YR _ R7 _ false G7 mk7 (fun _=>⟨k+1,j,rfl,afb,aeJ,World.putObj_heap_same aff⟩) (fun h=>by cases h);exact⟨D',true,rfl,e1,e2,e3,R8,s8,J8⟩
   | ret=>
     obtain⟨tm',nx',hp'⟩:=s';have hend:=run_endRound (P:=P) (some .ret) hl4;refine⟨_,_,hend,?_⟩;have ho:({ { rec .ready none with state:=.busy } with state:=.done,pending:=some .ret }:Loop)=rec .done (some .ret):=by rw[Ot,Ot]
     simp only[Option.isNone_some,Bool.false_eq_true,if_false];rw[ho];obtain⟨G6,mk6⟩:=G5 (.loop (rec .done (some .ret)));obtain⟨D',e1,e2,e3,R8,s8,J8⟩:=YR _ R' _ true G6 mk6 (fun h=>by cases h) (fun _=>⟨.ret,.ret,rfl,hK,World.putObj_heap_same aff⟩);exact⟨D',false,rfl,e1,e2,e3,R8,s8,J8⟩
   | exit id=>
     obtain⟨tm',nx',hp'⟩:=s';have hend:=run_endRound (P:=P) (some (.exit id)) hl4;refine⟨_,_,hend,?_⟩;have ho:({ { rec .ready none with state:=.busy } with state:=.done,pending:=some (.exit id) }:Loop)=rec .done (some (.exit id)):=by rw[Ot,Ot]
     simp only[Option.isNone_some,Bool.false_eq_true,if_false];rw[ho];obtain⟨G6,mk6⟩:=G5 (.loop (rec .done (some (.exit id))));obtain⟨D',e1,e2,e3,R8,s8,J8⟩:=YR _ R' _ true G6 mk6 (fun h=>by cases h) (fun _=>⟨.exit id,.exit id,rfl,hK,World.putObj_heap_same aff⟩);exact⟨D',false,rfl,e1,e2,e3,R8,s8,J8⟩
   |goto t=>exact hK.elim
   |panic ch=>exact hK.elim
   |outgrown=>exact hK.elim
 |exit id=>exact h1.elim
 |goto t=>exact h1.elim
 |ret=>exact h1.elim
 |panic ch=>exact h1.elim
 |outgrown=>exact h1.elim
theorem Xq {P:Program}{c:Ctx}{R:Real}{s:AS}{a:Act}{w:World}{ro:Option Nat}(g:bB c R s a w)(hro:Qs c ro)
  {go:Operand} {ps:Array Tmp} {PU MO:Code} {f:FuncId} {aM:List PV} {xs:List (List PV)}  (hs:Qr P f aM xs)
  (hps:∀t∈ps.toList,t<c.n) {ι:Type} {st:Nat→ι→AS} (hgo:∀i,jE (st 0 i).tm go=some (.pv (.fn (.func f) [] aM))) (h0:∃i,qM s (st 0 i)) (hlow:∀k i,Jb (st k i).tm=true) {K:Exit→AS→Prop} {A:Nat→ι→List PV→AS→Prop}
  (ae8:∀(l:Nat) (c':Ctx) (k:Nat) (i:ι) (x:List PV) (tm:List (Nat×AV)) (R:Real) (a:Act) (w:World),c'.n=c.n→Qs c' (some l)→xs[k]? = some x→Xo ps.toList x (st k i).tm=some tm →
   bB c' R ⟨tm,(st k i).nx,(st k i).hp⟩ a w→PU.wpIn (W1 (some l)) 0 P (Exit.then (fun a1 w1=>∃R1 s1,A k i x s1∧bB c' R1 s1 a1 w1) (fun _ _ _=>False)) a w)
  (ae9:∀(l:Nat) (c':Ctx) (k:Nat) (i:ι) (x:List PV) (s1:AS) (R:Real) (a:Act) (w:World),c'.n=c.n→Qs c' (some l)→xs[k]? = some x→A k i x s1 →
   bB c' R s1 a w→MO.wpIn (W1 (some l)) 0 P (fun e a' w'=>∃R' s',rfK (st k i).tm (fun s''=>∃j,qM s'' (st (k+1) j)) K e s'∧bB c' R' s' a' w') a w)
  (afa:∀k i x,xs[k]? = some x→∃tm,Xo ps.toList x (st k i).tm=some tm) (hend:∀i,K .normal (st xs.length i)) :
  (Code.rangeFunc go ps PU MO).wpIn (W1 ro) 0 P (fun e a' w'=>∃R' s',K e s'∧bB c R' s' a' w') a w:=by
 obtain⟨i0,h0⟩:=h0;obtain⟨R0,g0⟩:=h0 c R a w g;have UA:=wZ g0 (hgo i0);obtain⟨Ds,mk0⟩:=g0.marks;refine wpIn_rangeFunc fun fn _=>?_
 have hent:∃(l dfr:Nat) (Dm:List Nat) (W1':World),(Instr.enterLoop fn a.tmps ps PU MO ro).run P w=.ok (l,Dm.map mark) W1' ∧
   (∀r,r<w.heap.size→W1'.heap[r]? = w.heap[r]?)∧w.heap.size≤W1'.heap.size∧(W1'.os=w.os∧W1'.tape=w.tape∧W1'.output=w.output)∧w.heap.size≤l∧l<W1'.heap.size ∧
   W1'.heap[l]? = some (.loop { state:=.ready,pending:=none,fn:=fn,tmps:=a.tmps,params:=ps,assign:=PU,body:=MO,defers:=dfr })∧Dm.Nodup ∧
   (∀d∈Dm,w.heap.size≤d∧W1'.heap[d]? = some (.deferred (some []))∧d≠l):=by
  cases hr:ro with
  | none=>
    refine⟨w.heap.size+1,w.heap.size,[w.heap.size],_,run_enterLoop_outer _ _ _ _ _,fun r hr=>?_,by simp;omega,⟨rfl,rfl,rfl⟩,by omega,by simp,?_,by simp,?_⟩
    ·rw[Go.RowKit.Below.heap_alloc _ _ _ (by simp;omega),Go.RowKit.Below.heap_alloc _ _ _ hr]
    ·have:=World.alloc_heap_new (w.alloc (.deferred (some []))) (.loop { state:=.ready,pending:=none,fn:=fn,tmps:=a.tmps,params:=ps,assign:=PU,body:=MO,defers:=w.heap.size });rwa [World.size_alloc] at this
    intro d hd;simp only[List.mem_singleton] at hd;subst hd;exact⟨Nat.le_refl _,(Go.RowKit.Below.heap_alloc _ _ _ (by simp)).trans (World.alloc_heap_new w _),by omega⟩
  | some l0=>
    obtain⟨r0,hr0⟩:=hro.lp l0 hr;have hl0:=g.fixed.obj l0 _ hr0;refine⟨w.heap.size,r0.defers,[],_,run_enterLoop_inner hl0 _ _ _ _ _,fun r hr=>Go.RowKit.Below.heap_alloc _ _ _ hr,by simp,⟨rfl,rfl,rfl⟩,Nat.le_refl _,by simp,World.alloc_heap_new w _,by simp,by simp⟩
 obtain⟨l,dfr,Dm,W,hrun,hold,hsz,hos,hlw,hlW,ahD,ajX,RA⟩:=hent;let Vy:LoopState→Option Code→Loop:=fun s p=>{ state:=s,pending:=p,fn:=fn,tmps:=a.tmps,params:=ps,assign:=PU,body:=MO,defers:=dfr }
 simp only[ai,bE] at UA;obtain⟨fs,cs,hval,hfs,hcs⟩:=UA;simp only[dX] at hfs;have hfs:fs = #[]:=by simpa using hfs
 subst hfs;let ao:Act:={ a with defers:=Dm.map mark++a.defers }
 have hcw:c.w.heap.size≤w.heap.size:=g.jE.size;have YT:∀r o,c.fix r=some o→r<w.heap.size:=fun r o h=>size_of_getElem? (g.fixed.obj r o h)
 have Rz:c.fix l=none:=by
  cases h:c.fix l with
  |none=>rfl
  |some o=>have:=YT l o h;omega
 have hDs:∀d∈Ds,d<w.heap.size:=fun d hd=>size_of_getElem? (mk0.obj d hd)
 have hlD:l∉Dm++Ds:=by
  intro h;rcases List.mem_append.1 h with h|h
  ·exact (RA l h).2.2 rfl
  have:=hDs l h;omega
 have Lc:∀r,owned R0 (st 0 i0).hp r→r<w.heap.size:=fun r ⟨b,h⟩=>g0.ko h
 have ko:∀r,owned R s.hp r→r<w.heap.size:=fun r ⟨b,h⟩=>g.ko h
 have hE:nI (fun _=>False) w W:=⟨hsz,fun r hr _=>hold r hr,hos.1,hos.2.1,hos.2.2⟩;have mkW:Marks c.lo (owned R0 (st 0 i0).hp) W ao.defers (Dm++Ds):=by
  refine⟨fun d hd=>?_,?_,?_,fun d hd=>?_,fun d hd=>?_⟩
  ·rcases List.mem_append.1 hd with h|h
   ·exact Nat.le_trans g.lo.2.2 (RA d h).1
   exact mk0.low d h
  ·simp only[ao,List.map_append,mk0.eq]
  ·rw[List.nodup_append];refine⟨ajX,mk0.nodup,fun x hx y hy e=>?_⟩;have h1:=(RA x hx).1;have h2:=hDs y hy;omega
  ·rcases List.mem_append.1 hd with h|h
   ·exact (RA d h).2.1
   rw[hold d (hDs d h)];exact mk0.obj d h
  rcases List.mem_append.1 hd with h|h
  ·exact fun ho=>by have:=Lc d ho;have:=(RA d h).1;omega
  exact mk0.free d h
 have hF0:∀r,r<w.heap.size→cbF c (fun _=>False) l W r→c.F r:=by
  rintro r hr ⟨h,_⟩
  rcases h with h|h|h
  ·exact h
  ·exact h.elim
  omega
 have GW:bB (cb c (fun _=>False) l W) R0 (st 0 i0) ao W:=by
  refine g0.sP (c2:=cb c (fun _=>False) l W) rfl rfl (fun v y h=>g0.kept v y h) hF0 (fun r o ho _ _=>by rw[hold r (size_of_getElem? ho)];exact ho) hsz hos
   (fun r ho hf=>g0.free r ho (hF0 r (Lc r ho) hf)) (g0.fixed.kept (fun r hr _=>hold r hr) (fun _ _ h=>h)) (nI.refl _ _) (fun r ho=>.inl ?_) ⟨rfl,g.lo.2.1,Nat.le_trans g.lo.2.2 hsz⟩ ⟨_,mkW⟩
  exact g0.iL r ho
 let D0:Nat→Prop:=Dst c l (Dm++Ds) R0 (st 0 i0).hp
 have hD0:∀r,D0 r→r<W.heap.size:=by
  rintro r (h|h|⟨o,h⟩|h|h)
  ·have:=Lc r h;omega
  ·omega
  ·have:=YT r o h;omega
  ·rcases List.mem_append.1 h with h|h
   ·exact size_of_getElem? (RA r h).2.1
   have:=hDs r h;omega
  have:=c.hF r h;omega
 have hJ0:∃R s,RJ c ao l W.heap.size (Dm++Ds) Vy xs st K R s xs false (fun _=>False) D0 W:=
  ⟨R0,st 0 i0,fun r h=>h.elim,Nat.le_refl _,g.jE.trans hE fun _ _ h=>h.elim,fun r=>Iff.rfl,hD0,GW,mkW,fun _=>⟨0,i0,rfl,by simp,Nat.zero_le _,ahD⟩,fun h=>by cases h⟩
 have hY:YH (P,l) W.heap.size fun rest Vx Z D wy=>∃R s,RJ c ao l W.heap.size (Dm++Ds) Vy xs st K R s rest Vx Z D wy:=
  Oq (fn:=fn) (dfr:=dfr) (fun _ _=>rfl) (by omega) (by omega) hlD Rz hlW (by have:=g.lo.2.1;have:=g.lo.2.2;omega) g.lo.2.1 (by have:=g.lo.2.2;omega) hro.nc hps hlow
   (fun c' k i x tm R a w h1 h2 h3 h4 h5=>ae8 l c' k i x tm R a w h1 h2 h3 h4 h5) (fun c' k i x s1 R a w h1 h2 h3 h4 h5=>ae9 l c' k i x s1 R a w h1 h2 h3 h4 h5) afa
 have hcs':dX D0 W aM cs.toList:=by
  refine pR (N:=aT c R0 (st 0 i0).hp) (w:=w) (fun r cur e fr h hd=>?_) (fun r cur e fr h _=>by rw[hold r (size_of_getElem? h)];exact h) _ _ hcs;have hr:=size_of_getElem? h;rcases hd with hd|hd|⟨o,hd⟩|hd|hd
  ·exact .inr hd
  ·omega
  ·have h1:=g.fixed.obj r o hd;rw[h] at h1;simp only[Option.some.injEq] at h1;have:=hro.nc r o hd;rw[←h1] at this;cases this
  ·rcases List.mem_append.1 hd with hd|hd
   ·have:=(RA r hd).1;omega
   have h1:=mk0.obj r hd;rw[h] at h1;cases h1
  exact .inl hd
 obtain⟨abR,hcall⟩:=hs;obtain⟨fnf,hff,hfb,ajY⟩:=abR;have hbn:fnf.body.isNone=false:=by cases w9:fnf.body<;>simp[w9] at hfb ⊢
 have hC:=hcall l _ D0 W cs hY hD0 hJ0 hcs';refine⟨l,Dm.map mark,W,{ target:=.fn (.func f) cs,args:=#[.func (.yield l) #[] #[]] },W,f,#[.func (.yield l) #[] #[]]++cs,W,hrun,?_,fun _ _=>trivial,?_,fun e=>(by cases e),?_⟩
 ·simp only[resolve,hval];simp[Deferred.ofValue,Act.eval]
 ·simp only[invoke,callFunc,run_program,Sem.run_bind,Result.andThen_ok,hff,ajY,hbn];simp
 refine Gc (hC.mono ?_);rintro e w3 ⟨⟨v,rfl⟩,rest,Vx,Z,D,wy,⟨R5,s5,J⟩,hE5,hdone⟩
 have D6:D l:=(J.dd l).2 (.inr (.inl rfl));have hZD:∀r,D r→¬Z r:=fun r hd hz=>(J.zz r hz).2.2 hd
 have ajZ:c.w.heap.size≤wy.heap.size:=J.jE.size;have hn1:c.w.heap.size≤W.heap.size:=by omega
 have fin:∀(o o':Obj),wy.heap[l]? = some o→o.isCells=false→w3.heap[l]? = some o∧bB c R5 s5 ao (w3.putObj l o'):=by
  intro o o' ho hoc;have hl3:=hE5.keep l o ho (hZD l D6) (.inr (.inr D6));refine⟨hl3,?_⟩;have hsz5:wy.heap.size≤(w3.putObj l o').heap.size:=by rw[World.putObj_size];exact hE5.size
  have hFc:∀r,r<wy.heap.size→c.F r→cbF c Z l wy r:=fun r hr h=>⟨.inl h,hr⟩
  have hkeep:∀r o,wy.heap[r]? = some o→(r<W.heap.size∨o.isCells=true∨D r)→¬Z r→r≠l→(w3.putObj l o').heap[r]? = some o:=by
   intro r o hr hc hz hne;rw[World.putObj_heap_other hne];exact hE5.keep r o hr hz hc
  refine J.g.sP (c2:=c) rfl rfl (fun v y h=>J.g.kept v y h) hFc ?_ hsz5 ⟨hE5.os,hE5.tape,hE5.output⟩ (fun r h hf=>J.g.free r h (hFc r (J.dlt r ((J.dd r).2 (.inl h))) hf)) ?_ ?_ ?_ ⟨rfl,g.lo.2.1,?_⟩ ⟨Dm++Ds,?_⟩
  ·intro r o hr hc hf;refine hkeep r o hr (hc.imp (fun h=>?_) fun h=>h.imp id fun h=>(J.dd r).2 (.inl h)) (fun hz=>hf ⟨.inr (.inl hz),size_of_getElem? hr⟩) fun e=>hf ⟨.inr (.inr e),size_of_getElem? hr⟩
   have h:r<c.n0.1:=h;have:=g.lo.2.1;have:=g.lo.2.2;omega
  ·refine⟨fun r o h=>?_,fun r o h=>J.g.fixed.free r o h,hro.nc⟩;have hD:=(J.dd r).2 (.inr (.inr (.inl ⟨o,h⟩)));exact hkeep r o (J.g.fixed.obj r o h) (.inr (.inr hD)) (hZD r hD) fun e=>by rw[e,Rz] at h;cases h
  ·refine⟨Nat.le_trans J.jE.size hsz5,fun r hr hn=>?_,hE5.os.trans J.jE.os,hE5.tape.trans J.jE.tape,hE5.output.trans J.jE.output⟩;have h1:=J.jE.keep r hr hn;have hx:c.w.heap[r]? = some c.w.heap[r]:=by simp[hr]
   rw[hx] at h1 ⊢;exact hkeep r _ h1 (.inl (by omega)) (fun hz=>by have:=(J.zz r hz).1;omega) (by omega)
  ·intro r h;rcases J.g.iL r h with h|h
   ·exact h
   exact .inr (Nat.le_trans ajZ h)
  ·have:=g.lo.2.2;have:=J.n1;omega
  refine⟨J.Vi.low,J.Vi.eq,J.Vi.nodup,fun d hd=>?_,J.Vi.free⟩;have hD:=(J.dd d).2 (.inr (.inr (.inr (.inl hd))));exact hkeep d _ (J.Vi.obj d hd) (.inr (.inr hD)) (hZD d hD) fun e=>hlD (e▸hd)
 cases Vx with
 | false=>
   obtain⟨k,i,rfl,hrest,hkl,hlr⟩:=J.run rfl;have hrn:rest=[]:=hdone.resolve_left (by simp);have hk:k=xs.length:=by
    have:=congrArg List.length hrest;rw[hrn] at this;simp at this;omega
   subst hk;obtain⟨hl3,G⟩:=fin _ (.loop { Vy .ready none with state:=.exhausted }) hlr rfl;refine⟨none,_,run_endLoop (P:=P) hl3 (by simp[Vy]),?_⟩;exact⟨R5,_,hend i,G⟩
 | true=>
   obtain⟨e,code,hj,hK,hlr⟩:=J.out rfl;obtain⟨hl3,G⟩:=fin _ (.loop { Vy .done (some code) with state:=.exhausted }) hlr rfl;refine⟨some code,_,run_endLoop (P:=P) hl3 (by simp[Vy]),?_⟩;cases e with
   | ret=>
     simp only[Lb,Option.some.injEq] at hj;subst hj;exact wpIn_ret ⟨R5,_,hK,G⟩
   | exit id=>
     simp only[Lb,Option.some.injEq] at hj;subst hj;exact wpIn_exit ⟨R5,_,hK,G⟩
   |normal=>cases hj
   |goto t=>cases hj
   |panic ch=>cases hj
   |outgrown=>cases hj
end Go.AX
end
