/-
  Conditions: none. A framework for walks: abstract values, memory, and conditions that suffice; the chapters in plain terms.
-/
import Derived.Test.YtfoiekbkkbnpkaaGreatAc
import Derived.Test.YtfoiekbkkbnpkaaGreatAb
import Derived.OrdersIn
import Derived.RangeFuncNested
set_option linter.unusedSectionVars false
set_option linter.unusedVariables false
set_option linter.unusedSimpArgs false
section
namespace Go.AX
section
variable {c:Ctx}{R:Real}{s:AS}{a:Act}{w:World}
theorem vH {b:Nat}{e:TypeId}{ver st j:Nat}{ed:TypeId}{sd:Nat}{pre post:List (Bool×List PV)}{row:List AV}(hb:lk s.hp b=some (.iM e ver st j ed sd pre row post)){r:Nat}(h:tJ R b r):owned R s.hp r:=
 ⟨b,by rw[hb];exact .inr h⟩
theorem yA (g:bG c R s a w){b:Nat}{e:TypeId}{ver st j:Nat}{ed:TypeId}{sd:Nat}{pre post:List (Bool×List PV)}{row:List AV}(hb:lk s.hp b=some (.iM e ver st j ed sd pre row post)){r:Nat}(h:tJ R b r) :
  ∃cur,w.heap[r]? = some (.cells cur ed (0,0)):=by
 obtain⟨xs,hs1,hs2,a1,a2,a3,a4,a5,a6,a7⟩:=g.boxes b _ hb;obtain⟨v,hv,hr⟩:=h;rw[a1] at hv;rcases List.mem_append.1 hv with hv|hv
 ·exact yx a3 v hv r hr
 exact yx a6 v hv r hr
def cF (c:Ctx)(R:Real)(s:AS)(w:World)(b:Nat)(h:∀r,c.F r∨tJ R b r→r<w.heap.size)(hl:c.lo≤w.heap.size):Ctx:=
 { c with F:=fun r=>c.F r∨tJ R b r,O:=fun r=>owned R s.hp r∧¬tJ R b r,w:=w,hF:=h }
theorem rQ (g:bG c R s a w){b:Nat}{e:TypeId}{ver st j:Nat}{ed:TypeId}{sd:Nat}{pre post:List (Bool×List PV)}{row:List AV}(hb:lk s.hp b=some (.iM e ver st j ed sd pre row post)) :
  ∀r,c.F r∨tJ R b r→r<w.heap.size:=by
 rintro r (h|h)
 ·exact Nat.lt_of_lt_of_le (c.hF r h) g.jE.size
 obtain⟨cur,h⟩:=yA g hb h;exact size_of_getElem? h
def pW (pre:List (Bool×List PV))(row:List AV)(post:List (Bool×List PV)):Nat:=pre.length+(gZ row+post.length)
theorem bG.J9 (g:bG c R s a w){b:Nat}{e:TypeId}{ver st j:Nat}{ed:TypeId}{sd:Nat}{pre post:List (Bool×List PV)}{row:List AV}(hb:lk s.hp b=some (.iM e ver st j ed sd pre row post)) :
  ∃(xs:List Value) (hs1 hs2:List (Option Value)),(R.cap b).2=hs1++hs2∧xs.length=pW pre row post*st∧ic (aV c R s.hp) w st j ed sd hs1 pre xs∧row.length=gZ row*st ∧
   dD (aV c R s.hp) w s.hp R row ((xs.drop (pre.length*st)).take (gZ row*st))∧ic (aV c R s.hp) w st j ed sd hs2 post ((xs.drop (pre.length*st)).drop (gZ row*st))∧F9 R b ∧
   bG (cF c R s w b (rQ g hb) g.lo.2.2) R (s.app [(b,.arr e ver st (bE st (pW pre row post) xs))]) a w ∧
   (∀u x,ak (aV c R s.hp) w s.hp R u x→ak (aV (cF c R s w b (rQ g hb) g.lo.2.2) R ((b,.arr e ver st (bE st (pW pre row post) xs))::s.hp)) w ((b,.arr e ver st (bE st (pW pre row post) xs))::s.hp) R u x):=by
 obtain⟨xs,hs1,hs2,a1,a2,a3,a4,a5,a6,a7⟩:=g.boxes b _ hb;have hlen:xs.length=pW pre row post*st:=a2.1;refine⟨xs,hs1,hs2,a1,hlen,a3,a4,a5,a6,a7,?_⟩;obtain⟨o1,o2,o3⟩:=vG a3;obtain⟨p1,p2,p3⟩:=vG a6;have hone:∀v∈xs,v.oneCell'=true:=by
  intro v hv;rw[←List.take_append_drop (pre.length*st) xs] at hv;rcases List.mem_append.1 hv with hv|hv
  ·exact o3 v hv
  rw[←List.take_append_drop (gZ row*st) (xs.drop (pre.length*st))] at hv;rcases List.mem_append.1 hv with hv|hv
  ·exact ((bM _ _ _ _ _ _).1 a5).one v hv
  have:post.length*st=((xs.drop (pre.length*st)).drop (gZ row*st)).length:=by
   rw[List.length_drop,List.length_drop,hlen];unfold pW;rw[Nat.add_mul,Nat.add_mul];omega
  exact p3 v (by rw[this,List.take_length];exact hv)
 obtain⟨bL,hbx⟩:∃bL,bL=aF.arr e ver st (bE st (pW pre row post) xs):=⟨_,rfl⟩;rw[←hbx];have ug:lk ((b,bL)::s.hp) b=some bL:=by rw[aC,if_pos rfl]
 have sN:∀b',b'≠b→lk ((b,bL)::s.hp) b'=lk s.hp b':=fun b' h=>by rw[aC,if_neg (fun e=>h e.symm)]
 have ow:∀b' r,aL R b' r (lk ((b,bL)::s.hp) b')→aL R b' r (lk s.hp b')∧¬tJ R b r:=by
  intro b' r h;by_cases e1:b'=b
  ·subst e1;rw[ug,hbx] at h;simp only[aL] at h;refine⟨by rw[hb];exact .inl h,fun⟨v,hv,hr⟩=>a7.2 v r hv hr h.1 h.2⟩
  rw[sN b' e1] at h;refine⟨h,fun hp=>e1 ?_⟩;exact g.inj b' b r h (by rw[hb];exact .inr hp)
 have ow2:∀b' r,aL R b' r (lk s.hp b')→aL R b' r (lk ((b,bL)::s.hp) b')∨tJ R b r:=by
  intro b' r h;by_cases e1:b'=b
  ·subst e1;rw[hb] at h;rw[ug,hbx];rcases h with h|h
   ·exact .inl h
   exact .inr h
  rw[sN b' e1];exact .inl h
 have hN:∀r,aV (cF c R s w b (rQ g hb) g.lo.2.2) R ((b,bL)::s.hp) r↔aV c R s.hp r:=by
  intro r;constructor
  ·rintro ((h|h)|⟨b',h⟩)
   ·exact .inl h
   ·exact .inr (vH hb h)
   exact .inr ⟨b',(ow b' r h).1⟩
  rintro (h|⟨b',h⟩)
  ·exact .inl (.inl h)
  rcases ow2 b' r h with h|h
  ·exact .inr ⟨b',h⟩
  exact .inl (.inr h)
 have q1:∀b' off v,aY R b' off v (lk s.hp b')→aY R b' off v (lk ((b,bL)::s.hp) b'):=fun b' off v h=>by
  by_cases e1:b'=b
  ·subst e1;rw[hb] at h;exact h.elim
  rw[sN b' e1];exact h
 have hcl:(bE st (pW pre row post) xs).length=pre.length+(gZ row+post.length):=j4 _ _ _;have q2:∀b' ver v,aU R b' ver v (lk s.hp b')→aU R b' ver v (lk ((b,bL)::s.hp) b'):=fun b' ver v h=>by
  by_cases e1:b'=b
  ·subst e1;rw[hb] at h;rw[ug,hbx];simp only[aU,hcl] at h ⊢;exact h
  rw[sN b' e1];exact h
 have q3:∀b' ver i off v,bf R b' ver i off v (lk s.hp b')→bf R b' ver i off v (lk ((b,bL)::s.hp) b'):=fun b' ver i off v h=>by
  by_cases e1:b'=b
  ·subst e1;rw[hb] at h;rw[ug,hbx];simp only[bf] at h ⊢;exact h
  rw[sN b' e1];exact h
 have hm:∀u x,ak (aV c R s.hp) w s.hp R u x→ak (aV (cF c R s w b (rQ g hb) g.lo.2.2) R ((b,bL)::s.hp)) w ((b,bL)::s.hp) R u x:=
  fun u x h=>dF (fun r _ hr=>(hN r).1 hr) (fun _ _ _=>rfl) q1 q2 q3 u x h
 have hod:∀r,owned R ((b,bL)::s.hp) r→owned R s.hp r∧¬tJ R b r:=fun r ⟨b',h⟩=>⟨⟨b',(ow b' r h).1⟩,(ow b' r h).2⟩
 refine⟨⟨?_,g.size,g.lo,?_,?_,?_,?_,?_,mr.refl _ _,?_,?_⟩,hm⟩
 ·intro t v hv;obtain⟨x,hx,hr⟩:=g.slots t v hv;exact⟨x,hx,hm _ _ hr⟩
 ·obtain⟨Ds,h⟩:=g.marks;exact⟨Ds,h.low,h.eq,h.nodup,h.obj,fun D hD hx=>h.free D hD (hod D hx).1⟩
 ·exact⟨g.fixed.obj,fun r o hr hx=>g.fixed.free r o hr (hod r hx).1,g.fixed.nc⟩
 ·intro b' bx hl;by_cases e1:b'=b
  ·subst e1;have hl':lk ((b',bL)::s.hp) b'=some bx:=hl;rw[ug] at hl';cases hl';subst hbx;refine⟨xs,by rw[hcl];exact a2,FD (by rw[hlen];exact Nat.le_refl _) fun v hv=>hone v (List.mem_of_mem_take hv)⟩
  have hl':lk ((b,bL)::s.hp) b'=some bx:=hl;rw[sN b' e1] at hl';exact FE (fun r hr=>(hN r).1 hr) q1 q2 q3 rfl rfl rfl rfl (g.boxes b' bx hl')
 ·intro b1 b2 r h1 h2;exact g.inj b1 b2 r (ow b1 r h1).1 (ow b2 r h2).1
 ·rintro r hx (hF|hp)
  ·exact g.free r (hod r hx).1 hF
  exact (hod r hx).2 hp
 ·intro r hx;exact .inl (hod r hx)
 intro v x hk;exact hm v x (g.kept v x hk)
def zV (R:Real)(b:Nat)(hs:List (Option Value)):Real:=
 { R with cap:=fun b'=>if b'=b then ((R.cap b).1,hs) else R.cap b' }
theorem ach {R:Real}{b b':Nat}{hs:List (Option Value)}(h:b'≠b):(zV R b hs).cap b'=R.cap b':=by simp[zV,h]
theorem YU {R:Real}{b b' n:Nat}{hs:List (Option Value)}:dH (zV R b hs) b' n=dH R b' n:=by
 by_cases h:b'=b
 ·subst h;simp[dH,zV]
 simp[dH,zV,h]
theorem bG.ahe (g:bG c R s a w){b:Nat}{e:TypeId}{ver st j:Nat}{ed:TypeId}{sd:Nat}{pre post:List (Bool×List PV)}{row:List AV}(hb:lk s.hp b=some (.iM e ver st j ed sd pre row post))
  {R1:Real} {s1:AS} {a1:Act} {w1:World} (g1:bG (cF c R s w b (rQ g hb) g.lo.2.2) R1 s1 a1 w1) {e1:TypeId} {o6:Nat} {YV:List (List PV)} (hb1:lk s1.hp b=some (.arr e1 o6 st YV))
  {hs1 hs2:List (Option Value)} {pre' post':List (Bool×List PV)} {row':List AV} (Wd:(R.cap b).2=hs1++hs2) (hl:YV.length=pW pre' row' post') (hrl:row'.length=gZ row'*st)
  (hD:F9 R b) (hDb:∀v r,some v∈(R.cap b).2→v.ownBlock=some r→R1.nil b=false→R1.blk b≠r)
  (hH:∀ys,ys.length=pW pre' row' post'*st→cK (aV (cF c R s w b (rQ g hb) g.lo.2.2) R1 s1.hp) w1 st YV ys→ic (aV c R s.hp) w st j ed sd hs1 pre' ys ∧
   dD (aV (cF c R s w b (rQ g hb) g.lo.2.2) R1 s1.hp) w1 s1.hp R1 row' ((ys.drop (pre'.length*st)).take (gZ row'*st))∧ic (aV c R s.hp) w st j ed sd hs2 post' ((ys.drop (pre'.length*st)).drop (gZ row'*st))) :
  bG c (zV R1 b (hs1++hs2)) (s1.app [(b,.iM e1 o6 st j ed sd pre' row' post')]) a1 w1 ∧
   ∀u x,ak (aV (cF c R s w b (rQ g hb) g.lo.2.2) R1 s1.hp) w1 s1.hp R1 u x→ak (aV c (zV R1 b (hs1++hs2)) ((b,.iM e1 o6 st j ed sd pre' row' post')::s1.hp)) w1 ((b,.iM e1 o6 st j ed sd pre' row' post')::s1.hp) (zV R1 b (hs1++hs2)) u x:=by
 obtain⟨C,hC⟩:∃C,C=cF c R s w b (rQ g hb) g.lo.2.2:=⟨_,rfl⟩;have hCF:∀r,C.F r↔c.F r∨tJ R b r:=fun r=>by rw[hC];exact Iff.rfl
 have hCO:∀r,C.O r↔owned R s.hp r∧¬tJ R b r:=fun r=>by rw[hC];exact Iff.rfl
 have hCw:C.w=w:=by rw[hC];rfl
 have hCK:C.K=c.K:=by rw[hC];rfl
 have ahh:C.fix=c.fix:=by rw[hC];rfl
 have ahi:C.lo=c.lo:=by rw[hC];rfl
 have hCn:C.n=c.n:=by rw[hC];rfl
 have ajz:C.n0=c.n0:=by rw[hC];rfl
 rw[←hC] at g1 hH ⊢;obtain⟨R2,hR2⟩:∃R2,R2=zV R1 b (hs1++hs2):=⟨_,rfl⟩;rw[←hR2];have adH:∀r,tJ R2 b r↔tJ R b r:=fun r=>by subst hR2;unfold tJ;rw[Wd];simp[zV]
 have hRb:R2.blk=R1.blk∧R2.nil=R1.nil∧R2.Y=R1.Y:=by subst hR2;exact⟨rfl,rfl,rfl⟩
 have hRc:∀b',b'≠b→R2.cap b'=R1.cap b':=fun b' h=>by subst hR2;exact ach h
 have hsl:∀b' n,dH R2 b' n=dH R1 b' n:=fun b' n=>by subst hR2;exact YU
 have hcap:(R2.cap b).2=hs1++hs2:=by subst hR2;simp[zV]
 obtain⟨bL,hbx⟩:∃bL,bL=aF.iM e1 o6 st j ed sd pre' row' post':=⟨_,rfl⟩;rw[←hbx];have ug:lk ((b,bL)::s1.hp) b=some bL:=by rw[aC,if_pos rfl]
 have sN:∀b',b'≠b→lk ((b,bL)::s1.hp) b'=lk s1.hp b':=fun b' h=>by rw[aC,if_neg (fun e=>h e.symm)]
 have oc:∀b' r o,b'≠b→(aL R2 b' r o↔aL R1 b' r o):=by
  intro b' r o hne;cases o with
  |none=>exact Iff.rfl
  |some o=>cases o<;>simp only[aL,hRb.1,hRb.2.1,hRb.2.2,hRc b' hne]
 have ow:∀b' r,aL R2 b' r (lk ((b,bL)::s1.hp) b')→aL R1 b' r (lk s1.hp b')∨(b'=b∧tJ R b r):=by
  intro b' r h;by_cases e1:b'=b
  ·subst e1;rw[ug,hbx] at h;rcases h with h|h
   ·rw[hb1];rw[hRb.1,hRb.2.1] at h;exact .inl h
   exact .inr ⟨rfl,(adH r).1 h⟩
  rw[sN b' e1] at h;exact .inl ((oc b' r _ e1).1 h)
 have ow2:∀b' r,aL R1 b' r (lk s1.hp b')→aL R2 b' r (lk ((b,bL)::s1.hp) b'):=by
  intro b' r h;by_cases e1:b'=b
  ·subst e1;rw[hb1] at h;rw[ug,hbx];exact .inl (by rw[hRb.1,hRb.2.1];exact h)
  rw[sN b' e1];exact (oc b' r _ e1).2 h
 have ow3:∀r,tJ R b r→aL R2 b r (lk ((b,bL)::s1.hp) b):=fun r h=>by rw[ug,hbx];exact .inr ((adH r).2 h)
 have hN:∀r,aV c R2 ((b,bL)::s1.hp) r↔aV C R1 s1.hp r:=by
  intro r;constructor
  ·rintro (h|⟨b',h⟩)
   ·exact .inl ((hCF r).2 (.inl h))
   rcases ow b' r h with h|⟨_,h⟩
   ·exact .inr ⟨b',h⟩
   exact .inl ((hCF r).2 (.inr h))
  rintro (h|⟨b',h⟩)
  ·rcases (hCF r).1 h with h|h
   ·exact .inl h
   exact .inr ⟨b,ow3 r h⟩
  exact .inr ⟨b',ow2 b' r h⟩
 have q1:∀b' off v,aY R1 b' off v (lk s1.hp b')→aY R2 b' off v (lk ((b,bL)::s1.hp) b'):=fun b' off v h=>by
  by_cases e1:b'=b
  ·subst e1;rw[hb1] at h;exact h.elim
  rw[sN b' e1];exact lT ⟨by rw[hRb.1],by rw[hRb.2.1],hRc b' e1⟩ h
 have q2:∀b' ver v,aU R1 b' ver v (lk s1.hp b')→aU R2 b' ver v (lk ((b,bL)::s1.hp) b'):=fun b' ver v h=>by
  by_cases e1:b'=b
  ·subst e1;rw[hb1] at h;rw[ug,hbx];simp only[aU,hsl,hl] at h ⊢;exact h
  rw[sN b' e1];exact ng ⟨by rw[hRb.1],by rw[hRb.2.1],hRc b' e1⟩ h
 have q3:∀b' ver i off v,bf R1 b' ver i off v (lk s1.hp b')→bf R2 b' ver i off v (lk ((b,bL)::s1.hp) b'):=fun b' ver i off v h=>by
  by_cases e1:b'=b
  ·subst e1;rw[hb1] at h;rw[ug,hbx];simp only[bf,hRb.1,hRb.2.1] at h ⊢;exact h
  rw[sN b' e1];exact ni ⟨by rw[hRb.1],by rw[hRb.2.1],hRc b' e1⟩ h
 have hm:∀u x,ak (aV C R1 s1.hp) w1 s1.hp R1 u x→ak (aV c R2 ((b,bL)::s1.hp)) w1 ((b,bL)::s1.hp) R2 u x:=
  fun u x h=>dF (fun r _ hr=>(hN r).1 hr) (fun _ _ _=>rfl) q1 q2 q3 u x h
 have hev:=g1.jE;rw[hCw] at hev;have hpw:∀r,tJ R b r→w1.heap[r]? = w.heap[r]? :=fun r h=>by
  obtain⟨cur,hc⟩:=yA g hb h;exact hev.keep r (size_of_getElem? hc) fun hO=>((hCO r).1 hO).2 h
 have hod:∀r,owned R2 ((b,bL)::s1.hp) r→owned R1 s1.hp r∨tJ R b r:=fun r ⟨b',h⟩=>(ow b' r h).imp (fun h=>⟨b',h⟩) (·.2)
 have hnp:∀r,owned R1 s1.hp r→¬tJ R b r:=fun r h hp=>g1.free r h ((hCF r).2 (.inr hp))
 have hNw:∀r,r<w.heap.size→aV c R2 ((b,bL)::s1.hp) r→aV c R s.hp r:=by
  intro r hr h;rcases (hN r).1 h with h|h
  ·rcases (hCF r).1 h with h|h
   ·exact .inl h
   exact .inr (vH hb h)
  rcases g1.iw r h with h|h
  ·exact .inr ((hCO r).1 h).1
  rw[hCw] at h;omega
 have hww:∀r,r<w.heap.size→¬aV c R s.hp r→w1.heap[r]? = w.heap[r]? :=fun r hr hn=>hev.keep r hr fun hO=>hn (.inr ((hCO r).1 hO).1)
 refine⟨⟨?_,by rw[←hCn];exact g1.size,?_,?_,?_,?_,?_,?_,?_,?_,?_⟩,hm⟩
 ·intro t v hv;obtain⟨x,hx,hr⟩:=g1.slots t v hv;exact⟨x,hx,hm _ _ hr⟩
 ·rw[hRb.2.2,←ajz,←ahi];exact g1.lo
 ·obtain⟨Ds,h⟩:=g1.marks;rw[ahi] at h;refine⟨Ds,h.low,h.eq,h.nodup,h.obj,fun D hD hx=>?_⟩;rcases hod D hx with hx|hx
  ·exact h.free D hD hx
  obtain⟨cur,hc⟩:=yA g hb hx;have:=h.obj D hD;rw[hpw D hx,hc] at this;cases this
 ·have hfx:=g1.fixed;rw[ahh] at hfx;refine⟨hfx.obj,fun r o hr hx=>?_,hfx.nc⟩;rcases hod r hx with hx|hx
  ·exact hfx.free r o hr hx
  exact g.fixed.free r o hr (vH hb hx)
 ·intro b' bx hlk;have hlk:lk ((b,bL)::s1.hp) b'=some bx:=hlk;by_cases e1:b'=b
  ·subst e1;rw[ug] at hlk;cases hlk;subst hbx;obtain⟨ys,k1,k2⟩:=g1.boxes b' _ hb1;rw[hl] at k1;obtain⟨m1,m2,m3⟩:=hH ys k1.1 k2;have hkb:∀v,some v∈hs1++hs2→∀k,v.ownBlock=some k→w1.heap[k]? = w.heap[k]? :=fun v hv k hk=>hpw k ⟨v,by rw[Wd];exact hv,hk⟩
   refine⟨ys,hs1,hs2,hcap,by rw[hsl];exact k1,qW hNw hww (fun v hv k hk=>hkb v (by simp[hv]) k hk) m1,hrl,?_,qW hNw hww (fun v hv k hk=>hkb v (by simp[hv]) k hk) m3,?_⟩
   ·exact bK (fun r _ hr=>(hN r).1 hr) (fun _ _ _=>rfl) q1 q2 q3 _ _ m2
   unfold F9 at hD ⊢;rw[hcap,hRb.1,hRb.2.1,←Wd];exact⟨hD.1,hDb⟩
  rw[sN b' e1] at hlk;exact FE (fun r hr=>(hN r).1 hr) q1 q2 q3 hRb.2.2 (by rw[hRb.1]) (by rw[hRb.2.1]) (hRc b' e1) (g1.boxes b' bx hlk)
 ·intro b1 b2 r h1 h2;rcases ow b1 r h1 with k1|⟨e1,k1⟩<;>rcases ow b2 r h2 with k2|⟨e2,k2⟩
  ·exact g1.inj b1 b2 r k1 k2
  ·exact absurd k2 (hnp r ⟨b1,k1⟩)
  ·exact absurd k1 (hnp r ⟨b2,k2⟩)
  rw[e1,e2]
 ·intro r hx hF;rcases hod r hx with hx|hx
  ·exact g1.free r hx ((hCF r).2 (.inl hF))
  exact g.free r (vH hb hx) hF
 ·refine g.jE.trans hev fun r hr hO=>?_
  exact (g.iw r ((hCO r).1 hO).1).resolve_right (by omega)
 ·intro r hx;rcases hod r hx with hx|hx
  ·rcases g1.iw r hx with h|h
   ·exact g.iw r ((hCO r).1 h).1
   rw[hCw] at h;exact .inr (Nat.le_trans g.jE.size h)
  exact g.iw r (vH hb hx)
 intro v x hk;exact hm v x (g1.kept v x (by rw[hCK];exact hk))
end
theorem FH (st:Nat):∀(n m:Nat) (xs:List Value),bE st (n+m) xs=bE st n xs++bE st m (xs.drop (n*st))
 |0,m,xs=>by simp[bE]
 | n+1,m,xs=>by
   rw[show n+1+m=(n+m)+1 by omega];simp only[bE,List.cons_append,FH st n m,List.drop_drop];rw[show st+n*st=(n+1)*st by rw[Nat.succ_mul];omega]
section
variable {c:Ctx}{R:Real}{s:AS}{a:Act}{w:World}
theorem bG.ae8 (g:bG c R s a w){b:Nat}{e:TypeId}{ver st j:Nat}{ed:TypeId}{sd:Nat}{pre post:List (Bool×List PV)}{r0:AV}{rr:List AV}(hb:lk s.hp b=some (.iM e ver st j ed sd pre (r0::rr) post)) :
  ∃(xs zs:List Value) (hs1 hs2:List (Option Value)),(R.cap b).2=hs1++hs2∧pre.length*st≤xs.length∧post.length*st≤zs.length∧ic (aV c R s.hp) w st j ed sd hs1 pre xs∧(r0::rr).length=st ∧
   ic (aV c R s.hp) w st j ed sd hs2 post zs∧F9 R b ∧
   bG (cF c R s w b (rQ g hb) g.lo.2.2) R (s.app [(b,.gy e ver st (bE st pre.length xs) (r0::rr) (bE st post.length zs))]) a w ∧
   (∀u x,ak (aV c R s.hp) w s.hp R u x→ak (aV (cF c R s w b (rQ g hb) g.lo.2.2) R ((b,.gy e ver st (bE st pre.length xs) (r0::rr) (bE st post.length zs))::s.hp)) w ((b,.gy e ver st (bE st pre.length xs) (r0::rr) (bE st post.length zs))::s.hp) R u x):=by
 obtain⟨xs,hs1,hs2,a1,hlen,a3,a4,a5,a6,a7,g1,m1⟩:=g.J9 hb;simp only[gZ,Nat.one_mul] at a4 a5 a6;have hn:pW pre (r0::rr) post=pre.length+(post.length+1):=by simp only[pW,gZ];omega
 have hch:bE st (pW pre (r0::rr) post) xs=bE st pre.length xs++fM ((xs.drop (pre.length*st)).take st)::bE st post.length ((xs.drop (pre.length*st)).drop st):=by
  rw[hn,FH];rfl
 rw[hch] at g1 m1;obtain⟨o1,o2,o3⟩:=vG a3;obtain⟨p1,p2,p3⟩:=vG a6;have hb1:lk (s.app [(b,.arr e ver st (bE st pre.length xs++fM ((xs.drop (pre.length*st)).take st)::bE st post.length ((xs.drop (pre.length*st)).drop st)))]).hp b=some (.arr e ver st (bE st pre.length xs++fM ((xs.drop (pre.length*st)).take st)::bE st post.length ((xs.drop (pre.length*st)).drop st))):=by
  simp only[AS.app,List.singleton_append,aC,if_true]
 have hrow:=m1 (.agg (r0::rr)) (.agg ((xs.drop (pre.length*st)).take st).toArray) (by simp only[ak];exact⟨_,rfl,by simpa using a5⟩);simp only[ak] at hrow;obtain⟨us,e1,hrow⟩:=hrow;cases e1;obtain⟨g2,m2⟩:=bG.IC (row:=r0::rr) g1 hb1 hrow;have hc:∀k,lk ((b,aF.gy e ver st (bE st pre.length xs) (r0::rr) (bE st post.length ((xs.drop (pre.length*st)).drop st)))::s.hp) k =
   lk ((b,aF.gy e ver st (bE st pre.length xs) (r0::rr) (bE st post.length ((xs.drop (pre.length*st)).drop st)))::(s.app [(b,.arr e ver st (bE st pre.length xs++fM ((xs.drop (pre.length*st)).take st)::bE st post.length ((xs.drop (pre.length*st)).drop st)))]).hp) k:=by
  intro k;simp only[AS.app,List.singleton_append,aC];split<;>rfl
 exact⟨xs,(xs.drop (pre.length*st)).drop st,hs1,hs2,a1,o2,p2,a3,a4,a6,a7,bG.congr g2 (fun _=>rfl) hc,fun u x h=>wI hc (m2 u x (m1 u x h))⟩
theorem bG.YW (g:bG c R s a w){b:Nat}{e:TypeId}{ver st j:Nat}{ed:TypeId}{sd:Nat}{pre post:List (Bool×List PV)}{row:List AV}(hb:lk s.hp b=some (.iM e ver st j ed sd pre row post))
  {R1:Real} {s1:AS} {a1:Act} {w1:World} (g1:bG (cF c R s w b (rQ g hb) g.lo.2.2) R1 s1 a1 w1) {e1:TypeId} {o6:Nat} {pre' post':List (Bool×List PV)} {r0:AV} {rr:List AV} {xs zs:List Value}
  (hb1:lk s1.hp b=some (.gy e1 o6 st (bE st pre'.length xs) (r0::rr) (bE st post'.length zs)))
  {hs1 hs2:List (Option Value)} (Wd:(R.cap b).2=hs1++hs2) (hD:F9 R b) (hDb:∀v r,some v∈(R.cap b).2→v.ownBlock=some r→R1.nil b=false→R1.blk b≠r)
  (hx:pre'.length*st≤xs.length) (hz:post'.length*st≤zs.length) (h1:ic (aV c R s.hp) w st j ed sd hs1 pre' xs) (h2:ic (aV c R s.hp) w st j ed sd hs2 post' zs) :
  bG c (zV R1 b (hs1++hs2)) (s1.app [(b,.iM e1 o6 st j ed sd pre' (r0::rr) post')]) a1 w1 ∧
   ∀u x,ak (aV (cF c R s w b (rQ g hb) g.lo.2.2) R1 s1.hp) w1 s1.hp R1 u x→ak (aV c (zV R1 b (hs1++hs2)) ((b,.iM e1 o6 st j ed sd pre' (r0::rr) post')::s1.hp)) w1 ((b,.iM e1 o6 st j ed sd pre' (r0::rr) post')::s1.hp) (zV R1 b (hs1++hs2)) u x:=by
 have hst:(r0::rr).length=st:=(g1.boxes b _ hb1).choose_spec.2.2.1;obtain⟨vs,hrow,hvl,g2,m2⟩:=g1.tH hb1;have hb2:lk (s1.app [(b,.arr e1 o6 st (bE st pre'.length xs++fM vs::bE st post'.length zs))]).hp b=some (.arr e1 o6 st (bE st pre'.length xs++fM vs::bE st post'.length zs)):=by
  simp only[AS.app,List.singleton_append,aC,if_true]
 have hrow2:=m2 (.agg (r0::rr)) (.agg vs.toArray) (by simp only[ak];exact⟨_,rfl,by simpa using hrow⟩);simp only[ak] at hrow2;obtain⟨us,e2,hrow2⟩:=hrow2;cases e2;obtain⟨g3,m3⟩:=bG.ahe g hb g2 hb2 (hs1:=hs1) (hs2:=hs2) (pre':=pre') (post':=post') (row':=r0::rr) Wd (by simp only[List.length_append,List.length_cons,j4,pW,gZ];omega) (by simpa[gZ] using hst) hD hDb (by
  intro ys hys hr;obtain⟨b1,b2,b3,b4⟩:=zQ hr;rw[j4] at b3 b4;obtain⟨r,hr'⟩:=Fu _ _ b3;refine⟨zU h1 (BD hx b1),?_,zU h2 (by simp only[gZ,Nat.one_mul];exact BD hz b4)⟩;rw[hr'];simp only[gZ,Nat.one_mul];rw[show (vs++r).take st=vs by rw[←hvl];exact List.take_left];exact hrow2)
 have hc:∀k,lk ((b,aF.iM e1 o6 st j ed sd pre' (r0::rr) post')::s1.hp) k=lk ((b,aF.iM e1 o6 st j ed sd pre' (r0::rr) post')::(s1.app [(b,.arr e1 o6 st (bE st pre'.length xs++fM vs::bE st post'.length zs))]).hp) k:=by
  intro k;simp only[AS.app,List.singleton_append,aC];split<;>rfl
 exact⟨bG.congr g3 (fun _=>rfl) hc,fun u x h=>wI hc (m3 u x (m2 u x h))⟩
end
def xD (T:Tab)(H:List (Nat×aF))(t:TypeId)(x:AV)(K:AV→Prop):Prop:=
 match x with
 | .dM b ver k off=>match lk H b with
   | some (.iM e v st j ed sd pre row post)=>match lk T t with
     | some i=>match Nat.beq ver v,Nat.beq i.size 0 with
       | true,false=>match part off i.size row with
         |some cs=>k=pre.length∧sK i cs K
         |none=>False
       |_,_=>False
     |none=>False
   |_=>uU T H t (.dM b ver k off) K
 |x=>uU T H t x K
def sI (T:Tab)(H:List (Nat×aF))(t:TypeId)(x y:AV)(K:AV→List (Nat×aF)→Prop):Prop:=
 match x with
 | .dM b ver k off=>match lk H b with
   | some (.iM e v st j ed sd pre row post)=>match lk T t with
     | some i=>match Nat.beq ver v with
       | true=>match cellsOf i y with
         | some cs=>match Nat.beq cs.length i.size with
           | true=>match kz off row cs with
             |some (r0::rr)=>k=pre.length∧K (.pv (.sc undef)) [(b,.iM e v st j ed sd pre (r0::rr) post)]
             |_=>False
           |false=>False
         |none=>False
       |false=>False
     |none=>False
   |_=>mX T H t (.dM b ver k off) y K
 |x=>mX T H t x y K
def OU (T:Tab)(H:List (Nat×aF))(t:TypeId)(x ix:AV)(K:AV→Prop):Prop:=
 match x with
 | .aO b ver=>match lk H b with
   | some (.iM e v st j ed sd pre row post)=>match ix with
     | .pv (.sc (.int _ i))=>match lk T t with
       | some ti=>match ti.d with
         | .slt e=>match lk T e with
           | some ei=>match Nat.beq ver v,Nat.beq st ei.size with
             |true,true=>0≤i∧i.toNat<pre.length+(gZ row+post.length)∧K (.dM b ver i.toNat 0)
             |_,_=>False
           |none=>False
         |_=>False
       |none=>False
     |_=>False
   |_=>K7 T H t (.aO b ver) ix K
 |x=>K7 T H t x ix K
def Ev (T:Tab)(H:List (Nat×aF))(t:TypeId)(x:AV)(K:AV→Prop):Prop:=
 match x with
 | .aO b ver=>match lk H b with
   | some (.iM e v st j ed sd pre row post)=>match lk T t with
     | some i=>match i.d with
       | .slt _=>match Nat.beq ver v with
         |true=>K (.pv (.sc (.int .i64 (pre.length+(gZ row+post.length):Nat))))
         |false=>False
       |_=>False
     |none=>False
   |_=>BX T H t (.aO b ver) K
 |x=>BX T H t x K
section
variable {P:Program}{T:Tab}{c:Ctx}{R:Real}{s:AS}{a:Act}{w:World}
theorem UF {α:Type}{off:Nat}{row cs:List α}{x:List α}(h:kz off row cs=some x):x.length=row.length:=by
 induction off generalizing row x with
 | zero=>
   cases row with
   | nil=>
     cases cs with
     |nil=>simp[kz,kI] at h;simp[←h]
     |cons c cs=>simp[kz,kI] at h
   | cons r row=>
     simp only[kz] at h;have:∀(cs row x:List α),kI row cs=some x→x.length=row.length:=by
      intro cs;induction cs with
      |nil=>intro row x h;cases row<;>simp[kI] at h<;>simp[←h]
      | cons c cs ih=>
        intro row x h;cases row with
        |nil=>simp[kI] at h
        | cons r row=>
          simp only[kI] at h;split at h
          ·rename_i t ht;simp only[Option.some.injEq] at h;subst h;simp[ih _ _ ht]
          cases h
     exact this _ _ _ h
 | succ off ih=>
   cases row with
   |nil=>simp[kz] at h
   | cons r row=>
     simp only[kz] at h;split at h
     ·rename_i t ht;simp only[Option.some.injEq] at h;subst h;simp[ih ht]
     cases h
theorem Jj (g:bG c R s a w)(hT:bY P T){H:List (Nat×aF)}(hH:∀b box,lk H b=some box→lk s.hp b=some box){t:TypeId}{x:AV}{K:AV→Prop}
  (h:xD T H t x K) {u:Value} (hx:ak (aV c R s.hp) w s.hp R x u) :
  ∃y v,(Instr.loadAt t u).run P w=.ok y w∧K v∧ak (aV c R s.hp) w s.hp R v y:=by
 unfold xD at h;split at h
 ·rename_i b ver k off;split at h
  ·rename_i e v st j ed sd pre row post hb;have hb':=hH _ _ hb;split at h;rotate_left;cases h
   rename_i i hi;have hi':=hT t i hi;split at h;rotate_left;cases h
   rename_i fD hsz0;split at h;rotate_left;cases h
   rename_i cs hcs;obtain⟨rfl,h⟩:=h;simp only[ak,hb',bf] at hx;obtain⟨hn,rfl⟩:=hx.2.2 (Nat.eq_of_beq_eq_true fD);cases hrw:row with
   | nil=>
     rw[hrw] at hcs;have:=Nat.ne_of_beq_eq_false hsz0;exfalso;have hz:=(FP.part (R:=fun _ _=>True) (m:=[]) (by simp only[FP]) hcs).1;simp only[List.length_nil] at hz;omega
   | cons r0 rr=>
     obtain⟨xs,hs1,hs2,a1,a2,a3,a4,a5,a6,a7⟩:=g.boxes b _ hb';have hO:gZ row=1:=by rw[hrw];rfl
     simp only[hO,Nat.one_mul] at a2 a4 a5 a6;have hrow:=(bM _ _ _ _ _ _).1 a5;obtain⟨h1,h2⟩:=hrow.fp.part hcs;obtain⟨q1,q2⟩:=a2;rcases q2 with ⟨q2,q3⟩|⟨g',cap,cur,e1,_,hg,hle,hm,hs,ht⟩
     ·omega
     simp only[dH,hn,Bool.false_eq_true,if_false,Value.slice.injEq,Option.some.injEq,Addr.mk.injEq] at e1;obtain⟨⟨eb,_⟩,_,_⟩:=e1;rw[←eb] at hg;rw[List.length_take] at h1;have hcl:cur.size=cur.toList.length:=Array.length_toList.symm;have hle2:(pre.length+(1+post.length))*st≤cur.size:=by rw[hs];exact Nat.mul_le_mul_right _ hle
     have hmul:(pre.length+(1+post.length))*st=pre.length*st+(st+post.length*st):=by rw[Nat.add_mul,Nat.add_mul,Nat.one_mul]
     have hdd:(cur.toList.drop (pre.length*st+off)).take i.size=(((xs.drop (pre.length*st)).take st).drop off).take i.size:=by
      rw[←ht,hmul];simp only[List.drop_take,List.take_take,List.drop_drop];congr 1
      omega
     have hz:pre.length*st+off+i.size≤cur.size:=by omega
     obtain⟨y,z,k1,k2,k3⟩:=CU i hi' hg hz (by rw[hdd];exact h2) h;exact⟨y,z,by simpa[Instr.loadAt,Instr.sureAddr] using k1,k2,k3⟩
  exact zS g hT hH h hx
 exact zS g hT hH h hx
theorem Gh (g:bG c R s a w)(hT:bY P T){H:List (Nat×aF)}(hH:∀b box,lk H b=some box→lk s.hp b=some box){t:TypeId}{x y:AV}
  {K:AV→List (Nat×aF)→Prop} (h:sI T H t x y K) {u v:Value} (hx:ak (aV c R s.hp) w s.hp R x u) (hy:ak (aV c R s.hp) w s.hp R y v) :
  ∃w' R' ws,(Instr.storeAt t u v).run P w=.ok () w'∧K (.pv (.sc undef)) ws∧bG c R' (s.app ws) a w':=by
 unfold sI at h;split at h
 ·rename_i b ver k off;split at h
  ·rename_i e vr st j ed sd pre row post hb;have hb':=hH _ _ hb;split at h;rotate_left;cases h
   rename_i i hi;split at h;rotate_left;cases h
   rename_i fD;split at h;rotate_left;cases h
   rename_i cs hcs;split at h;rotate_left;cases h
   rename_i hlen;split at h;rotate_left;cases h
   rename_i r0 rr hset;obtain⟨rfl,hK⟩:=h;have hrl:=UF hset;cases row with
   |nil=>simp at hrl
   | cons q0 qq=>
     obtain⟨xs,zs,hs1,hs2,a1,a2,a3,a4,a5,a6,a7,g1,m1⟩:=g.ae8 hb';have hb1:lk (s.app [(b,.gy e vr st (bE st pre.length xs) (q0::qq) (bE st post.length zs))]).hp b=some (.gy e vr st (bE st pre.length xs) (q0::qq) (bE st post.length zs)):=by
      simp only[AS.app,List.singleton_append,aC,if_true]
     have hst:mX T (s.app [(b,.gy e vr st (bE st pre.length xs) (q0::qq) (bE st post.length zs))]).hp t (.dM b ver pre.length off) y
       (fun z ws=>ws=[(b,.gy e vr st (bE st pre.length xs) (r0::rr) (bE st post.length zs))]):=by
      unfold mX;simp only[hi,hb1,fD,hcs,hlen,hset];exact⟨(j4 _ _ _).symm,trivial⟩
     obtain⟨w',ws,hrun,rfl,g2⟩:=qF g1 hT (fun _ _ h=>h) hst (u:=u) (v:=v) (m1 _ _ hx) (m1 _ _ hy);have hb2:lk ([(b,aF.gy e vr st (bE st pre.length xs) (r0::rr) (bE st post.length zs))]++(s.app [(b,.gy e vr st (bE st pre.length xs) (q0::qq) (bE st post.length zs))]).hp) b=some (.gy e vr st (bE st pre.length xs) (r0::rr) (bE st post.length zs)):=by
      rw[List.singleton_append,aC,if_pos rfl]
     obtain⟨g3,_⟩:=bG.YW g hb' g2 (e1:=e) (o6:=vr) (pre':=pre) (post':=post) hb2 a1 a7 a7.2 a2 a3 a4 a6;refine⟨w',_,_,hrun,hK,bG.congr g3 (fun _=>rfl) fun k=>?_⟩;simp only[AS.app,List.singleton_append,aC];split<;>rfl
  obtain⟨w',ws,h1,h2,h3⟩:=qF g hT hH h hx hy;exact⟨w',R,ws,h1,h2,h3⟩
 obtain⟨w',ws,h1,h2,h3⟩:=qF g hT hH h hx hy;exact⟨w',R,ws,h1,h2,h3⟩
theorem Pw (g:bG c R s a w)(hT:bY P T){H:List (Nat×aF)}(hH:∀b box,lk H b=some box→lk s.hp b=some box){t:TypeId}{x ix:AV}{K:AV→Prop}
  (h:OU T H t x ix K) {u v:Value} (hx:ak (aV c R s.hp) w s.hp R x u) (hv:ak (aV c R s.hp) w s.hp R ix v) :
  ∃y z,(Instr.indexAt t u v).run P w=.ok y w∧K z∧ak (aV c R s.hp) w s.hp R z y:=by
 unfold OU at h;split at h
 ·rename_i b ver;split at h
  ·rename_i e vr st j ed sd pre row post hb;have hb':=hH _ _ hb;split at h;rotate_left;cases h
   rename_i kk i;split at h;rotate_left;cases h
   rename_i ti XF;split at h;rotate_left;cases h
   rename_i e2 hte;split at h;rotate_left;cases h
   rename_i ei pV;split at h;rotate_left;cases h
   rename_i h1 h2;obtain⟨h0,hlt,hK⟩:=h;obtain⟨xs,hs1,hs2,a1,hlen,a3,a4,a5,a6,a7,g1,m1⟩:=g.J9 hb';have uM:lk (s.app [(b,.arr e vr st (bE st (pW pre row post) xs))]).hp b=some (.arr e vr st (bE st (pW pre row post) xs)):=by
    simp only[AS.app,List.singleton_append,aC,if_true]
   have hi:eP T (s.app [(b,.arr e vr st (bE st (pW pre row post) xs))]).hp t (.aO b ver) (.pv (.sc (.int kk i))) (fun z=>z=.dM b ver i.toNat 0):=by
    unfold eP;simp only[XF,hte,pV,uM,h1,h2];exact⟨h0,by rw[j4];exact hlt,trivial⟩
   obtain⟨y,z,hrun,rfl,hz⟩:=kC g1 hT (fun _ _ h=>h) hi (m1 _ _ hx) (m1 _ _ hv);refine⟨y,_,hrun,hK,?_⟩;simp only[ak,uM,bf] at hz;simp only[ak,hb',bf];exact hz
  exact Fw g hT hH h hx hv
 exact Fw g hT hH h hx hv
theorem MG (g:bG c R s a w)(hT:bY P T){H:List (Nat×aF)}(hH:∀b box,lk H b=some box→lk s.hp b=some box){t ty:TypeId}{x:AV}{K:AV→Prop}
  (h:Ev T H t x K) {u:Value} (hx:ak (aV c R s.hp) w s.hp R x u) :
  ∃y z,(Builtin.len_ #[t] ty #[u]).run P w=.ok y w∧K z∧ak (aV c R s.hp) w s.hp R z y:=by
 unfold Ev at h;split at h
 ·rename_i b ver;split at h
  ·rename_i e vr st j ed sd pre row post hb;have hb':=hH _ _ hb;split at h;rotate_left;cases h
   rename_i i hi;split at h;rotate_left;cases h
   rename_i e2 hte;split at h;rotate_left;cases h
   rename_i h1;obtain⟨xs,hs1,hs2,a1,hlen,a3,a4,a5,a6,a7,g1,m1⟩:=g.J9 hb';have uM:lk (s.app [(b,.arr e vr st (bE st (pW pre row post) xs))]).hp b=some (.arr e vr st (bE st (pW pre row post) xs)):=by
    simp only[AS.app,List.singleton_append,aC,if_true]
   have hi:Et T (s.app [(b,.arr e vr st (bE st (pW pre row post) xs))]).hp t (.aO b ver) (fun z=>z=.pv (.sc (.int .i64 (pre.length+(gZ row+post.length):Nat)))):=by
    unfold Et;simp only[hi,hte,vw,uM,uq,h1,j4];rfl
   obtain⟨y,z,hrun,rfl,hz⟩:=sV (ty:=ty) g1 hT (fun _ _ h=>h) hi (m1 _ _ hx);refine⟨y,_,hrun,h,?_⟩;simp only[ak,bJ] at hz ⊢;exact hz
  exact CV g hT hH h hx
 exact CV g hT hH h hx
end
def G8 (T:Tab)(H:List (Nat×aF))(t:TypeId)(b ver k kv:Nat)(K:AV→List (Nat×aF)→Prop):Prop:=
 match lk H k with
 | some (.gy e0 v0 Ap [] (r0::rr) [])=>match Nat.beq kv v0 with
   | true=>match lk T t with
     | some i=>match i.d with
       | .slt e=>match lk T e with
         | some ei=>tiF ei fun p9 KE=>match Nat.beq KE 0,Nat.beq p9 0,Nat.beq Ap p9 with
           | false,false,true=>match Nat.beq b k with
             |true=>False
             | false=>match lk H b with
               | some (.iM e' v st j ed sd pre [] [])=>match Nat.beq ver v,Nat.beq st p9,Nat.beq e' e with
                 |true,true,true=>(pre.length+1)*KE≤140737488355328∧K (.aO b (v+1)) [(b,.iM e (v+1) p9 j ed sd pre (r0::rr) [])]
                 |_,_,_=>False
               |_=>False
           |_,_,_=>False
         |none=>False
       |_=>False
     |none=>False
   |false=>False
 |_=>False
def ahk (o:Option aF):Bool:=
 match o with
 |some (.iM _ _ _ _ _ _ _ _ _)=>true
 |_=>false
def BQ (T:Tab)(H:List (Nat×aF))(t:TypeId)(vs:List AV)(id:Nat)(K:AV→List (Nat×aF)→Prop):Prop:=
 match vs with
 | [.aO b ver,.aO k kv]=>match ahk (lk H b) with
   |true=>G8 T H t b ver k kv K
   |false=>wX T H t [.aO b ver,.aO k kv] id K
 |vs=>wX T H t vs id K
section
variable {P:Program}{T:Tab}{c:Ctx}{R:Real}{s:AS}{a:Act}{w:World}
theorem MO (g:bG c R s a w)(hT:bY P T){H:List (Nat×aF)}(hH:∀b box,lk H b=some box→lk s.hp b=some box){id:Nat}(hf:lk s.hp id=none)
  {t ty:TypeId} {b ver k kv:Nat} {K:AV→List (Nat×aF)→Prop} (h:G8 T H t b ver k kv K) {u v:Value} (hd:ak (aV c R s.hp) w s.hp R (.aO b ver) u) (hx:ak (aV c R s.hp) w s.hp R (.aO k kv) v) :
  ∃y w' R' z ws,(Builtin.append_ #[t,t] ty #[u,v]).run P w=.ok y w'∧K z ws∧bG c R' (s.app ws) a w'∧ak (aV c R' (ws++s.hp)) w' (ws++s.hp) R' z y:=by
 unfold G8 at h;simp only[eu] at h;split at h;rotate_left;cases h
 rename_i e0 v0 Ap r0 rr hk;have hk':=hH _ _ hk;split at h;rotate_left;cases h
 rename_i hkv;split at h;rotate_left;cases h
 rename_i i hi;split at h;rotate_left;cases h
 rename_i e hte;split at h;rotate_left;cases h
 rename_i ei pV;split at h;rotate_left;cases h
 rename_i h1 h2 h3;split at h
 ·exact h.elim
 rename_i hbk;have ajA:=Nat.ne_of_beq_eq_false hbk;split at h;rotate_left;cases h
 rename_i e' vr st j ed sd pre hb;have hb':=hH _ _ hb;split at h;rotate_left;cases h
 rename_i k1 k2 k3;obtain⟨hbd,hK⟩:=h;have DT:=Nat.eq_of_beq_eq_true k2;have Mc:=Nat.eq_of_beq_eq_true k3;have YA:=Nat.eq_of_beq_eq_true k1;subst DT;subst Mc;subst YA;obtain⟨xs,hs1,hs2,a1,hlen,a3,a4,a5,a6,a7,g1,m1⟩:=g.J9 hb';have hn:pW pre [] []=pre.length:=by simp[pW,gZ]
 rw[hn] at g1 m1 hlen;have hb1:lk (s.app [(b,.arr e' ver ei.size (bE ei.size pre.length xs))]).hp b=some (.arr e' ver ei.size (bE ei.size pre.length xs)):=by
  simp only[AS.app,List.singleton_append,aC,if_true]
 have hk1:lk (s.app [(b,.arr e' ver ei.size (bE ei.size pre.length xs))]).hp k=some (.gy e0 v0 Ap [] (r0::rr) []):=by
  simp only[AS.app,List.singleton_append,aC,if_neg ajA];exact hk'
 have aeV:id≠b:=fun e=>by rw[e,hb'] at hf;cases hf
 have PN:BZ T (s.app [(b,.arr e' ver ei.size (bE ei.size pre.length xs))]).hp t (.aO b ver) k kv id (fun z ws=>z=.aO b (ver+1)∧ws=[(b,.gy e' (ver+1) ei.size (bE ei.size pre.length xs) (r0::rr) [])]):=by
  unfold BZ;simp only[eu,hi,hte,pV,h1,h2,h3,hk1,hkv,hbk,hb1,Nat.beq_refl,j4];exact⟨hbd,trivial,trivial⟩
 obtain⟨y,w',R',z,ws,hrun,⟨rfl,rfl⟩,g2,hz⟩:=CW g1 hT (fun _ _ h=>h) (by
  simp only[AS.app,List.singleton_append,aC,if_neg (show ¬b=id from fun e=>aeV e.symm)];exact hf) (ty:=ty) PN (m1 _ _ hd) (m1 _ _ hx)
 have hb2:lk ([(b,aF.gy e' (ver+1) ei.size (bE ei.size pre.length xs) (r0::rr) [])]++(s.app [(b,.arr e' ver ei.size (bE ei.size pre.length xs))]).hp) b=some (.gy e' (ver+1) ei.size (bE ei.size pre.length xs) (r0::rr) (bE ei.size ([]:List (Bool×List PV)).length [])):=by
  rw[List.singleton_append,aC,if_pos rfl];rfl
 have hDb:∀v r,some v∈(R.cap b).2→v.ownBlock=some r→R'.nil b=false→R'.blk b≠r:=by
  intro v r hv hr hn he;refine g2.free (R'.blk b) ⟨b,?_⟩ (.inr ⟨v,hv,by rw[he];exact hr⟩);show aL R' b (R'.blk b) (lk ([(b,aF.gy e' (ver+1) ei.size (bE ei.size pre.length xs) (r0::rr) [])]++(s.app [(b,.arr e' ver ei.size (bE ei.size pre.length xs))]).hp) b)
  rw[hb2];exact⟨hn,rfl⟩
 obtain⟨g3,m3⟩:=bG.YW g hb' g2 (e1:=e') (o6:=ver+1) (pre':=pre) (post':=[]) (xs:=xs) (zs:=[]) hb2 a1 a7 hDb (by rw[hlen];exact Nat.le_refl _) (by simp) a3 (zU a6 (by simp));have hc:∀q,lk ([(b,aF.iM e' (ver+1) ei.size j ed sd pre (r0::rr) [])]++s.hp) q=lk ((b,aF.iM e' (ver+1) ei.size j ed sd pre (r0::rr) [])::([(b,aF.gy e' (ver+1) ei.size (bE ei.size pre.length xs) (r0::rr) [])]++(s.app [(b,.arr e' ver ei.size (bE ei.size pre.length xs))]).hp)) q:=by
  intro q;simp only[AS.app,List.singleton_append,aC];split<;>rfl
 exact⟨y,w',_,_,_,hrun,hK,bG.congr g3 (fun _=>rfl) hc,wI hc (m3 _ _ hz)⟩
theorem KS (g:bG c R s a w)(hT:bY P T){H:List (Nat×aF)}(hH:∀b box,lk H b=some box→lk s.hp b=some box){id:Nat}(hf:lk s.hp id=none)
  {t ty:TypeId} {d x:AV} {K:AV→List (Nat×aF)→Prop} (h:BQ T H t [d,x] id K) {u v:Value} (hd:ak (aV c R s.hp) w s.hp R d u) (hx:ak (aV c R s.hp) w s.hp R x v) :
  ∃y w' R' z ws,(Builtin.append_ #[t,t] ty #[u,v]).run P w=.ok y w'∧K z ws∧bG c R' (s.app ws) a w'∧ak (aV c R' (ws++s.hp)) w' (ws++s.hp) R' z y:=by
 unfold BQ at h;split at h
 ·rename_i b ver k kv e;cases e;split at h
  ·exact MO g hT hH hf h hd hx
  exact CY g hT hH hf h hd hx
 exact CY g hT hH hf h hd hx
end
def qG:List (Int×Int)→Int→Nat→Option (Nat×Int)
 |[],_,_=>none
 |(a,v)::r,n,i=>if n=a then some (i,v) else qG r n (i+1)
def YC (es:List (Int×Int))(n:Int):Int:=
 match qG es n 0 with
 |some p=>p.2
 |none=>0
def IE (es:List (Int×Int))(n v:Int):List (Int×Int):=
 match qG es n 0 with
 |some p=>es.modify p.1 fun _=>(n,v)
 |none=>es++[(n,v)]
def rO (T:Tab)(t:TypeId):Option (IntKind×IntKind):=
 match lk T t with
 | some i=>match i.d with
   | .agw kt et=>match lk T kt,lk T et with
     | some ki,some ei=>match ki.d,ei.d with
       | .xC kk,.xC _=>match ei.zero with
         |[.int kv (.ofNat 0)]=>some (kk,kv)
         |_=>none
       |_,_=>none
     |_,_=>none
   |_=>none
 |none=>none
def Az (T:Tab)(t:TypeId)(id:Nat)(K:AV→List (Nat×aF)→Prop):Prop:=
 match rO T t with
 |some (kk,kv)=>K (.dM id 0 0 0) [(id,.mp kk kv [])]
 |none=>False
def GU (T:Tab)(H:List (Nat×aF))(t:TypeId)(x ix:AV)(K:AV→Prop):Prop:=
 match rO T t with
 | some (kk,kv)=>match x with
   | .dM b _ _ _=>match lk H b with
     | some (.mp kk' Xp es)=>match ix with
       |.pv (.sc (.int k n))=>k=kk'∧Xp=kv∧K (.pv (.sc (.int kv (YC es n))))
       |_=>False
     |_=>False
   |_=>False
 |none=>False
def vU (T:Tab)(H:List (Nat×aF))(t:TypeId)(x ix y:AV)(K:AV→List (Nat×aF)→Prop):Prop:=
 match rO T t with
 | some (kk,kv)=>match x with
   | .dM b _ _ _=>match lk H b with
     | some (.mp kk' Xp es)=>match ix with
       | .pv (.sc (.int k n))=>match y with
         |.pv (.sc (.int k2 m))=>k=kk'∧k2=Xp∧K (.pv (.sc undef)) [(b,.mp kk' Xp (IE es n m))]
         |_=>False
       |_=>False
     |_=>False
   |_=>False
 |none=>False
def Eh (T:Tab)(H:List (Nat×aF))(t:TypeId)(x:AV)(K:AV→Prop):Prop:=
 match x with
 | .dM b ver k off=>match lk H b with
   | some (.mp _ _ es)=>match rO T t with
     |some _=>K (.pv (.sc (.int .i64 es.length)))
     |none=>False
   |_=>False
 |x=>Ev T H t x K
section
variable {P:Program}{T:Tab}{c:Ctx}{R:Real}{s:AS}{a:Act}{w:World}
theorem pK (hT:bY P T){t:TypeId}{kk kv:IntKind}(h:rO T t=some (kk,kv)) :
  ∃kt et,P.underlying t=some (.map kt et)∧P.underlying kt=some (.int kk)∧∀w:World,(zeroValue et).run P w=.ok (.int kv 0) w:=by
 unfold rO at h;split at h
 ·rename_i i hi;split at h
  ·rename_i kt et hd;split at h
   ·rename_i ki ei hk he;split at h
    ·rename_i kk' Xp h1 h2;split at h
     ·rename_i kv0 hz;simp only[Option.some.injEq,Prod.mk.injEq] at h;obtain⟨rfl,rfl⟩:=h;obtain⟨d,q1,q2⟩:=(hT t i hi).gW;obtain⟨d2,r1,r2⟩:=(hT _ _ hk).gW;rw[hd] at q2;rw[h1] at r2;cases d<;>simp[di] at q2
      cases d2<;>simp[di] at r2
      obtain⟨rfl,rfl⟩:=q2;subst r2;refine⟨_,_,q1,r1,fun w=>?_⟩;obtain⟨zv,z1,z2,z3⟩:=(hT _ _ he).qP w;rw[h2] at z3;rw[hz] at z2;have:zv=.int kv0 0:=by
       cases zv<;>simp[DI.isAgg] at z3<;>simp[Value.cells] at z2
       obtain⟨rfl,rfl⟩:=z2;rfl
      rw[z1,this]
     cases h
    cases h
   cases h
  cases h
 cases h
theorem wJ {r:Nat}{es:Array MapEntry}{clock:Nat}(h:w.heap[r]? = some (.map es clock)):(getObj r).run P w=.ok (.map es clock) w:=by
 simp[getObj,Sem.run,h]
theorem yj {q kk kv:IntKind}{n:Int}:∀(cur:List MapEntry) (es:List (Int×Int)) (i:Nat),cur.map (fun e=>(e.key,e.val))=es.map (fun e=>(Value.int kk e.1,Value.int kv e.2)) →
  Instr.findNow (.int q) (.int kk n) cur i=some ((qG es n i).map fun p=>(p.1,.int kv p.2))
 |[],[],i,_=>rfl
 |[],_::_,i,h=>by simp at h
 |_::_,[],i,h=>by simp at h
 | e::cur,(x,v)::es,i,h=>by
   simp only[List.map_cons,List.cons.injEq,Prod.mk.injEq] at h;obtain⟨⟨h1,h2⟩,h3⟩:=h;have ih:=yj (q:=q) (n:=n) cur es (i+1) h3;unfold Instr.findNow;rw[h1];simp only[Instr.sameNow,if_true,qG];by_cases hx:n=x
   ·subst hx;simp[h2]
   have hb:(n==x)=false:=by simp[hx]
   rw[hb,if_neg hx];exact ih
theorem Jr (g:bG c R s a w)(hT:bY P T){id:Nat}(hf:lk s.hp id=none){t:TypeId}{K:AV→List (Nat×aF)→Prop}(h:Az T t id K) :
  ∃y w' R' z ws,(Instr.makeMap t none).run P w=.ok y w'∧K z ws∧bG c R' (s.app ws) a w'∧ak (aV c R' (ws++s.hp)) w' (ws++s.hp) R' z y:=by
 unfold Az at h;split at h;rotate_left;cases h
 rename_i kk kv hk;have hw:∀b',b'≠id→_:=Real.yQ R id w.heap.size false 0;refine⟨.map (some w.heap.size),{ w with heap:=w.heap.push (.map #[] 0) },R.at id w.heap.size false 0,_,_,by simp[Instr.makeMap],h,?_,?_⟩
 ·exact (g.Pd (box:=.mp kk kv []) (w':={ w with heap:=w.heap.push (.map #[] 0) }) (o:=.map #[] 0) hf ⟨rfl,rfl,rfl,rfl⟩ hw (fun _=>by simp[Real.at]) (fun _ h=>by cases h) fun hm=>by
   refine⟨#[],0,?_,by simp[Real.at],by simp⟩;simp[Real.at]).1
 simp only[ak,List.singleton_append,aC,if_true,bf];exact⟨Nat.zero_le _,rfl,by simp[Real.at]⟩
theorem vF {kt:TypeId}{q k:IntKind}{n:Int}(h:P.underlying kt=some (.int q))(e:Bool):(Instr.checkKey e 10000 kt (.int k n)).run P w=.ok () w:=by
 unfold Instr.checkKey;simp[run_underlying h]
theorem KU (g:bG c R s a w)(hT:bY P T){H:List (Nat×aF)}(hH:∀b box,lk H b=some box→lk s.hp b=some box){t:TypeId}{x ix:AV}{K:AV→Prop}
  (h:GU T H t x ix K) {u v:Value} (hx:ak (aV c R s.hp) w s.hp R x u) (hv:ak (aV c R s.hp) w s.hp R ix v) :
  ∃y z,(Instr.lookup t u v false).run P w=.ok y w∧K z∧ak (aV c R s.hp) w s.hp R z y:=by
 unfold GU at h;split at h;rotate_left;cases h
 rename_i kk kv hk;obtain⟨kt,et,h1,h2,h3⟩:=pK hT hk;split at h;rotate_left;cases h
 rename_i b ver i off;split at h;rotate_left;cases h
 rename_i kk' Xp es hb;have hb':=hH _ _ hb;split at h;rotate_left;cases h
 rename_i k n;obtain⟨rfl,rfl,hK⟩:=h;simp only[ak,hb',bf] at hx;obtain⟨_,_,rfl⟩:=hx;simp only[ak,bJ] at hv;subst hv;obtain⟨cur,clock,q1,q2,q3⟩:=g.boxes b _ hb';have hfind:=yj (q:=kk) (n:=n) cur.toList es 0 q3;refine⟨.int Xp (YC es n),_,?_,hK,by simp only[ak,bJ]⟩;simp only[Instr.lookup,Sem.run_bind,run_underlying h1,Result.andThen_ok,wJ q1,Sem.run_pure,vF h2,Instr.findKey,run_underlying h2,hfind];unfold YC;cases qG es n 0 with
 |none=>simp[h3 w]
 |some p=>simp
theorem IG {r:Nat}{es:Array MapEntry}{clock:Nat}(o:Obj)(h:w.heap[r]? = some (.map es clock)):(setObj r o).run P w=.ok () { w with heap:=w.heap.setIfInBounds r o }:=by
 simp[setObj,Sem.run,h]
theorem II:∀{es:List (Int×Int)} {n:Int} {j:Nat} {p:Nat×Int},qG es n j=some p→j≤p.1∧es[p.1-j]? = some (n,p.2)
 |[],n,j,p,h=>by simp[qG] at h
 | (x,v)::r,n,j,p,h=>by
   simp only[qG] at h;split at h
   ·rename_i e;simp only[Option.some.injEq] at h;subst h;subst e;simp
   obtain⟨h1,h2⟩:=II h;refine⟨by omega,?_⟩;rw[show p.1-j=(p.1-(j+1))+1 by omega];simpa using h2
theorem IJ {kk kv:IntKind}{n m:Int}:∀(cur:List MapEntry) (es:List (Int×Int)) (i:Nat),cur.map (fun e=>(e.key,e.val))=es.map (fun e=>(Value.int kk e.1,Value.int kv e.2)) →
  (cur.modify i fun e=>{ e with key:=.int kk n,val:=.int kv m }).map (fun e=>(e.key,e.val))=(es.modify i fun _=>(n,m)).map (fun e=>(Value.int kk e.1,Value.int kv e.2))
 |[],[],i,_=>by cases i<;>rfl
 |[],_::_,i,h=>by simp at h
 |_::_,[],i,h=>by simp at h
 | e::cur,p::es,0,h=>by
   simp only[List.map_cons,List.cons.injEq] at h;simp only[List.modify_zero_cons,List.map_cons,h.2]
 | e::cur,p::es,i+1,h=>by
   simp only[List.map_cons,List.cons.injEq] at h;simp only[List.modify_succ_cons,List.map_cons,h.1,IJ cur es i h.2]
theorem Gj (g:bG c R s a w)(hT:bY P T){H:List (Nat×aF)}(hH:∀b box,lk H b=some box→lk s.hp b=some box){t:TypeId}{x ix y:AV}{K:AV→List (Nat×aF)→Prop}
  (h:vU T H t x ix y K) {u v z:Value} (hx:ak (aV c R s.hp) w s.hp R x u) (hv:ak (aV c R s.hp) w s.hp R ix v) (hy:ak (aV c R s.hp) w s.hp R y z) :
  ∃w' ws,(Instr.mapUpdate t u v z).run P w=.ok () w'∧K (.pv (.sc undef)) ws∧bG c R (s.app ws) a w':=by
 unfold vU at h;split at h;rotate_left;cases h
 rename_i kk kv hk;obtain⟨kt,et,h1,h2,h3⟩:=pK hT hk;split at h;rotate_left;cases h
 rename_i b ver i off;split at h;rotate_left;cases h
 rename_i kk' Xp es hb;have hb':=hH _ _ hb;split at h;rotate_left;cases h
 rename_i k n;split at h;rotate_left;cases h
 rename_i k2 m;obtain⟨rfl,rfl,hK⟩:=h;simp only[ak,hb',bf] at hx;obtain⟨_,_,rfl⟩:=hx;simp only[ak,bJ] at hv hy;subst hv;subst hy;obtain⟨cur,clock,q1,q2,q3⟩:=g.boxes b _ hb';have hfind:=yj (q:=kk) (n:=n) cur.toList es 0 q3;have fin:∀(ab8:Array MapEntry) (PO:Nat),ab8.toList.map (fun e=>(e.key,e.val))=(IE es n m).map (fun e=>(Value.int k e.1,Value.int k2 e.2)) →
   bG c R (s.app [(b,.mp k k2 (IE es n m))]) a { w with heap:=w.heap.setIfInBounds (R.blk b) (.map ab8 PO) }:=by
  intro ab8 PO hq;have hlt:=(Array.getElem?_eq_some_iff.1 q1).1;have hR:∀b',b'≠b→R.blk b'=R.blk b'∧R.nil b'=R.nil b'∧R.cap b'=R.cap b':=fun _ _=>⟨rfl,rfl,rfl⟩
  refine g.upd (b:=b) (bL:=.mp k k2 (IE es n m)) (nx':=s.nx) hR (fun off v h=>by rw[hb'] at h;exact h) (fun ver v h=>by rw[hb'] at h;exact h) (fun ver i off v h=>by rw[hb'] at h;exact h)
   (fun r h=>by rw[hb'];exact .inl h) ⟨by simp,fun r hr hn=>?_,rfl,rfl,rfl⟩ ⟨ab8,PO,by simp[hlt],q2,hq⟩ rfl
  have hne:R.blk b≠r:=fun e=>hn (by rw[hb'];exact⟨q2,e⟩)
  simp only[Array.getElem?_setIfInBounds,hne,if_false]
 cases hm:qG es n 0 with
 | none=>
   rw[hm] at hfind;refine⟨_,_,?_,hK,fin (cur.push { key:=.int k n,val:=.int k2 m,born:=clock }) (clock+1) ?_⟩
   ·simp only[Instr.mapUpdate,Sem.run_bind,run_underlying h1,Result.andThen_ok,wJ q1,vF h2,Instr.findKey,run_underlying h2,hfind,Option.map_none,Sem.run_pure,IG _ q1]
   simp only[IE,hm,Array.toList_push,List.map_append,q3,List.map_cons,List.map_nil]
 | some p=>
   rw[hm] at hfind;obtain⟨_,hat⟩:=II hm;have adU:(cur[p.1]?).map (·.key)=some (.int k n):=by
    have:=congrArg (fun l=>l[p.1]?) q3;simp only[List.getElem?_map] at this;rw[Nat.sub_zero] at hat;rw[hat] at this;simp only[Option.map_some,Array.getElem?_toList] at this;cases hc:cur[p.1]? with
    |none=>rw[hc] at this;simp at this
    |some e=>rw[hc] at this;simp at this;simp[this.1]
   refine⟨_,_,?_,hK,fin (cur.modify p.1 fun e=>{ e with key:=.int k n,val:=.int k2 m }) clock ?_⟩
   ·have hkeep:(Instr.keyThatStays (.int k n) (.int k n)).run P w=.ok (.int k n) w:=by
     simp[Instr.keyThatStays,Instr.sameBits]
    simp only[Instr.mapUpdate,Sem.run_bind,run_underlying h1,Result.andThen_ok,wJ q1,vF h2,Instr.findKey,run_underlying h2,hfind,Option.map_some,Sem.run_pure,adU,Option.getD_some,hkeep,IG _ q1]
   simp only[IE,hm,Array.toList_modify];exact IJ _ _ _ q3
theorem KT (g:bG c R s a w)(hT:bY P T){H:List (Nat×aF)}(hH:∀b box,lk H b=some box→lk s.hp b=some box){t ty:TypeId}{x:AV}{K:AV→Prop}
  (h:Eh T H t x K) {u:Value} (hx:ak (aV c R s.hp) w s.hp R x u) :
  ∃y z,(Builtin.len_ #[t] ty #[u]).run P w=.ok y w∧K z∧ak (aV c R s.hp) w s.hp R z y:=by
 unfold Eh at h;split at h
 ·rename_i b ver i off;split at h;rotate_left;cases h
  rename_i kk' Xp es hb;have hb':=hH _ _ hb;split at h;rotate_left;cases h
  rename_i kp hk;obtain⟨kt,et,h1,h2,h3⟩:=pK (kk:=kp.1) (kv:=kp.2) hT hk;simp only[ak,hb',bf] at hx;obtain⟨_,_,rfl⟩:=hx;obtain⟨cur,clock,q1,q2,q3⟩:=g.boxes b _ hb';have hl:cur.size=es.length:=by have:=congrArg List.length q3;simpa using this
  exact⟨.int .i64 es.length,_,by simp[Builtin.len_,run_underlying h1,wJ q1,goInt,hl],h,by simp only[ak,bJ]⟩
 exact MG g hT hH h hx
end
def xG (T:Tab)(t:TypeId)(x ix:AV)(K:AV→Prop):Prop:=
 match x with
 | .pv (.agg cs)=>match ix with
   | .pv (.sc (.int _ i))=>match lk T t with
     | some ti=>match ti.d with
       | .TV n e=>match lk T e with
         | some ei=>match part (i.toNat*ei.size) ei.size cs with
           |some ds=>(0≤i∧i<n)∧sK ei (ds.map .pv) K
           |none=>False
         |none=>False
       |_=>False
     |none=>False
   |_=>False
 |x=>oO T t x ix K
section
variable {P:Program}{T:Tab}{R:Real}{w:World}
theorem Jp (hT:bY P T){N:Nat→Prop}{hp:List (Nat×aF)}{t:TypeId}{x ix:AV}{K:AV→Prop}
  (h:xG T t x ix K) {u v:Value} (hx:ak N w hp R x u) (hv:ak N w hp R ix v) :
  ∃y z,(Instr.index t u v).run P w=.ok y w∧K z∧ak N w hp R z y:=by
 unfold xG at h;split at h
 ·rename_i cs;split at h;rotate_left;cases h
  rename_i k i;split at h;rotate_left;cases h
  rename_i ti XF;split at h;rotate_left;cases h
  rename_i n e hte;split at h;rotate_left;cases h
  rename_i ei pV;split at h;rotate_left;cases h
  rename_i ds hds;obtain⟨⟨h0,h1⟩,h⟩:=h;simp only[ak,bJ] at hx hv;subst hv;obtain⟨vs,rfl,hx⟩:=hx;rw[gM] at hx;obtain⟨p1,p2⟩:=hx.fp.part hds;obtain⟨d,hd,ig⟩:=(hT t ti XF).gW;have hd':P.underlying t=some (.array n e):=by
   rw[hte] at ig;cases d<;>simp[di] at ig
   obtain⟨rfl,rfl⟩:=ig;exact hd
  have hf:FC (ak N w hp R) (ds.map .pv) ((vs.toList.drop (i.toNat*ei.size)).take ei.size):=FC.map (fun p v hv=>by simpa only[ak] using hv) p2;obtain⟨y,z,k1,k2,k3⟩:=EO (hT e ei pV) h hf (by simpa using p1);refine⟨y,z,?_,k2,k3⟩;simp only[Instr.index,asIntOf,Sem.run_bind,Sem.run_pure,Result.andThen_ok,run_underlying hd',h0,h1,and_self,if_true,(hT e ei pV).run_sizeOf];exact k1
 exact JJ hT h hx hv
end
def PS (j:TI):List Nat→List AV→List AV→Option (List AV)
 |[],[],cells=>some cells
 | k::ks,v::vs,cells=>match cellsOf j v with
   | some cs=>match Nat.beq cs.length j.size with
     | true=>match kz (k*j.size) cells cs with
       |some cells'=>PS j ks vs cells'
       |none=>none
     |false=>none
   |none=>none
 |_,_,_=>none
def mF (T:Tab)(t:TypeId)(ks:List Nat)(vs:List AV)(K:AV→Prop):Prop:=
 match lk T t with
 | some i=>match i.d with
   | .TV _ e=>match lk T e with
     | some j=>match zAV i.zero with
       | some z=>match PS j ks vs z with
         | some cells=>match yU cells with
           |some v=>K v
           |none=>False
         |none=>False
       |none=>False
     |none=>False
   |_=>Av T t ks vs K
 |none=>False
section
variable {P:Program}{T:Tab}{R:Real}{w:World}
theorem CZ {N:Nat→Prop}{hp:List (Nat×aF)}(j:TI) :
  ∀(ks:List Nat) (vs cells cells':List AV) (us:List Value) (zs:Array Value),PS j ks vs cells=some cells'→FL (ak N w hp R) vs us→FC (ak N w hp R) cells zs.toList →
   ∃SS,Instr.fill (fun i=>some (i*j.size,j.size)) zs (ks.zip us)=some SS∧FC (ak N w hp R) cells' SS.toList
 | [],[],cells,cells',us,zs,h,hv,hz=>by
   simp only[PS,Option.some.injEq] at h;subst h;simp only[FL] at hv;subst hv;exact⟨zs,rfl,hz⟩
 |[],v::vs,cells,cells',us,zs,h,hv,hz=>by simp[PS] at h
 |f::ks,[],cells,cells',us,zs,h,hv,hz=>by simp[PS] at h
 | f::ks,v::vs,cells,cells',us,zs,h,hv,hz=>by
   obtain⟨u,r,rfl,hu,hv⟩:=hv;simp only[PS] at h;split at h
   ·rename_i cs hcs;split at h
    ·rename_i hl;have hl:=Nat.eq_of_beq_eq_true hl;split at h
     ·rename_i c2 hc2;have hcu:=jy hcs hu;obtain⟨hle,hset⟩:=FC.kz hz hcu hc2;have sF:u.cells.size=j.size:=by rw[←hl,←hcu.length];simp
      simp only[List.zip_cons_cons,Instr.fill];have aiG:f*j.size+j.size≤zs.size:=by simp only[Array.length_toList] at hle;omega
      rw[if_neg (by simp[sF];omega)];have D8:(u.cells.zipIdx.foldl (fun cs (x:Value×Nat)=>cs.setIfInBounds (f*j.size+x.2) x.1) zs).toList=zs.toList.take (f*j.size)++u.cells.toList++zs.toList.drop (f*j.size+u.cells.toList.length):=by
       rw[←uH (f*j.size) u.cells.toList zs (by simpa using hle)];rw[←Array.foldl_toList,Array.toList_zipIdx]
      exact CZ j ks vs c2 cells' r _ h hv (by rw[D8];exact hset)
     cases h
    cases h
   cases h
theorem Dp (hT:bY P T){N:Nat→Prop}{hp:List (Nat×aF)}{t:TypeId}{ks:List Nat}{vs:List AV}{us:List Value}{K:AV→Prop}(h:mF T t ks vs K)
  (hv:FL (ak N w hp R) vs us):∃y z,(Instr.build t (ks.zip us).toArray).run P w=.ok y w∧K z∧ak N w hp R z y:=by
 unfold mF at h;split at h;rotate_left;cases h
 rename_i i hi;have hi':=hT _ _ hi;split at h
 ·rename_i n e hte;obtain⟨d,hd,ig⟩:=hi'.gW;obtain⟨zv,hz1,hz2,hz3⟩:=hi'.qP w;have hd':P.underlying t=some (.array n e):=by
   rw[hte] at ig;cases d<;>simp[di] at ig
   obtain⟨rfl,rfl⟩:=ig;exact hd
  split at h;rotate_left;cases h
  rename_i j hj;split at h;rotate_left;cases h
  rename_i z hz;have:=Jg hz;subst this;split at h;rotate_left;cases h
  rename_i cells hcells;split at h;rotate_left;cases h
  rename_i v hv';obtain⟨SS,hf1,hf2⟩:=CZ j ks vs _ cells us zv.cells hcells hv (by rw[hz2];exact sG hi'.SV);refine⟨.agg SS,v,?_,h,?_⟩
  ·simp only[Instr.build,Sem.run_bind,hz1,Result.andThen_ok,run_underlying hd',(hT _ _ hj).run_sizeOf,hf1,Sem.run_pure]
  unfold yU at hv';split at hv'
  ·rename_i ps hps;simp only[Option.some.injEq] at hv';subst hv';simp only[ak,bJ];exact⟨SS,rfl,by rw[gM];exact qQ hps hf2⟩
  simp only[Option.some.injEq] at hv';subst hv';simp only[ak];exact⟨SS,rfl,by rw[bM];exact hf2⟩
 exact Jf hT h hv
end
def Oe (T:Tab)(H:List (Nat×aF))(t:TypeId)(x ix:AV)(K:AV→Prop):Prop:=
 match x with
 | .sub b ver st lo hi=>match lk H b with
   | some (.arr e v st' rows)=>match ix with
     | .pv (.sc (.int _ i))=>match lk T t with
       | some ti=>match ti.d with
         | .slt e=>match lk T e with
           | some ei=>match Nat.beq ver v,Nat.beq st' ei.size,Nat.beq st st' with
             |true,true,true=>0≤i∧lo+i.toNat<hi∧K (.dM b ver (lo+i.toNat) 0)
             |_,_,_=>False
           |none=>False
         |_=>False
       |none=>False
     |_=>False
   |_=>False
 |x=>OU T H t x ix K
section
variable {P:Program}{T:Tab}{c:Ctx}{R:Real}{s:AS}{a:Act}{w:World}
theorem Oj (g:bG c R s a w)(hT:bY P T){H:List (Nat×aF)}(hH:∀b box,lk H b=some box→lk s.hp b=some box){t:TypeId}{x ix:AV}{K:AV→Prop}
  (h:Oe T H t x ix K) {u v:Value} (hx:ak (aV c R s.hp) w s.hp R x u) (hv:ak (aV c R s.hp) w s.hp R ix v) :
  ∃y z,(Instr.indexAt t u v).run P w=.ok y w∧K z∧ak (aV c R s.hp) w s.hp R z y:=by
 unfold Oe at h;split at h
 ·rename_i b ver st lo hi;split at h;rotate_left;cases h
  rename_i e' vr st' rows hb;have hb':=hH _ _ hb;split at h;rotate_left;cases h
  rename_i kk i;simp only[ak,bJ] at hv;subst hv;split at h;rotate_left;cases h
  rename_i ti XF;obtain⟨d,hd,ig⟩:=(hT t ti XF).gW;split at h;rotate_left;cases h
  rename_i e hte;have hd':P.underlying t=some (.slice e):=by
   rw[hte] at ig;cases d<;>simp[di] at ig
   subst ig;exact hd
  split at h;rotate_left;cases h
  rename_i ei pV;have iY:=hT e ei pV;split at h;rotate_left;cases h
  rename_i fD hst Ba;obtain⟨h0,hlt,hK⟩:=h;have fD:=Nat.eq_of_beq_eq_true fD;have hst:=Nat.eq_of_beq_eq_true hst;have Ba:=Nat.eq_of_beq_eq_true Ba;simp only[ak,hb',aU] at hx;obtain⟨u0,⟨r1,r2,r3⟩,hok,rfl⟩:=hx;have r3:=r3 fD;subst r3;cases hn:R.nil b with
  | true=>
    simp only[dH,hn,if_true,oG] at hok;omega
  | false=>
    obtain⟨xs,⟨_,h2⟩,_⟩:=(g.boxes b _ hb');have hcap:rows.length≤(R.cap b).1:=by
     rcases h2 with ⟨_,h2⟩|⟨g',cap,cur,e1,e2,e3,e4,_⟩
     ·simp only[dH,hn,Bool.false_eq_true,if_false,oG] at hok;omega
     simp only[dH,hn,Bool.false_eq_true,if_false,Value.slice.injEq] at e1;obtain⟨_,_,e1⟩:=e1;omega
    simp only[dH,hn,Bool.false_eq_true,if_false,oG] at hok;have hne:(R.cap b).1≠lo:=by omega
    simp only[dH,hn,Bool.false_eq_true,if_false,je,if_neg hne];have hi2:i<((hi-lo:Nat):Int):=by omega
    refine⟨.pointer (some ((Addr.add ⟨R.blk b,0,none⟩ (lo*st)).add (i.toNat*ei.size))),_,?_,hK,?_⟩
    ·simp[Instr.indexAt,asIntOf,run_underlying hd',h0,hi2,iY.run_sizeOf]
    simp only[ak,hb',bf,addr_add];refine⟨r1,rfl,fun _=>⟨hn,?_⟩⟩;rw[←hst,Ba,Nat.add_mul];simp
 exact Pw g hT hH h hx hv
end
def xE (T:Tab)(H:List (Nat×aF))(src dst:TypeId)(x:AV)(K:AV→List (Nat×aF)→Prop):Prop:=
 match x with
 | .aO b ver=>match lk H b with
   | some (.arr e v st rows)=>match lk T dst with
     | some dt=>match dt.d with
       | .slt et=>match lk T et with
         | some ei=>match ei.d with
           | .xC .u8=>match Nat.beq src dst,Nat.beq ver v,rows with
             |true,true,r::rs=>K (.pv (.sl false st (r::rs))) [(b,.dS v st (r::rs))]
             |_,_,_=>False
           |_=>False
         |none=>False
       |_=>qB T H src dst (.aO b ver) K
     |none=>False
   |_=>qB T H src dst (.aO b ver) K
 |x=>qB T H src dst x K
section
variable {P:Program}{T:Tab}{c:Ctx}{R:Real}{s:AS}{a:Act}{w:World}
theorem LM (w:World)(g n k:Nat)(hk:k≠0){cur:Array Value}{e:TypeId}(h:w.heap[g]? = some (.cells cur e (0,0))) :
  (w.freeze ⟨g,n,none⟩ k).heap[g]? = some (.cells cur e (n,n+k))∧mr (fun r=>r=g) w (w.freeze ⟨g,n,none⟩ k):=by
 unfold World.freeze;rw[if_neg hk];refine⟨?_,⟨by simp,fun r hr hn=>?_,rfl,rfl,rfl⟩⟩
 ·simp only[Array.getElem?_modify,if_true,h,Option.map_some];rfl
 simp only[Array.getElem?_modify];rw[if_neg (fun e=>hn e.symm)]
theorem Jk (g:bG c R s a w)(hT:bY P T){H:List (Nat×aF)}(hH:∀b box,lk H b=some box→lk s.hp b=some box){src dst:TypeId}{x:AV}{K:AV→List (Nat×aF)→Prop}
  (h:xE T H src dst x K) {u:Value} (hx:ak (aV c R s.hp) w s.hp R x u) :
  ∃z w' R' q ws,(convert src dst u).run P w=.ok z w'∧K q ws∧bG c R' (s.app ws) a w'∧ak (aV c R' (ws++s.hp)) w' (ws++s.hp) R' q z:=by
 unfold xE at h;split at h
 ·rename_i b ver;split at h
  ·rename_i e v st rows hb;have hb':=hH _ _ hb;split at h;rotate_left;cases h
   rename_i dt hdt;split at h
   ·rename_i et hde;split at h;rotate_left;cases h
    rename_i ei pV;split at h;rotate_left;cases h
    rename_i hes;split at h;rotate_left;cases h
    rename_i r rs hsd fD;have hsd:=Nat.eq_of_beq_eq_true hsd;have fD:=Nat.eq_of_beq_eq_true fD;subst hsd;obtain⟨d2,hd2,e2⟩:=(hT _ _ hdt).gW;obtain⟨d3,hd3,e3⟩:=(hT _ _ pV).gW;have q2:P.underlying src=some (.slice et):=by rw[hde] at e2;cases d2<;>simp[di] at e2;subst e2;exact hd2
    have q3:P.underlying et=some (.int .u8):=by rw[hes] at e3;cases d3<;>simp[di] at e3;subst e3;exact hd3
    simp only[ak,hb',aU] at hx;obtain⟨_,_,hu⟩:=hx;have hu:=hu fD;obtain⟨xs,⟨hxl,hrow⟩,hrep⟩:=g.boxes b _ hb';rcases hrow with ⟨_,h0⟩|⟨gb,cap,cur,h1,h2,h3,h4,h5,h6,h7⟩
    ·simp at h0
    have hnil:R.nil b=false:=by
     cases hn:R.nil b with
     |false=>rfl
     |true=>simp[dH,hn] at h1
    have hs:dH R b (r::rs).length=.slice (some ⟨R.blk b,0,none⟩) (r::rs).length (R.cap b).1:=by simp[dH,hnil]
    rw[hs] at h1 hu;simp only[Value.slice.injEq,Option.some.injEq,Addr.mk.injEq,and_true,true_and] at h1;obtain⟨h1,h8⟩:=h1;subst h1;obtain⟨f1,f2⟩:=LM w (R.blk b) cur.size 1 (by decide) h3;have hR:∀b',b'≠b→R.blk b'=R.blk b'∧R.nil b'=R.nil b'∧R.cap b'=R.cap b':=fun _ _=>⟨rfl,rfl,rfl⟩
    have XM:∀x,aL R b x (lk s.hp b)↔x=R.blk b:=fun x=>by rw[hb'];simp only[aL,hnil,true_and];exact eq_comm
    have r1:∀off v',aY R b off v' (lk s.hp b)→aY R b off v' (some (.dS v st (r::rs))):=fun off v' h=>by rw[hb'] at h;exact h
    have r2:∀eZ v',aU R b eZ v' (lk s.hp b)→aU R b eZ v' (some (.dS v st (r::rs))):=fun off v' h=>by rw[hb'] at h;exact h
    have r3:∀eZ i off v',bf R b eZ i off v' (lk s.hp b)→bf R b eZ i off v' (some (.dS v st (r::rs))):=fun _ _ off v' h=>by rw[hb'] at h;exact h
    have hno:∀x,¬aL R b x (some (.dS v st (r::rs))):=fun x h=>h
    have hworld:mr (fun x=>aL R b x (lk s.hp b)) w (w.freeze ⟨R.blk b,cur.size,none⟩ 1):=f2.mono fun x hx=>(XM x).2 hx
    have hown:∀x,aL R b x (some (.dS v st (r::rs)))→aL R b x (lk s.hp b)∨w.heap.size≤x:=fun x h=>(hno x h).elim
    obtain⟨m1,m2,m3,m4,m5⟩:=g.Ga hR r1 r2 r3 hown hworld;have ug:lk ((b,aF.dS v st (r::rs))::s.hp) b=some (.dS v st (r::rs)):=by rw[aC,if_pos rfl]
    have hout:¬aV c R ((b,aF.dS v st (r::rs))::s.hp) (R.blk b):=by
     rintro (h|⟨b',h⟩)
     ·exact g.free _ ⟨b,(XM _).2 rfl⟩ h
     by_cases e:b'=b
     ·subst e;rw[ug] at h;exact hno _ h
     rw[aC,if_neg (fun x=>e x.symm)] at h;exact e (g.inj b' b _ h ((XM _).2 rfl))
    have hrr:bJ (aV c R ((b,aF.dS v st (r::rs))::s.hp)) (w.freeze ⟨R.blk b,cur.size,none⟩ 1) (.sl false st (r::rs)) (.slice (some ⟨R.blk b,0,none⟩) (r::rs).length (R.cap b).1):=by
     simp only[bJ];refine⟨_,_,_,rfl,rfl,⟨by omega,by unfold maxLen at h5;omega⟩,fun e=>(by cases e),fun ad ha=>?_⟩;simp only[Option.some.injEq] at ha;subst ha;refine .inr ⟨rfl,hout,cur,e,_,f1,?_⟩;have hm:=aX m1 m2 st (r::rs) xs hrep;rw[←h7] at hm;simp only[List.drop_zero];have hm:=oH (cur.toList.drop ((r::rs).length*st)) hm;rwa [List.take_append_drop] at hm
    refine⟨u,w.freeze ⟨R.blk b,cur.size,none⟩ 1,R,_,_,?_,h,g.upd hR r1 r2 r3 hown hworld (by simp only[dY];rw[hs];exact hrr),?_⟩
    ·rw[hu];simp only[convert,Sem.run_bind,run_underlying q2,run_underlying q3,Result.andThen_ok,markStringish,run_shape,World.shape?,h3,run_freeze,Sem.run_pure,beq_self_eq_true]
    rw[hu];simp only[ak];exact hrr
   exact sH g hT hH h hx
  exact sH g hT hH h hx
 exact sH g hT hH h hx
end
def jE (tm:List (Nat×AV))(x:Operand):Option AV:=
 match x with
 |.tmp t=>lk tm t
 |.const v=>some (.pv (.sc v))
 |.func f=>some (.pv (.fn (.func f) [] []))
 |.global _=>none
def evs (tm:List (Nat×AV)):List Operand→Option (List AV)
 |[]=>some []
 | x::r=>match jE tm x with
   | some v=>match evs tm r with
     |some vs=>some (v::vs)
     |none=>none
   |none=>none
def SY:List AV→List Nat
 |v::_=>refs v
 |[]=>[]
def Ob:List AV→List Nat
 |[]=>[]
 | v::r=>match v with
   |.dM b _ _ _=>b::Ob r
   |_=>Ob r
def Ji (op:Op)(vs:List AV):List Nat:=
 match op with
 |.load _ _=>fq vs
 |.store _ _ _=>SY vs
 |.nilCheck _=>fq vs
 |.convert _ _ _=>fq vs
 |.makeFunc _ _ _=>fq vs
 |.slice _ _ _ _ _=>fq vs
 |.fieldAddr _ _ _=>fq vs
 |.indexAddr _ _ _=>fq vs
 |.buildSlice _ _ _=>fq vs
 |.call _=>fq vs
 |.unOp _ _ _=>fq vs
 |.binOp _ _ _ _ _=>Ob vs
 |.lookup _ _ _ _=>fq vs
 |.mapUpdate _ _ _ _=>fq vs
 |_=>[]
def S9 (H:List (Nat×aF))(op:UnOp)(x:AV)(K:AV→Prop):Prop:=
 match x with
 | .dM b ver i off=>match op with
   | .not=>match lk H b with
     | some (.tr _ v _ st)=>match st with
       | none=>match Nat.beq ver v with
         | true=>match off with
           |0=>K (.dM b ver i 1)
           |1=>K (.dM b ver i 0)
           |_=>False
         |false=>False
       |some _=>False
     |_=>False
   |_=>False
 |x=>cUn op x K
theorem Od {P:Program}{w:World}{R:Real}{N:Nat→Prop}{hp:List (Nat×aF)}{H:List (Nat×aF)}(hH:∀b box,lk H b=some box→lk hp b=some box){op:UnOp}{x:AV}{K:AV→Prop}(h:S9 H op x K){u:Value}(hx:ak N w hp R x u) :
  ∃y v,(Op.unary op u).run P w=.ok y w∧K v∧ak N w hp R v y:=by
 unfold S9 at h;split at h
 ·rename_i b ver i off;split at h;rotate_left;cases h
  split at h;rotate_left;cases h
  rename_i y v rest st hb;split at h;rotate_left;cases h
  split at h;rotate_left;cases h
  rename_i hv;have hb':=hH _ _ hb;simp only[ak,hb',bf] at hx;obtain⟨h1,h2,h3⟩:=hx;have h3:=h3 (Nat.eq_of_beq_eq_true hv) (by trivial);subst h3;split at h
  ·refine⟨.bool (!(R.nil b != Nat.beq 0 1)),_,by simp[Op.unary],h,?_⟩;simp only[ak,hb',bf];exact⟨h1,rfl,fun _ _=>by cases R.nil b<;>rfl⟩
  ·refine⟨.bool (!(R.nil b != Nat.beq 1 1)),_,by simp[Op.unary],h,?_⟩;simp only[ak,hb',bf];exact⟨h1,rfl,fun _ _=>by cases R.nil b<;>rfl⟩
  exact h.elim
 exact Ta h hx
def Q0 (H:List (Nat×aF))(v:AV):Bool:=
 match v with
 |.ptr _ _=>true
 |.pv (.dL _ _)=>true
 |.pv (.fn (.func _) _ _)=>true
 | .dM b ver _ _=>match Q5 (lk H b) with
   |some k=>Nat.beq ver k
   |none=>false
 |_=>false
def aiH:AV→Bool
 |.dM _ _ _ _=>true
 |_=>false
def Eg (T:Tab)(H:List (Nat×aF))(op:BinOp)(t:TypeId)(x y:AV)(K:AV→Prop):Prop:=
 match aiH x with
 | true=>match y with
   | .pv (.sc (.pointer none))=>match Q0 H x with
     | true=>match lk T t with
       | some i=>match i.d with
         |.Gc _=>Q6 op false K
         |_=>False
       |none=>False
     |false=>False
   |_=>False
 |false=>Gd T op t x y K
def cop (P:Program)(T:Tab)(op:Op)(vs:List AV)(H:List (Nat×aF))(id:Nat)(K:AV→List (Nat×aF)→Prop):Prop:=
 match op with
 | .move _=>match vs with
   |[v]=>K v []
   |_=>False
 | .assign _=>match vs with
   |[v]=>K v []
   |_=>False
 | .pick _ _ _=>match vs with
   | [.pv (.sc (.bool c)),x,y]=>match c with
     |true=>K x []
     |false=>K y []
   |_=>False
 |.alloc t=>Aw T t id K
 | .box t _=>match vs with
   |[x]=>SX T t x id K
   |_=>False
 |.build t ps=>mF T t (ps.toList.map (·.1)) vs fun v=>K v []
 |.buildSlice t n ps=>qa T H t n (ps.toList.map (·.1)) vs id K
 | .load t _=>match vs with
   |[x]=>xD T H t x fun v=>K v []
   |_=>False
 | .store t _ _=>match vs with
   |[x,y]=>sI T H t x y K
   |_=>False
 | .nilCheck _=>match vs with
   | [x]=>match Q0 H x with
     |true=>K x []
     |false=>False
   |_=>False
 | .binOp op t _ _ _=>match vs with
   |[x,y]=>Eg T H op t x y fun v=>K v []
   |_=>False
 | .unOp op _ _=>match vs with
   |[x]=>S9 H op x fun v=>K v []
   |_=>False
 | .convert src dst _=>match vs with
   |[x]=>xE T H src dst x K
   |_=>False
 |.makeFunc f first _=>GK H f first.size vs K
 |.makeSlice t _ _=>uJ T t vs id K
 |.slice t _ l h m=>qb T H t l h m vs K
 | .fieldAddr t _ f=>match vs with
   |[x]=>mG T H t x f fun v=>K v []
   |_=>False
 | .field t _ f=>match vs with
   |[x]=>KO T t x f fun v=>K v []
   |_=>False
 | .indexAddr t _ _=>match vs with
   |[x,y]=>Oe T H t x y fun v=>K v []
   |_=>False
 | .index t _ _=>match vs with
   |[x,y]=>xG T t x y fun v=>K v []
   |_=>False
 | .extract _ i=>match vs with
   |[x]=>qU x i fun v=>K v []
   |_=>False
 | .call c=>match c.callee with
   |.value _=>GQ P H vs K
   | .builtin b=>match b with
     | .append=>match c.argTypes.toList with
       | [t,t']=>match Nat.beq t t' with
         |true=>BQ T H t vs id K
         |false=>False
       |_=>False
     | .len=>match c.argTypes.toList with
       | [t]=>match vs with
         |[x]=>Eh T H t x fun v=>K v []
         |_=>False
       |_=>False
     | .clear=>match c.argTypes.toList with
       | [t]=>match vs with
         |[x]=>Ay T H t x K
         |_=>False
       |_=>False
     |.max=>cMM true vs fun v=>K v []
     |.min=>cMM false vs fun v=>K v []
     |_=>False
   |.invoke _ _=>False
 | .makeMap t r=>match r with
   |none=>Az T t id K
   |some _=>False
 | .lookup t _ _ ok=>match ok with
   | false=>match vs with
     |[x,y]=>GU T H t x y fun v=>K v []
     |_=>False
   |true=>False
 | .mapUpdate t _ _ _=>match vs with
   |[x,y,z]=>vU T H t x y z K
   |_=>False
 |_=>False
def yZ (P:Program)(T:Tab)(op:Op)(vs:List AV)(hp:List (Nat×aF))(id:Nat)(K:AV→List (Nat×aF)→List Nat→Prop):Prop:=
 match Ji op vs with
 | ids=>match kG hp ids with
   |some H=>cop P T op vs H id fun v ws=>K v ws ids
   |none=>False
def mH (op:Op):Bool:=
 match op with
 | .call c=>match c.callee with
   |.value _=>true
   |_=>false
 |_=>false
def lC (P:Program)(T:Tab)(op:Op)(vs:List AV)(hp:List (Nat×aF))(id:Nat)(K:AV→List (Nat×aF)→List Nat→Prop):Prop:=
 match Q7 hp vs with
 |true=>dC P hp vs K
 |false=>yZ P T op vs hp id K
def gen (T:Tab):Bool:=
 match T with
 | (a,_)::(b,_)::(c,_)::_=>match Nat.beq a b with
   |true=>Nat.beq b c
   |false=>false
 |_=>false
def mk3 (T:Tab):Tab:=
 match T with
 |x::r=>x::x::x::r
 |[]=>[]
theorem adV (T:Tab)(t:Nat):lk (mk3 T) t=lk T t:=by
 cases T with
 |nil=>rfl
 | cons x r=>
   obtain⟨k,v⟩:=x;simp only[mk3,aC];split<;>rfl
theorem bY.mk3 {P:Program}{T:Tab}(h:bY P T):bY P (mk3 T):=fun t i hi=>h t i (by rw[←adV T t];exact hi)
def Ws (P:Program)(T:Tab)(o:Oper)(tm:List (Nat×AV))(hp:List (Nat×aF))(id:Nat)(K:AV→List (Nat×aF)→List Nat→Prop):Prop:=
 match evs tm (kS o.op) with
 | some vs=>match mH o.op with
   | true=>match isY vs with
     |true=>yC P hp vs K
     | false=>(lC P T o.op vs hp id K∨gC P hp id vs K)∨match gen T with
       |true=>gI P hp id vs K
       |false=>gV P hp id vs K
   |false=>yZ P T o.op vs hp id K
 |none=>False
theorem BR {hp:List (Nat×aF)}:∀{ids:List Nat} {H:List (Nat×aF)},kG hp ids=some H→∀b box,lk H b=some box→lk hp b=some box
 |[],H,h=>by simp only[kG,Option.some.injEq] at h;subst h;intro b box hb;simp[lk] at hb
 | i::r,H,h=>by
   simp only[kG] at h;split at h
   ·rename_i bx hbx;split at h
    ·rename_i t ht;simp only[Option.some.injEq] at h;subst h;intro b box hb;rw[aC] at hb;split at hb
     ·rename_i e;simp only[Option.some.injEq] at hb;rw[←e,←hb];exact hbx
     exact BR ht b box hb
    cases h
   cases h
section
variable {P:Program}{T:Tab}{c:Ctx}{R:Real}{s:AS}{a:Act}{w:World}
theorem vV (g:bG c R s a w){x:Operand}{v:AV}(h:jE s.tm x=some v):ak (aV c R s.hp) w s.hp R v (a.eval x):=by
 unfold jE at h;split at h
 ·rename_i t;obtain⟨y,h1,h2⟩:=g.slots t v h;have:a.eval (.tmp t)=y:=by simp[Act.eval,h1]
  rw[this];exact h2
 ·simp only[Option.some.injEq] at h;subst h;simp only[ak,bJ,Act.eval]
 ·simp only[Option.some.injEq] at h;subst h;simp only[ak,bJ,Act.eval];exact⟨#[],#[],rfl,rfl,rfl⟩
 cases h
theorem lg (g:bG c R s a w):∀{xs:List Operand} {vs:List AV},evs s.tm xs=some vs→FL (ak (aV c R s.hp) w s.hp R) vs (xs.map a.eval)
 |[],vs,h=>by simp only[evs,Option.some.injEq] at h;subst h;rfl
 | x::xs,vs,h=>by
   simp only[evs] at h;split at h
   ·rename_i v hv;split at h
    ·rename_i Q8 hvs;simp only[Option.some.injEq] at h;subst h;exact⟨_,_,rfl,vV g hv,lg g hvs⟩
    cases h
   cases h
def Nx (c:Ctx)(s:AS)(o:Oper)(K:AV→List (Nat×aF)→Prop)(a:Act)(w:World):Prop:=
 ∃R v ws,K v ws∧bG c R ((s.app ws).put o.dst v) a w
theorem jT {o:Oper}{K:AV→List (Nat×aF)→Prop}{Q:Exit→Act→World→Prop}(hd:∀t,o.dst=some t→t<c.n){y:Value}{w':World}{R':Real}{v:AV}{ws:List (Nat×aF)}
  (hrun:(execOp a.eval o).run P w=.ok (.value y) w') (hK:K v ws) (g:bG c R' (s.app ws) a w') (hr:ak (aV c R' (ws++s.hp)) w' (ws++s.hp) R' v y) :
  o.wp P a w (Nx c s o K) Q:=by
 unfold Oper.wp;rw[hrun,Oper.upon_value];exact⟨R',v,ws,hK,g.put o.dst hd hr⟩
theorem jG {o:Oper}{m:Sem Value}(he:execOp a.eval o=(do pure (.value (←m)))){y:Value}{w':World}(h:m.run P w=.ok y w'):(execOp a.eval o).run P w=.ok (.value y) w':=by
 rw[he];simp[h]
theorem wW (ps:Array (Nat×Operand))(f:Operand→Value):(ps.map fun (i,x)=>(i,f x))=((ps.toList.map (·.1)).zip ((ps.toList.map (·.2)).map f)).toArray:=by
 have:∀l:List (Nat×Operand),(l.map fun (x:Nat×Operand)=>(x.1,f x.2))=(l.map (·.1)).zip ((l.map (·.2)).map f):=by
  intro l;induction l with
  |nil=>rfl
  |cons x l ih=>simp[ih]
 rw[←this];apply Array.ext';simp
def iZ (P:Program)(T:Tab)(c:Ctx)(R:Real)(s:AS)(a:Act)(w:World)(id:Nat)(Q:Exit→Act→World→Prop)(op:Op):Prop:=
 ∀(o:Oper),o.op=op→(∀t,o.dst=some t→t<c.n)→∀(vs:List AV) (H:List (Nat×aF)) (K:AV→List (Nat×aF)→Prop),
  (∀b box,lk H b=some box→lk s.hp b=some box)→FL (ak (aV c R s.hp) w s.hp R) vs ((kS op).map a.eval)→cop P T op vs H id K→o.wp P a w (Nx c s o K) Q
section
variable (g:bG c R s a w)(hT:bY P T){id:Nat}(hf:lk s.hp id=none)(Q:Exit→Act→World→Prop)
include g hT hf
theorem pure_ok {o:Oper}(hd:∀t,o.dst=some t→t<c.n){y:Value}{v:AV}{K:AV→List (Nat×aF)→Prop}(hK:K v [])(hr:ak (aV c R s.hp) w s.hp R v y)
  (hrun:(execOp a.eval o).run P w=.ok (.value y) w):o.wp P a w (Nx c s o K) Q:=jT (ws:=[]) hd hrun hK g hr
theorem aa5 (x:Operand):iZ P T c R s a w id Q (.move x):=by
 intro o ho hd vs H K hH hv h;unfold cop at h;simp only at h;split at h
 ·exact pure_ok g hT hf Q hd h (V8 hv) (by simp[execOp,ho])
 exact h.elim
theorem Tc (x:Operand):iZ P T c R s a w id Q (.assign x):=by
 intro o ho hd vs H K hH hv h;unfold cop at h;simp only at h;split at h
 ·exact pure_ok g hT hf Q hd h (V8 hv) (by simp[execOp,ho])
 exact h.elim
theorem aa6 (x y z:Operand):iZ P T c R s a w id Q (.pick x y z):=by
 intro o ho hd vs H K hH hv h;unfold cop at h;simp only at h;split at h;rotate_left;cases h
 obtain⟨h1,h2,h3⟩:=FL3 hv;simp only[ak,bJ] at h1;split at h
 ·exact pure_ok g hT hf Q hd h h2 (by simp[execOp,ho,h1,asBool])
 exact pure_ok g hT hf Q hd h h3 (by simp[execOp,ho,h1,asBool])
theorem Wu (t:TypeId):iZ P T c R s a w id Q (.alloc t):=by
 intro o ho hd vs H K hH hv h;unfold cop at h;simp only at h;obtain⟨z,w',R',q,ws,h1,h2,h3,h4⟩:=Jh g hT hf h;exact jT hd (jG (m:=Instr.alloc t true (.tuple #[])) (by unfold execOp;rw[ho]) h1) h2 h3 h4
theorem adW (t:TypeId)(x:Operand):iZ P T c R s a w id Q (.box t x):=by
 intro o ho hd vs H K hH hv h;unfold cop at h;simp only at h;split at h
 ·obtain⟨z,w',R',q,ws,h1,h2,h3,h4⟩:=Oa g hT hf h (V8 hv);exact jT hd (jG (m:=Instr.box t (a.eval x)) (by unfold execOp;rw[ho]) h1) h2 h3 h4
 exact h.elim
theorem Wv (t:TypeId)(ps:Array (Nat×Operand)):iZ P T c R s a w id Q (.build t ps):=by
 intro o ho hd vs H K hH hv h;unfold cop at h;simp only at h;obtain⟨y,z,h1,h2,h3⟩:=Dp hT h hv;simp only[kS] at h1;exact pure_ok g hT hf Q hd h2 h3 (jG (m:=Instr.build t (ps.map fun (i,x)=>(i,a.eval x))) (by unfold execOp;rw[ho]) (by rw[wW];exact h1))
theorem Gf (t:TypeId)(n:Nat)(ps:Array (Nat×Operand)):iZ P T c R s a w id Q (.buildSlice t n ps):=by
 intro o ho hd vs H K hH hv h;unfold cop at h;simp only at h;obtain⟨z,w',R',q,ws,h1,h2,h3,h4⟩:=Gg g hT hH hf h hv;simp only[kS] at h1;exact jT hd (jG (m:=Instr.buildSlice t n (ps.map fun (i,x)=>(i,a.eval x))) (by unfold execOp;rw[ho]) (by rw[wW];exact h1)) h2 h3 h4
theorem aa7 (t:TypeId)(x:Operand):iZ P T c R s a w id Q (.load t x):=by
 intro o ho hd vs H K hH hv h;unfold cop at h;simp only at h;split at h
 ·obtain⟨y,v,h1,h2,h3⟩:=Jj g hT hH h (V8 hv);exact pure_ok g hT hf Q hd h2 h3 (jG (m:=Instr.loadAt t (a.eval x)) (by unfold execOp;rw[ho]) h1)
 exact h.elim
theorem Ww (t:TypeId)(x y:Operand):iZ P T c R s a w id Q (.store t x y):=by
 intro o ho hd vs H K hH hv h;unfold cop at h;simp only at h;split at h;rotate_left;cases h
 obtain⟨hx,hy⟩:=FL2 hv;obtain⟨w',R',ws,h1,h2,h3⟩:=Gh g hT hH h hx hy;unfold Oper.wp;have:(execOp a.eval o).run P w=.ok .skip w':=by unfold execOp;rw[ho];simp[h1]
 rw[this,Oper.upon_skip];exact⟨R',_,ws,h2,h3.put o.dst hd (by simp only[ak,bJ])⟩
theorem KP (x:Operand):iZ P T c R s a w id Q (.nilCheck x):=by
 intro o ho hd vs H K hH hv h;unfold cop at h;simp only at h;split at h;rotate_left;cases h
 rename_i v;have hx:=V8 hv;split at h;rotate_left;cases h
 rename_i hn;have key:(∃ad,a.eval x=.pointer (some ad))∨(∃f p q,a.eval x=.func (.func f) p q):=by
  unfold Q0 at hn;split at hn
  ·exact .inl (y5 (by rfl) hx)
  ·exact .inl (y5 (by rfl) hx)
  ·simp only[ak,bJ] at hx;obtain⟨fs,cs,h1,_⟩:=hx;exact .inr ⟨_,_,_,h1⟩
  ·rename_i b ver k off;split at hn
   ·rename_i k' hk;simp only[ak] at hx;cases hb:lk H b with
    |none=>rw[hb] at hk;cases hk
    | some box=>
      rw[hb,←hH _ _ hb] at hk;obtain⟨st,_,hu,_⟩:=Ei hx hk (Nat.eq_of_beq_eq_true hn);exact .inl ⟨_,hu⟩
   cases hn
  cases hn
 rcases key with ⟨ad,hk⟩|⟨f,p,q,hk⟩
 ·exact pure_ok g hT hf Q hd h hx (by simp[execOp,ho,hk])
 exact pure_ok g hT hf Q hd h hx (by simp[execOp,ho,hk])
theorem KQ {H:List (Nat×aF)}(hH:∀b box,lk H b=some box→lk s.hp b=some box){t:TypeId}{op:BinOp}{x y:AV}{K:AV→Prop}(h:Eg T H op t x y K){u v:Value}
  (hx:ak (aV c R s.hp) w s.hp R x u) (hy:ak (aV c R s.hp) w s.hp R y v) (xo yo:Operand) :
  ∃r,(do eqGuard op t xo yo u v;binOp op t u v:Sem Value).run P w=.ok r w∧∃p,K (.pv p)∧bJ (aV c R s.hp) w p r:=by
 unfold Eg at h;split at h
 ·rename_i hap;split at h;rotate_left;cases h
  split at h;rotate_left;cases h
  rename_i hn;split at h;rotate_left;cases h
  rename_i i hi;obtain⟨d,hd,ig⟩:=(hT t i hi).gW;split at h;rotate_left;cases h
  rename_i el e;have hd':P.underlying t=some (.pointer el):=by
   rw[e] at ig;cases d<;>simp[di] at ig
   subst ig;exact hd
  have key:∃ad,u=.pointer (some ad):=by
   cases x with
   | dM b ver k off=>
     simp only[Q0] at hn;split at hn
     ·rename_i k' hk;simp only[ak] at hx;cases hb:lk H b with
      |none=>rw[hb] at hk;cases hk
      | some box=>
        rw[hb,←hH _ _ hb] at hk;obtain⟨st,_,hu,_⟩:=Ei hx hk (Nat.eq_of_beq_eq_true hn);exact⟨_,hu⟩
     cases hn
   |_=>cases hap
  obtain⟨ad,rfl⟩:=key;simp only[ak,bJ] at hy;subst hy;exact fin h (adg 9999 ad hd') ⟨fun e=>by subst e;rfl,fun e=>by subst e;rfl⟩ ⟨fun _ _ ha _=>(by cases ha),fun ha _=>(by cases ha)⟩
 exact Og hT h hx hy xo yo
theorem Wx (op:BinOp)(t:TypeId)(x y:Operand)(yt:TypeId):iZ P T c R s a w id Q (.binOp op t x y yt):=by
 intro o ho hd vs H K hH hv h;unfold cop at h;simp only at h;split at h
 ·obtain⟨hx,hy⟩:=FL2 hv;obtain⟨r,h1,p,h2,h3⟩:=KQ (xo:=x) (yo:=y) g hT hf hH h hx hy;exact pure_ok g hT hf Q hd h2 (by simpa only[ak] using h3) (jG (m:=(do eqGuard op t x y (a.eval x) (a.eval y);binOp op t (a.eval x) (a.eval y))) (by unfold execOp;rw[ho]) h1)
 exact h.elim
theorem aa8 (op:UnOp)(t:TypeId)(x:Operand):iZ P T c R s a w id Q (.unOp op t x):=by
 intro o ho hd vs H K hH hv h;unfold cop at h;simp only at h;split at h
 ·obtain⟨y,v,h1,h2,h3⟩:=Od (P:=P) (w:=w) hH h (V8 hv);exact pure_ok g hT hf Q hd h2 h3 (jG (m:=Op.unary op (a.eval x)) (by unfold execOp;rw[ho]) h1)
 exact h.elim
theorem Oh (src dst:TypeId)(x:Operand):iZ P T c R s a w id Q (.convert src dst x):=by
 intro o ho hd vs H K hH hv h;unfold cop at h;simp only at h;split at h
 ·obtain⟨z,w',R',q,ws,h1,h2,h3,h4⟩:=Jk g hT hH h (V8 hv);exact jT hd (jG (m:=convert src dst (a.eval x)) (by unfold execOp;rw[ho]) h1) h2 h3 h4
 exact h.elim
theorem KR (f:Fn)(first bF:Array Operand):iZ P T c R s a w id Q (.makeFunc f first bF):=by
 intro o ho hd vs H K hH hv h;unfold cop at h;simp only at h;simp only[kS,List.map_append,←Array.toList_map] at hv;rw[show first.size=(first.map a.eval).size from by simp] at h;obtain⟨z,ws,h1,h2,h3,h4⟩:=KH (P:=P) g hH h hv;exact jT hd (jG (m:=Instr.makeFunc f (first.map a.eval) (bF.map a.eval)) (by unfold execOp;rw[ho]) h1) h2 h3 h4
theorem Jl (t:TypeId)(l n:Operand):iZ P T c R s a w id Q (.makeSlice t l n):=by
 intro o ho hd vs H K hH hv h;unfold cop at h;simp only at h;simp only[kS] at hv;obtain⟨x,y,rfl⟩:∃x y,vs=[x,y]:=by
  have:=hv.length;match vs with
  |[x,y]=>exact⟨x,y,rfl⟩
  |[]=>simp at this
  |[_]=>simp at this
  |_::_::_::_=>simp at this
 obtain⟨hx,hy⟩:=FL2 hv;obtain⟨z,w',R',q,ws,h1,h2,h3,h4⟩:=KJ g hT hf h hx hy;exact jT hd (jG (m:=Instr.makeSlice t (a.eval l) (a.eval n)) (by unfold execOp;rw[ho]) h1) h2 h3 h4
theorem ok_slice (t:TypeId)(x:Operand)(l hi m:Option Operand):iZ P T c R s a w id Q (.slice t x l hi m):=by
 intro o ho hd vs H K hH hv h;unfold cop at h;simp only at h;simp only[kS] at hv;obtain⟨y,z,ws,R',h1,h2,h3,h4⟩:=Gi g hT hH h hv;exact jT hd (jG (m:=Instr.sliceAt t (a.eval x) (l.map a.eval) (hi.map a.eval) (m.map a.eval)) (by unfold execOp;rw[ho]) h1) h2 h3 h4
theorem Jm (t:TypeId)(x:Operand)(f:Nat):iZ P T c R s a w id Q (.fieldAddr t x f):=by
 intro o ho hd vs H K hH hv h;unfold cop at h;simp only at h;split at h
 ·obtain⟨y,v,h1,h2,h3⟩:=AA (w:=w) hT hH h (V8 hv);exact pure_ok g hT hf Q hd h2 h3 (jG (m:=Instr.fieldAt t (a.eval x) f) (by unfold execOp;rw[ho]) h1)
 exact h.elim
theorem Wy (t:TypeId)(x:Operand)(f:Nat):iZ P T c R s a w id Q (.field t x f):=by
 intro o ho hd vs H K hH hv h;unfold cop at h;simp only at h;split at h
 ·obtain⟨y,v,h1,h2,h3⟩:=Oi hT h (V8 hv);exact pure_ok g hT hf Q hd h2 h3 (jG (m:=Instr.field t (a.eval x) f) (by unfold execOp;rw[ho]) h1)
 exact h.elim
theorem Jo (t:TypeId)(x i:Operand):iZ P T c R s a w id Q (.indexAddr t x i):=by
 intro o ho hd vs H K hH hv h;unfold cop at h;simp only at h;split at h
 ·obtain⟨hx,hy⟩:=FL2 hv;obtain⟨y,v,h1,h2,h3⟩:=Oj g hT hH h hx hy;exact pure_ok g hT hf Q hd h2 h3 (jG (m:=Instr.indexAt t (a.eval x) (a.eval i)) (by unfold execOp;rw[ho]) h1)
 exact h.elim
theorem Wz (t:TypeId)(x i:Operand):iZ P T c R s a w id Q (.index t x i):=by
 intro o ho hd vs H K hH hv h;unfold cop at h;simp only at h;split at h
 ·obtain⟨hx,hy⟩:=FL2 hv;obtain⟨y,v,h1,h2,h3⟩:=Jp hT h hx hy;exact pure_ok g hT hf Q hd h2 h3 (jG (m:=Instr.index t (a.eval x) (a.eval i)) (by unfold execOp;rw[ho]) h1)
 exact h.elim
theorem Ol (x:Operand)(i:Nat):iZ P T c R s a w id Q (.extract x i):=by
 intro o ho hd vs H K hH hv h;unfold cop at h;simp only at h;split at h
 ·obtain⟨y,v,h1,h2,h3⟩:=Ej (P:=P) h (V8 hv);exact pure_ok g hT hf Q hd h2 h3 (jG (m:=Instr.extract (a.eval x) i) (by unfold execOp;rw[ho]) h1)
 exact h.elim
theorem aa9 (cc:Call):iZ P T c R s a w id Q (.call cc):=by
 intro o ho hd vs H K hH hv h;unfold cop at h;simp only at h;have hex:execOp a.eval o=(do let d ←resolve a.eval cc o.type;invoke d.target d.args):=by unfold execOp;rw[ho]
 split at h
 ·-- of a function
  rename_i f uL;simp only[kS,uL,List.map_cons] at hv;cases vs with
  |nil=>exact h.elim
  | cons fv args=>
    obtain⟨u,us,e1,Td,hargs⟩:=hv;simp only[List.cons.injEq] at e1;obtain⟨e1,rfl⟩:=e1;obtain⟨fid,first,bF,rfl,⟨fn,hfn,hbody,hname⟩,xH⟩:=KN g hH h Td hargs;have hrun:(execOp a.eval o).run P w=.ok (.enter fid (first++(cc.args.toList.map a.eval).toArray++bF)) w:=by
     rw[hex];have hb:fn.body.isNone=false:=by cases uM:fn.body<;>simp[uM] at hbody ⊢
     have e3:(cc.args.toList.map a.eval).toArray=cc.args.map a.eval:=by rw[←Array.toList_map,Array.toArray_toList]
     simp only[resolve,uL,e1,Deferred.ofValue,Sem.run_bind,Sem.run_pure,Result.andThen_ok,invoke,callFunc,run_program,hfn,hname,hb,e3];simp
    unfold Oper.wp;rw[hrun,Oper.upon_enter];refine xH.mono ?_;rintro e w' ⟨v,z,ws,rfl,hK,g2,hr⟩
    exact⟨R,z,ws,hK,g2.put o.dst hd hr⟩
 ·rename_i b uL;simp only[kS,uL] at hv;have hrun:∀{y:Value} {w':World},(builtin b cc.argTypes o.type (cc.args.map fun|.const _=>true|_=>false) (cc.args.map a.eval)).run P w=.ok (.value y) w'→(execOp a.eval o).run P w=.ok (.value y) w':=by
   intro y w' hy;rw[hex];simp only[resolve,uL,Sem.run_bind,Sem.run_pure,Result.andThen_ok,invoke];exact hy
  have hargs:∀l:List Operand,cc.args.toList=l→cc.args.map a.eval=(l.map a.eval).toArray:=by
   intro l hl;rw[←hl,←Array.toList_map,Array.toArray_toList]
  split at h
  ·-- append
   split at h;rotate_left;cases h
   rename_i t t' hts;split at h;rotate_left;cases h
   rename_i htt;have htt:=Nat.eq_of_beq_eq_true htt;subst htt;have hat:cc.argTypes = #[t,t]:=by rw[←Array.toArray_toList (xs:=cc.argTypes),hts]
   obtain⟨d,x,rfl⟩:∃x y,vs=[x,y]:=by
    unfold BQ at h;split at h
    ·exact⟨_,_,rfl⟩
    unfold wX at h;split at h
    ·exact⟨_,_,rfl⟩
    unfold tZ at h;split at h
    ·exact⟨_,_,rfl⟩
    unfold uw at h;split at h
    ·exact⟨_,_,rfl⟩
    exact h.elim
   have hl:=hv.length;obtain⟨x1,x2,hal⟩:∃x1 x2,cc.args.toList=[x1,x2]:=by
    simp only[List.length_map] at hl;match hm:cc.args.toList with
    |[x,y]=>exact⟨x,y,rfl⟩
    |[]=>rw[hm] at hl;simp at hl
    |[_]=>rw[hm] at hl;simp at hl
    |_::_::_::_=>rw[hm] at hl;simp at hl
   rw[hal] at hv;obtain⟨hx,hy⟩:=FL2 hv;obtain⟨z,w',R',q,ws,h1,h2,h3,h4⟩:=KS (ty:=o.type) g hT hH hf h hx hy;refine jT hd (hrun ?_) h2 h3 h4;rw[hargs _ hal,hat];simp only[builtin,List.map_cons,List.map_nil,Sem.run_bind,h1,Result.andThen_ok,Sem.run_pure]
  ·-- len
   split at h;rotate_left;cases h
   rename_i t hts;have hat:cc.argTypes = #[t]:=by rw[←Array.toArray_toList (xs:=cc.argTypes),hts]
   split at h;rotate_left;cases h
   rename_i x;have hl:=hv.length;obtain⟨x1,hal⟩:∃x1,cc.args.toList=[x1]:=by
    simp only[List.length_map] at hl;match hm:cc.args.toList with
    |[x]=>exact⟨x,rfl⟩
    |[]=>rw[hm] at hl;simp at hl
    |_::_::_=>rw[hm] at hl;simp at hl
   rw[hal] at hv;obtain⟨y,v,h1,h2,h3⟩:=KT (ty:=o.type) g hT hH h (V8 hv);refine pure_ok g hT hf Q hd h2 h3 (hrun ?_);rw[hargs _ hal,hat];simp only[builtin,List.map_cons,List.map_nil,Sem.run_bind,h1,Result.andThen_ok,Sem.run_pure]
  ·-- clear
   split at h;rotate_left;cases h
   rename_i t hts;have hat:cc.argTypes = #[t]:=by rw[←Array.toArray_toList (xs:=cc.argTypes),hts]
   split at h;rotate_left;cases h
   rename_i x;have hl:=hv.length;obtain⟨x1,hal⟩:∃x1,cc.args.toList=[x1]:=by
    simp only[List.length_map] at hl;match hm:cc.args.toList with
    |[x]=>exact⟨x,rfl⟩
    |[]=>rw[hm] at hl;simp at hl
    |_::_::_=>rw[hm] at hl;simp at hl
   rw[hal] at hv;obtain⟨z,w',q,ws,h1,h2,h3,h4⟩:=Jq (ty:=o.type) g hT hH h (V8 hv);refine jT hd (hrun ?_) h2 h3 h4;rw[hargs _ hal,hat];simp only[builtin,List.map_cons,List.map_nil,Sem.run_bind,h1,Result.andThen_ok,Sem.run_pure]
  ·-- max
   obtain⟨d,x,rfl⟩:∃x y,vs=[x,y]:=by
    unfold cMM at h;split at h
    ·exact⟨_,_,rfl⟩
    exact h.elim
   have hl:=hv.length;obtain⟨x1,x2,hal⟩:∃x1 x2,cc.args.toList=[x1,x2]:=by
    simp only[List.length_map] at hl;match hm:cc.args.toList with
    |[x,y]=>exact⟨x,y,rfl⟩
    |[]=>rw[hm] at hl;simp at hl
    |[_]=>rw[hm] at hl;simp at hl
    |_::_::_::_=>rw[hm] at hl;simp at hl
   rw[hal] at hv;obtain⟨hx,hy⟩:=FL2 hv;obtain⟨z,q,h1,h2,h3⟩:=GR (P:=P) h hx hy cc.argTypes o.type;refine pure_ok g hT hf Q hd h2 h3 (hrun ?_);rw[hargs _ hal];simp only[if_true] at h1;simp only[builtin,List.map_cons,List.map_nil,Sem.run_bind,h1,Result.andThen_ok,Sem.run_pure]
  ·obtain⟨d,x,rfl⟩:∃x y,vs=[x,y]:=by
    unfold cMM at h;split at h
    ·exact⟨_,_,rfl⟩
    exact h.elim
   have hl:=hv.length;obtain⟨x1,x2,hal⟩:∃x1 x2,cc.args.toList=[x1,x2]:=by
    simp only[List.length_map] at hl;match hm:cc.args.toList with
    |[x,y]=>exact⟨x,y,rfl⟩
    |[]=>rw[hm] at hl;simp at hl
    |[_]=>rw[hm] at hl;simp at hl
    |_::_::_::_=>rw[hm] at hl;simp at hl
   rw[hal] at hv;obtain⟨hx,hy⟩:=FL2 hv;obtain⟨z,q,h1,h2,h3⟩:=GR (P:=P) h hx hy cc.argTypes o.type;refine pure_ok g hT hf Q hd h2 h3 (hrun ?_);rw[hargs _ hal];simp only[Bool.false_eq_true,if_false] at h1;simp only[builtin,List.map_cons,List.map_nil,Sem.run_bind,h1,Result.andThen_ok,Sem.run_pure]
  exact h.elim
 exact h.elim
theorem Om (t:TypeId)(r:Option Operand):iZ P T c R s a w id Q (.makeMap t r):=by
 intro o ho hd vs H K hH hv h;unfold cop at h;simp only at h;split at h
 ·obtain⟨z,w',R',q,ws,h1,h2,h3,h4⟩:=Jr g hT hf h;exact jT hd (jG (m:=Instr.makeMap t none) (by unfold execOp;rw[ho];rfl) h1) h2 h3 h4
 exact h.elim
theorem Te (t:TypeId)(x i:Operand)(ok:Bool):iZ P T c R s a w id Q (.lookup t x i ok):=by
 intro o ho hd vs H K hH hv h;unfold cop at h;simp only at h;split at h;rotate_left;cases h
 split at h
 ·obtain⟨hx,hy⟩:=FL2 hv;obtain⟨y,v,h1,h2,h3⟩:=KU g hT hH h hx hy;exact pure_ok g hT hf Q hd h2 h3 (jG (m:=Instr.lookup t (a.eval x) (a.eval i) false) (by unfold execOp;rw[ho]) h1)
 exact h.elim
theorem Js (t:TypeId)(x i y:Operand):iZ P T c R s a w id Q (.mapUpdate t x i y):=by
 intro o ho hd vs H K hH hv h;unfold cop at h;simp only at h;split at h;rotate_left;cases h
 obtain⟨hx,hy,hz⟩:=FL3 hv;obtain⟨w',ws,h1,h2,h3⟩:=Gj g hT hH h hx hy hz;unfold Oper.wp;have:(execOp a.eval o).run P w=.ok .skip w':=by unfold execOp;rw[ho];simp[h1]
 rw[this,Oper.upon_skip];exact⟨R,_,ws,h2,h3.put o.dst hd (by simp only[ak,bJ])⟩
theorem adY (op:Op):iZ P T c R s a w id Q op:=by
 cases op with
 |move x=>exact aa5 g hT hf Q x
 |assign x=>exact Tc g hT hf Q x
 |pick x y z=>exact aa6 g hT hf Q x y z
 |alloc t=>exact Wu g hT hf Q t
 |box t x=>exact adW g hT hf Q t x
 |build t ps=>exact Wv g hT hf Q t ps
 |buildSlice t n ps=>exact Gf g hT hf Q t n ps
 |load t x=>exact aa7 g hT hf Q t x
 |store t x y=>exact Ww g hT hf Q t x y
 |nilCheck x=>exact KP g hT hf Q x
 |binOp op t x y yt=>exact Wx g hT hf Q op t x y yt
 |unOp op t x=>exact aa8 g hT hf Q op t x
 |convert src dst x=>exact Oh g hT hf Q src dst x
 |makeFunc f first bF=>exact KR g hT hf Q f first bF
 |makeSlice t l n=>exact Jl g hT hf Q t l n
 |slice t x l h m=>exact ok_slice g hT hf Q t x l h m
 |fieldAddr t x f=>exact Jm g hT hf Q t x f
 |field t x f=>exact Wy g hT hf Q t x f
 |indexAddr t x i=>exact Jo g hT hf Q t x i
 |index t x i=>exact Wz g hT hf Q t x i
 |extract x i=>exact Ol g hT hf Q x i
 |makeMap t r=>exact Om g hT hf Q t r
 |lookup t x i ok=>exact Te g hT hf Q t x i ok
 |mapUpdate t x i y=>exact Js g hT hf Q t x i y
 |call cc=>exact aa9 g hT hf Q cc
 |_=>intro o ho hd vs H K hH hv h;exact h.elim
theorem adh {o:Oper}(hd:∀t,o.dst=some t→t<c.n)(hc:mH o.op=true){vs:List AV}{K:AV→List (Nat×aF)→List Nat→Prop}(hv:FL (ak (aV c R s.hp) w s.hp R) vs ((kS o.op).map a.eval))
  (h:gC P s.hp id vs K):o.wp P a w (Nx c s o fun v ws=>∃ids,K v ws ids) Q:=by
 cases ho:o.op<;>rw[ho] at hc<;>simp only[mH] at hc<;>try (cases hc;done)
 rename_i cc;split at hc
 ·rename_i f uL;rw[ho] at hv;simp only[kS,uL,List.map_cons] at hv;cases vs with
  |nil=>exact h.elim
  | cons fv args=>
    obtain⟨u,us,e1,Td,hargs⟩:=hv;simp only[List.cons.injEq] at e1;obtain⟨e1,rfl⟩:=e1;obtain⟨fid,first,bF,rfl,⟨fn,hfn,hbody,hname⟩,xH⟩:=WA g h Td hargs;have hex:execOp a.eval o=(do let d ←resolve a.eval cc o.type;invoke d.target d.args):=by unfold execOp;rw[ho]
    have hrun:(execOp a.eval o).run P w=.ok (.enter fid (first++(cc.args.toList.map a.eval).toArray++bF)) w:=by
     rw[hex];have hb:fn.body.isNone=false:=by cases uM:fn.body<;>simp[uM] at hbody ⊢
     have e3:(cc.args.toList.map a.eval).toArray=cc.args.map a.eval:=by rw[←Array.toList_map,Array.toArray_toList]
     simp only[resolve,uL,e1,Deferred.ofValue,Sem.run_bind,Sem.run_pure,Result.andThen_ok,invoke,callFunc,run_program,hfn,hname,hb,e3];simp
    unfold Oper.wp;rw[hrun,Oper.upon_enter];refine xH.mono ?_;rintro e w' ⟨v,z,ws,ids,R',rfl,hK,g2,hr⟩
    exact⟨R',z,ws,⟨ids,hK⟩,g2.put o.dst hd hr⟩
 cases hc
theorem afX {o:Oper}(hd:∀t,o.dst=some t→t<c.n)(hc:mH o.op=true){vs:List AV}{K:AV→List (Nat×aF)→List Nat→Prop}(hv:FL (ak (aV c R s.hp) w s.hp R) vs ((kS o.op).map a.eval))
  (h:gV P s.hp id vs K):o.wp P a w (Nx c s o fun v ws=>∃ids,K v ws ids) Q:=by
 refine Oper.wp_mono ?_ (adh g hT hf Q hd hc hv h);rintro a' w' ⟨R',v,ws,⟨ids,hK⟩,g'⟩
 obtain⟨h1,h2⟩:=xI hK;refine⟨R',v,[],⟨ids,h1⟩,?_⟩;cases afY:o.dst with
 | none=>
   rw[afY] at g';exact g'.congr (fun _=>rfl) fun b=>(h2 b).symm
 | some d=>
   rw[afY] at g';exact g'.congr (fun _=>rfl) fun b=>(h2 b).symm
theorem afZ {o:Oper}(hd:∀t,o.dst=some t→t<c.n)(hc:mH o.op=true){vs:List AV}{K:AV→List (Nat×aF)→List Nat→Prop}(hv:FL (ak (aV c R s.hp) w s.hp R) vs ((kS o.op).map a.eval))
  (h:gI P s.hp id vs K):o.wp P a w (Nx c s o fun v ws=>∃ids,K v ws ids) Q:=by
 cases ho:o.op<;>rw[ho] at hc<;>simp only[mH] at hc<;>try (cases hc;done)
 rename_i cc;split at hc
 ·rename_i f uL;rw[ho] at hv;simp only[kS,uL,List.map_cons] at hv;cases vs with
  |nil=>exact h.elim
  | cons fv args=>
    obtain⟨u,us,e1,Td,hargs⟩:=hv;simp only[List.cons.injEq] at e1;obtain⟨e1,rfl⟩:=e1;obtain⟨fid,first,bF,rfl,⟨fn,hfn,hbody,hname⟩,xH⟩:=WB g h Td hargs;have hex:execOp a.eval o=(do let d ←resolve a.eval cc o.type;invoke d.target d.args):=by unfold execOp;rw[ho]
    have hrun:(execOp a.eval o).run P w=.ok (.enter fid (first++(cc.args.toList.map a.eval).toArray++bF)) w:=by
     rw[hex];have hb:fn.body.isNone=false:=by cases uM:fn.body<;>simp[uM] at hbody ⊢
     have e3:(cc.args.toList.map a.eval).toArray=cc.args.map a.eval:=by rw[←Array.toList_map,Array.toArray_toList]
     simp only[resolve,uL,e1,Deferred.ofValue,Sem.run_bind,Sem.run_pure,Result.andThen_ok,invoke,callFunc,run_program,hfn,hname,hb,e3];simp
    unfold Oper.wp;rw[hrun,Oper.upon_enter];refine xH.mono ?_;rintro e w' ⟨v,z,ws,ids,R',rfl,hK,g2,hr⟩
    exact⟨R',z,ws,⟨ids,hK⟩,g2.put o.dst hd hr⟩
 cases hc
theorem af0 {o:Oper}(hd:∀t,o.dst=some t→t<c.n)(hc:mH o.op=true){vs:List AV}{K:AV→List (Nat×aF)→List Nat→Prop}(hv:FL (ak (aV c R s.hp) w s.hp R) vs ((kS o.op).map a.eval))
  (h:dC P s.hp vs K):o.wp P a w (Nx c s o fun v ws=>∃ids,K v ws ids) Q:=by
 cases ho:o.op<;>rw[ho] at hc<;>simp only[mH] at hc<;>try (cases hc;done)
 rename_i cc;split at hc
 ·rename_i f uL;rw[ho] at hv;simp only[kS,uL,List.map_cons] at hv;cases vs with
  | nil=>
    unfold dC at h;simp only[uN] at h;split at h
    ·simp at h
    exact h.elim
  | cons fv args=>
    obtain⟨u,us,e1,Td,hargs⟩:=hv;simp only[List.cons.injEq] at e1;obtain⟨e1,rfl⟩:=e1;obtain⟨fid,first,bF,rfl,⟨fn,hfn,hbody,hname⟩,xH⟩:=WC g h Td hargs;have hex:execOp a.eval o=(do let d ←resolve a.eval cc o.type;invoke d.target d.args):=by unfold execOp;rw[ho]
    have hrun:(execOp a.eval o).run P w=.ok (.enter fid (first++(cc.args.toList.map a.eval).toArray++bF)) w:=by
     rw[hex];have hb:fn.body.isNone=false:=by cases uM:fn.body<;>simp[uM] at hbody ⊢
     have e3:(cc.args.toList.map a.eval).toArray=cc.args.map a.eval:=by rw[←Array.toList_map,Array.toArray_toList]
     simp only[resolve,uL,e1,Deferred.ofValue,Sem.run_bind,Sem.run_pure,Result.andThen_ok,invoke,callFunc,run_program,hfn,hname,hb,e3];simp
    unfold Oper.wp;rw[hrun,Oper.upon_enter];refine xH.mono ?_;rintro e w' ⟨v,z,ws,ids,R',rfl,hK,g2,hr⟩
    exact⟨R',z,ws,⟨ids,hK⟩,g2.put o.dst hd hr⟩
 cases hc
theorem Q9 {o:Oper}(hd:∀t,o.dst=some t→t<c.n){vs:List AV}{K:AV→List (Nat×aF)→List Nat→Prop}(hv:FL (ak (aV c R s.hp) w s.hp R) vs ((kS o.op).map a.eval))
  (h:yZ P T o.op vs s.hp id K):o.wp P a w (Nx c s o fun v ws=>∃ids,K v ws ids) Q:=by
 unfold yZ at h;simp only at h;split at h;rotate_left;cases h
 rename_i H hH;refine Oper.wp_mono ?_ (adY g hT hf Q o.op o rfl hd vs H _ (BR hH) hv h);rintro a w ⟨R,v,ws,hK,g2⟩
 exact⟨R,v,ws,⟨_,hK⟩,g2⟩
theorem af2 {o:Oper}(hd:∀t,o.dst=some t→t<c.n)(hc:mH o.op=true){vs:List AV}{K:AV→List (Nat×aF)→List Nat→Prop}(hv:FL (ak (aV c R s.hp) w s.hp R) vs ((kS o.op).map a.eval))
  (ro:Option Nat) (h:yC P s.hp vs K):o.wpIn (W1 ro) 0 P a w (Nx c s o fun v ws=>∃ids,K v ws ids) Q:=by
 cases ho:o.op<;>rw[ho] at hc<;>simp only[mH] at hc<;>try (cases hc;done)
 rename_i cc;split at hc
 ·rename_i f uL;rw[ho] at hv;simp only[kS,uL,List.map_cons] at hv;unfold yC at h;split at h;rotate_left;cases h
  rename_i l args;obtain⟨u,us,e1,Td,hargs⟩:=hv;simp only[List.cons.injEq] at e1;obtain⟨e1,rfl⟩:=e1;split at h;rotate_left;cases h
  rename_i y ver rest st h9;split at h;rotate_left;cases h
  split at h;rotate_left;cases h
  split at h;rotate_left;cases h
  rename_i ps hps;obtain⟨rfl,x,r,rfl,hle,hK⟩:=h;have hbx:=g.boxes 999 _ h9;obtain⟨-,kh,k1,k2,k3,k4⟩:=hbx;simp only[ak,bJ] at Td;obtain⟨fs,cs,rfl,hfs,hcs⟩:=Td;simp only[eY] at hfs hcs;have hfs:fs = #[]:=by simpa using hfs
  have hcs:cs = #[]:=by simpa using hcs
  subst hfs hcs;have hargs':eY (aV c R s.hp) w ps (cc.args.toList.map a.eval):=by
   have:=(eF _ _ _ _ _ _).2 hargs;rw[vW hps] at this;exact qc _ _ this
  have hx:eY (fun q=>R.Y.D q∨lm c R s.hp q) w x (cc.args.toList.map a.eval):=by
   refine qd (N:=aV c R s.hp) (fun q hq=>?_) _ _ _ hle hargs';rcases hq with hq|hq
   ·exact .inr ⟨999,by rw[h9];exact hq⟩
   exact hq.1
  obtain⟨fn,tmps,assign,body,hrun,Jt⟩:=kh x r R.Y.Z R.Y.D R.Y.wy w (lm c R s.hp) _ (by simpa using k1) k2 k3 (fun q hq=>(k4 q hq.1).resolve_left hq.2)
   (fun q hq=>g.Nlt hq.1) (fun q hq=>hq.2) hx
  have hex:execOp a.eval o=(do let d ←resolve a.eval cc o.type;invoke d.target d.args):=by unfold execOp;rw[ho]
  have e3:(cc.args.toList.map a.eval).toArray=cc.args.map a.eval:=by rw[←Array.toList_map,Array.toArray_toList]
  have hrun':(execOp a.eval o).run P w=.ok (.round l fn tmps assign body) w:=by
   rw[hex];rw[e3] at hrun;simp only[resolve,uL,e1,Deferred.ofValue,Sem.run_bind,Sem.run_pure,Result.andThen_ok,invoke];simpa using hrun
  have aiJ:Oper.semAt ro a.eval o=execOp a.eval o:=by
   cases ro with
   |none=>rfl
   |some l=>exact Oper.semAt_some l _ _ (fun c e=>by rw[ho] at e;cases e)
  refine⟨fun _ _=>trivial,?_⟩;show o.uponIn (W1 ro) 0 P a _ Q ((Oper.semAt ro a.eval o).run P w)
  rw[aiJ,hrun',Oper.uponIn_round];refine⟨fun e=>(by cases e),?_⟩;refine (show RoundIn (W1 ro) 0 P l fn tmps assign body w _ from Jt).mono ?_;rintro e w' ⟨D',b,rfl,hE,hD1,hD2,hJ⟩
  obtain⟨g2,hr⟩:=g.yielded h9 hE hD1 hD2 hJ;exact⟨_,_,_,⟨_,hK⟩,g2.put o.dst hd hr⟩
 cases hc
theorem Tf (ro:Option Nat){o:Oper}(hd:∀t,o.dst=some t→t<c.n){K:AV→List (Nat×aF)→List Nat→Prop}(h:Ws P T o s.tm s.hp id K) :
  o.wpIn (W1 ro) 0 P a w (Nx c s o fun v ws=>∃ids,K v ws ids) Q:=by
 have nd:∀{vs:List AV},yZ P T o.op vs s.hp id K→∀c,o.op ≠ .defer c:=by
  intro vs hf c e;rw[e] at hf;unfold yZ at hf;simp only at hf;split at hf
  ·exact hf.elim
  exact hf.elim
 have nd2:mH o.op=true→∀c,o.op ≠ .defer c:=fun hc c e=>by rw[e] at hc;cases hc
 unfold Ws at h;split at h;rotate_left;cases h
 rename_i vs hvs;split at h
 ·rename_i hc;split at h
  ·exact af2 g hT hf Q hd hc (lg g hvs) ro h
  rcases h with (h|h)|h
  rotate_left 2
  ·split at h
   ·exact mI ro (nd2 hc) (afZ g hT hf Q hd hc (lg g hvs) h)
   exact mI ro (nd2 hc) (afX g hT hf Q hd hc (lg g hvs) h)
  ·unfold lC at h;split at h
   ·exact mI ro (nd2 hc) (af0 g hT hf Q hd hc (lg g hvs) h)
   exact mI ro (nd h) (Q9 g hT hf Q hd (lg g hvs) h)
  exact mI ro (nd2 hc) (adh g hT hf Q hd hc (lg g hvs) h)
 exact mI ro (nd h) (Q9 g hT hf Q hd (lg g hvs) h)
end
end
structure uO where
 look:List Nat
 dst:Option Nat
 rd:List Nat
 wr:List Nat
def tmpsOf:List Operand→List Nat
 |[]=>[]
 |.tmp t::r=>t::tmpsOf r
 |_::r=>tmpsOf r
def adZ (tm:List (Nat×AV))(d:Option Nat)(v:AV):List (Nat×AV):=
 match d with
 |some d=>(d,v)::tm
 |none=>tm
def vX (ops:List Oper)(o:Oper):Option Nat:=
 match o.guard with
 |none=>none
 | some (j,_)=>match nth ops j with
   |some oj=>oj.dst
   |none=>none
def xJ (ops:List Oper)(o:Oper):List Nat:=
 match vX ops o with
 |some d=>[d]
 |none=>[]
abbrev RK:=List (Nat×AV)→List (Nat×aF)→List uO→Prop
abbrev RC:=List (Nat×AV)→List (Nat×aF)→List uO→List (Nat×Bool)→Prop
def ad1 (tm:List (Nat×AV))(d:Option Nat)(v:AV)(K:List (Nat×AV)→Prop):Prop:=
 match d with
 |some d=>K ((d,v)::tm)
 |none=>K tm
theorem vY (tm:List (Nat×AV))(d:Option Nat)(v:AV)(K:List (Nat×AV)→Prop):ad1 tm d v K=K (adZ tm d v):=by cases d<;>rfl
def abd:List (Nat×aF)→List (Nat×aF)→(List (Nat×aF)→Prop)→Prop
 |[],hp,K=>K hp
 |x::r,hp,K=>abd r hp fun h=>K (x::h)
theorem Dy:∀(ws hp:List (Nat×aF)) (K:List (Nat×aF)→Prop),abd ws hp K=K (ws++hp)
 |[],_,_=>rfl
 |x::r,hp,K=>by simp only[abd,Dy r hp];rfl
def vex (P:Program)(T:Tab)(ops:List Oper)(base:Nat)(o:Oper)(i:Nat)(tm:List (Nat×AV))(hp:List (Nat×aF))(tr:List uO)(kn:List (Nat×Bool))(K:RC):Prop:=
 match lk hp (base+i) with
 |some _=>False
 | none=>Ws P T o tm hp (base+i) fun v ws ids=>
   ad1 tm o.dst v fun tm=>abd ws hp fun hp=>K tm hp (⟨xJ ops o++tmpsOf (kS o.op),o.dst,(base+i)::ids,keys ws⟩::tr) kn
def BS (ops:List Oper)(o:Oper)(tm:List (Nat×AV))(hp:List (Nat×aF))(tr:List uO)(kn:List (Nat×Bool))(K:RC):Prop:=
 ad1 tm o.dst (.pv (.sc undef)) fun tm=>K tm hp (⟨xJ ops o,o.dst,[],[]⟩::tr) kn
def vgo (P:Program)(T:Tab)(ops:List Oper)(base:Nat)(o:Oper)(i:Nat)(wanted:Bool)(tm:List (Nat×AV))(hp:List (Nat×aF))(tr:List uO)(kn:List (Nat×Bool))(K:RC):Prop:=
 match wanted with
 |true=>vex P T ops base o i tm hp tr kn K
 |false=>BS ops o tm hp tr kn K
def qV (P:Program)(T:Tab)(ops:List Oper)(base:Nat)(o:Oper)(i:Nat)(tm:List (Nat×AV))(hp:List (Nat×aF))(tr:List uO)(kn:List (Nat×Bool))(K:RC):Prop:=
 match o.guard with
 |none=>vex P T ops base o i tm hp tr kn K
 | some (j,want)=>match vX ops o with
   |none=>False
   | some d=>match lk tm d with
     | some (.pv (.sc v))=>match v with
       | .bool b=>match lk kn j with
         | some _=>match b with
           |true=>vgo P T ops base o i want tm hp tr kn K
           |false=>vgo P T ops base o i (!want) tm hp tr kn K
         | none=>(b=true→vgo P T ops base o i want ((d,.pv (.sc (.bool true)))::tm) hp tr ((j,true)::kn) K) ∧
           (b=false→vgo P T ops base o i (!want) ((d,.pv (.sc (.bool false)))::tm) hp tr ((j,false)::kn) K)
       |.tuple _=>BS ops o tm hp tr kn K
       |_=>False
     |_=>False
def Oo (P:Program)(T:Tab)(ops:List Oper)(base:Nat):List Oper→Nat→List (Nat×AV)→List (Nat×aF)→List uO→List (Nat×Bool)→RK→Prop
 |[],_,tm,hp,tr,_,K=>K tm hp tr
 |o::r,i,tm,hp,tr,kn,K=>qV P T ops base o i tm hp tr kn fun tm hp tr kn=>Oo P T ops base r (i+1) tm hp tr kn K
section
variable {P:Program}{T:Tab}{c:Ctx}{R:Real}{s:AS}{a:Act}{w:World}
theorem bG.ad3 (g:bG c R s a w){tm:List (Nat×AV)}(h:∀t v,lk tm t=some v→lk s.tm t=some v):bG c R { s with tm:=tm } a w:=
 ⟨fun t v hv=>g.slots t v (h t v hv),g.size,g.lo,g.marks,g.fixed,g.boxes,g.inj,g.free,g.jE,g.iw,g.kept⟩
def nN (n:Nat):List Oper→Bool
 |[]=>true
 | o::r=>match o.dst with
   | some d=>match Nat.blt d n with
     |true=>nN n r
     |false=>false
   |none=>nN n r
theorem Ra (tm:List (Nat×AV))(nx:Nat)(hp:List (Nat×aF))(d:Option Nat)(v:AV):(AS.mk tm nx hp).put d v=⟨adZ tm d v,nx,hp⟩:=by
 cases d<;>rfl
theorem Oq {α:Type}(a:Array α)(i:Nat):nth a.toList i=a[i]? :=by rw[uP,Array.getElem?_toList]
theorem Ot {ops:Array Oper}{o:Oper}{j:Nat}{want:Bool}(ho:o.guard=some (j,want)){d:Nat}(hs:vX ops.toList o=some d)(tmps:Array Value) :
  yielded ops tmps j=match tmps[d]? with
   |some (.bool b)=>some b
   |_=>none:=by
 unfold vX at hs;rw[ho] at hs;simp only[Oq] at hs;split at hs
 ·rename_i oj hoj;unfold yielded;simp only[hoj,Option.bind_some,hs];rfl
 cases hs
theorem BU (g:bG c R s a w)(hT:bY P T){ops:Array Oper}{base i:Nat}(hid:base+i<s.nx){o:Oper}(hd:∀t,o.dst=some t→t<c.n){tr:List uO}{kn:List (Nat×Bool)}{K:RC}
  (h:qV P T ops.toList base o i s.tm s.hp tr kn K) (ro:Option Nat) (Q:Exit→Act→World→Prop) :
  if Region.wanted o (yielded ops a.tmps) then o.wpIn (W1 ro) 0 P a w (fun a' w'=>∃R' tm hp qM Gl,K tm hp qM Gl∧bG c R' ⟨tm,s.nx,hp⟩ a' w') Q
  else ∃tm hp qM Gl,K tm hp qM Gl∧bG c R ⟨tm,s.nx,hp⟩ (a.put o.dst undef) w:=by
 have ex:∀(s':AS),bG c R s' a w→s'.nx=s.nx→∀kn,vex P T ops.toList base o i s'.tm s'.hp tr kn K →
   o.wpIn (W1 ro) 0 P a w (fun a' w'=>∃R' tm hp qM Gl,K tm hp qM Gl∧bG c R' ⟨tm,s.nx,hp⟩ a' w') Q:=by
  intro s' g' hn kn h;unfold vex at h;split at h
  ·exact h.elim
  rename_i hfr;refine Oper.wpIn_mono ?_ (Tf g' hT hfr Q ro hd h);rintro a' w' ⟨R',v,ws,⟨ids,hK⟩,g2⟩
  rw[vY,Dy] at hK;refine⟨R',_,_,_,_,hK,?_⟩;rw[←hn,←Ra];exact g2
 have sk:∀(s':AS),bG c R s' a w→s'.nx=s.nx→∀kn,BS ops.toList o s'.tm s'.hp tr kn K →
   ∃tm hp qM Gl,K tm hp qM Gl∧bG c R ⟨tm,s.nx,hp⟩ (a.put o.dst undef) w:=by
  intro s' g' hn kn h;unfold BS at h;rw[vY] at h;refine⟨_,_,_,_,h,?_⟩;have:=g'.put o.dst hd (v:=.pv (.sc undef)) (x:=undef) (by simp only[ak,bJ]);rw[←hn,←Ra];exact this
 have go:∀(want b:Bool) (s':AS),bG c R s' a w→s'.nx=s.nx→∀kn wt,wt=(b==want)→vgo P T ops.toList base o i wt s'.tm s'.hp tr kn K→(Region.wanted o (yielded ops a.tmps)=(b==want)) →
   if Region.wanted o (yielded ops a.tmps) then o.wpIn (W1 ro) 0 P a w (fun a' w'=>∃R' tm hp qM Gl,K tm hp qM Gl∧bG c R' ⟨tm,s.nx,hp⟩ a' w') Q
   else ∃tm hp qM Gl,K tm hp qM Gl∧bG c R ⟨tm,s.nx,hp⟩ (a.put o.dst undef) w:=by
  intro want b s' g' hn kn wt hw h af3;rw[af3];subst hw;cases hb:b==want with
  |true=>rw[hb] at h;simp only[if_true];exact ex s' g' hn kn h
  |false=>rw[hb] at h;simp only[Bool.false_eq_true,if_false];exact sk s' g' hn kn h
 unfold qV at h;split at h
 ·rename_i hg;simp only[Region.wanted,hg,if_true];exact ex s g rfl _ h
 rename_i j want hg;split at h
 ·exact h.elim
 rename_i d hsl;have hy:=Ot hg hsl a.tmps;have hwd:Region.wanted o (yielded ops a.tmps)=(yielded ops a.tmps j==some want):=by simp[Region.wanted,hg]
 split at h;rotate_left;cases h
 rename_i v hv;obtain⟨x,hx,hr⟩:=g.slots d _ hv;simp only[ak,bJ] at hr;subst hr;split at h
 ·rename_i b;have hyb:yielded ops a.tmps j=some b:=by rw[hy,hx]
  have hwb:Region.wanted o (yielded ops a.tmps)=(b==want):=by rw[hwd,hyb];cases b<;>cases want<;>rfl
  split at h
  ·split at h
   ·exact go want true s g rfl _ want (by cases want<;>rfl) h hwb
   exact go want false s g rfl _ (!want) (by cases want<;>rfl) h hwb
  obtain⟨h1,h2⟩:=h;have hsub:∀(b':Bool),b=b'→bG c R { s with tm:=(d,.pv (.sc (.bool b')))::s.tm } a w:=by
   rintro _ rfl
   refine g.ad3 fun t u hu=>?_
   rw[aC] at hu;split at hu
   ·rename_i e;rw[←e,←hu];exact hv
   exact hu
  cases b with
  |true=>exact go want true _ (hsub true rfl) rfl _ want (by cases want<;>rfl) (h1 rfl) hwb
  |false=>exact go want false _ (hsub false rfl) rfl _ (!want) (by cases want<;>rfl) (h2 rfl) hwb
 ·have hyn:yielded ops a.tmps j=none:=by rw[hy,hx]
  have hwf:Region.wanted o (yielded ops a.tmps)=false:=by rw[hwd,hyn];rfl
  rw[hwf];simp only[Bool.false_eq_true,if_false];exact sk s g rfl _ h
 exact h.elim
theorem xK (ro:Option Nat)(hT:bY P T){ops:Array Oper}{base:Nat}{K:RK}{Q:Exit→Act→World→Prop}:∀(l:List Oper) (i:Nat) {R:Real} {s:AS} {a:Act} {w:World} {tr:List uO} {kn:List (Nat×Bool)},
  bG c R s a w→base+i+l.length≤s.nx→nN c.n l=true→Oo P T ops.toList base l i s.tm s.hp tr kn K →
  (∀R tm hp tr a w,K tm hp tr→bG c R ⟨tm,s.nx,hp⟩ a w→Q .normal a w)→wpListIn (W1 ro) 0 P ops Q l a w
 | [],i,R,s,a,w,tr,kn,g,hl,hd,h,hQ=>by
   exact wpListIn_nil (hQ R s.tm s.hp tr a w h g)
 | o::r,i,R,s,a,w,tr,kn,g,hl,hd,h,hQ=>by
   simp only[Oo] at h;simp only[List.length_cons] at hl;have hd1:∀t,o.dst=some t→t<c.n:=by
    intro t ht;simp only[nN,ht] at hd;split at hd
    ·rename_i hb;rw[Nat.blt_eq] at hb;exact hb
    cases hd
   have hd2:nN c.n r=true:=by
    simp only[nN] at hd;split at hd
    ·split at hd
     ·exact hd
     cases hd
    exact hd
   have hs:=BU g hT (ops:=ops) (by omega) hd1 h ro Q;refine wpListIn_step fun K' qf=>?_
   split
   ·rename_i hw;rw[if_pos hw] at hs;refine Oper.wpIn_mono ?_ hs;rintro a' w' ⟨R',tm,hp,qM,Gl,h',g'⟩
    exact qf _ _ (xK ro hT r (i+1) g' (by simp only;omega) hd2 h' hQ)
   rename_i hw;rw[if_neg hw] at hs;obtain⟨tm,hp,qM,Gl,h',g'⟩:=hs;exact⟨fun _ _=>trivial,qf _ _ (xK ro hT r (i+1) g' (by simp only;omega) hd2 h' hQ)⟩
end
section
section
variable {N N':Nat→Prop}{w w':World}(hN:∀r cur e fr,w.heap[r]? = some (.cells cur e fr)→N' r→N r)
 (hw:∀r cur e fr,w.heap[r]? = some (.cells cur e fr)→¬N r→w'.heap[r]? = some (.cells cur e fr))
include hN hw
mutual
theorem rT:∀(p:PV) (v:Value),bJ N w p v→bJ N' w' p v
 |.sc x,v=>by simp only[bJ];exact id
 |.agg cs,v=>by simp only[bJ];rintro⟨vs,h1,h2⟩;exact⟨vs,h1,FO cs _ h2⟩
 |.cO cs,v=>by simp only[bJ];rintro⟨vs,h1,h2⟩;exact⟨vs,h1,pM cs _ h2⟩
 | .sl nn st rows,v=>by
   simp only[bJ];rintro⟨p,len,cap,h1,h2,h3,h4,h5⟩
   refine⟨p,len,cap,h1,h2,h3,h4,fun a ha=>?_⟩;rcases h5 a ha with h7|⟨h6,h7,cur,e,fr,h8,h9⟩
   ·exact .inl h7
   exact .inr ⟨h6,fun h=>h7 (hN _ _ _ _ h8 h),cur,e,fr,hw _ _ _ _ h8 h7,kZ st rows _ h9⟩
 | .dL row off,v=>by
   simp only[bJ];rintro⟨g,base,cur,e,fr,h1,h7,h8,h9⟩
   exact⟨g,base,cur,e,fr,h1,fun h=>h7 (hN _ _ _ _ h8 h),hw _ _ _ _ h8 h7,mQ row _ h9⟩
 | .fn f first bF,v=>by
   simp only[bJ];rintro⟨fs,cs,h1,h2,h3⟩;exact⟨fs,cs,h1,pM _ _ h2,pM _ _ h3⟩
 |.junk,v=>by simp only[bJ];exact id
 | .NY st rows,v=>by
   simp only[bJ];rintro⟨a,h1,h2,h5⟩
   refine⟨a,h1,h2,?_⟩;rcases h5 with h7|⟨h6,h7,cur,e,fr,h8,h9⟩
   ·exact .inl h7
   exact .inr ⟨h6,fun h=>h7 (hN _ _ _ _ h8 h),cur,e,fr,hw _ _ _ _ h8 h7,kZ st rows _ h9⟩
theorem pM:∀(ps:List PV) (vs:List Value),eY N w ps vs→eY N' w' ps vs
 |[],vs=>by simp only[eY];exact id
 |p::ps,vs=>by simp only[eY];rintro⟨v,r,h1,h2,h3⟩;exact⟨v,r,h1,rT p v h2,pM ps r h3⟩
theorem FO:∀(ps:List PV) (vs:List Value),iX N w ps vs→iX N' w' ps vs
 |[],vs=>by simp only[iX];exact id
 |p::ps,vs=>by simp only[iX];rintro⟨v,r,h1,h0,h2,h3⟩;exact⟨v,r,h1,h0,rT p v h2,FO ps r h3⟩
theorem mQ:∀(ps:List PV) (vs:List Value),gU N w ps vs→gU N' w' ps vs
 |[],vs=>by simp only[gU];exact id
 |p::ps,vs=>by simp only[gU];rintro⟨v,r,h1,h0,h2,h3⟩;exact⟨v,r,h1,h0,rT p v h2,mQ ps r h3⟩
theorem kZ (st:Nat):∀(rows:List (List PV)) (vs:List Value),cK N w st rows vs→cK N' w' st rows vs
 |[],vs=>by simp only[cK];exact id
 |row::rows,vs=>by simp only[cK];rintro⟨h1,h2,h3⟩;exact⟨h1,mQ row _ h2,kZ st rows _ h3⟩
end
variable {hp:List (Nat×aF)}{R:Real}
mutual
theorem tK:∀(p:AV) (v:Value),ak N w hp R p v→ak N' w' hp R p v
 |.pv p,v=>by simp only[ak];exact rT hN hw p v
 |.agg cs,v=>by simp only[ak];rintro⟨vs,a,b⟩;exact⟨vs,a,nG cs _ b⟩
 |.cO cs,v=>by simp only[ak];rintro⟨vs,a,b⟩;exact⟨vs,a,qo cs _ b⟩
 |.ptr b off,v=>by simp only[ak];exact id
 |.aO b ver,v=>by simp only[ak];exact id
 |.sub b ver st lo hi,v=>by simp only[ak];exact id
 |.dM b ver i off,v=>by simp only[ak];exact id
 | .fn f first bF,v=>by
   simp only[ak];rintro⟨fs,cs,a,b,c⟩;exact⟨fs,cs,a,qo _ _ b,qo _ _ c⟩
theorem qo:∀(ps:List AV) (vs:List Value),dh N w hp R ps vs→dh N' w' hp R ps vs
 |[],vs=>by simp only[dh];exact id
 |p::ps,vs=>by simp only[dh];rintro⟨v,r,a,b,c⟩;exact⟨v,r,a,tK p v b,qo ps r c⟩
theorem nG:∀(ps:List AV) (vs:List Value),dD N w hp R ps vs→dD N' w' hp R ps vs
 |[],vs=>by simp only[dD];exact id
 |p::ps,vs=>by simp only[dD];rintro⟨v,r,a,d,b,c⟩;exact⟨v,r,a,d,tK p v b,nG ps r c⟩
end
end
section
variable {N N':Nat→Prop}{w w':World}{hp:List (Nat×aF)}{R:Real}
variable (hN:∀r cur e fr,w.heap[r]? = some (.cells cur e fr)→N' r→N r)(hw:∀r cur e fr,w.heap[r]? = some (.cells cur e fr)→¬N r→w'.heap[r]? = some (.cells cur e fr))
include hN hw
theorem yD {st j:Nat}{ed:TypeId}{sd:Nat} :
  ∀{hs:List (Option Value)} {rs:List (Bool×List PV)} {xs:List Value},(∀v,some v∈hs→∀k,v.ownBlock=some k→w'.heap[k]? = w.heap[k]?)→ic N w st j ed sd hs rs xs→ic N' w' st j ed sd hs rs xs
 |[],[],xs,_,h=>by simp only[ic]
 |[],_::_,xs,_,h=>by simp only[ic] at h
 |_::_,[],xs,_,h=>by simp only[ic] at h
 | h::hs,(fl,r)::rs,xs,hk,hh=>by
   simp only[ic] at hh ⊢;obtain⟨h1,h2,h3⟩:=hh;refine⟨h1,?_,yD (fun v hv=>hk v (by simp[hv])) h3⟩;cases h with
   | none=>cases fl with
     |false=>exact mQ hN hw _ _ h2
     |true=>exact h2.elim
   | some v=>cases fl with
     |false=>exact h2.elim
     | true=>
       obtain⟨rr,ys,a1,a0,a2,a3,a4⟩:=h2;exact⟨rr,ys,a1,a0,mQ hN hw _ _ a2,dZ a3 fun k hk'=>hk v (by simp) k hk',kZ hN hw _ _ _ a4⟩
theorem UN {b:Nat}{e:TypeId}{ver st j:Nat}{ed:TypeId}{sd:Nat}{pre post:List (Bool×List PV)}{row:List AV}
  (hk:∀k,aL R b k (some (.iM e ver st j ed sd pre row post))→w'.heap[k]? = w.heap[k]?) (hrow:∀vs,dD N w hp R row vs→dD N' w' hp R row vs)
  (h:dY N w hp R b (.iM e ver st j ed sd pre row post)):dY N' w' hp R b (.iM e ver st j ed sd pre row post):=by
 obtain⟨xs,hs1,hs2,a1,a2,a3,a4,a5,a6,a7⟩:=h;refine⟨xs,hs1,hs2,a1,?_,yD hN hw (fun v hv k hk'=>hk k (.inr ⟨v,by rw[a1];simp[hv],hk'⟩)) a3,a4,hrow _ a5,yD hN hw (fun v hv k hk'=>hk k (.inr ⟨v,by rw[a1];simp[hv],hk'⟩)) a6,a7⟩;refine dZ a2 fun k hk'=>hk k (.inl ?_)
 simp only[dH] at hk';cases hnil:R.nil b with
 |true=>simp[hnil,Value.ownBlock] at hk'
 |false=>simp[hnil,Value.ownBlock] at hk';exact⟨rfl,hk'⟩
end
theorem y8.sJ {c1 c2:Ctx}{R:Real}{hp:List (Nat×aF)}{w w':World}(g:y8 c1 R hp w)(amE:∀r,aV c1 R hp r→r<w.heap.size)
  (hK:∀v x,c2.K v x→ak (aV c1 R hp) w hp R v x) (hF:∀r,r<w.heap.size→c2.F r→c1.F r)
  (hw:∀r o,w.heap[r]? = some o→(r<c1.n0.1∨o.isCells=true∨owned R hp r)→¬c1.F r→w'.heap[r]? = some o)
  (hsz:w.heap.size≤w'.heap.size) (hos:w'.os=w.os∧w'.tape=w.tape∧w'.output=w.output)
  (hfree:∀r,owned R hp r→¬c2.F r) (hfix:tY c2.fix (owned R hp) w') (ae9:mr c2.O c2.w w') (YX:∀r,owned R hp r→c2.O r∨c2.w.heap.size≤r) (hlo:c2.n0=c1.n0∧c2.n0.1≤c2.lo∧c2.lo≤w'.heap.size) :
  y8 c2 R hp w'∧∀v x,ak (aV c1 R hp) w hp R v x→ak (aV c2 R hp) w' hp R v x:=by
 have hN:∀r,r<w.heap.size→aV c2 R hp r→aV c1 R hp r:=by
  rintro r hr (h|h)
  ·exact .inl (hF r hr h)
  exact .inr h
 have Wh:∀r cur e fr,w.heap[r]? = some (.cells cur e fr)→aV c2 R hp r→aV c1 R hp r:=fun r cur e fr h=>hN r (size_of_getElem? h)
 have hw2:∀r cur e fr,w.heap[r]? = some (.cells cur e fr)→¬aV c1 R hp r→w'.heap[r]? = some (.cells cur e fr):=fun r cur e fr h hn=>hw r _ h (.inr (.inl rfl)) fun hf=>hn (.inl hf)
 have hwo:∀r o,w.heap[r]? = some o→owned R hp r→w'.heap[r]? = some o:=fun r o h ho=>hw r o h (.inr (.inr ho)) (g.free r ho)
 refine⟨⟨?_,g.inj,hfree,ae9,YX,fun v x h=>tK Wh hw2 v x (hK v x h),hfix,⟨by rw[hlo.1];exact g.lo.1,hlo.2⟩⟩,fun v x h=>tK Wh hw2 v x h⟩;intro b box h;have hr:=g.boxes b box h;have hkeep:∀r o,aL R b r (some box)→w.heap[r]? = some o→w'.heap[r]? = some o:=fun r o ho hx=>hwo r o hx ⟨b,by rw[h];exact ho⟩
 cases box with
 | var cells=>
   obtain⟨cur,e,h8,h9⟩:=hr;exact⟨cur,e,hkeep _ _ rfl h8,nG Wh hw2 _ _ h9⟩
 | nR cells=>
   obtain⟨cur,e,fr,h8,h7,h9⟩:=hr;exact⟨cur,e,fr,hw2 _ _ _ _ h8 h7,fun x=>h7 (Wh _ _ _ _ h8 x),mQ Wh hw2 _ _ h9⟩
 | arr e ver st rows=>
   obtain⟨xs,h8,h9⟩:=hr;refine⟨xs,dZ h8 fun k hk=>?_,kZ Wh hw2 _ _ _ h9⟩;have hlt:=(h8.lt k hk).2;have hk':aL R b k (some (.arr e ver st rows)):=by
    simp only[dH] at hk;cases hnil:R.nil b with
    |true=>simp[hnil,Value.ownBlock] at hk
    |false=>simp[hnil,Value.ownBlock] at hk;exact⟨hnil,hk⟩
   have hx:w.heap[k]? = some w.heap[k]:=by simp[hlt]
   rw[hkeep k _ hk' hx,hx]
 |dS ver st rows=>exact rT Wh hw2 _ _ hr
 | tr y ver rest st=>
   obtain⟨k0,kh,k1,k2,k3,k4⟩:=hr;refine⟨k0,kh,k1,⟨Nat.le_trans k2.size hsz,fun r o hro hz hc=>?_,hos.1.trans k2.os,hos.2.1.trans k2.tape,hos.2.2.trans k2.output⟩,k3,fun r hn=>?_⟩
   ·have h2:=k2.keep r o hro hz hc;have hD:¬c1.F r:=fun hf=>by
     rcases k4 r (.inl hf) with hd|hz'|hs
     ·exact g.free r ⟨b,by rw[h];exact hd⟩ hf
     ·exact hz hz'
     have:=size_of_getElem? hro;omega
    exact hw r o h2 (hc.imp (fun hl=>by rw[←g.lo.1];exact hl) fun hc=>hc.imp id fun hd=>⟨b,by rw[h];exact hd⟩) hD
   by_cases hlt:r<w.heap.size
   ·exact k4 r (hN r hlt hn)
   exact .inr (.inr (by have:=k2.size;omega))
 | mp kk kv es=>
   obtain⟨cur,clock,h8,h9,h10⟩:=hr;exact⟨cur,clock,hkeep _ _ ⟨h9,rfl⟩ h8,h9,h10⟩
 | iM e ver st j ed sd pre row post=>
   have hr':=hr;exact UN Wh hw2 (fun k hk'=>by
    have hlt:=AX.kM hr' hk';have hx:w.heap[k]? = some w.heap[k]:=by simp[hlt]
    rw[hkeep k _ hk' hx,hx]) (fun vs h=>nG Wh hw2 _ _ h) hr'
 | gy e ver st pre row post=>
   obtain⟨xs,h8,h9,h10,h11,h12⟩:=hr;refine⟨xs,dZ h8 fun k hk=>?_,kZ Wh hw2 _ _ _ h9,h10,nG Wh hw2 _ _ h11,kZ Wh hw2 _ _ _ h12⟩;have hlt:=(h8.lt k hk).2;have hk':aL R b k (some (.gy e ver st pre row post)):=by
    simp only[dH] at hk;cases hnil:R.nil b with
    |true=>simp[hnil,Value.ownBlock] at hk
    |false=>simp[hnil,Value.ownBlock] at hk;exact⟨hnil,hk⟩
   have hx:w.heap[k]? = some w.heap[k]:=by simp[hlt]
   rw[hkeep k _ hk' hx,hx]
theorem bG.sJ {c1 c2:Ctx}{R:Real}{s:AS}{a a':Act}{w w':World}(g:bG c1 R s a w)(hn:c2.n=c1.n)(ha:a'.tmps=a.tmps)
  (hK:∀v x,c2.K v x→ak (aV c1 R s.hp) w s.hp R v x) (hF:∀r,r<w.heap.size→c2.F r→c1.F r)
  (hw:∀r o,w.heap[r]? = some o→(r<c1.n0.1∨o.isCells=true∨owned R s.hp r)→¬c1.F r→w'.heap[r]? = some o)
  (hsz:w.heap.size≤w'.heap.size) (hos:w'.os=w.os∧w'.tape=w.tape∧w'.output=w.output)
  (hfree:∀r,owned R s.hp r→¬c2.F r) (hfix:tY c2.fix (owned R s.hp) w') (ae9:mr c2.O c2.w w') (YX:∀r,owned R s.hp r→c2.O r∨c2.w.heap.size≤r) (hlo:c2.n0=c1.n0∧c2.n0.1≤c2.lo∧c2.lo≤w'.heap.size)
  (hm:∃Ds,Marks c2.lo (owned R s.hp) w' a'.defers Ds):bG c2 R s a' w':=by
 obtain⟨h,hmap⟩:=g.hap.sJ (fun r=>g.Nlt) hK hF hw hsz hos hfree hfix ae9 YX hlo;refine h.WR (fun t v hv=>?_) (by rw[ha,hn];exact g.size) hm;obtain⟨x,hx,hr⟩:=g.slots t v hv;exact⟨x,by rw[ha];exact hx,hmap v x hr⟩
end
def abh (P:Program)(f:FuncId)(bF:List PV)(xs:List (List PV)):Prop:=
 Enters P f∧∀(l:Nat) (J:List (List PV)→Bool→(Nat→Prop)→(Nat→Prop)→World→Prop) (D:Nat→Prop) (w:World) (dz:Array Value),YH (P,l) w.heap.size J→(∀r,D r→r<w.heap.size) →
  J xs false (fun _=>False) D w→eY D w bF dz.toList →
  Calls P f (#[.func (.yield l) #[] #[]]++dz) w fun e w'=>(∃v,e=.returned v)∧∃rest st Z D' wy,J rest st Z D' wy∧Dj w.heap.size Z D' wy w'∧(st=true∨rest=[])
def uQ (s s':AS):Prop:=∀(c:Ctx) (R:Real) (a:Act) (w:World),bG c R s a w→∃R',bG c R' s' a w
theorem uQ.refl (s:AS):uQ s s:=fun c R a w g=>⟨R,g⟩
theorem uQ.trans {s1 s2 s3:AS}(h:uQ s1 s2)(h':uQ s2 s3):uQ s1 s3:=fun c R a w g=>let ⟨R1,g1⟩:=h c R a w g;h' c R1 a w g1
mutual
def Fx:AV→Bool
 |.pv _=>true
 |.agg cs=>zT cs
 |.cO cs=>zT cs
 |.ptr b _=>Nat.blt b 1000
 |.dM b _ _ _=>Nat.blt b 1000 && !Nat.beq b 999
 |.aO b _=>Nat.blt b 1000
 |.sub b _ _ _ _=>Nat.blt b 1000
 |.fn _ a c=>zT a&&zT c
def zT:List AV→Bool
 |[]=>true
 |v::r=>Fx v&&zT r
end
def GV:List (Nat×AV)→Bool
 |[]=>true
 |(_,v)::r=>Fx v&&GV r
theorem Fy:∀{tm:List (Nat×AV)} {t:Nat} {v:AV},GV tm=true→lk tm t=some v→Fx v=true
 |[],t,v,_,h=>by simp[lk] at h
 | (t',v')::r,t,v,hl,h=>by
   simp only[GV,Bool.and_eq_true] at hl;rw[aC] at h;split at h
   ·simp only[Option.some.injEq] at h;rw[←h];exact hl.1
   exact Fy hl.2 h
def WE:List Nat→List PV→List (Nat×AV)→Option (List (Nat×AV))
 | [],ps,tm=>match ps with
   |[]=>some tm
   |_=>none
 | p::r,ps,tm=>match ps with
   |v::vs=>WE r vs ((p,.pv v)::tm)
   |[]=>none
def J5:Exit→Option Code
 |.ret=>some .ret
 |.exit id=>some (.exit id)
 |_=>none
def rfK (tm:List (Nat×AV))(next:AS→Prop)(K:Exit→AS→Prop)(e:Exit)(s:AS):Prop:=
 match e with
 | .normal=>match s with
   |⟨_,nx,hp⟩=>next ⟨tm,nx,hp⟩
 | .ret=>match s with
   |⟨_,nx,hp⟩=>K .ret ⟨tm,nx,hp⟩
 | .exit id=>match s with
   |⟨_,nx,hp⟩=>K (.exit id) ⟨tm,nx,hp⟩
 |_=>False
section
variable {N N':Nat→Prop}{w w':World}{hp hp':List (Nat×aF)}{R R':Real}(hN:∀r,r<w.heap.size→N' r→N r)(hw:∀r,r<w.heap.size→¬N r→w'.heap[r]? = w.heap[r]?)
 (hk:∀v x,jD v=true→ak N w hp R v x→ak N' w' hp' R' v x)
include hN hw hk
mutual
theorem Fz:∀(v:AV) (x:Value),Fx v=true→ak N w hp R v x→ak N' w' hp' R' v x
 |.pv p,x,_,h=>by simp only[ak] at h ⊢;exact dJ hN hw p x h
 |.agg cs,x,hl,h=>by simp only[ak] at h ⊢;obtain⟨vs,a,b⟩:=h;exact⟨vs,a,IL cs _ (by simpa only[Fx] using hl) b⟩
 |.cO cs,x,hl,h=>by simp only[ak] at h ⊢;obtain⟨vs,a,b⟩:=h;exact⟨vs,a,wK cs _ (by simpa only[Fx] using hl) b⟩
 |.ptr b off,x,hl,h=>hk _ x (by simpa only[Fx,jD] using hl) h
 |.dM b ver i off,x,hl,h=>hk _ x (by simpa only[Fx,jD] using hl) h
 |.aO b ver,x,hl,h=>hk _ x (by simpa only[Fx,jD] using hl) h
 | .sub b ver st lo hi,x,hl,h=>by
   simp only[ak] at h ⊢;obtain⟨u,a,c⟩:=h;have:=hk (.aO b ver) u (by simpa only[Fx,jD] using hl) (by simpa only[ak] using a);simp only[ak] at this;exact⟨u,this,c⟩
 | .fn f a c,x,hl,h=>by
   simp only[ak] at h ⊢;simp only[Fx,Bool.and_eq_true] at hl;obtain⟨fs,cs,e,h1,h2⟩:=h;exact⟨fs,cs,e,wK a _ hl.1 h1,wK c _ hl.2 h2⟩
theorem wK:∀(vs:List AV) (xs:List Value),zT vs=true→dh N w hp R vs xs→dh N' w' hp' R' vs xs
 |[],xs,_,h=>by simpa only[dh] using h
 | v::r,xs,hl,h=>by
   simp only[dh] at h ⊢;simp only[zT,Bool.and_eq_true] at hl;obtain⟨x,ys,e,h1,h2⟩:=h;exact⟨x,ys,e,Fz v x hl.1 h1,wK r ys hl.2 h2⟩
theorem IL:∀(vs:List AV) (xs:List Value),zT vs=true→dD N w hp R vs xs→dD N' w' hp' R' vs xs
 |[],xs,_,h=>by simpa only[dD] using h
 | v::r,xs,hl,h=>by
   simp only[dD] at h ⊢;simp only[zT,Bool.and_eq_true] at hl;obtain⟨x,ys,e,h0,h1,h2⟩:=h;exact⟨x,ys,e,h0,Fz v x hl.1 h1,IL r ys hl.2 h2⟩
end
end
theorem YL {N N':Nat→Prop}{w w':World}{hp:List (Nat×aF)}{R:Real}{v:AV}{x:Value}(h:jD v=true)(hr:ak N w hp R v x):ak N' w' hp R v x:=by
 cases v<;>simp only[jD] at h<;>first
  |(simp only[ak] at hr ⊢;exact hr)
  |cases h
theorem IQ {c:Ctx}{R:Real}{w:World}{nx:Nat}{hp:List (Nat×aF)}:∀(ps:List Nat) (x:List PV) (tm tm':List (Nat×AV)) (a:Act) (vs:List Value),(∀t∈ps,t<c.n)→WE ps x tm=some tm' →
  eY (aV c R hp) w x vs→bG c R ⟨tm,nx,hp⟩ a w→vs.length=ps.length∧bG c R ⟨tm',nx,hp⟩ { a with tmps:=(ps.zip vs).foldl (fun t (p,v)=>t.setIfInBounds p v) a.tmps } w
 | [],x,tm,tm',a,vs,_,h,hr,g=>by
   cases x with
   | nil=>
     simp only[WE,Option.some.injEq] at h;subst h;simp only[eY] at hr;subst hr;exact⟨rfl,g⟩
   |cons _ _=>simp[WE] at h
 | p::ps,x,tm,tm',a,vs,hps,h,hr,g=>by
   cases x with
   |nil=>simp[WE] at h
   | cons y ys=>
     simp only[WE] at h;simp only[eY] at hr;obtain⟨v,r,rfl,h1,h2⟩:=hr;have g1:=g.put (some p) (fun t ht=>by cases ht;exact hps p (by simp)) (v:=.pv y) (x:=v) (by simpa only[ak] using h1);obtain⟨e,g2⟩:=IQ ps ys _ _ _ r (fun t ht=>hps t (by simp[ht])) h h2 g1;exact⟨by simp[e],g2⟩
structure Ou (c:Ctx)(ro:Option Nat):Prop where
 lp:∀l0,ro=some l0→∃r0,c.fix l0=some (.loop r0)
 nc:∀r o,c.fix r=some o→o.isCells=false
def cbF (c:Ctx)(Z:Nat→Prop)(l:Nat)(wy:World)(r:Nat):Prop:=(c.F r∨Z r∨r=l)∧r<wy.heap.size
def cb (c:Ctx)(Z:Nat→Prop)(l:Nat)(wy:World):Ctx where
 F:=cbF c Z l wy
 O r:=c.O r∨c.w.heap.size≤r
 w:=wy
 n:=c.n
 hF r h:=h.2
 K:=c.K
 hK:=c.hK
 fix:=c.fix
 n0:=c.n0
 lo:=c.lo
def cr (c:Ctx)(Z:Nat→Prop)(l:Nat)(W:World)(own:Nat→Prop)(Kx:AV→Value→Prop)(hKx:∀v x,Kx v x→jD v=true)(fx:Nat→Option Obj)(lo:Nat):Ctx where
 F:=cbF c Z l W
 O r:=own r∨r=l
 w:=W
 n:=c.n
 hF r h:=h.2
 K v x:=c.K v x∨Kx v x
 hK v x h:=h.elim (c.hK v x) (hKx v x)
 fix:=fx
 n0:=c.n0
 lo:=lo
def qH (c:Ctx)(l:Nat)(o:Obj)(Dl:List Nat)(r:Nat):Option Obj:=if r=l then some o else if r∈Dl then some (.deferred (some [])) else c.fix r
def Dst (c:Ctx)(l:Nat)(Dl:List Nat)(R:Real)(hp:List (Nat×aF))(r:Nat):Prop:=owned R hp r∨r=l∨(∃o,c.fix r=some o)∨r∈Dl∨c.F r
structure RJ {ι:Type}(c:Ctx)(ao:Act)(l n1:Nat)(Dl:List Nat)(rec:LoopState→Option Code→Loop)(xs:List (List PV))(st:Nat→ι→AS)(K:Exit→AS→Prop)
  (R:Real) (s:AS) (rest:List (List PV)) (UD:Bool) (Z D:Nat→Prop) (wy:World):Prop where
 zz:∀r,Z r→n1≤r∧r<wy.heap.size∧¬D r
 n1:n1≤wy.heap.size
 jE:mr c.O c.w wy
 dd:∀r,D r↔Dst c l Dl R s.hp r
 dlt:∀r,D r→r<wy.heap.size
 g:bG (cb c Z l wy) R s ao wy
 YM:Marks c.lo (owned R s.hp) wy ao.defers Dl
 run:UD=false→∃k i,s=st k i∧rest=xs.drop k∧k≤xs.length∧wy.heap[l]? = some (.loop (rec .ready none))
 out:UD=true→∃e code,J5 e=some code∧K e s∧wy.heap[l]? = some (.loop (rec .done (some code)))
theorem MI {P:Program}{ι:Type}{c:Ctx}{ao:Act}{l n1:Nat}{Dl:List Nat}{fn:FuncId}{ps:Array Tmp}{NR KW:Code}{dfr:Nat}{xs:List (List PV)}{st:Nat→ι→AS}{K:Exit→AS→Prop}
  {rec:LoopState→Option Code→Loop} (MJ:∀s p,rec s p={ state:=s,pending:=p,fn:=fn,tmps:=ao.tmps,params:=ps,assign:=NR,body:=KW,defers:=dfr })
  (hl1:c.w.heap.size≤n1) (hln:c.w.heap.size≤l) (hlD:l∉Dl) (gT:c.fix l=none) (amr:l<n1) (hn0:c.n0.1≤n1) (hlo:c.n0.1≤c.lo) (hlo1:c.lo≤n1)
  (hnc:∀r o,c.fix r=some o→o.isCells=false) (hps:∀t∈ps.toList,t<c.n) (hlow:∀k i,GV (st k i).tm=true) {A:Nat→ι→List PV→AS→Prop}
  (aeY:∀(c':Ctx) (k:Nat) (i:ι) (x:List PV) (tm:List (Nat×AV)) (R:Real) (a:Act) (w:World),c'.n=c.n→Ou c' (some l)→xs[k]? = some x→WE ps.toList x (st k i).tm=some tm →
   bG c' R ⟨tm,(st k i).nx,(st k i).hp⟩ a w→NR.wpIn (W1 (some l)) 0 P (Exit.then (fun a1 w1=>∃R1 s1,A k i x s1∧bG c' R1 s1 a1 w1) (fun _ _ _=>False)) a w)
  (aeZ:∀(c':Ctx) (k:Nat) (i:ι) (x:List PV) (s1:AS) (R:Real) (a:Act) (w:World),c'.n=c.n→Ou c' (some l)→xs[k]? = some x→A k i x s1 →
   bG c' R s1 a w→KW.wpIn (W1 (some l)) 0 P (fun e a' w'=>∃R' s',rfK (st k i).tm (fun s''=>∃j,uQ s'' (st (k+1) j)) K e s'∧bG c' R' s' a' w') a w)
  (ae0:∀k i x,xs[k]? = some x→∃tm,WE ps.toList x (st k i).tm=some tm) :
  YH (P,l) n1 fun rest UD Z D wy=>∃R s,RJ c ao l n1 Dl rec xs st K R s rest UD Z D wy:=by
 rintro x rest Z D wy W Z' vs ⟨R0,s0,J⟩ hE hDlt hZ1 hZ2 hZ3 hvs
 obtain⟨k,i,rfl,hrest,hkl,ajn⟩:=J.run rfl;have hxk:xs[k]? = some x:=by
  have:=congrArg (fun l=>l[0]?) hrest;simpa using this.symm
 have ae1:rest=xs.drop (k+1):=by
  have:=congrArg List.tail hrest;simpa using this
 have aeA:k<xs.length:=(List.getElem?_eq_some_iff.1 hxk).1;obtain⟨tmx,ag6⟩:=ae0 k i x hxk;have g0:=J.g;have hsz:=hE.size;have n1W:n1≤W.heap.size:=Nat.le_trans J.n1 hsz;have hlW:l<W.heap.size:=by omega
 have hlZ:∀(Z0:Nat→Prop) (wz:World),l<wz.heap.size→cbF c Z0 l wz l:=fun Z0 wz h=>⟨.inr (.inr rfl),h⟩
 have MK:∀r,owned R0 (st k i).hp r→D r:=fun r h=>(J.dd r).2 (.inl h)
 have Dw:D l:=(J.dd l).2 (.inr (.inl rfl));have hZD:∀r,D r→¬Z r:=fun r hd hz=>(J.zz r hz).2.2 hd
 have cwW:c.w.heap.size≤W.heap.size:=by omega
 have ag7:∀r,r<wy.heap.size→cbF c Z' l W r→cbF c Z l wy r:=by
  rintro r hr ⟨h,_⟩
  exact⟨h.imp id fun h=>h.imp (fun h=>(hZ1 r h).resolve_right (by omega)) id,hr⟩
 have hl0:W.heap[l]? = some (.loop (rec .ready none)):=hE.keep l _ ajn (hZD l Dw) (.inr (.inr Dw));let NW:Nat→Prop:=fun r=>cbF c Z' l W r∨owned R0 (st k i).hp r
 let Kx:AV→Value→Prop:=fun v y=>jD v=true∧ak NW W (st k i).hp R0 v y
 have hKx:∀v y,Kx v y→jD v=true:=fun v y h=>h.1
 let c1:Ctx:=cr c Z' l W (owned R0 (st k i).hp) Kx hKx (qH c l (.loop (rec .ready none)) Dl) W.heap.size
 have YN:∀d∈Dl,d≠l:=fun d hd e=>hlD (e▸hd)
 have adE:∀r o,c.fix r=some o→r≠l:=fun r o h e=>by rw[e,gT] at h;cases h
 have ag8:∀(o':Obj),o'.isCells=false→∀r o,qH c l o' Dl r=some o→o.isCells=false:=by
  intro o' ho' r o h;simp only[qH] at h;split at h
  ·simp only[Option.some.injEq] at h;rw[←h];exact ho'
  split at h
  ·simp only[Option.some.injEq] at h;rw[←h];rfl
  exact hnc r o h
 have G1:bG c1 R0 (st k i) { tmps:=ao.tmps,defers:=[] } W:=by
  refine g0.sJ (c2:=c1) rfl rfl ?_ ag7 ?_ hsz ⟨hE.os,hE.tape,hE.output⟩ ?_ ?_ (mr.refl _ _) (fun r h=>.inl (.inl h)) ⟨rfl,by show c.n0.1≤W.heap.size;omega,Nat.le_refl _⟩ ⟨[],Marks.nil⟩
  ·rintro v y (h|h)
   ·exact g0.kept v y h
   exact YL h.1 h.2
  ·intro r o ho hc hf;have hrz:¬Z r:=fun hz=>hf ⟨.inr (.inl hz),size_of_getElem? ho⟩
   exact hE.keep r o ho hrz (hc.imp (fun h=>by have:r<c.n0.1:=h;omega) fun h=>h.imp id (MK r))
  ·intro r ho hf;exact g0.free r ho (ag7 r (hDlt r (MK r ho)) hf)
  refine⟨fun r o h=>?_,fun r o h ho=>?_,ag8 _ rfl⟩
  ·simp only[c1,cr,qH] at h;split at h
   ·rename_i e;simp only[Option.some.injEq] at h;rw[e,←h];exact hl0
   split at h
   ·rename_i hd;simp only[Option.some.injEq] at h;have hD:=(J.dd r).2 (.inr (.inr (.inr (.inl hd))));rw[←h];exact hE.keep r _ (J.YM.obj r hd) (hZD r hD) (.inr (.inr hD))
   have hD:=(J.dd r).2 (.inr (.inr (.inl ⟨o,h⟩)));exact hE.keep r _ (g0.fixed.obj r o h) (hZD r hD) (.inr (.inr hD))
  simp only[c1,cr,qH] at h;split at h
  ·rename_i e;subst e;exact g0.free r ho (hlZ Z wy (hDlt _ Dw))
  split at h
  ·rename_i hd;exact J.YM.free r hd ho
  exact g0.fixed.free r o h ho
 have ajo:eY (aV c1 R0 (st k i).hp) W x vs:=by
  refine nX (N:=fun r=>D r∨Z' r) (fun r _ h=>?_) (fun _ _ _=>rfl) _ _ hvs;rcases h with ⟨h,_⟩|h
  ·rcases h with h|h|h
   ·exact .inl ((J.dd r).2 (.inr (.inr (.inr (.inr h)))))
   ·exact .inr h
   exact .inl (h▸Dw)
  exact .inl (MK r h)
 obtain⟨hlen,G1p⟩:=IQ (c:=c1) ps.toList x (st k i).tm tmx _ vs hps ag6 ajo G1;have hrun:=run_yield (P:=P) (args:=vs.toArray) hl0 (by rw[MJ];simpa using hlen);rw[MJ] at hrun;refine⟨fn,_,NR,KW,hrun,roundIn_of_wpIn trivial ?_⟩;have ag9:∀(r0:Loop),Ou (cr c Z' l W (owned R0 (st k i).hp) Kx hKx (qH c l (.loop r0) Dl) W.heap.size) (some l):=by
  intro r0;refine⟨fun l0 e=>?_,fun r o h=>?_⟩
  ·simp only[Option.some.injEq] at e;subst e;exact⟨r0,by simp[cr,qH]⟩
  simp only[cr,qH] at h;split at h
  ·simp only[Option.some.injEq] at h;rw[←h];rfl
  split at h
  ·simp only[Option.some.injEq] at h;rw[←h];rfl
  exact hnc r o h
 have ajp:c1.fix l=some (.loop (rec .ready none)):=by simp[c1,cr,qH]
 have Tg:((ps.zip vs.toArray).foldl (fun tmps (x:Nat×Value)=>tmps.setIfInBounds x.1 x.2) ao.tmps)=(ps.toList.zip vs).foldl (fun t (x:Nat×Value)=>t.setIfInBounds x.1 x.2) ao.tmps:=by
  rw[←Array.foldl_toList,Array.toList_zip]
 simp only[] at Tg ⊢;rw[Tg];refine wpIn_mono (aeY c1 k i x tmx R0 _ W rfl (ag9 _) hxk ag6 G1p) ?_;rintro e a1 w1 h1
 cases e with
 | normal=>
   obtain⟨R1,s1,hA,G2⟩:=h1;have ae4:w1.heap[l]? = some (.loop (rec .ready none)):=G2.fixed.obj l _ ajp;refine⟨_,run_beginRound ae4 (by rw[MJ]),?_⟩;generalize YO:Obj.loop { rec .ready none with state:=.busy }=ob;let c2:Ctx:=cr c Z' l W (owned R0 (st k i).hp) Kx hKx (qH c l ob Dl) W.heap.size
   have ajq:l<w1.heap.size:=size_of_getElem? ae4;have G3:bG c2 R1 s1 a1 (w1.putObj l ob):=by
    refine G2.sJ (c2:=c2) rfl rfl (fun v y h=>G2.kept v y h) (fun r _ h=>h) ?_ (by simp) ⟨rfl,rfl,rfl⟩ (fun r h=>G2.free r h) ?_ ?_ (fun r h=>G2.iw r h)
     ⟨rfl,by show c.n0.1≤W.heap.size;omega,by rw[World.putObj_size];exact G2.lo.2.2⟩ ?_
    ·intro r o ho _ hf;have hrl:r≠l:=fun e=>hf (e▸hlZ Z' W hlW)
     rw[World.putObj_heap_other hrl];exact ho
    ·refine⟨fun r o h=>?_,fun r o h=>?_,ag8 ob (by rw[←YO];rfl)⟩
     ·simp only[c2,cr,qH] at h;by_cases e:r=l
      ·subst e;simp only[if_true,Option.some.injEq] at h;rw[World.putObj_heap_same ajq,h]
      rw[World.putObj_heap_other e];refine G2.fixed.obj r o ?_;simp only[c1,cr,qH];simpa only[if_neg e] using h
     by_cases e:r=l
     ·subst e;exact fun ho=>G2.free r ho (hlZ Z' W hlW)
     refine G2.fixed.free r o ?_;simp only[c2,cr,qH] at h;simp only[c1,cr,qH];simpa only[if_neg e] using h
    ·refine G2.jE.trans (O':=fun r=>r=l) ⟨by simp,fun r _ hn=>World.putObj_heap_other hn,rfl,rfl,rfl⟩ fun r _ h=>.inr h
    obtain⟨Ds,hm⟩:=G2.marks;refine⟨Ds,hm.low,hm.eq,hm.nodup,fun d hd=>?_,hm.free⟩;have:=hm.obj d hd;rw[World.putObj_heap_other]
    ·exact this
    rintro rfl
    rw[ae4] at this;cases this
   have ajr:c2.fix l=some ob:=by simp[c2,cr,qH]
   refine wpIn_mono (aeZ c2 k i x s1 R1 a1 _ rfl (by have:=ag9 { rec .ready none with state:=.busy };rw[YO] at this;exact this) hxk hA G3) ?_;rintro e a' w' ⟨R',s',hK,G4⟩
   have hl4:w'.heap[l]? = some (.loop { rec .ready none with state:=.busy }):=by rw[YO];exact G4.fixed.obj l _ ajr
   have ae5:l<w'.heap.size:=size_of_getElem? hl4;have ajs:W.heap.size≤w'.heap.size:=G4.jE.size;let c3:Ctx:=cr c Z' l W (owned R0 (st k i).hp) (fun _ _=>False) (fun _ _ h=>h.elim) c.fix c.lo
   have G5:∀o',bG c3 R' ⟨(st k i).tm,s'.nx,s'.hp⟩ ao (w'.putObj l o')∧Marks c.lo (owned R' s'.hp) (w'.putObj l o') ao.defers Dl:=by
    intro o';have hmk:Marks c.lo (owned R' s'.hp) (w'.putObj l o') ao.defers Dl:=by
     refine⟨J.YM.low,J.YM.eq,J.YM.nodup,fun d hd=>?_,fun d hd=>?_⟩
     ·rw[World.putObj_heap_other (YN d hd)];exact G4.fixed.obj d _ (by simp[c2,cr,qH,YN d hd,hd])
     exact G4.fixed.free d (.deferred (some [])) (by simp[c2,cr,qH,YN d hd,hd])
    obtain⟨H,hmap⟩:=G4.hap.sJ (c2:=c3) (w':=w'.putObj l o') (fun r=>G4.Nlt) (fun v y h=>by
      rcases h with h|h
      ·exact G4.kept v y (.inl h)
      ·exact h.elim) (fun r _ h=>h) (fun r o ho _ hf=>by
      have hrl:r≠l:=fun e=>hf (e▸hlZ Z' W hlW)
      rw[World.putObj_heap_other hrl];exact ho) (by simp) ⟨rfl,rfl,rfl⟩ (fun r h=>G4.free r h)
     ⟨fun r o h=>by
       have hrl:=adE r o h;rw[World.putObj_heap_other hrl];by_cases hd:r∈Dl
       ·have h1:=J.YM.obj r hd;have h2:=g0.fixed.obj r o h;rw[h1] at h2;simp only[Option.some.injEq] at h2;rw[←h2];exact G4.fixed.obj r _ (by simp[c2,cr,qH,hrl,hd])
       exact G4.fixed.obj r o (by have h':c.fix r=some o:=h;simp[c2,cr,qH,hrl,hd,h']),
      fun r o h=>by
       have hrl:=adE r o h;by_cases hd:r∈Dl
       ·exact G4.fixed.free r (.deferred (some [])) (by simp[c2,cr,qH,hrl,hd])
       exact G4.fixed.free r o (by have h':c.fix r=some o:=h;simp[c2,cr,qH,hrl,hd,h']),hnc⟩
     (G4.jE.trans (O':=fun r=>r=l) ⟨by simp,fun r _ hn=>World.putObj_heap_other hn,rfl,rfl,rfl⟩ fun r _ h=>.inr h) (fun r h=>G4.iw r h)
     ⟨rfl,hlo,by show c.lo≤_;rw[World.putObj_size];omega⟩
    refine⟨H.WR (fun t v hv=>?_) G1.size ⟨Dl,hmk⟩,hmk⟩;obtain⟨y,hy,hr⟩:=G1.slots t v hv;refine⟨y,hy,hmap v y ?_⟩;refine Fz (N:=NW) (w:=W) (hp:=(st k i).hp) (R:=R0) (fun r hr h=>?_) (fun r hr hn=>?_) (fun v y hl h=>G4.kept v y (.inr ⟨hl,h⟩)) v y (Fy (hlow k i) hv) hr
    ·rcases h with h|h
     ·exact .inl h
     rcases G4.iw r h with (h|h)|h
     ·exact .inr h
     ·exact .inl (h▸hlZ Z' W hlW)
     exact absurd hr (Nat.not_lt.2 h)
    refine G4.jE.keep r hr fun ho=>?_
    rcases ho with ho|ho
    ·exact hn (.inr ho)
    exact hn (.inl (ho▸hlZ Z' W hlW))
   have YP:∀(o':Obj) (R5:Real) (s5:AS) (UD:Bool) (_:bG c3 R5 s5 ao (w'.putObj l o')) (_:Marks c.lo (owned R5 s5.hp) (w'.putObj l o') ao.defers Dl)
     (_:UD=false→∃k i,s5=st k i∧rest=xs.drop k∧k≤xs.length∧(w'.putObj l o').heap[l]? = some (.loop (rec .ready none)))
     (_:UD=true→∃e code,J5 e=some code∧K e s5∧(w'.putObj l o').heap[l]? = some (.loop (rec .done (some code)))),
     ∃(D':Nat→Prop),mr D W (w'.putObj l o')∧(∀r,D' r→D r∨W.heap.size≤r)∧(∀r,D' r→r<(w'.putObj l o').heap.size) ∧
      ∃R s,RJ c ao l n1 Dl rec xs st K R s rest UD Z' D' (w'.putObj l o'):=by
    intro o' R5 s5 UD G6 mk6 aha ahb;have hW4:W.heap.size≤(w'.putObj l o').heap.size:=by simpa using ajs
    have hD1:∀r,Dst c l Dl R5 s5.hp r→D r∨W.heap.size≤r:=by
     rintro r (h|h|h|h|h)
     ·rcases G6.iw r h with (h|h)|h
      ·exact .inl (MK r h)
      ·exact .inl (h▸Dw)
      exact .inr h
     ·exact .inl (h▸Dw)
     ·exact .inl ((J.dd r).2 (.inr (.inr (.inl h))))
     ·exact .inl ((J.dd r).2 (.inr (.inr (.inr (.inl h)))))
     exact .inl ((J.dd r).2 (.inr (.inr (.inr (.inr h)))))
    have ahc:∀r,Dst c l Dl R5 s5.hp r→r<(w'.putObj l o').heap.size:=by
     intro r h;rcases h with ⟨b,h⟩|h
     ·exact G6.kM h
     have:D r:=by
      rcases h with h|h|h|h
      ·exact h▸Dw
      ·exact (J.dd r).2 (.inr (.inr (.inl h)))
      ·exact (J.dd r).2 (.inr (.inr (.inr (.inl h))))
      exact (J.dd r).2 (.inr (.inr (.inr (.inr h))))
     have:=hDlt r this;omega
    have hF3:∀r,cbF c Z' l (w'.putObj l o') r→cbF c Z' l W r:=by
     rintro r ⟨h,_⟩
     refine⟨h,?_⟩;rcases h with h|h|h
     ·have:=c.hF r h;omega
     ·exact hZ2 r h
     omega
    refine⟨Dst c l Dl R5 s5.hp,G6.jE.mono fun r h=>h.elim (MK r) fun h=>h▸Dw,hD1,ahc,R5,s5,?_⟩;refine⟨fun r hz=>⟨?_,?_,fun hd=>?_⟩,by omega,?_,fun r=>Iff.rfl,ahc,?_,mk6,aha,ahb⟩
    ·rcases hZ1 r hz with h|h
     ·exact (J.zz r h).1
     have:=J.n1;omega
    ·have:=hZ2 r hz;omega
    ·rcases hd with h|h
     ·exact G6.free r h ⟨.inr (.inl hz),hZ2 r hz⟩
     have:D r:=by
      rcases h with h|h|h|h
      ·exact h▸Dw
      ·exact (J.dd r).2 (.inr (.inr (.inl h)))
      ·exact (J.dd r).2 (.inr (.inr (.inr (.inl h))))
      exact (J.dd r).2 (.inr (.inr (.inr (.inr h))))
     exact hZ3 r hz this
    ·have e1:mr c.O c.w W:=by
      refine⟨Nat.le_trans J.jE.size hsz,fun r hr hn=>?_,hE.os.trans J.jE.os,hE.tape.trans J.jE.tape,hE.output.trans J.jE.output⟩;have h1:=J.jE.keep r hr hn;have hx:c.w.heap[r]? = some c.w.heap[r]:=by simp[hr]
      rw[hx] at h1 ⊢;exact hE.keep r _ h1 (fun hz=>by have:=(J.zz r hz).1;omega) (.inl (by omega))
     refine e1.trans G6.jE fun r hr ho=>?_
     rcases ho with ho|ho
     ·rcases g0.iw r ho with (h|h)|h
      ·exact h
      ·omega
      have h:wy.heap.size≤r:=h;have:=J.n1;omega
     omega
    refine G6.sJ (c2:=cb c Z' l (w'.putObj l o')) rfl rfl (fun v y h=>G6.kept v y (.inl h)) (fun r _ h=>hF3 r h) (fun r o ho _ _=>ho) (Nat.le_refl _) ⟨rfl,rfl,rfl⟩ (fun r h hf=>G6.free r h (hF3 r hf)) G6.fixed (mr.refl _ _) ?_
     ⟨rfl,hlo,by show c.lo≤_;omega⟩ ⟨Dl,mk6⟩
    intro r h;rcases G6.iw r h with (h|h)|h
    ·rcases g0.iw r h with h|h
     ·exact .inl h
     refine .inl (.inr ?_);have h:wy.heap.size≤r:=h;have:=J.n1;omega
    ·exact .inl (.inr (by omega))
    exact .inl (.inr (by have h:W.heap.size≤r:=h;omega))
   cases e with
   | normal=>
     obtain⟨tm',nx',hp'⟩:=s';obtain⟨j,hj⟩:=hK;have hend:=run_endRound (P:=P) none hl4;refine⟨_,_,hend,?_⟩;simp only[Option.isNone_none,if_true];have ho:({ { rec .ready none with state:=.busy } with state:=.ready,pending:=none }:Loop)=rec .ready none:=by rw[MJ]
     rw[ho];obtain⟨G6,mk6⟩:=G5 (.loop (rec .ready none));obtain⟨R7,G7⟩:=hj c3 R' ao _ G6;obtain⟨Ds,mk7⟩:=G7.marks;have hDs:Ds=Dl:=by
      have:=mk7.eq.symm.trans mk6.eq;exact List.map_inj_right (fun a b h=>by simpa[mark] using h) |>.1 this
     rw[hDs] at mk7;obtain⟨D',e1,e2,e3,R8,s8,J8⟩:=YP _ R7 _ false G7 mk7 (fun _=>⟨k+1,j,rfl,ae1,aeA,World.putObj_heap_same ae5⟩) (fun h=>by cases h);exact⟨D',true,rfl,e1,e2,e3,R8,s8,J8⟩
   | ret=>
     obtain⟨tm',nx',hp'⟩:=s';have hend:=run_endRound (P:=P) (some .ret) hl4;refine⟨_,_,hend,?_⟩;have ho:({ { rec .ready none with state:=.busy } with state:=.done,pending:=some .ret }:Loop)=rec .done (some .ret):=by rw[MJ,MJ]
     simp only[Option.isNone_some,Bool.false_eq_true,if_false];rw[ho];obtain⟨G6,mk6⟩:=G5 (.loop (rec .done (some .ret)));obtain⟨D',e1,e2,e3,R8,s8,J8⟩:=YP _ R' _ true G6 mk6 (fun h=>by cases h) (fun _=>⟨.ret,.ret,rfl,hK,World.putObj_heap_same ae5⟩);exact⟨D',false,rfl,e1,e2,e3,R8,s8,J8⟩
   | exit id=>
     obtain⟨tm',nx',hp'⟩:=s';have hend:=run_endRound (P:=P) (some (.exit id)) hl4;refine⟨_,_,hend,?_⟩;have ho:({ { rec .ready none with state:=.busy } with state:=.done,pending:=some (.exit id) }:Loop)=rec .done (some (.exit id)):=by rw[MJ,MJ]
     simp only[Option.isNone_some,Bool.false_eq_true,if_false];rw[ho];obtain⟨G6,mk6⟩:=G5 (.loop (rec .done (some (.exit id))));obtain⟨D',e1,e2,e3,R8,s8,J8⟩:=YP _ R' _ true G6 mk6 (fun h=>by cases h) (fun _=>⟨.exit id,.exit id,rfl,hK,World.putObj_heap_same ae5⟩);exact⟨D',false,rfl,e1,e2,e3,R8,s8,J8⟩
   |goto t=>exact hK.elim
   |panic ch=>exact hK.elim
   |outgrown=>exact hK.elim
 |exit id=>exact h1.elim
 |goto t=>exact h1.elim
 |ret=>exact h1.elim
 |panic ch=>exact h1.elim
 |outgrown=>exact h1.elim
end Go.AX
end
