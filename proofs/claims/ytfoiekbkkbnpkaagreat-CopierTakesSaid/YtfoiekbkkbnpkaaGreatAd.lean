/-
  Conditions: none. A framework for walks: abstract values, memory, and conditions that suffice; the chapters in plain terms.
-/
import Derived.Test.YtfoiekbkkbnpkaaGreatAc
import Derived.Test.YtfoiekbkkbnpkaaGreatAb
import Derived.OrdersIn
import Derived.RangeFuncNested
set_option linter.unusedSectionVars false
set_option linter.unusedVariables false
set_option linter.unusedSimpArgs false
section
namespace Go.AX
section
variable {c:Ctx}{R:Real}{s:AS}{a:Act}{w:World}
theorem p8 {b:Nat}{e:TypeId}{ver st j:Nat}{ed:TypeId}{sd:Nat}{pre post:List (Bool×List PV)}{row:List AV}(hb:lk s.hp b=some (.bR e ver st j ed sd pre row post)){r:Nat}(h:nY R b r):owned R s.hp r:=
 ⟨b,by rw[hb];exact .inr h⟩
theorem rT (g:aR c R s a w){b:Nat}{e:TypeId}{ver st j:Nat}{ed:TypeId}{sd:Nat}{pre post:List (Bool×List PV)}{row:List AV}(hb:lk s.hp b=some (.bR e ver st j ed sd pre row post)){r:Nat}(h:nY R b r) :
  ∃cur,w.heap[r]? = some (.cells cur ed (0,0)):=by
 obtain⟨xs,hs1,hs2,a1,a2,a3,a4,a5,a6,a7⟩:=g.boxes b _ hb;obtain⟨v,hv,hr⟩:=h;rw[a1] at hv;rcases List.mem_append.1 hv with hv|hv
 ·exact lu a3 v hv r hr
 exact lu a6 v hv r hr
def cF (c:Ctx)(R:Real)(s:AS)(w:World)(b:Nat)(h:∀r,c.F r∨nY R b r→r<w.heap.size)(hl:c.lo≤w.heap.size):Ctx:=
 { c with F:=fun r=>c.F r∨nY R b r,O:=fun r=>owned R s.hp r∧¬nY R b r,w:=w,hF:=h }
theorem ni (g:aR c R s a w){b:Nat}{e:TypeId}{ver st j:Nat}{ed:TypeId}{sd:Nat}{pre post:List (Bool×List PV)}{row:List AV}(hb:lk s.hp b=some (.bR e ver st j ed sd pre row post)) :
  ∀r,c.F r∨nY R b r→r<w.heap.size:=by
 rintro r (h|h)
 ·exact Nat.lt_of_lt_of_le (c.hF r h) g.gq.size
 obtain⟨cur,h⟩:=rT g hb h;exact size_of_getElem? h
def lK (pre:List (Bool×List PV))(row:List AV)(post:List (Bool×List PV)):Nat:=pre.length+(bJ row+post.length)
theorem aR.Dk (g:aR c R s a w){b:Nat}{e:TypeId}{ver st j:Nat}{ed:TypeId}{sd:Nat}{pre post:List (Bool×List PV)}{row:List AV}(hb:lk s.hp b=some (.bR e ver st j ed sd pre row post)) :
  ∃(xs:List Value) (hs1 hs2:List (Option Value)),(R.cap b).2=hs1++hs2∧xs.length=lK pre row post*st∧bS (aH c R s.hp) w st j ed sd hs1 pre xs∧row.length=bJ row*st ∧
   bq (aH c R s.hp) w s.hp R row ((xs.drop (pre.length*st)).take (bJ row*st))∧bS (aH c R s.hp) w st j ed sd hs2 post ((xs.drop (pre.length*st)).drop (bJ row*st))∧wO R b ∧
   aR (cF c R s w b (ni g hb) g.lo.2.2) R (s.app [(b,.arr e ver st (aS st (lK pre row post) xs))]) a w ∧
   (∀u x,ah (aH c R s.hp) w s.hp R u x→ah (aH (cF c R s w b (ni g hb) g.lo.2.2) R ((b,.arr e ver st (aS st (lK pre row post) xs))::s.hp)) w ((b,.arr e ver st (aS st (lK pre row post) xs))::s.hp) R u x):=by
 obtain⟨xs,hs1,hs2,a1,a2,a3,a4,a5,a6,a7⟩:=g.boxes b _ hb;have hlen:xs.length=lK pre row post*st:=a2.1;refine⟨xs,hs1,hs2,a1,hlen,a3,a4,a5,a6,a7,?_⟩;obtain⟨o1,o2,o3⟩:=pY a3;obtain⟨p1,p2,p3⟩:=pY a6;have hone:∀v∈xs,v.oneCell'=true:=by
  intro v hv;rw[←List.take_append_drop (pre.length*st) xs] at hv;rcases List.mem_append.1 hv with hv|hv
  ·exact o3 v hv
  rw[←List.take_append_drop (bJ row*st) (xs.drop (pre.length*st))] at hv;rcases List.mem_append.1 hv with hv|hv
  ·exact ((aY _ _ _ _ _ _).1 a5).one v hv
  have:post.length*st=((xs.drop (pre.length*st)).drop (bJ row*st)).length:=by
   rw[List.length_drop,List.length_drop,hlen];unfold lK;rw[Nat.add_mul,Nat.add_mul];omega
  exact p3 v (by rw[this,List.take_length];exact hv)
 obtain⟨aV,hbx⟩:∃aV,aV=av.arr e ver st (aS st (lK pre row post) xs):=⟨_,rfl⟩;rw[←hbx];have oF:lk ((b,aV)::s.hp) b=some aV:=by rw[aj,if_pos rfl]
 have nN:∀b',b'≠b→lk ((b,aV)::s.hp) b'=lk s.hp b':=fun b' h=>by rw[aj,if_neg (fun e=>h e.symm)]
 have ow:∀b' r,ax R b' r (lk ((b,aV)::s.hp) b')→ax R b' r (lk s.hp b')∧¬nY R b r:=by
  intro b' r h;by_cases e1:b'=b
  ·subst e1;rw[oF,hbx] at h;simp only[ax] at h;refine⟨by rw[hb];exact .inl h,fun⟨v,hv,hr⟩=>a7.2 v r hv hr h.1 h.2⟩
  rw[nN b' e1] at h;refine⟨h,fun hp=>e1 ?_⟩;exact g.inj b' b r h (by rw[hb];exact .inr hp)
 have Y0:∀b' r,ax R b' r (lk s.hp b')→ax R b' r (lk ((b,aV)::s.hp) b')∨nY R b r:=by
  intro b' r h;by_cases e1:b'=b
  ·subst e1;rw[hb] at h;rw[oF,hbx];rcases h with h|h
   ·exact .inl h
   exact .inr h
  rw[nN b' e1];exact .inl h
 have hN:∀r,aH (cF c R s w b (ni g hb) g.lo.2.2) R ((b,aV)::s.hp) r↔aH c R s.hp r:=by
  intro r;constructor
  ·rintro ((h|h)|⟨b',h⟩)
   ·exact .inl h
   ·exact .inr (p8 hb h)
   exact .inr ⟨b',(ow b' r h).1⟩
  rintro (h|⟨b',h⟩)
  ·exact .inl (.inl h)
  rcases Y0 b' r h with h|h
  ·exact .inr ⟨b',h⟩
  exact .inl (.inr h)
 have q1:∀b' off v,aI R b' off v (lk s.hp b')→aI R b' off v (lk ((b,aV)::s.hp) b'):=fun b' off v h=>by
  by_cases e1:b'=b
  ·subst e1;rw[hb] at h;exact h.elim
  rw[nN b' e1];exact h
 have hcl:(aS st (lK pre row post) xs).length=pre.length+(bJ row+post.length):=gX _ _ _;have q2:∀b' ver v,aD R b' ver v (lk s.hp b')→aD R b' ver v (lk ((b,aV)::s.hp) b'):=fun b' ver v h=>by
  by_cases e1:b'=b
  ·subst e1;rw[hb] at h;rw[oF,hbx];simp only[aD,hcl] at h ⊢;exact h
  rw[nN b' e1];exact h
 have q3:∀b' ver i off v,aK R b' ver i off v (lk s.hp b')→aK R b' ver i off v (lk ((b,aV)::s.hp) b'):=fun b' ver i off v h=>by
  by_cases e1:b'=b
  ·subst e1;rw[hb] at h;rw[oF,hbx];simp only[aK] at h ⊢;exact h
  rw[nN b' e1];exact h
 have hm:∀u x,ah (aH c R s.hp) w s.hp R u x→ah (aH (cF c R s w b (ni g hb) g.lo.2.2) R ((b,aV)::s.hp)) w ((b,aV)::s.hp) R u x:=
  fun u x h=>bF (fun r _ hr=>(hN r).1 hr) (fun _ _ _=>rfl) q1 q2 q3 u x h
 have hod:∀r,owned R ((b,aV)::s.hp) r→owned R s.hp r∧¬nY R b r:=fun r ⟨b',h⟩=>⟨⟨b',(ow b' r h).1⟩,(ow b' r h).2⟩
 refine⟨⟨?_,g.size,g.lo,?_,?_,?_,?_,?_,iZ.refl _ _,?_,?_⟩,hm⟩
 ·intro t v hv;obtain⟨x,hx,hr⟩:=g.slots t v hv;exact⟨x,hx,hm _ _ hr⟩
 ·obtain⟨Ds,h⟩:=g.marks;exact⟨Ds,h.low,h.eq,h.nodup,h.obj,fun D hD hx=>h.free D hD (hod D hx).1⟩
 ·exact⟨g.fixed.obj,fun r o hr hx=>g.fixed.free r o hr (hod r hx).1,g.fixed.nc⟩
 ·intro b' bx hl;by_cases e1:b'=b
  ·subst e1;have hl':lk ((b',aV)::s.hp) b'=some bx:=hl;rw[oF] at hl';cases hl';subst hbx;refine⟨xs,by rw[hcl];exact a2,zm (by rw[hlen];exact Nat.le_refl _) fun v hv=>hone v (List.mem_of_mem_take hv)⟩
  have hl':lk ((b,aV)::s.hp) b'=some bx:=hl;rw[nN b' e1] at hl';exact lF (fun r hr=>(hN r).1 hr) q1 q2 q3 rfl rfl rfl rfl (g.boxes b' bx hl')
 ·intro b1 b2 r h1 h2;exact g.inj b1 b2 r (ow b1 r h1).1 (ow b2 r h2).1
 ·rintro r hx (hF|hp)
  ·exact g.free r (hod r hx).1 hF
  exact (hod r hx).2 hp
 ·intro r hx;exact .inl (hod r hx)
 intro v x hk;exact hm v x (g.kept v x hk)
def jX (R:Real)(b:Nat)(hs:List (Option Value)):Real:=
 { R with cap:=fun b'=>if b'=b then ((R.cap b).1,hs) else R.cap b' }
theorem qA {R:Real}{b b':Nat}{hs:List (Option Value)}(h:b'≠b):(jX R b hs).cap b'=R.cap b':=by simp[jX,h]
theorem uh {R:Real}{b b' n:Nat}{hs:List (Option Value)}:bA (jX R b hs) b' n=bA R b' n:=by
 by_cases h:b'=b
 ·subst h;simp[bA,jX]
 simp[bA,jX,h]
theorem aR.Wx (g:aR c R s a w){b:Nat}{e:TypeId}{ver st j:Nat}{ed:TypeId}{sd:Nat}{pre post:List (Bool×List PV)}{row:List AV}(hb:lk s.hp b=some (.bR e ver st j ed sd pre row post))
  {R1:Real} {s1:AS} {a1:Act} {w1:World} (g1:aR (cF c R s w b (ni g hb) g.lo.2.2) R1 s1 a1 w1) {e1:TypeId} {kW:Nat} {OD:List (List PV)} (hb1:lk s1.hp b=some (.arr e1 kW st OD))
  {hs1 hs2:List (Option Value)} {pre' post':List (Bool×List PV)} {row':List AV} (Tw:(R.cap b).2=hs1++hs2) (hl:OD.length=lK pre' row' post') (hrl:row'.length=bJ row'*st)
  (hD:wO R b) (Wy:∀v r,some v∈(R.cap b).2→v.ownBlock=some r→R1.nil b=false→R1.blk b≠r)
  (hH:∀ys,ys.length=lK pre' row' post'*st→bf (aH (cF c R s w b (ni g hb) g.lo.2.2) R1 s1.hp) w1 st OD ys→bS (aH c R s.hp) w st j ed sd hs1 pre' ys ∧
   bq (aH (cF c R s w b (ni g hb) g.lo.2.2) R1 s1.hp) w1 s1.hp R1 row' ((ys.drop (pre'.length*st)).take (bJ row'*st))∧bS (aH c R s.hp) w st j ed sd hs2 post' ((ys.drop (pre'.length*st)).drop (bJ row'*st))) :
  aR c (jX R1 b (hs1++hs2)) (s1.app [(b,.bR e1 kW st j ed sd pre' row' post')]) a1 w1 ∧
   ∀u x,ah (aH (cF c R s w b (ni g hb) g.lo.2.2) R1 s1.hp) w1 s1.hp R1 u x→ah (aH c (jX R1 b (hs1++hs2)) ((b,.bR e1 kW st j ed sd pre' row' post')::s1.hp)) w1 ((b,.bR e1 kW st j ed sd pre' row' post')::s1.hp) (jX R1 b (hs1++hs2)) u x:=by
 obtain⟨C,hC⟩:∃C,C=cF c R s w b (ni g hb) g.lo.2.2:=⟨_,rfl⟩;have UY:∀r,C.F r↔c.F r∨nY R b r:=fun r=>by rw[hC];exact Iff.rfl
 have Wz:∀r,C.O r↔owned R s.hp r∧¬nY R b r:=fun r=>by rw[hC];exact Iff.rfl
 have Y1:C.w=w:=by rw[hC];rfl
 have hCK:C.K=c.K:=by rw[hC];rfl
 have WA:C.fix=c.fix:=by rw[hC];rfl
 have WB:C.lo=c.lo:=by rw[hC];rfl
 have hCn:C.n=c.n:=by rw[hC];rfl
 have Y2:C.n0=c.n0:=by rw[hC];rfl
 rw[←hC] at g1 hH ⊢;obtain⟨R2,J3⟩:∃R2,R2=jX R1 b (hs1++hs2):=⟨_,rfl⟩;rw[←J3];have FM:∀r,nY R2 b r↔nY R b r:=fun r=>by subst J3;unfold nY;rw[Tw];simp[jX]
 have hRb:R2.blk=R1.blk∧R2.nil=R1.nil∧R2.Y=R1.Y:=by subst J3;exact⟨rfl,rfl,rfl⟩
 have R4:∀b',b'≠b→R2.cap b'=R1.cap b':=fun b' h=>by subst J3;exact qA h
 have hsl:∀b' n,bA R2 b' n=bA R1 b' n:=fun b' n=>by subst J3;exact uh
 have hcap:(R2.cap b).2=hs1++hs2:=by subst J3;simp[jX]
 obtain⟨aV,hbx⟩:∃aV,aV=av.bR e1 kW st j ed sd pre' row' post':=⟨_,rfl⟩;rw[←hbx];have oF:lk ((b,aV)::s1.hp) b=some aV:=by rw[aj,if_pos rfl]
 have nN:∀b',b'≠b→lk ((b,aV)::s1.hp) b'=lk s1.hp b':=fun b' h=>by rw[aj,if_neg (fun e=>h e.symm)]
 have oc:∀b' r o,b'≠b→(ax R2 b' r o↔ax R1 b' r o):=by
  intro b' r o hne;cases o with
  |none=>exact Iff.rfl
  |some o=>cases o<;>simp only[ax,hRb.1,hRb.2.1,hRb.2.2,R4 b' hne]
 have ow:∀b' r,ax R2 b' r (lk ((b,aV)::s1.hp) b')→ax R1 b' r (lk s1.hp b')∨(b'=b∧nY R b r):=by
  intro b' r h;by_cases e1:b'=b
  ·subst e1;rw[oF,hbx] at h;rcases h with h|h
   ·rw[hb1];rw[hRb.1,hRb.2.1] at h;exact .inl h
   exact .inr ⟨rfl,(FM r).1 h⟩
  rw[nN b' e1] at h;exact .inl ((oc b' r _ e1).1 h)
 have Y0:∀b' r,ax R1 b' r (lk s1.hp b')→ax R2 b' r (lk ((b,aV)::s1.hp) b'):=by
  intro b' r h;by_cases e1:b'=b
  ·subst e1;rw[hb1] at h;rw[oF,hbx];exact .inl (by rw[hRb.1,hRb.2.1];exact h)
  rw[nN b' e1];exact (oc b' r _ e1).2 h
 have ow3:∀r,nY R b r→ax R2 b r (lk ((b,aV)::s1.hp) b):=fun r h=>by rw[oF,hbx];exact .inr ((FM r).2 h)
 have hN:∀r,aH c R2 ((b,aV)::s1.hp) r↔aH C R1 s1.hp r:=by
  intro r;constructor
  ·rintro (h|⟨b',h⟩)
   ·exact .inl ((UY r).2 (.inl h))
   rcases ow b' r h with h|⟨_,h⟩
   ·exact .inr ⟨b',h⟩
   exact .inl ((UY r).2 (.inr h))
  rintro (h|⟨b',h⟩)
  ·rcases (UY r).1 h with h|h
   ·exact .inl h
   exact .inr ⟨b,ow3 r h⟩
  exact .inr ⟨b',Y0 b' r h⟩
 have q1:∀b' off v,aI R1 b' off v (lk s1.hp b')→aI R2 b' off v (lk ((b,aV)::s1.hp) b'):=fun b' off v h=>by
  by_cases e1:b'=b
  ·subst e1;rw[hb1] at h;exact h.elim
  rw[nN b' e1];exact eP ⟨by rw[hRb.1],by rw[hRb.2.1],R4 b' e1⟩ h
 have q2:∀b' ver v,aD R1 b' ver v (lk s1.hp b')→aD R2 b' ver v (lk ((b,aV)::s1.hp) b'):=fun b' ver v h=>by
  by_cases e1:b'=b
  ·subst e1;rw[hb1] at h;rw[oF,hbx];simp only[aD,hsl,hl] at h ⊢;exact h
  rw[nN b' e1];exact fM ⟨by rw[hRb.1],by rw[hRb.2.1],R4 b' e1⟩ h
 have q3:∀b' ver i off v,aK R1 b' ver i off v (lk s1.hp b')→aK R2 b' ver i off v (lk ((b,aV)::s1.hp) b'):=fun b' ver i off v h=>by
  by_cases e1:b'=b
  ·subst e1;rw[hb1] at h;rw[oF,hbx];simp only[aK,hRb.1,hRb.2.1] at h ⊢;exact h
  rw[nN b' e1];exact fO ⟨by rw[hRb.1],by rw[hRb.2.1],R4 b' e1⟩ h
 have hm:∀u x,ah (aH C R1 s1.hp) w1 s1.hp R1 u x→ah (aH c R2 ((b,aV)::s1.hp)) w1 ((b,aV)::s1.hp) R2 u x:=
  fun u x h=>bF (fun r _ hr=>(hN r).1 hr) (fun _ _ _=>rfl) q1 q2 q3 u x h
 have hev:=g1.gq;rw[Y1] at hev;have hpw:∀r,nY R b r→w1.heap[r]? = w.heap[r]? :=fun r h=>by
  obtain⟨cur,hc⟩:=rT g hb h;exact hev.keep r (size_of_getElem? hc) fun hO=>((Wz r).1 hO).2 h
 have hod:∀r,owned R2 ((b,aV)::s1.hp) r→owned R1 s1.hp r∨nY R b r:=fun r ⟨b',h⟩=>(ow b' r h).imp (fun h=>⟨b',h⟩) (·.2)
 have hnp:∀r,owned R1 s1.hp r→¬nY R b r:=fun r h hp=>g1.free r h ((UY r).2 (.inr hp))
 have hNw:∀r,r<w.heap.size→aH c R2 ((b,aV)::s1.hp) r→aH c R s.hp r:=by
  intro r hr h;rcases (hN r).1 h with h|h
  ·rcases (UY r).1 h with h|h
   ·exact .inl h
   exact .inr (p8 hb h)
  rcases g1.eG r h with h|h
  ·exact .inr ((Wz r).1 h).1
  rw[Y1] at h;omega
 have hww:∀r,r<w.heap.size→¬aH c R s.hp r→w1.heap[r]? = w.heap[r]? :=fun r hr hn=>hev.keep r hr fun hO=>hn (.inr ((Wz r).1 hO).1)
 refine⟨⟨?_,by rw[←hCn];exact g1.size,?_,?_,?_,?_,?_,?_,?_,?_,?_⟩,hm⟩
 ·intro t v hv;obtain⟨x,hx,hr⟩:=g1.slots t v hv;exact⟨x,hx,hm _ _ hr⟩
 ·rw[hRb.2.2,←Y2,←WB];exact g1.lo
 ·obtain⟨Ds,h⟩:=g1.marks;rw[WB] at h;refine⟨Ds,h.low,h.eq,h.nodup,h.obj,fun D hD hx=>?_⟩;rcases hod D hx with hx|hx
  ·exact h.free D hD hx
  obtain⟨cur,hc⟩:=rT g hb hx;have:=h.obj D hD;rw[hpw D hx,hc] at this;cases this
 ·have SH:=g1.fixed;rw[WA] at SH;refine⟨SH.obj,fun r o hr hx=>?_,SH.nc⟩;rcases hod r hx with hx|hx
  ·exact SH.free r o hr hx
  exact g.fixed.free r o hr (p8 hb hx)
 ·intro b' bx hlk;have hlk:lk ((b,aV)::s1.hp) b'=some bx:=hlk;by_cases e1:b'=b
  ·subst e1;rw[oF] at hlk;cases hlk;subst hbx;obtain⟨ys,k1,k2⟩:=g1.boxes b' _ hb1;rw[hl] at k1;obtain⟨m1,m2,m3⟩:=hH ys k1.1 k2;have hkb:∀v,some v∈hs1++hs2→∀k,v.ownBlock=some k→w1.heap[k]? = w.heap[k]? :=fun v hv k hk=>hpw k ⟨v,by rw[Tw];exact hv,hk⟩
   refine⟨ys,hs1,hs2,hcap,by rw[hsl];exact k1,ic hNw hww (fun v hv k hk=>hkb v (by simp[hv]) k hk) m1,hrl,?_,ic hNw hww (fun v hv k hk=>hkb v (by simp[hv]) k hk) m3,?_⟩
   ·exact bg (fun r _ hr=>(hN r).1 hr) (fun _ _ _=>rfl) q1 q2 q3 _ _ m2
   unfold wO at hD ⊢;rw[hcap,hRb.1,hRb.2.1,←Tw];exact⟨hD.1,Wy⟩
  rw[nN b' e1] at hlk;exact lF (fun r hr=>(hN r).1 hr) q1 q2 q3 hRb.2.2 (by rw[hRb.1]) (by rw[hRb.2.1]) (R4 b' e1) (g1.boxes b' bx hlk)
 ·intro b1 b2 r h1 h2;rcases ow b1 r h1 with k1|⟨e1,k1⟩<;>rcases ow b2 r h2 with k2|⟨e2,k2⟩
  ·exact g1.inj b1 b2 r k1 k2
  ·exact absurd k2 (hnp r ⟨b1,k1⟩)
  ·exact absurd k1 (hnp r ⟨b2,k2⟩)
  rw[e1,e2]
 ·intro r hx hF;rcases hod r hx with hx|hx
  ·exact g1.free r hx ((UY r).2 (.inl hF))
  exact g.free r (p8 hb hx) hF
 ·refine g.gq.trans hev fun r hr hO=>?_
  exact (g.eG r ((Wz r).1 hO).1).resolve_right (by omega)
 ·intro r hx;rcases hod r hx with hx|hx
  ·rcases g1.eG r hx with h|h
   ·exact g.eG r ((Wz r).1 h).1
   rw[Y1] at h;exact .inr (Nat.le_trans g.gq.size h)
  exact g.eG r (p8 hb hx)
 intro v x hk;exact hm v x (g1.kept v x (by rw[hCK];exact hk))
end
theorem zn (st:Nat):∀(n m:Nat) (xs:List Value),aS st (n+m) xs=aS st n xs++aS st m (xs.drop (n*st))
 |0,m,xs=>by simp[aS]
 | n+1,m,xs=>by
   rw[show n+1+m=(n+m)+1 by omega];simp only[aS,List.cons_append,zn st n m,List.drop_drop];rw[show st+n*st=(n+1)*st by rw[Nat.succ_mul];omega]
section
variable {c:Ctx}{R:Real}{s:AS}{a:Act}{w:World}
theorem aR.Ub (g:aR c R s a w){b:Nat}{e:TypeId}{ver st j:Nat}{ed:TypeId}{sd:Nat}{pre post:List (Bool×List PV)}{r0:AV}{rr:List AV}(hb:lk s.hp b=some (.bR e ver st j ed sd pre (r0::rr) post)) :
  ∃(xs zs:List Value) (hs1 hs2:List (Option Value)),(R.cap b).2=hs1++hs2∧pre.length*st≤xs.length∧post.length*st≤zs.length∧bS (aH c R s.hp) w st j ed sd hs1 pre xs∧(r0::rr).length=st ∧
   bS (aH c R s.hp) w st j ed sd hs2 post zs∧wO R b ∧
   aR (cF c R s w b (ni g hb) g.lo.2.2) R (s.app [(b,.dL e ver st (aS st pre.length xs) (r0::rr) (aS st post.length zs))]) a w ∧
   (∀u x,ah (aH c R s.hp) w s.hp R u x→ah (aH (cF c R s w b (ni g hb) g.lo.2.2) R ((b,.dL e ver st (aS st pre.length xs) (r0::rr) (aS st post.length zs))::s.hp)) w ((b,.dL e ver st (aS st pre.length xs) (r0::rr) (aS st post.length zs))::s.hp) R u x):=by
 obtain⟨xs,hs1,hs2,a1,hlen,a3,a4,a5,a6,a7,g1,m1⟩:=g.Dk hb;simp only[bJ,Nat.one_mul] at a4 a5 a6;have hn:lK pre (r0::rr) post=pre.length+(post.length+1):=by simp only[lK,bJ];omega
 have hch:aS st (lK pre (r0::rr) post) xs=aS st pre.length xs++dG ((xs.drop (pre.length*st)).take st)::aS st post.length ((xs.drop (pre.length*st)).drop st):=by
  rw[hn,zn];rfl
 rw[hch] at g1 m1;obtain⟨o1,o2,o3⟩:=pY a3;obtain⟨p1,p2,p3⟩:=pY a6;have hb1:lk (s.app [(b,.arr e ver st (aS st pre.length xs++dG ((xs.drop (pre.length*st)).take st)::aS st post.length ((xs.drop (pre.length*st)).drop st)))]).hp b=some (.arr e ver st (aS st pre.length xs++dG ((xs.drop (pre.length*st)).take st)::aS st post.length ((xs.drop (pre.length*st)).drop st))):=by
  simp only[AS.app,List.singleton_append,aj,if_true]
 have hrow:=m1 (.agg (r0::rr)) (.agg ((xs.drop (pre.length*st)).take st).toArray) (by simp only[ah];exact⟨_,rfl,by simpa using a5⟩);simp only[ah] at hrow;obtain⟨us,e1,hrow⟩:=hrow;cases e1;obtain⟨g2,m2⟩:=aR.BL (row:=r0::rr) g1 hb1 hrow;have hc:∀k,lk ((b,av.dL e ver st (aS st pre.length xs) (r0::rr) (aS st post.length ((xs.drop (pre.length*st)).drop st)))::s.hp) k =
   lk ((b,av.dL e ver st (aS st pre.length xs) (r0::rr) (aS st post.length ((xs.drop (pre.length*st)).drop st)))::(s.app [(b,.arr e ver st (aS st pre.length xs++dG ((xs.drop (pre.length*st)).take st)::aS st post.length ((xs.drop (pre.length*st)).drop st)))]).hp) k:=by
  intro k;simp only[AS.app,List.singleton_append,aj];split<;>rfl
 exact⟨xs,(xs.drop (pre.length*st)).drop st,hs1,hs2,a1,o2,p2,a3,a4,a6,a7,aR.congr g2 (fun _=>rfl) hc,fun u x h=>jI hc (m2 u x (m1 u x h))⟩
theorem aR.OE (g:aR c R s a w){b:Nat}{e:TypeId}{ver st j:Nat}{ed:TypeId}{sd:Nat}{pre post:List (Bool×List PV)}{row:List AV}(hb:lk s.hp b=some (.bR e ver st j ed sd pre row post))
  {R1:Real} {s1:AS} {a1:Act} {w1:World} (g1:aR (cF c R s w b (ni g hb) g.lo.2.2) R1 s1 a1 w1) {e1:TypeId} {kW:Nat} {pre' post':List (Bool×List PV)} {r0:AV} {rr:List AV} {xs zs:List Value}
  (hb1:lk s1.hp b=some (.dL e1 kW st (aS st pre'.length xs) (r0::rr) (aS st post'.length zs)))
  {hs1 hs2:List (Option Value)} (Tw:(R.cap b).2=hs1++hs2) (hD:wO R b) (Wy:∀v r,some v∈(R.cap b).2→v.ownBlock=some r→R1.nil b=false→R1.blk b≠r)
  (hx:pre'.length*st≤xs.length) (hz:post'.length*st≤zs.length) (h1:bS (aH c R s.hp) w st j ed sd hs1 pre' xs) (h2:bS (aH c R s.hp) w st j ed sd hs2 post' zs) :
  aR c (jX R1 b (hs1++hs2)) (s1.app [(b,.bR e1 kW st j ed sd pre' (r0::rr) post')]) a1 w1 ∧
   ∀u x,ah (aH (cF c R s w b (ni g hb) g.lo.2.2) R1 s1.hp) w1 s1.hp R1 u x→ah (aH c (jX R1 b (hs1++hs2)) ((b,.bR e1 kW st j ed sd pre' (r0::rr) post')::s1.hp)) w1 ((b,.bR e1 kW st j ed sd pre' (r0::rr) post')::s1.hp) (jX R1 b (hs1++hs2)) u x:=by
 have hst:(r0::rr).length=st:=(g1.boxes b _ hb1).choose_spec.2.2.1;obtain⟨vs,hrow,hvl,g2,m2⟩:=g1.nW hb1;have hb2:lk (s1.app [(b,.arr e1 kW st (aS st pre'.length xs++dG vs::aS st post'.length zs))]).hp b=some (.arr e1 kW st (aS st pre'.length xs++dG vs::aS st post'.length zs)):=by
  simp only[AS.app,List.singleton_append,aj,if_true]
 have hrow2:=m2 (.agg (r0::rr)) (.agg vs.toArray) (by simp only[ah];exact⟨_,rfl,by simpa using hrow⟩);simp only[ah] at hrow2;obtain⟨us,e2,hrow2⟩:=hrow2;cases e2;obtain⟨g3,m3⟩:=aR.Wx g hb g2 hb2 (hs1:=hs1) (hs2:=hs2) (pre':=pre') (post':=post') (row':=r0::rr) Tw (by simp only[List.length_append,List.length_cons,gX,lK,bJ];omega) (by simpa[bJ] using hst) hD Wy (by
  intro ys hys hr;obtain⟨b1,b2,b3,b4⟩:=tV hr;rw[gX] at b3 b4;obtain⟨r,hr'⟩:=za _ _ b3;refine⟨ug h1 (vg hx b1),?_,ug h2 (by simp only[bJ,Nat.one_mul];exact vg hz b4)⟩;rw[hr'];simp only[bJ,Nat.one_mul];rw[show (vs++r).take st=vs by rw[←hvl];exact List.take_left];exact hrow2)
 have hc:∀k,lk ((b,av.bR e1 kW st j ed sd pre' (r0::rr) post')::s1.hp) k=lk ((b,av.bR e1 kW st j ed sd pre' (r0::rr) post')::(s1.app [(b,.arr e1 kW st (aS st pre'.length xs++dG vs::aS st post'.length zs))]).hp) k:=by
  intro k;simp only[AS.app,List.singleton_append,aj];split<;>rfl
 exact⟨aR.congr g3 (fun _=>rfl) hc,fun u x h=>jI hc (m3 u x (m2 u x h))⟩
end
def q9 (T:Tab)(H:List (Nat×av))(t:TypeId)(x:AV)(K:AV→Prop):Prop:=
 match x with
 | .cB b ver k off=>match lk H b with
   | some (.bR e v st j ed sd pre row post)=>match lk T t with
     | some i=>match Nat.beq ver v,Nat.beq i.size 0 with
       | true,false=>match part off i.size row with
         |some cs=>k=pre.length∧nL i cs K
         |none=>False
       |_,_=>False
     |none=>False
   |_=>pu T H t (.cB b ver k off) K
 |x=>pu T H t x K
def nH (T:Tab)(H:List (Nat×av))(t:TypeId)(x y:AV)(K:AV→List (Nat×av)→Prop):Prop:=
 match x with
 | .cB b ver k off=>match lk H b with
   | some (.bR e v st j ed sd pre row post)=>match lk T t with
     | some i=>match Nat.beq ver v with
       | true=>match cellsOf i y with
         | some cs=>match Nat.beq cs.length i.size with
           | true=>match gZ off row cs with
             |some (r0::rr)=>k=pre.length∧K (.pv (.sc undef)) [(b,.bR e v st j ed sd pre (r0::rr) post)]
             |_=>False
           |false=>False
         |none=>False
       |false=>False
     |none=>False
   |_=>jH T H t (.cB b ver k off) y K
 |x=>jH T H t x y K
def H7 (T:Tab)(H:List (Nat×av))(t:TypeId)(x ix:AV)(K:AV→Prop):Prop:=
 match x with
 | .aG b ver=>match lk H b with
   | some (.bR e v st j ed sd pre row post)=>match ix with
     | .pv (.sc (.int _ i))=>match lk T t with
       | some ti=>match ti.d with
         | .slt e=>match lk T e with
           | some ei=>match Nat.beq ver v,Nat.beq st ei.size with
             |true,true=>0≤i∧i.toNat<pre.length+(bJ row+post.length)∧K (.cB b ver i.toNat 0)
             |_,_=>False
           |none=>False
         |_=>False
       |none=>False
     |_=>False
   |_=>Ez T H t (.aG b ver) ix K
 |x=>Ez T H t x ix K
def yx (T:Tab)(H:List (Nat×av))(t:TypeId)(x:AV)(K:AV→Prop):Prop:=
 match x with
 | .aG b ver=>match lk H b with
   | some (.bR e v st j ed sd pre row post)=>match lk T t with
     | some i=>match i.d with
       | .slt _=>match Nat.beq ver v with
         |true=>K (.pv (.sc (.int .i64 (pre.length+(bJ row+post.length):Nat))))
         |false=>False
       |_=>False
     |none=>False
   |_=>vM T H t (.aG b ver) K
 |x=>vM T H t x K
section
variable {P:Program}{T:Tab}{c:Ctx}{R:Real}{s:AS}{a:Act}{w:World}
theorem Lx {α:Type}{off:Nat}{row cs:List α}{x:List α}(h:gZ off row cs=some x):x.length=row.length:=by
 induction off generalizing row x with
 | zero=>
   cases row with
   | nil=>
     cases cs with
     |nil=>simp[gZ,iA] at h;simp[←h]
     |cons c cs=>simp[gZ,iA] at h
   | cons r row=>
     simp only[gZ] at h;have:∀(cs row x:List α),iA row cs=some x→x.length=row.length:=by
      intro cs;induction cs with
      |nil=>intro row x h;cases row<;>simp[iA] at h<;>simp[←h]
      | cons c cs ih=>
        intro row x h;cases row with
        |nil=>simp[iA] at h
        | cons r row=>
          simp only[iA] at h;split at h
          ·rename_i t ht;simp only[Option.some.injEq] at h;subst h;simp[ih _ _ ht]
          cases h
     exact this _ _ _ h
 | succ off ih=>
   cases row with
   |nil=>simp[gZ] at h
   | cons r row=>
     simp only[gZ] at h;split at h
     ·rename_i t ht;simp only[Option.some.injEq] at h;subst h;simp[ih ht]
     cases h
theorem Cq (g:aR c R s a w)(hT:bC P T){H:List (Nat×av)}(hH:∀b box,lk H b=some box→lk s.hp b=some box){t:TypeId}{x:AV}{K:AV→Prop}
  (h:q9 T H t x K) {u:Value} (hx:ah (aH c R s.hp) w s.hp R x u) :
  ∃y v,(Instr.loadAt t u).run P w=.ok y w∧K v∧ah (aH c R s.hp) w s.hp R v y:=by
 unfold q9 at h;split at h
 ·rename_i b ver k off;split at h
  ·rename_i e v st j ed sd pre row post hb;have hb':=hH _ _ hb;split at h;rotate_left;cases h
   rename_i i hi;have hi':=hT t i hi;split at h;rotate_left;cases h
   rename_i dD hsz0;split at h;rotate_left;cases h
   rename_i cs hcs;obtain⟨rfl,h⟩:=h;simp only[ah,hb',aK] at hx;obtain⟨hn,rfl⟩:=hx.2.2 (Nat.eq_of_beq_eq_true dD);cases hrw:row with
   | nil=>
     rw[hrw] at hcs;have:=Nat.ne_of_beq_eq_false hsz0;exfalso;have hz:=(FP.part (R:=fun _ _=>True) (m:=[]) (by simp only[FP]) hcs).1;simp only[List.length_nil] at hz;omega
   | cons r0 rr=>
     obtain⟨xs,hs1,hs2,a1,a2,a3,a4,a5,a6,a7⟩:=g.boxes b _ hb';have hO:bJ row=1:=by rw[hrw];rfl
     simp only[hO,Nat.one_mul] at a2 a4 a5 a6;have hrow:=(aY _ _ _ _ _ _).1 a5;obtain⟨h1,h2⟩:=hrow.fp.part hcs;obtain⟨q1,q2⟩:=a2;rcases q2 with ⟨q2,q3⟩|⟨g',cap,cur,e1,_,hg,hle,hm,hs,ht⟩
     ·omega
     simp only[bA,hn,Bool.false_eq_true,if_false,Value.slice.injEq,Option.some.injEq,Addr.mk.injEq] at e1;obtain⟨⟨eb,_⟩,_,_⟩:=e1;rw[←eb] at hg;rw[List.length_take] at h1;have hcl:cur.size=cur.toList.length:=Array.length_toList.symm;have hle2:(pre.length+(1+post.length))*st≤cur.size:=by rw[hs];exact Nat.mul_le_mul_right _ hle
     have hmul:(pre.length+(1+post.length))*st=pre.length*st+(st+post.length*st):=by rw[Nat.add_mul,Nat.add_mul,Nat.one_mul]
     have hdd:(cur.toList.drop (pre.length*st+off)).take i.size=(((xs.drop (pre.length*st)).take st).drop off).take i.size:=by
      rw[←ht,hmul];simp only[List.drop_take,List.take_take,List.drop_drop];congr 1
      omega
     have hz:pre.length*st+off+i.size≤cur.size:=by omega
     obtain⟨y,z,k1,k2,k3⟩:=wu i hi' hg hz (by rw[hdd];exact h2) h;exact⟨y,z,by simpa[Instr.loadAt,Instr.sureAddr] using k1,k2,k3⟩
  exact tY g hT hH h hx
 exact tY g hT hH h hx
theorem zZ (g:aR c R s a w)(hT:bC P T){H:List (Nat×av)}(hH:∀b box,lk H b=some box→lk s.hp b=some box){t:TypeId}{x y:AV}
  {K:AV→List (Nat×av)→Prop} (h:nH T H t x y K) {u v:Value} (hx:ah (aH c R s.hp) w s.hp R x u) (hy:ah (aH c R s.hp) w s.hp R y v) :
  ∃w' R' ws,(Instr.storeAt t u v).run P w=.ok () w'∧K (.pv (.sc undef)) ws∧aR c R' (s.app ws) a w':=by
 unfold nH at h;split at h
 ·rename_i b ver k off;split at h
  ·rename_i e vr st j ed sd pre row post hb;have hb':=hH _ _ hb;split at h;rotate_left;cases h
   rename_i i hi;split at h;rotate_left;cases h
   rename_i dD;split at h;rotate_left;cases h
   rename_i cs hcs;split at h;rotate_left;cases h
   rename_i hlen;split at h;rotate_left;cases h
   rename_i r0 rr hset;obtain⟨rfl,hK⟩:=h;have hrl:=Lx hset;cases row with
   |nil=>simp at hrl
   | cons q0 qq=>
     obtain⟨xs,zs,hs1,hs2,a1,a2,a3,a4,a5,a6,a7,g1,m1⟩:=g.Ub hb';have hb1:lk (s.app [(b,.dL e vr st (aS st pre.length xs) (q0::qq) (aS st post.length zs))]).hp b=some (.dL e vr st (aS st pre.length xs) (q0::qq) (aS st post.length zs)):=by
      simp only[AS.app,List.singleton_append,aj,if_true]
     have hst:jH T (s.app [(b,.dL e vr st (aS st pre.length xs) (q0::qq) (aS st post.length zs))]).hp t (.cB b ver pre.length off) y
       (fun z ws=>ws=[(b,.dL e vr st (aS st pre.length xs) (r0::rr) (aS st post.length zs))]):=by
      unfold jH;simp only[hi,hb1,dD,hcs,hlen,hset];exact⟨(gX _ _ _).symm,trivial⟩
     obtain⟨w',ws,hrun,rfl,g2⟩:=mh g1 hT (fun _ _ h=>h) hst (u:=u) (v:=v) (m1 _ _ hx) (m1 _ _ hy);have hb2:lk ([(b,av.dL e vr st (aS st pre.length xs) (r0::rr) (aS st post.length zs))]++(s.app [(b,.dL e vr st (aS st pre.length xs) (q0::qq) (aS st post.length zs))]).hp) b=some (.dL e vr st (aS st pre.length xs) (r0::rr) (aS st post.length zs)):=by
      rw[List.singleton_append,aj,if_pos rfl]
     obtain⟨g3,_⟩:=aR.OE g hb' g2 (e1:=e) (kW:=vr) (pre':=pre) (post':=post) hb2 a1 a7 a7.2 a2 a3 a4 a6;refine⟨w',_,_,hrun,hK,aR.congr g3 (fun _=>rfl) fun k=>?_⟩;simp only[AS.app,List.singleton_append,aj];split<;>rfl
  obtain⟨w',ws,h1,h2,h3⟩:=mh g hT hH h hx hy;exact⟨w',R,ws,h1,h2,h3⟩
 obtain⟨w',ws,h1,h2,h3⟩:=mh g hT hH h hx hy;exact⟨w',R,ws,h1,h2,h3⟩
theorem IE (g:aR c R s a w)(hT:bC P T){H:List (Nat×av)}(hH:∀b box,lk H b=some box→lk s.hp b=some box){t:TypeId}{x ix:AV}{K:AV→Prop}
  (h:H7 T H t x ix K) {u v:Value} (hx:ah (aH c R s.hp) w s.hp R x u) (hv:ah (aH c R s.hp) w s.hp R ix v) :
  ∃y z,(Instr.indexAt t u v).run P w=.ok y w∧K z∧ah (aH c R s.hp) w s.hp R z y:=by
 unfold H7 at h;split at h
 ·rename_i b ver;split at h
  ·rename_i e vr st j ed sd pre row post hb;have hb':=hH _ _ hb;split at h;rotate_left;cases h
   rename_i kk i;split at h;rotate_left;cases h
   rename_i ti Gv;split at h;rotate_left;cases h
   rename_i e2 hte;split at h;rotate_left;cases h
   rename_i ei lJ;split at h;rotate_left;cases h
   rename_i h1 h2;obtain⟨h0,hlt,hK⟩:=h;obtain⟨xs,hs1,hs2,a1,hlen,a3,a4,a5,a6,a7,g1,m1⟩:=g.Dk hb';have oz:lk (s.app [(b,.arr e vr st (aS st (lK pre row post) xs))]).hp b=some (.arr e vr st (aS st (lK pre row post) xs)):=by
    simp only[AS.app,List.singleton_append,aj,if_true]
   have hi:cK T (s.app [(b,.arr e vr st (aS st (lK pre row post) xs))]).hp t (.aG b ver) (.pv (.sc (.int kk i))) (fun z=>z=.cB b ver i.toNat 0):=by
    unfold cK;simp only[Gv,hte,lJ,oz,h1,h2];exact⟨h0,by rw[gX];exact hlt,trivial⟩
   obtain⟨y,z,hrun,rfl,hz⟩:=ig g1 hT (fun _ _ h=>h) hi (m1 _ _ hx) (m1 _ _ hv);refine⟨y,_,hrun,hK,?_⟩;simp only[ah,oz,aK] at hz;simp only[ah,hb',aK];exact hz
  exact ze g hT hH h hx hv
 exact ze g hT hH h hx hv
theorem Fw (g:aR c R s a w)(hT:bC P T){H:List (Nat×av)}(hH:∀b box,lk H b=some box→lk s.hp b=some box){t ty:TypeId}{x:AV}{K:AV→Prop}
  (h:yx T H t x K) {u:Value} (hx:ah (aH c R s.hp) w s.hp R x u) :
  ∃y z,(Builtin.len_ #[t] ty #[u]).run P w=.ok y w∧K z∧ah (aH c R s.hp) w s.hp R z y:=by
 unfold yx at h;split at h
 ·rename_i b ver;split at h
  ·rename_i e vr st j ed sd pre row post hb;have hb':=hH _ _ hb;split at h;rotate_left;cases h
   rename_i i hi;split at h;rotate_left;cases h
   rename_i e2 hte;split at h;rotate_left;cases h
   rename_i h1;obtain⟨xs,hs1,hs2,a1,hlen,a3,a4,a5,a6,a7,g1,m1⟩:=g.Dk hb';have oz:lk (s.app [(b,.arr e vr st (aS st (lK pre row post) xs))]).hp b=some (.arr e vr st (aS st (lK pre row post) xs)):=by
    simp only[AS.app,List.singleton_append,aj,if_true]
   have hi:yu T (s.app [(b,.arr e vr st (aS st (lK pre row post) xs))]).hp t (.aG b ver) (fun z=>z=.pv (.sc (.int .i64 (pre.length+(bJ row+post.length):Nat)))):=by
    unfold yu;simp only[hi,hte,vw,oz,oJ,h1,gX];rfl
   obtain⟨y,z,hrun,rfl,hz⟩:=nT (ty:=ty) g1 hT (fun _ _ h=>h) hi (m1 _ _ hx);refine⟨y,_,hrun,h,?_⟩;simp only[ah,aU] at hz ⊢;exact hz
  exact wB g hT hH h hx
 exact wB g hT hH h hx
end
def A8 (T:Tab)(H:List (Nat×av))(t:TypeId)(b ver k kv:Nat)(K:AV→List (Nat×av)→Prop):Prop:=
 match lk H k with
 | some (.dL e0 v0 Gx [] (r0::rr) [])=>match Nat.beq kv v0 with
   | true=>match lk T t with
     | some i=>match i.d with
       | .slt e=>match lk T e with
         | some ei=>Rk ei fun lM DZ=>match Nat.beq DZ 0,Nat.beq lM 0,Nat.beq Gx lM with
           | false,false,true=>match Nat.beq b k with
             |true=>False
             | false=>match lk H b with
               | some (.bR e' v st j ed sd pre [] [])=>match Nat.beq ver v,Nat.beq st lM,Nat.beq e' e with
                 |true,true,true=>(pre.length+1)*DZ≤140737488355328∧K (.aG b (v+1)) [(b,.bR e (v+1) lM j ed sd pre (r0::rr) [])]
                 |_,_,_=>False
               |_=>False
           |_,_,_=>False
         |none=>False
       |_=>False
     |none=>False
   |false=>False
 |_=>False
def WC (o:Option av):Bool:=
 match o with
 |some (.bR _ _ _ _ _ _ _ _ _)=>true
 |_=>false
def vG (T:Tab)(H:List (Nat×av))(t:TypeId)(vs:List AV)(id:Nat)(K:AV→List (Nat×av)→Prop):Prop:=
 match vs with
 | [.aG b ver,.aG k kv]=>match WC (lk H b) with
   |true=>A8 T H t b ver k kv K
   |false=>qK T H t [.aG b ver,.aG k kv] id K
 |vs=>qK T H t vs id K
section
variable {P:Program}{T:Tab}{c:Ctx}{R:Real}{s:AS}{a:Act}{w:World}
theorem FN (g:aR c R s a w)(hT:bC P T){H:List (Nat×av)}(hH:∀b box,lk H b=some box→lk s.hp b=some box){id:Nat}(hf:lk s.hp id=none)
  {t ty:TypeId} {b ver k kv:Nat} {K:AV→List (Nat×av)→Prop} (h:A8 T H t b ver k kv K) {u v:Value} (hd:ah (aH c R s.hp) w s.hp R (.aG b ver) u) (hx:ah (aH c R s.hp) w s.hp R (.aG k kv) v) :
  ∃y w' R' z ws,(Builtin.append_ #[t,t] ty #[u,v]).run P w=.ok y w'∧K z ws∧aR c R' (s.app ws) a w'∧ah (aH c R' (ws++s.hp)) w' (ws++s.hp) R' z y:=by
 unfold A8 at h;simp only[bW] at h;split at h;rotate_left;cases h
 rename_i e0 v0 Gx r0 rr hk;have hk':=hH _ _ hk;split at h;rotate_left;cases h
 rename_i hkv;split at h;rotate_left;cases h
 rename_i i hi;split at h;rotate_left;cases h
 rename_i e hte;split at h;rotate_left;cases h
 rename_i ei lJ;split at h;rotate_left;cases h
 rename_i h1 h2 h3;split at h
 ·exact h.elim
 rename_i hbk;have Y3:=Nat.ne_of_beq_eq_false hbk;split at h;rotate_left;cases h
 rename_i e' vr st j ed sd pre hb;have hb':=hH _ _ hb;split at h;rotate_left;cases h
 rename_i k1 k2 k3;obtain⟨hbd,hK⟩:=h;have V8:=Nat.eq_of_beq_eq_true k2;have V9:=Nat.eq_of_beq_eq_true k3;have V7:=Nat.eq_of_beq_eq_true k1;subst V8;subst V9;subst V7;obtain⟨xs,hs1,hs2,a1,hlen,a3,a4,a5,a6,a7,g1,m1⟩:=g.Dk hb';have hn:lK pre [] []=pre.length:=by simp[lK,bJ]
 rw[hn] at g1 m1 hlen;have hb1:lk (s.app [(b,.arr e' ver ei.size (aS ei.size pre.length xs))]).hp b=some (.arr e' ver ei.size (aS ei.size pre.length xs)):=by
  simp only[AS.app,List.singleton_append,aj,if_true]
 have hk1:lk (s.app [(b,.arr e' ver ei.size (aS ei.size pre.length xs))]).hp k=some (.dL e0 v0 Gx [] (r0::rr) []):=by
  simp only[AS.app,List.singleton_append,aj,if_neg Y3];exact hk'
 have TN:id≠b:=fun e=>by rw[e,hb'] at hf;cases hf
 have IG:vN T (s.app [(b,.arr e' ver ei.size (aS ei.size pre.length xs))]).hp t (.aG b ver) k kv id (fun z ws=>z=.aG b (ver+1)∧ws=[(b,.dL e' (ver+1) ei.size (aS ei.size pre.length xs) (r0::rr) [])]):=by
  unfold vN;simp only[bW,hi,hte,lJ,h1,h2,h3,hk1,hkv,hbk,hb1,Nat.beq_refl,gX];exact⟨hbd,trivial,trivial⟩
 obtain⟨y,w',R',z,ws,hrun,⟨rfl,rfl⟩,g2,hz⟩:=wC g1 hT (fun _ _ h=>h) (by
  simp only[AS.app,List.singleton_append,aj,if_neg (show ¬b=id from fun e=>TN e.symm)];exact hf) (ty:=ty) IG (m1 _ _ hd) (m1 _ _ hx)
 have hb2:lk ([(b,av.dL e' (ver+1) ei.size (aS ei.size pre.length xs) (r0::rr) [])]++(s.app [(b,.arr e' ver ei.size (aS ei.size pre.length xs))]).hp) b=some (.dL e' (ver+1) ei.size (aS ei.size pre.length xs) (r0::rr) (aS ei.size ([]:List (Bool×List PV)).length [])):=by
  rw[List.singleton_append,aj,if_pos rfl];rfl
 have Wy:∀v r,some v∈(R.cap b).2→v.ownBlock=some r→R'.nil b=false→R'.blk b≠r:=by
  intro v r hv hr hn he;refine g2.free (R'.blk b) ⟨b,?_⟩ (.inr ⟨v,hv,by rw[he];exact hr⟩);show ax R' b (R'.blk b) (lk ([(b,av.dL e' (ver+1) ei.size (aS ei.size pre.length xs) (r0::rr) [])]++(s.app [(b,.arr e' ver ei.size (aS ei.size pre.length xs))]).hp) b)
  rw[hb2];exact⟨hn,rfl⟩
 obtain⟨g3,m3⟩:=aR.OE g hb' g2 (e1:=e') (kW:=ver+1) (pre':=pre) (post':=[]) (xs:=xs) (zs:=[]) hb2 a1 a7 Wy (by rw[hlen];exact Nat.le_refl _) (by simp) a3 (ug a6 (by simp));have hc:∀q,lk ([(b,av.bR e' (ver+1) ei.size j ed sd pre (r0::rr) [])]++s.hp) q=lk ((b,av.bR e' (ver+1) ei.size j ed sd pre (r0::rr) [])::([(b,av.dL e' (ver+1) ei.size (aS ei.size pre.length xs) (r0::rr) [])]++(s.app [(b,.arr e' ver ei.size (aS ei.size pre.length xs))]).hp)) q:=by
  intro q;simp only[AS.app,List.singleton_append,aj];split<;>rfl
 exact⟨y,w',_,_,_,hrun,hK,aR.congr g3 (fun _=>rfl) hc,jI hc (m3 _ _ hz)⟩
theorem Ei (g:aR c R s a w)(hT:bC P T){H:List (Nat×av)}(hH:∀b box,lk H b=some box→lk s.hp b=some box){id:Nat}(hf:lk s.hp id=none)
  {t ty:TypeId} {d x:AV} {K:AV→List (Nat×av)→Prop} (h:vG T H t [d,x] id K) {u v:Value} (hd:ah (aH c R s.hp) w s.hp R d u) (hx:ah (aH c R s.hp) w s.hp R x v) :
  ∃y w' R' z ws,(Builtin.append_ #[t,t] ty #[u,v]).run P w=.ok y w'∧K z ws∧aR c R' (s.app ws) a w'∧ah (aH c R' (ws++s.hp)) w' (ws++s.hp) R' z y:=by
 unfold vG at h;split at h
 ·rename_i b ver k kv e;cases e;split at h
  ·exact FN g hT hH hf h hd hx
  exact wE g hT hH hf h hd hx
 exact wE g hT hH hf h hd hx
end
def mo:List (Int×Int)→Int→Nat→Option (Nat×Int)
 |[],_,_=>none
 |(a,v)::r,n,i=>if n=a then some (i,v) else mo r n (i+1)
def Og (es:List (Int×Int))(n:Int):Int:=
 match mo es n 0 with
 |some p=>p.2
 |none=>0
def BM (es:List (Int×Int))(n v:Int):List (Int×Int):=
 match mo es n 0 with
 |some p=>es.modify p.1 fun _=>(n,v)
 |none=>es++[(n,v)]
def mZ (T:Tab)(t:TypeId):Option (IntKind×IntKind):=
 match lk T t with
 | some i=>match i.d with
   | .VB kt et=>match lk T kt,lk T et with
     | some ki,some ei=>match ki.d,ei.d with
       | .q8 kk,.q8 _=>match ei.zero with
         |[.int kv (.ofNat 0)]=>some (kk,kv)
         |_=>none
       |_,_=>none
     |_,_=>none
   |_=>none
 |none=>none
def uJ (T:Tab)(t:TypeId)(id:Nat)(K:AV→List (Nat×av)→Prop):Prop:=
 match mZ T t with
 |some (kk,kv)=>K (.cB id 0 0 0) [(id,.mp kk kv [])]
 |none=>False
def AR (T:Tab)(H:List (Nat×av))(t:TypeId)(x ix:AV)(K:AV→Prop):Prop:=
 match mZ T t with
 | some (kk,kv)=>match x with
   | .cB b _ _ _=>match lk H b with
     | some (.mp Px Nr es)=>match ix with
       |.pv (.sc (.int k n))=>k=Px∧Nr=kv∧K (.pv (.sc (.int kv (Og es n))))
       |_=>False
     |_=>False
   |_=>False
 |none=>False
def qd (T:Tab)(H:List (Nat×av))(t:TypeId)(x ix y:AV)(K:AV→List (Nat×av)→Prop):Prop:=
 match mZ T t with
 | some (kk,kv)=>match x with
   | .cB b _ _ _=>match lk H b with
     | some (.mp Px Nr es)=>match ix with
       | .pv (.sc (.int k n))=>match y with
         |.pv (.sc (.int k2 m))=>k=Px∧k2=Nr∧K (.pv (.sc undef)) [(b,.mp Px Nr (BM es n m))]
         |_=>False
       |_=>False
     |_=>False
   |_=>False
 |none=>False
def xX (T:Tab)(H:List (Nat×av))(t:TypeId)(x:AV)(K:AV→Prop):Prop:=
 match x with
 | .cB b ver k off=>match lk H b with
   | some (.mp _ _ es)=>match mZ T t with
     |some _=>K (.pv (.sc (.int .i64 es.length)))
     |none=>False
   |_=>False
 |x=>yx T H t x K
section
variable {P:Program}{T:Tab}{c:Ctx}{R:Real}{s:AS}{a:Act}{w:World}
theorem lg (hT:bC P T){t:TypeId}{kk kv:IntKind}(h:mZ T t=some (kk,kv)) :
  ∃kt et,P.underlying t=some (.map kt et)∧P.underlying kt=some (.int kk)∧∀w:World,(zeroValue et).run P w=.ok (.int kv 0) w:=by
 unfold mZ at h;split at h
 ·rename_i i hi;split at h
  ·rename_i kt et hd;split at h
   ·rename_i ki ei hk he;split at h
    ·rename_i Px Nr h1 h2;split at h
     ·rename_i kv0 hz;simp only[Option.some.injEq,Prod.mk.injEq] at h;obtain⟨rfl,rfl⟩:=h;obtain⟨d,q1,q2⟩:=(hT t i hi).eF;obtain⟨d2,r1,r2⟩:=(hT _ _ hk).eF;rw[hd] at q2;rw[h1] at r2;cases d<;>simp[di] at q2
      cases d2<;>simp[di] at r2
      obtain⟨rfl,rfl⟩:=q2;subst r2;refine⟨_,_,q1,r1,fun w=>?_⟩;obtain⟨zv,z1,z2,z3⟩:=(hT _ _ he).mE w;rw[h2] at z3;rw[hz] at z2;have:zv=.int kv0 0:=by
       cases zv<;>simp[DI.isAgg] at z3<;>simp[Value.cells] at z2
       obtain⟨rfl,rfl⟩:=z2;rfl
      rw[z1,this]
     cases h
    cases h
   cases h
  cases h
 cases h
theorem qw {r:Nat}{es:Array MapEntry}{clock:Nat}(h:w.heap[r]? = some (.map es clock)):(getObj r).run P w=.ok (.map es clock) w:=by
 simp[getObj,Sem.run,h]
theorem rQ {q kk kv:IntKind}{n:Int}:∀(cur:List MapEntry) (es:List (Int×Int)) (i:Nat),cur.map (fun e=>(e.key,e.val))=es.map (fun e=>(Value.int kk e.1,Value.int kv e.2)) →
  Instr.findNow (.int q) (.int kk n) cur i=some ((mo es n i).map fun p=>(p.1,.int kv p.2))
 |[],[],i,_=>rfl
 |[],_::_,i,h=>by simp at h
 |_::_,[],i,h=>by simp at h
 | e::cur,(x,v)::es,i,h=>by
   simp only[List.map_cons,List.cons.injEq,Prod.mk.injEq] at h;obtain⟨⟨h1,h2⟩,h3⟩:=h;have ih:=rQ (q:=q) (n:=n) cur es (i+1) h3;unfold Instr.findNow;rw[h1];simp only[Instr.sameNow,if_true,mo];by_cases hx:n=x
   ·subst hx;simp[h2]
   have hb:(n==x)=false:=by simp[hx]
   rw[hb,if_neg hx];exact ih
theorem Cy (g:aR c R s a w)(hT:bC P T){id:Nat}(hf:lk s.hp id=none){t:TypeId}{K:AV→List (Nat×av)→Prop}(h:uJ T t id K) :
  ∃y w' R' z ws,(Instr.makeMap t none).run P w=.ok y w'∧K z ws∧aR c R' (s.app ws) a w'∧ah (aH c R' (ws++s.hp)) w' (ws++s.hp) R' z y:=by
 unfold uJ at h;split at h;rotate_left;cases h
 rename_i kk kv hk;have hw:∀b',b'≠id→_:=Real.sD R id w.heap.size false 0;refine⟨.map (some w.heap.size),{ w with heap:=w.heap.push (.map #[] 0) },R.at id w.heap.size false 0,_,_,by simp[Instr.makeMap],h,?_,?_⟩
 ·exact (g.Io (box:=.mp kk kv []) (w':={ w with heap:=w.heap.push (.map #[] 0) }) (o:=.map #[] 0) hf ⟨rfl,rfl,rfl,rfl⟩ hw (fun _=>by simp[Real.at]) (fun _ h=>by cases h) fun hm=>by
   refine⟨#[],0,?_,by simp[Real.at],by simp⟩;simp[Real.at]).1
 simp only[ah,List.singleton_append,aj,if_true,aK];exact⟨Nat.zero_le _,rfl,by simp[Real.at]⟩
theorem pX {kt:TypeId}{q k:IntKind}{n:Int}(h:P.underlying kt=some (.int q))(e:Bool):(Instr.checkKey e 10000 kt (.int k n)).run P w=.ok () w:=by
 unfold Instr.checkKey;simp[run_underlying h]
theorem El (g:aR c R s a w)(hT:bC P T){H:List (Nat×av)}(hH:∀b box,lk H b=some box→lk s.hp b=some box){t:TypeId}{x ix:AV}{K:AV→Prop}
  (h:AR T H t x ix K) {u v:Value} (hx:ah (aH c R s.hp) w s.hp R x u) (hv:ah (aH c R s.hp) w s.hp R ix v) :
  ∃y z,(Instr.lookup t u v false).run P w=.ok y w∧K z∧ah (aH c R s.hp) w s.hp R z y:=by
 unfold AR at h;split at h;rotate_left;cases h
 rename_i kk kv hk;obtain⟨kt,et,h1,h2,h3⟩:=lg hT hk;split at h;rotate_left;cases h
 rename_i b ver i off;split at h;rotate_left;cases h
 rename_i Px Nr es hb;have hb':=hH _ _ hb;split at h;rotate_left;cases h
 rename_i k n;obtain⟨rfl,rfl,hK⟩:=h;simp only[ah,hb',aK] at hx;obtain⟨_,_,rfl⟩:=hx;simp only[ah,aU] at hv;subst hv;obtain⟨cur,clock,q1,q2,q3⟩:=g.boxes b _ hb';have hfind:=rQ (q:=kk) (n:=n) cur.toList es 0 q3;refine⟨.int Nr (Og es n),_,?_,hK,by simp only[ah,aU]⟩;simp only[Instr.lookup,Sem.run_bind,run_underlying h1,Result.andThen_ok,qw q1,Sem.run_pure,pX h2,Instr.findKey,run_underlying h2,hfind];unfold Og;cases mo es n 0 with
 |none=>simp[h3 w]
 |some p=>simp
theorem BN {r:Nat}{es:Array MapEntry}{clock:Nat}(o:Obj)(h:w.heap[r]? = some (.map es clock)):(setObj r o).run P w=.ok () { w with heap:=w.heap.setIfInBounds r o }:=by
 simp[setObj,Sem.run,h]
theorem BO:∀{es:List (Int×Int)} {n:Int} {j:Nat} {p:Nat×Int},mo es n j=some p→j≤p.1∧es[p.1-j]? = some (n,p.2)
 |[],n,j,p,h=>by simp[mo] at h
 | (x,v)::r,n,j,p,h=>by
   simp only[mo] at h;split at h
   ·rename_i e;simp only[Option.some.injEq] at h;subst h;subst e;simp
   obtain⟨h1,h2⟩:=BO h;refine⟨by omega,?_⟩;rw[show p.1-j=(p.1-(j+1))+1 by omega];simpa using h2
theorem BP {kk kv:IntKind}{n m:Int}:∀(cur:List MapEntry) (es:List (Int×Int)) (i:Nat),cur.map (fun e=>(e.key,e.val))=es.map (fun e=>(Value.int kk e.1,Value.int kv e.2)) →
  (cur.modify i fun e=>{ e with key:=.int kk n,val:=.int kv m }).map (fun e=>(e.key,e.val))=(es.modify i fun _=>(n,m)).map (fun e=>(Value.int kk e.1,Value.int kv e.2))
 |[],[],i,_=>by cases i<;>rfl
 |[],_::_,i,h=>by simp at h
 |_::_,[],i,h=>by simp at h
 | e::cur,p::es,0,h=>by
   simp only[List.map_cons,List.cons.injEq] at h;simp only[List.modify_zero_cons,List.map_cons,h.2]
 | e::cur,p::es,i+1,h=>by
   simp only[List.map_cons,List.cons.injEq] at h;simp only[List.modify_succ_cons,List.map_cons,h.1,BP cur es i h.2]
theorem Aa (g:aR c R s a w)(hT:bC P T){H:List (Nat×av)}(hH:∀b box,lk H b=some box→lk s.hp b=some box){t:TypeId}{x ix y:AV}{K:AV→List (Nat×av)→Prop}
  (h:qd T H t x ix y K) {u v z:Value} (hx:ah (aH c R s.hp) w s.hp R x u) (hv:ah (aH c R s.hp) w s.hp R ix v) (hy:ah (aH c R s.hp) w s.hp R y z) :
  ∃w' ws,(Instr.mapUpdate t u v z).run P w=.ok () w'∧K (.pv (.sc undef)) ws∧aR c R (s.app ws) a w':=by
 unfold qd at h;split at h;rotate_left;cases h
 rename_i kk kv hk;obtain⟨kt,et,h1,h2,h3⟩:=lg hT hk;split at h;rotate_left;cases h
 rename_i b ver i off;split at h;rotate_left;cases h
 rename_i Px Nr es hb;have hb':=hH _ _ hb;split at h;rotate_left;cases h
 rename_i k n;split at h;rotate_left;cases h
 rename_i k2 m;obtain⟨rfl,rfl,hK⟩:=h;simp only[ah,hb',aK] at hx;obtain⟨_,_,rfl⟩:=hx;simp only[ah,aU] at hv hy;subst hv;subst hy;obtain⟨cur,clock,q1,q2,q3⟩:=g.boxes b _ hb';have hfind:=rQ (q:=kk) (n:=n) cur.toList es 0 q3;have fin:∀(Qv:Array MapEntry) (II:Nat),Qv.toList.map (fun e=>(e.key,e.val))=(BM es n m).map (fun e=>(Value.int k e.1,Value.int k2 e.2)) →
   aR c R (s.app [(b,.mp k k2 (BM es n m))]) a { w with heap:=w.heap.setIfInBounds (R.blk b) (.map Qv II) }:=by
  intro Qv II hq;have hlt:=(Array.getElem?_eq_some_iff.1 q1).1;have hR:∀b',b'≠b→R.blk b'=R.blk b'∧R.nil b'=R.nil b'∧R.cap b'=R.cap b':=fun _ _=>⟨rfl,rfl,rfl⟩
  refine g.upd (b:=b) (aV:=.mp k k2 (BM es n m)) (nx':=s.nx) hR (fun off v h=>by rw[hb'] at h;exact h) (fun ver v h=>by rw[hb'] at h;exact h) (fun ver i off v h=>by rw[hb'] at h;exact h)
   (fun r h=>by rw[hb'];exact .inl h) ⟨by simp,fun r hr hn=>?_,rfl,rfl,rfl⟩ ⟨Qv,II,by simp[hlt],q2,hq⟩ rfl
  have hne:R.blk b≠r:=fun e=>hn (by rw[hb'];exact⟨q2,e⟩)
  simp only[Array.getElem?_setIfInBounds,hne,if_false]
 cases hm:mo es n 0 with
 | none=>
   rw[hm] at hfind;refine⟨_,_,?_,hK,fin (cur.push { key:=.int k n,val:=.int k2 m,born:=clock }) (clock+1) ?_⟩
   ·simp only[Instr.mapUpdate,Sem.run_bind,run_underlying h1,Result.andThen_ok,qw q1,pX h2,Instr.findKey,run_underlying h2,hfind,Option.map_none,Sem.run_pure,BN _ q1]
   simp only[BM,hm,Array.toList_push,List.map_append,q3,List.map_cons,List.map_nil]
 | some p=>
   rw[hm] at hfind;obtain⟨_,hat⟩:=BO hm;have Sn:(cur[p.1]?).map (·.key)=some (.int k n):=by
    have:=congrArg (fun l=>l[p.1]?) q3;simp only[List.getElem?_map] at this;rw[Nat.sub_zero] at hat;rw[hat] at this;simp only[Option.map_some,Array.getElem?_toList] at this;cases hc:cur[p.1]? with
    |none=>rw[hc] at this;simp at this
    |some e=>rw[hc] at this;simp at this;simp[this.1]
   refine⟨_,_,?_,hK,fin (cur.modify p.1 fun e=>{ e with key:=.int k n,val:=.int k2 m }) clock ?_⟩
   ·have hkeep:(Instr.keyThatStays (.int k n) (.int k n)).run P w=.ok (.int k n) w:=by
     simp[Instr.keyThatStays,Instr.sameBits]
    simp only[Instr.mapUpdate,Sem.run_bind,run_underlying h1,Result.andThen_ok,qw q1,pX h2,Instr.findKey,run_underlying h2,hfind,Option.map_some,Sem.run_pure,Sn,Option.getD_some,hkeep,BN _ q1]
   simp only[BM,hm,Array.toList_modify];exact BP _ _ _ q3
theorem Ej (g:aR c R s a w)(hT:bC P T){H:List (Nat×av)}(hH:∀b box,lk H b=some box→lk s.hp b=some box){t ty:TypeId}{x:AV}{K:AV→Prop}
  (h:xX T H t x K) {u:Value} (hx:ah (aH c R s.hp) w s.hp R x u) :
  ∃y z,(Builtin.len_ #[t] ty #[u]).run P w=.ok y w∧K z∧ah (aH c R s.hp) w s.hp R z y:=by
 unfold xX at h;split at h
 ·rename_i b ver i off;split at h;rotate_left;cases h
  rename_i Px Nr es hb;have hb':=hH _ _ hb;split at h;rotate_left;cases h
  rename_i kp hk;obtain⟨kt,et,h1,h2,h3⟩:=lg (kk:=kp.1) (kv:=kp.2) hT hk;simp only[ah,hb',aK] at hx;obtain⟨_,_,rfl⟩:=hx;obtain⟨cur,clock,q1,q2,q3⟩:=g.boxes b _ hb';have hl:cur.size=es.length:=by have:=congrArg List.length q3;simpa using this
  exact⟨.int .i64 es.length,_,by simp[Builtin.len_,run_underlying h1,qw q1,goInt,hl],h,by simp only[ah,aU]⟩
 exact Fw g hT hH h hx
end
def rq (T:Tab)(t:TypeId)(x ix:AV)(K:AV→Prop):Prop:=
 match x with
 | .pv (.agg cs)=>match ix with
   | .pv (.sc (.int _ i))=>match lk T t with
     | some ti=>match ti.d with
       | .Lb n e=>match lk T e with
         | some ei=>match part (i.toNat*ei.size) ei.size cs with
           |some ds=>(0≤i∧i<n)∧nL ei (ds.map .pv) K
           |none=>False
         |none=>False
       |_=>False
     |none=>False
   |_=>False
 |x=>kP T t x ix K
section
variable {P:Program}{T:Tab}{R:Real}{w:World}
theorem Cw (hT:bC P T){N:Nat→Prop}{hp:List (Nat×av)}{t:TypeId}{x ix:AV}{K:AV→Prop}
  (h:rq T t x ix K) {u v:Value} (hx:ah N w hp R x u) (hv:ah N w hp R ix v) :
  ∃y z,(Instr.index t u v).run P w=.ok y w∧K z∧ah N w hp R z y:=by
 unfold rq at h;split at h
 ·rename_i cs;split at h;rotate_left;cases h
  rename_i k i;split at h;rotate_left;cases h
  rename_i ti Gv;split at h;rotate_left;cases h
  rename_i n e hte;split at h;rotate_left;cases h
  rename_i ei lJ;split at h;rotate_left;cases h
  rename_i ds hds;obtain⟨⟨h0,h1⟩,h⟩:=h;simp only[ah,aU] at hx hv;subst hv;obtain⟨vs,rfl,hx⟩:=hx;rw[dX] at hx;obtain⟨p1,p2⟩:=hx.fp.part hds;obtain⟨d,hd,eH⟩:=(hT t ti Gv).eF;have hd':P.underlying t=some (.array n e):=by
   rw[hte] at eH;cases d<;>simp[di] at eH
   obtain⟨rfl,rfl⟩:=eH;exact hd
  have hf:FC (ah N w hp R) (ds.map .pv) ((vs.toList.drop (i.toNat*ei.size)).take ei.size):=FC.map (fun p v hv=>by simpa only[ah] using hv) p2;obtain⟨y,z,k1,k2,k3⟩:=yT (hT e ei lJ) h hf (by simpa using p1);refine⟨y,z,?_,k2,k3⟩;simp only[Instr.index,asIntOf,Sem.run_bind,Sem.run_pure,Result.andThen_ok,run_underlying hd',h0,h1,and_self,if_true,(hT e ei lJ).run_sizeOf];exact k1
 exact Da hT h hx hv
end
def IJ (j:TI):List Nat→List AV→List AV→Option (List AV)
 |[],[],cells=>some cells
 | k::ks,v::vs,cells=>match cellsOf j v with
   | some cs=>match Nat.beq cs.length j.size with
     | true=>match gZ (k*j.size) cells cs with
       |some cells'=>IJ j ks vs cells'
       |none=>none
     |false=>none
   |none=>none
 |_,_,_=>none
def jo (T:Tab)(t:TypeId)(ks:List Nat)(vs:List AV)(K:AV→Prop):Prop:=
 match lk T t with
 | some i=>match i.d with
   | .Lb _ e=>match lk T e with
     | some j=>match Sm i.zero with
       | some z=>match IJ j ks vs z with
         | some cells=>match sH cells with
           |some v=>K v
           |none=>False
         |none=>False
       |none=>False
     |none=>False
   |_=>uG T t ks vs K
 |none=>False
section
variable {P:Program}{T:Tab}{R:Real}{w:World}
theorem wF {N:Nat→Prop}{hp:List (Nat×av)}(j:TI) :
  ∀(ks:List Nat) (vs cells cells':List AV) (us:List Value) (zs:Array Value),IJ j ks vs cells=some cells'→FL (ah N w hp R) vs us→FC (ah N w hp R) cells zs.toList →
   ∃Kk,Instr.fill (fun i=>some (i*j.size,j.size)) zs (ks.zip us)=some Kk∧FC (ah N w hp R) cells' Kk.toList
 | [],[],cells,cells',us,zs,h,hv,hz=>by
   simp only[IJ,Option.some.injEq] at h;subst h;simp only[FL] at hv;subst hv;exact⟨zs,rfl,hz⟩
 |[],v::vs,cells,cells',us,zs,h,hv,hz=>by simp[IJ] at h
 |f::ks,[],cells,cells',us,zs,h,hv,hz=>by simp[IJ] at h
 | f::ks,v::vs,cells,cells',us,zs,h,hv,hz=>by
   obtain⟨u,r,rfl,hu,hv⟩:=hv;simp only[IJ] at h;split at h
   ·rename_i cs hcs;split at h
    ·rename_i hl;have hl:=Nat.eq_of_beq_eq_true hl;split at h
     ·rename_i c2 hc2;have U1:=gD hcs hu;obtain⟨hle,hset⟩:=FC.gZ hz U1 hc2;have nD:u.cells.size=j.size:=by rw[←hl,←U1.length];simp
      simp only[List.zip_cons_cons,Instr.fill];have X9:f*j.size+j.size≤zs.size:=by simp only[Array.length_toList] at hle;omega
      rw[if_neg (by simp[nD];omega)];have xN:(u.cells.zipIdx.foldl (fun cs (x:Value×Nat)=>cs.setIfInBounds (f*j.size+x.2) x.1) zs).toList=zs.toList.take (f*j.size)++u.cells.toList++zs.toList.drop (f*j.size+u.cells.toList.length):=by
       rw[←oN (f*j.size) u.cells.toList zs (by simpa using hle)];rw[←Array.foldl_toList,Array.toList_zipIdx]
      exact wF j ks vs c2 cells' r _ h hv (by rw[xN];exact hset)
     cases h
    cases h
   cases h
theorem wR (hT:bC P T){N:Nat→Prop}{hp:List (Nat×av)}{t:TypeId}{ks:List Nat}{vs:List AV}{us:List Value}{K:AV→Prop}(h:jo T t ks vs K)
  (hv:FL (ah N w hp R) vs us):∃y z,(Instr.build t (ks.zip us).toArray).run P w=.ok y w∧K z∧ah N w hp R z y:=by
 unfold jo at h;split at h;rotate_left;cases h
 rename_i i hi;have hi':=hT _ _ hi;split at h
 ·rename_i n e hte;obtain⟨d,hd,eH⟩:=hi'.eF;obtain⟨zv,hz1,hz2,hz3⟩:=hi'.mE w;have hd':P.underlying t=some (.array n e):=by
   rw[hte] at eH;cases d<;>simp[di] at eH
   obtain⟨rfl,rfl⟩:=eH;exact hd
  split at h;rotate_left;cases h
  rename_i j hj;split at h;rotate_left;cases h
  rename_i z hz;have:=Cm hz;subst this;split at h;rotate_left;cases h
  rename_i cells hcells;split at h;rotate_left;cases h
  rename_i v hv';obtain⟨Kk,hf1,hf2⟩:=wF j ks vs _ cells us zv.cells hcells hv (by rw[hz2];exact nE hi'.Kl);refine⟨.agg Kk,v,?_,h,?_⟩
  ·simp only[Instr.build,Sem.run_bind,hz1,Result.andThen_ok,run_underlying hd',(hT _ _ hj).run_sizeOf,hf1,Sem.run_pure]
  unfold sH at hv';split at hv'
  ·rename_i ps hps;simp only[Option.some.injEq] at hv';subst hv';simp only[ah,aU];exact⟨Kk,rfl,by rw[dX];exact mF hps hf2⟩
  simp only[Option.some.injEq] at hv';subst hv';simp only[ah];exact⟨Kk,rfl,by rw[aY];exact hf2⟩
 exact Ck hT h hv
end
def GJ (T:Tab)(H:List (Nat×av))(t:TypeId)(x ix:AV)(K:AV→Prop):Prop:=
 match x with
 | .sub b ver st lo hi=>match lk H b with
   | some (.arr e v st' rows)=>match ix with
     | .pv (.sc (.int _ i))=>match lk T t with
       | some ti=>match ti.d with
         | .slt e=>match lk T e with
           | some ei=>match Nat.beq ver v,Nat.beq st' ei.size,Nat.beq st st' with
             |true,true,true=>0≤i∧lo+i.toNat<hi∧K (.cB b ver (lo+i.toNat) 0)
             |_,_,_=>False
           |none=>False
         |_=>False
       |none=>False
     |_=>False
   |_=>False
 |x=>H7 T H t x ix K
section
variable {P:Program}{T:Tab}{c:Ctx}{R:Real}{s:AS}{a:Act}{w:World}
theorem GQ (g:aR c R s a w)(hT:bC P T){H:List (Nat×av)}(hH:∀b box,lk H b=some box→lk s.hp b=some box){t:TypeId}{x ix:AV}{K:AV→Prop}
  (h:GJ T H t x ix K) {u v:Value} (hx:ah (aH c R s.hp) w s.hp R x u) (hv:ah (aH c R s.hp) w s.hp R ix v) :
  ∃y z,(Instr.indexAt t u v).run P w=.ok y w∧K z∧ah (aH c R s.hp) w s.hp R z y:=by
 unfold GJ at h;split at h
 ·rename_i b ver st lo hi;split at h;rotate_left;cases h
  rename_i e' vr st' rows hb;have hb':=hH _ _ hb;split at h;rotate_left;cases h
  rename_i kk i;simp only[ah,aU] at hv;subst hv;split at h;rotate_left;cases h
  rename_i ti Gv;obtain⟨d,hd,eH⟩:=(hT t ti Gv).eF;split at h;rotate_left;cases h
  rename_i e hte;have hd':P.underlying t=some (.slice e):=by
   rw[hte] at eH;cases d<;>simp[di] at eH
   subst eH;exact hd
  split at h;rotate_left;cases h
  rename_i ei lJ;have fH:=hT e ei lJ;split at h;rotate_left;cases h
  rename_i dD hst uZ;obtain⟨h0,hlt,hK⟩:=h;have dD:=Nat.eq_of_beq_eq_true dD;have hst:=Nat.eq_of_beq_eq_true hst;have uZ:=Nat.eq_of_beq_eq_true uZ;simp only[ah,hb',aD] at hx;obtain⟨u0,⟨r1,r2,r3⟩,hok,rfl⟩:=hx;have r3:=r3 dD;subst r3;cases hn:R.nil b with
  | true=>
    simp only[bA,hn,if_true,kG] at hok;omega
  | false=>
    obtain⟨xs,⟨_,h2⟩,_⟩:=(g.boxes b _ hb');have hcap:rows.length≤(R.cap b).1:=by
     rcases h2 with ⟨_,h2⟩|⟨g',cap,cur,e1,e2,e3,e4,_⟩
     ·simp only[bA,hn,Bool.false_eq_true,if_false,kG] at hok;omega
     simp only[bA,hn,Bool.false_eq_true,if_false,Value.slice.injEq] at e1;obtain⟨_,_,e1⟩:=e1;omega
    simp only[bA,hn,Bool.false_eq_true,if_false,kG] at hok;have hne:(R.cap b).1≠lo:=by omega
    simp only[bA,hn,Bool.false_eq_true,if_false,gK,if_neg hne];have hi2:i<((hi-lo:Nat):Int):=by omega
    refine⟨.pointer (some ((Addr.add ⟨R.blk b,0,none⟩ (lo*st)).add (i.toNat*ei.size))),_,?_,hK,?_⟩
    ·simp[Instr.indexAt,asIntOf,run_underlying hd',h0,hi2,fH.run_sizeOf]
    simp only[ah,hb',aK,addr_add];refine⟨r1,rfl,fun _=>⟨hn,?_⟩⟩;rw[←hst,uZ,Nat.add_mul];simp
 exact IE g hT hH h hx hv
end
def rf (T:Tab)(H:List (Nat×av))(src dst:TypeId)(x:AV)(K:AV→List (Nat×av)→Prop):Prop:=
 match x with
 | .aG b ver=>match lk H b with
   | some (.arr e v st rows)=>match lk T dst with
     | some dt=>match dt.d with
       | .slt et=>match lk T et with
         | some ei=>match ei.d with
           | .q8 .u8=>match Nat.beq src dst,Nat.beq ver v,rows with
             |true,true,r::rs=>K (.pv (.sl false st (r::rs))) [(b,.bX v st (r::rs))]
             |_,_,_=>False
           |_=>False
         |none=>False
       |_=>l7 T H src dst (.aG b ver) K
     |none=>False
   |_=>l7 T H src dst (.aG b ver) K
 |x=>l7 T H src dst x K
section
variable {P:Program}{T:Tab}{c:Ctx}{R:Real}{s:AS}{a:Act}{w:World}
theorem Fe (w:World)(g n k:Nat)(hk:k≠0){cur:Array Value}{e:TypeId}(h:w.heap[g]? = some (.cells cur e (0,0))) :
  (w.freeze ⟨g,n,none⟩ k).heap[g]? = some (.cells cur e (n,n+k))∧iZ (fun r=>r=g) w (w.freeze ⟨g,n,none⟩ k):=by
 unfold World.freeze;rw[if_neg hk];refine⟨?_,⟨by simp,fun r hr hn=>?_,rfl,rfl,rfl⟩⟩
 ·simp only[Array.getElem?_modify,if_true,h,Option.map_some];rfl
 simp only[Array.getElem?_modify];rw[if_neg (fun e=>hn e.symm)]
theorem Cr (g:aR c R s a w)(hT:bC P T){H:List (Nat×av)}(hH:∀b box,lk H b=some box→lk s.hp b=some box){src dst:TypeId}{x:AV}{K:AV→List (Nat×av)→Prop}
  (h:rf T H src dst x K) {u:Value} (hx:ah (aH c R s.hp) w s.hp R x u) :
  ∃z w' R' q ws,(convert src dst u).run P w=.ok z w'∧K q ws∧aR c R' (s.app ws) a w'∧ah (aH c R' (ws++s.hp)) w' (ws++s.hp) R' q z:=by
 unfold rf at h;split at h
 ·rename_i b ver;split at h
  ·rename_i e v st rows hb;have hb':=hH _ _ hb;split at h;rotate_left;cases h
   rename_i dt hdt;split at h
   ·rename_i et hde;split at h;rotate_left;cases h
    rename_i ei lJ;split at h;rotate_left;cases h
    rename_i hes;split at h;rotate_left;cases h
    rename_i r rs Yw dD;have Yw:=Nat.eq_of_beq_eq_true Yw;have dD:=Nat.eq_of_beq_eq_true dD;subst Yw;obtain⟨d2,hd2,e2⟩:=(hT _ _ hdt).eF;obtain⟨d3,U4,e3⟩:=(hT _ _ lJ).eF;have q2:P.underlying src=some (.slice et):=by rw[hde] at e2;cases d2<;>simp[di] at e2;subst e2;exact hd2
    have q3:P.underlying et=some (.int .u8):=by rw[hes] at e3;cases d3<;>simp[di] at e3;subst e3;exact U4
    simp only[ah,hb',aD] at hx;obtain⟨_,_,hu⟩:=hx;have hu:=hu dD;obtain⟨xs,⟨hxl,hrow⟩,hrep⟩:=g.boxes b _ hb';rcases hrow with ⟨_,h0⟩|⟨gb,cap,cur,h1,h2,h3,h4,h5,h6,h7⟩
    ·simp at h0
    have hnil:R.nil b=false:=by
     cases hn:R.nil b with
     |false=>rfl
     |true=>simp[bA,hn] at h1
    have hs:bA R b (r::rs).length=.slice (some ⟨R.blk b,0,none⟩) (r::rs).length (R.cap b).1:=by simp[bA,hnil]
    rw[hs] at h1 hu;simp only[Value.slice.injEq,Option.some.injEq,Addr.mk.injEq,and_true,true_and] at h1;obtain⟨h1,h8⟩:=h1;subst h1;obtain⟨f1,f2⟩:=Fe w (R.blk b) cur.size 1 (by decide) h3;have hR:∀b',b'≠b→R.blk b'=R.blk b'∧R.nil b'=R.nil b'∧R.cap b'=R.cap b':=fun _ _=>⟨rfl,rfl,rfl⟩
    have Pz:∀x,ax R b x (lk s.hp b)↔x=R.blk b:=fun x=>by rw[hb'];simp only[ax,hnil,true_and];exact eq_comm
    have r1:∀off v',aI R b off v' (lk s.hp b)→aI R b off v' (some (.bX v st (r::rs))):=fun off v' h=>by rw[hb'] at h;exact h
    have r2:∀dh v',aD R b dh v' (lk s.hp b)→aD R b dh v' (some (.bX v st (r::rs))):=fun off v' h=>by rw[hb'] at h;exact h
    have r3:∀dh i off v',aK R b dh i off v' (lk s.hp b)→aK R b dh i off v' (some (.bX v st (r::rs))):=fun _ _ off v' h=>by rw[hb'] at h;exact h
    have hno:∀x,¬ax R b x (some (.bX v st (r::rs))):=fun x h=>h
    have hworld:iZ (fun x=>ax R b x (lk s.hp b)) w (w.freeze ⟨R.blk b,cur.size,none⟩ 1):=f2.mono fun x hx=>(Pz x).2 hx
    have hown:∀x,ax R b x (some (.bX v st (r::rs)))→ax R b x (lk s.hp b)∨w.heap.size≤x:=fun x h=>(hno x h).elim
    obtain⟨m1,m2,m3,m4,m5⟩:=g.zS hR r1 r2 r3 hown hworld;have oF:lk ((b,av.bX v st (r::rs))::s.hp) b=some (.bX v st (r::rs)):=by rw[aj,if_pos rfl]
    have hout:¬aH c R ((b,av.bX v st (r::rs))::s.hp) (R.blk b):=by
     rintro (h|⟨b',h⟩)
     ·exact g.free _ ⟨b,(Pz _).2 rfl⟩ h
     by_cases e:b'=b
     ·subst e;rw[oF] at h;exact hno _ h
     rw[aj,if_neg (fun x=>e x.symm)] at h;exact e (g.inj b' b _ h ((Pz _).2 rfl))
    have Mt:aU (aH c R ((b,av.bX v st (r::rs))::s.hp)) (w.freeze ⟨R.blk b,cur.size,none⟩ 1) (.sl false st (r::rs)) (.slice (some ⟨R.blk b,0,none⟩) (r::rs).length (R.cap b).1):=by
     simp only[aU];refine⟨_,_,_,rfl,rfl,⟨by omega,by unfold maxLen at h5;omega⟩,fun e=>(by cases e),fun ad ha=>?_⟩;simp only[Option.some.injEq] at ha;subst ha;refine .inr ⟨rfl,hout,cur,e,_,f1,?_⟩;have hm:=aN m1 m2 st (r::rs) xs hrep;rw[←h7] at hm;simp only[List.drop_zero];have hm:=jK (cur.toList.drop ((r::rs).length*st)) hm;rwa [List.take_append_drop] at hm
    refine⟨u,w.freeze ⟨R.blk b,cur.size,none⟩ 1,R,_,_,?_,h,g.upd hR r1 r2 r3 hown hworld (by simp only[dm];rw[hs];exact Mt),?_⟩
    ·rw[hu];simp only[convert,Sem.run_bind,run_underlying q2,run_underlying q3,Result.andThen_ok,markStringish,run_shape,World.shape?,h3,run_freeze,Sem.run_pure,beq_self_eq_true]
    rw[hu];simp only[ah];exact Mt
   exact nG g hT hH h hx
  exact nG g hT hH h hx
 exact nG g hT hH h hx
end
def gq (tm:List (Nat×AV))(x:Operand):Option AV:=
 match x with
 |.tmp t=>lk tm t
 |.const v=>some (.pv (.sc v))
 |.func f=>some (.pv (.fn (.func f) [] []))
 |.global _=>none
def Rm (tm:List (Nat×AV)):List Operand→Option (List AV)
 |[]=>some []
 | x::r=>match gq tm x with
   | some v=>match Rm tm r with
     |some vs=>some (v::vs)
     |none=>none
   |none=>none
def Kn:List AV→List Nat
 |v::_=>refs v
 |[]=>[]
def GH:List AV→List Nat
 |[]=>[]
 | v::r=>match v with
   |.cB b _ _ _=>b::GH r
   |_=>GH r
def Co (op:Op)(vs:List AV):List Nat:=
 match op with
 |.load _ _=>dx vs
 |.store _ _ _=>Kn vs
 |.nilCheck _=>dx vs
 |.convert _ _ _=>dx vs
 |.makeFunc _ _ _=>dx vs
 |.slice _ _ _ _ _=>dx vs
 |.fieldAddr _ _ _=>dx vs
 |.indexAddr _ _ _=>dx vs
 |.buildSlice _ _ _=>dx vs
 |.call _=>dx vs
 |.unOp _ _ _=>dx vs
 |.binOp _ _ _ _ _=>GH vs
 |.lookup _ _ _ _=>dx vs
 |.mapUpdate _ _ _ _=>dx vs
 |_=>[]
def Ko (H:List (Nat×av))(op:UnOp)(x:AV)(K:AV→Prop):Prop:=
 match x with
 | .cB b ver i off=>match op with
   | .not=>match lk H b with
     | some (.tr _ v _ st)=>match st with
       | none=>match Nat.beq ver v with
         | true=>match off with
           |0=>K (.cB b ver i 1)
           |1=>K (.cB b ver i 0)
           |_=>False
         |false=>False
       |some _=>False
     |_=>False
   |_=>False
 |x=>UE op x K
theorem GI {P:Program}{w:World}{R:Real}{N:Nat→Prop}{hp:List (Nat×av)}{H:List (Nat×av)}(hH:∀b box,lk H b=some box→lk hp b=some box){op:UnOp}{x:AV}{K:AV→Prop}(h:Ko H op x K){u:Value}(hx:ah N w hp R x u) :
  ∃y v,(Op.unary op u).run P w=.ok y w∧K v∧ah N w hp R v y:=by
 unfold Ko at h;split at h
 ·rename_i b ver i off;split at h;rotate_left;cases h
  split at h;rotate_left;cases h
  rename_i y v rest st hb;split at h;rotate_left;cases h
  split at h;rotate_left;cases h
  rename_i hv;have hb':=hH _ _ hb;simp only[ah,hb',aK] at hx;obtain⟨h1,h2,h3⟩:=hx;have h3:=h3 (Nat.eq_of_beq_eq_true hv) (by trivial);subst h3;split at h
  ·refine⟨.bool (!(R.nil b != Nat.beq 0 1)),_,by simp[Op.unary],h,?_⟩;simp only[ah,hb',aK];exact⟨h1,rfl,fun _ _=>by cases R.nil b<;>rfl⟩
  ·refine⟨.bool (!(R.nil b != Nat.beq 1 1)),_,by simp[Op.unary],h,?_⟩;simp only[ah,hb',aK];exact⟨h1,rfl,fun _ _=>by cases R.nil b<;>rfl⟩
  exact h.elim
 exact Kq h hx
def Jq (H:List (Nat×av))(v:AV):Bool:=
 match v with
 |.ptr _ _=>true
 |.pv (.bT _ _)=>true
 |.pv (.fn (.func _) _ _)=>true
 | .cB b ver _ _=>match Jr (lk H b) with
   |some k=>Nat.beq ver k
   |none=>false
 |_=>false
def Ya:AV→Bool
 |.cB _ _ _ _=>true
 |_=>false
def xW (T:Tab)(H:List (Nat×av))(op:BinOp)(t:TypeId)(x y:AV)(K:AV→Prop):Prop:=
 match Ya x with
 | true=>match y with
   | .pv (.sc (.pointer none))=>match Jq H x with
     | true=>match lk T t with
       | some i=>match i.d with
         |.zV _=>Js op false K
         |_=>False
       |none=>False
     |false=>False
   |_=>False
 |false=>zW T op t x y K
def cop (P:Program)(T:Tab)(op:Op)(vs:List AV)(H:List (Nat×av))(id:Nat)(K:AV→List (Nat×av)→Prop):Prop:=
 match op with
 | .move _=>match vs with
   |[v]=>K v []
   |_=>False
 | .assign _=>match vs with
   |[v]=>K v []
   |_=>False
 | .pick _ _ _=>match vs with
   | [.pv (.sc (.bool c)),x,y]=>match c with
     |true=>K x []
     |false=>K y []
   |_=>False
 |.alloc t=>uH T t id K
 | .box t _=>match vs with
   |[x]=>Km T t x id K
   |_=>False
 |.build t ps=>jo T t (ps.toList.map (·.1)) vs fun v=>K v []
 |.buildSlice t n ps=>lN T H t n (ps.toList.map (·.1)) vs id K
 | .load t _=>match vs with
   |[x]=>q9 T H t x fun v=>K v []
   |_=>False
 | .store t _ _=>match vs with
   |[x,y]=>nH T H t x y K
   |_=>False
 | .nilCheck _=>match vs with
   | [x]=>match Jq H x with
     |true=>K x []
     |false=>False
   |_=>False
 | .binOp op t _ _ _=>match vs with
   |[x,y]=>xW T H op t x y fun v=>K v []
   |_=>False
 | .unOp op _ _=>match vs with
   |[x]=>Ko H op x fun v=>K v []
   |_=>False
 | .convert src dst _=>match vs with
   |[x]=>rf T H src dst x K
   |_=>False
 |.makeFunc f first _=>AL H f first.size vs K
 |.makeSlice t _ _=>oP T t vs id K
 |.slice t _ l h m=>lQ T H t l h m vs K
 | .fieldAddr t _ f=>match vs with
   |[x]=>jq T H t x f fun v=>K v []
   |_=>False
 | .field t _ f=>match vs with
   |[x]=>Ee T t x f fun v=>K v []
   |_=>False
 | .indexAddr t _ _=>match vs with
   |[x,y]=>GJ T H t x y fun v=>K v []
   |_=>False
 | .index t _ _=>match vs with
   |[x,y]=>rq T t x y fun v=>K v []
   |_=>False
 | .extract _ i=>match vs with
   |[x]=>mH x i fun v=>K v []
   |_=>False
 | .call c=>match c.callee with
   |.value _=>AP P H vs K
   | .builtin b=>match b with
     | .append=>match c.argTypes.toList with
       | [t,t']=>match Nat.beq t t' with
         |true=>vG T H t vs id K
         |false=>False
       |_=>False
     | .len=>match c.argTypes.toList with
       | [t]=>match vs with
         |[x]=>xX T H t x fun v=>K v []
         |_=>False
       |_=>False
     | .clear=>match c.argTypes.toList with
       | [t]=>match vs with
         |[x]=>uI T H t x K
         |_=>False
       |_=>False
     |.max=>PG true vs fun v=>K v []
     |.min=>PG false vs fun v=>K v []
     |_=>False
   |.invoke _ _=>False
 | .makeMap t r=>match r with
   |none=>uJ T t id K
   |some _=>False
 | .lookup t _ _ ok=>match ok with
   | false=>match vs with
     |[x,y]=>AR T H t x y fun v=>K v []
     |_=>False
   |true=>False
 | .mapUpdate t _ _ _=>match vs with
   |[x,y,z]=>qd T H t x y z K
   |_=>False
 |_=>False
def sM (P:Program)(T:Tab)(op:Op)(vs:List AV)(hp:List (Nat×av))(id:Nat)(K:AV→List (Nat×av)→List Nat→Prop):Prop:=
 match Co op vs with
 | ids=>match iw hp ids with
   |some H=>cop P T op vs H id fun v ws=>K v ws ids
   |none=>False
def jr (op:Op):Bool:=
 match op with
 | .call c=>match c.callee with
   |.value _=>true
   |_=>false
 |_=>false
def lC (P:Program)(T:Tab)(op:Op)(vs:List AV)(hp:List (Nat×av))(id:Nat)(K:AV→List (Nat×av)→List Nat→Prop):Prop:=
 match Jt hp vs with
 |true=>dC P hp vs K
 |false=>sM P T op vs hp id K
def gen (T:Tab):Bool:=
 match T with
 | (a,_)::(b,_)::(c,_)::_=>match Nat.beq a b with
   |true=>Nat.beq b c
   |false=>false
 |_=>false
def UF (T:Tab):Tab:=
 match T with
 |x::r=>x::x::x::r
 |[]=>[]
theorem Sq (T:Tab)(t:Nat):lk (UF T) t=lk T t:=by
 cases T with
 |nil=>rfl
 | cons x r=>
   obtain⟨k,v⟩:=x;simp only[UF,aj];split<;>rfl
theorem bC.UF {P:Program}{T:Tab}(h:bC P T):bC P (UF T):=fun t i hi=>h t i (by rw[←Sq T t];exact hi)
def MB (P:Program)(T:Tab)(o:Oper)(tm:List (Nat×AV))(hp:List (Nat×av))(id:Nat)(K:AV→List (Nat×av)→List Nat→Prop):Prop:=
 match Rm tm (iG o.op) with
 | some vs=>match jr o.op with
   | true=>match isY vs with
     |true=>yC P hp vs K
     | false=>(lC P T o.op vs hp id K∨gC P hp id vs K)∨match gen T with
       |true=>gI P hp id vs K
       |false=>gV P hp id vs K
   |false=>sM P T o.op vs hp id K
 |none=>False
theorem vH {hp:List (Nat×av)}:∀{ids:List Nat} {H:List (Nat×av)},iw hp ids=some H→∀b box,lk H b=some box→lk hp b=some box
 |[],H,h=>by simp only[iw,Option.some.injEq] at h;subst h;intro b box hb;simp[lk] at hb
 | i::r,H,h=>by
   simp only[iw] at h;split at h
   ·rename_i bx hbx;split at h
    ·rename_i t ht;simp only[Option.some.injEq] at h;subst h;intro b box hb;rw[aj] at hb;split at hb
     ·rename_i e;simp only[Option.some.injEq] at hb;rw[←e,←hb];exact hbx
     exact vH ht b box hb
    cases h
   cases h
section
variable {P:Program}{T:Tab}{c:Ctx}{R:Real}{s:AS}{a:Act}{w:World}
theorem qf (g:aR c R s a w){x:Operand}{v:AV}(h:gq s.tm x=some v):ah (aH c R s.hp) w s.hp R v (a.eval x):=by
 unfold gq at h;split at h
 ·rename_i t;obtain⟨y,h1,h2⟩:=g.slots t v h;have:a.eval (.tmp t)=y:=by simp[Act.eval,h1]
  rw[this];exact h2
 ·simp only[Option.some.injEq] at h;subst h;simp only[ah,aU,Act.eval]
 ·simp only[Option.some.injEq] at h;subst h;simp only[ah,aU,Act.eval];exact⟨#[],#[],rfl,rfl,rfl⟩
 cases h
theorem iT (g:aR c R s a w):∀{xs:List Operand} {vs:List AV},Rm s.tm xs=some vs→FL (ah (aH c R s.hp) w s.hp R) vs (xs.map a.eval)
 |[],vs,h=>by simp only[Rm,Option.some.injEq] at h;subst h;rfl
 | x::xs,vs,h=>by
   simp only[Rm] at h;split at h
   ·rename_i v hv;split at h
    ·rename_i Ju hvs;simp only[Option.some.injEq] at h;subst h;exact⟨_,_,rfl,qf g hv,iT g hvs⟩
    cases h
   cases h
def Nx (c:Ctx)(s:AS)(o:Oper)(K:AV→List (Nat×av)→Prop)(a:Act)(w:World):Prop:=
 ∃R v ws,K v ws∧aR c R ((s.app ws).put o.dst v) a w
theorem gN {o:Oper}{K:AV→List (Nat×av)→Prop}{Q:Exit→Act→World→Prop}(hd:∀t,o.dst=some t→t<c.n){y:Value}{w':World}{R':Real}{v:AV}{ws:List (Nat×av)}
  (hrun:(execOp a.eval o).run P w=.ok (.value y) w') (hK:K v ws) (g:aR c R' (s.app ws) a w') (hr:ah (aH c R' (ws++s.hp)) w' (ws++s.hp) R' v y) :
  o.wp P a w (Nx c s o K) Q:=by
 unfold Oper.wp;rw[hrun,Oper.upon_value];exact⟨R',v,ws,hK,g.put o.dst hd hr⟩
theorem gG {o:Oper}{m:Sem Value}(he:execOp a.eval o=(do pure (.value (←m)))){y:Value}{w':World}(h:m.run P w=.ok y w'):(execOp a.eval o).run P w=.ok (.value y) w':=by
 rw[he];simp[h]
theorem qJ (ps:Array (Nat×Operand))(f:Operand→Value):(ps.map fun (i,x)=>(i,f x))=((ps.toList.map (·.1)).zip ((ps.toList.map (·.2)).map f)).toArray:=by
 have:∀l:List (Nat×Operand),(l.map fun (x:Nat×Operand)=>(x.1,f x.2))=(l.map (·.1)).zip ((l.map (·.2)).map f):=by
  intro l;induction l with
  |nil=>rfl
  |cons x l ih=>simp[ih]
 rw[←this];apply Array.ext';simp
def fJ (P:Program)(T:Tab)(c:Ctx)(R:Real)(s:AS)(a:Act)(w:World)(id:Nat)(Q:Exit→Act→World→Prop)(op:Op):Prop:=
 ∀(o:Oper),o.op=op→(∀t,o.dst=some t→t<c.n)→∀(vs:List AV) (H:List (Nat×av)) (K:AV→List (Nat×av)→Prop),
  (∀b box,lk H b=some box→lk s.hp b=some box)→FL (ah (aH c R s.hp) w s.hp R) vs ((iG op).map a.eval)→cop P T op vs H id K→o.wp P a w (Nx c s o K) Q
section
variable (g:aR c R s a w)(hT:bC P T){id:Nat}(hf:lk s.hp id=none)(Q:Exit→Act→World→Prop)
include g hT hf
theorem pure_ok {o:Oper}(hd:∀t,o.dst=some t→t<c.n){y:Value}{v:AV}{K:AV→List (Nat×av)→Prop}(hK:K v [])(hr:ah (aH c R s.hp) w s.hp R v y)
  (hrun:(execOp a.eval o).run P w=.ok (.value y) w):o.wp P a w (Nx c s o K) Q:=gN (ws:=[]) hd hrun hK g hr
theorem PI (x:Operand):fJ P T c R s a w id Q (.move x):=by
 intro o ho hd vs H K hH hv h;unfold cop at h;simp only at h;split at h
 ·exact pure_ok g hT hf Q hd h (Mc hv) (by simp[execOp,ho])
 exact h.elim
theorem Kr (x:Operand):fJ P T c R s a w id Q (.assign x):=by
 intro o ho hd vs H K hH hv h;unfold cop at h;simp only at h;split at h
 ·exact pure_ok g hT hf Q hd h (Mc hv) (by simp[execOp,ho])
 exact h.elim
theorem PK (x y z:Operand):fJ P T c R s a w id Q (.pick x y z):=by
 intro o ho hd vs H K hH hv h;unfold cop at h;simp only at h;split at h;rotate_left;cases h
 obtain⟨h1,h2,h3⟩:=FL3 hv;simp only[ah,aU] at h1;split at h
 ·exact pure_ok g hT hf Q hd h h2 (by simp[execOp,ho,h1,asBool])
 exact pure_ok g hT hf Q hd h h3 (by simp[execOp,ho,h1,asBool])
theorem MC (t:TypeId):fJ P T c R s a w id Q (.alloc t):=by
 intro o ho hd vs H K hH hv h;unfold cop at h;simp only at h;obtain⟨z,w',R',q,ws,h1,h2,h3,h4⟩:=Cn g hT hf h;exact gN hd (gG (m:=Instr.alloc t true (.tuple #[])) (by unfold execOp;rw[ho]) h1) h2 h3 h4
theorem Sr (t:TypeId)(x:Operand):fJ P T c R s a w id Q (.box t x):=by
 intro o ho hd vs H K hH hv h;unfold cop at h;simp only at h;split at h
 ·obtain⟨z,w',R',q,ws,h1,h2,h3,h4⟩:=GD g hT hf h (Mc hv);exact gN hd (gG (m:=Instr.box t (a.eval x)) (by unfold execOp;rw[ho]) h1) h2 h3 h4
 exact h.elim
theorem ME (t:TypeId)(ps:Array (Nat×Operand)):fJ P T c R s a w id Q (.build t ps):=by
 intro o ho hd vs H K hH hv h;unfold cop at h;simp only at h;obtain⟨y,z,h1,h2,h3⟩:=wR hT h hv;simp only[iG] at h1;exact pure_ok g hT hf Q hd h2 h3 (gG (m:=Instr.build t (ps.map fun (i,x)=>(i,a.eval x))) (by unfold execOp;rw[ho]) (by rw[qJ];exact h1))
theorem zX (t:TypeId)(n:Nat)(ps:Array (Nat×Operand)):fJ P T c R s a w id Q (.buildSlice t n ps):=by
 intro o ho hd vs H K hH hv h;unfold cop at h;simp only at h;obtain⟨z,w',R',q,ws,h1,h2,h3,h4⟩:=zY g hT hH hf h hv;simp only[iG] at h1;exact gN hd (gG (m:=Instr.buildSlice t n (ps.map fun (i,x)=>(i,a.eval x))) (by unfold execOp;rw[ho]) (by rw[qJ];exact h1)) h2 h3 h4
theorem PL (t:TypeId)(x:Operand):fJ P T c R s a w id Q (.load t x):=by
 intro o ho hd vs H K hH hv h;unfold cop at h;simp only at h;split at h
 ·obtain⟨y,v,h1,h2,h3⟩:=Cq g hT hH h (Mc hv);exact pure_ok g hT hf Q hd h2 h3 (gG (m:=Instr.loadAt t (a.eval x)) (by unfold execOp;rw[ho]) h1)
 exact h.elim
theorem MF (t:TypeId)(x y:Operand):fJ P T c R s a w id Q (.store t x y):=by
 intro o ho hd vs H K hH hv h;unfold cop at h;simp only at h;split at h;rotate_left;cases h
 obtain⟨hx,hy⟩:=Pw hv;obtain⟨w',R',ws,h1,h2,h3⟩:=zZ g hT hH h hx hy;unfold Oper.wp;have:(execOp a.eval o).run P w=.ok .skip w':=by unfold execOp;rw[ho];simp[h1]
 rw[this,Oper.upon_skip];exact⟨R',_,ws,h2,h3.put o.dst hd (by simp only[ah,aU])⟩
theorem Ef (x:Operand):fJ P T c R s a w id Q (.nilCheck x):=by
 intro o ho hd vs H K hH hv h;unfold cop at h;simp only at h;split at h;rotate_left;cases h
 rename_i v;have hx:=Mc hv;split at h;rotate_left;cases h
 rename_i hn;have key:(∃ad,a.eval x=.pointer (some ad))∨(∃f p q,a.eval x=.func (.func f) p q):=by
  unfold Jq at hn;split at hn
  ·exact .inl (sN (by rfl) hx)
  ·exact .inl (sN (by rfl) hx)
  ·simp only[ah,aU] at hx;obtain⟨fs,cs,h1,_⟩:=hx;exact .inr ⟨_,_,_,h1⟩
  ·rename_i b ver k off;split at hn
   ·rename_i k' hk;simp only[ah] at hx;cases hb:lk H b with
    |none=>rw[hb] at hk;cases hk
    | some box=>
      rw[hb,←hH _ _ hb] at hk;obtain⟨st,_,hu,_⟩:=xY hx hk (Nat.eq_of_beq_eq_true hn);exact .inl ⟨_,hu⟩
   cases hn
  cases hn
 rcases key with ⟨ad,hk⟩|⟨f,p,q,hk⟩
 ·exact pure_ok g hT hf Q hd h hx (by simp[execOp,ho,hk])
 exact pure_ok g hT hf Q hd h hx (by simp[execOp,ho,hk])
theorem Eg {H:List (Nat×av)}(hH:∀b box,lk H b=some box→lk s.hp b=some box){t:TypeId}{op:BinOp}{x y:AV}{K:AV→Prop}(h:xW T H op t x y K){u v:Value}
  (hx:ah (aH c R s.hp) w s.hp R x u) (hy:ah (aH c R s.hp) w s.hp R y v) (xo yo:Operand) :
  ∃r,(do eqGuard op t xo yo u v;binOp op t u v:Sem Value).run P w=.ok r w∧∃p,K (.pv p)∧aU (aH c R s.hp) w p r:=by
 unfold xW at h;split at h
 ·rename_i hap;split at h;rotate_left;cases h
  split at h;rotate_left;cases h
  rename_i hn;split at h;rotate_left;cases h
  rename_i i hi;obtain⟨d,hd,eH⟩:=(hT t i hi).eF;split at h;rotate_left;cases h
  rename_i el e;have hd':P.underlying t=some (.pointer el):=by
   rw[e] at eH;cases d<;>simp[di] at eH
   subst eH;exact hd
  have key:∃ad,u=.pointer (some ad):=by
   cases x with
   | cB b ver k off=>
     simp only[Jq] at hn;split at hn
     ·rename_i k' hk;simp only[ah] at hx;cases hb:lk H b with
      |none=>rw[hb] at hk;cases hk
      | some box=>
        rw[hb,←hH _ _ hb] at hk;obtain⟨st,_,hu,_⟩:=xY hx hk (Nat.eq_of_beq_eq_true hn);exact⟨_,hu⟩
     cases hn
   |_=>cases hap
  obtain⟨ad,rfl⟩:=key;simp only[ah,aU] at hy;subst hy;exact fin h (Rn 9999 ad hd') ⟨fun e=>by subst e;rfl,fun e=>by subst e;rfl⟩ ⟨fun _ _ ha _=>(by cases ha),fun ha _=>(by cases ha)⟩
 exact GK hT h hx hy xo yo
theorem MG (op:BinOp)(t:TypeId)(x y:Operand)(yt:TypeId):fJ P T c R s a w id Q (.binOp op t x y yt):=by
 intro o ho hd vs H K hH hv h;unfold cop at h;simp only at h;split at h
 ·obtain⟨hx,hy⟩:=Pw hv;obtain⟨r,h1,p,h2,h3⟩:=Eg (xo:=x) (yo:=y) g hT hf hH h hx hy;exact pure_ok g hT hf Q hd h2 (by simpa only[ah] using h3) (gG (m:=(do eqGuard op t x y (a.eval x) (a.eval y);binOp op t (a.eval x) (a.eval y))) (by unfold execOp;rw[ho]) h1)
 exact h.elim
theorem PN (op:UnOp)(t:TypeId)(x:Operand):fJ P T c R s a w id Q (.unOp op t x):=by
 intro o ho hd vs H K hH hv h;unfold cop at h;simp only at h;split at h
 ·obtain⟨y,v,h1,h2,h3⟩:=GI (P:=P) (w:=w) hH h (Mc hv);exact pure_ok g hT hf Q hd h2 h3 (gG (m:=Op.unary op (a.eval x)) (by unfold execOp;rw[ho]) h1)
 exact h.elim
theorem GL (src dst:TypeId)(x:Operand):fJ P T c R s a w id Q (.convert src dst x):=by
 intro o ho hd vs H K hH hv h;unfold cop at h;simp only at h;split at h
 ·obtain⟨z,w',R',q,ws,h1,h2,h3,h4⟩:=Cr g hT hH h (Mc hv);exact gN hd (gG (m:=convert src dst (a.eval x)) (by unfold execOp;rw[ho]) h1) h2 h3 h4
 exact h.elim
theorem Eh (f:Fn)(first aT:Array Operand):fJ P T c R s a w id Q (.makeFunc f first aT):=by
 intro o ho hd vs H K hH hv h;unfold cop at h;simp only at h;simp only[iG,List.map_append,←Array.toList_map] at hv;rw[show first.size=(first.map a.eval).size from by simp] at h;obtain⟨z,ws,h1,h2,h3,h4⟩:=D8 (P:=P) g hH h hv;exact gN hd (gG (m:=Instr.makeFunc f (first.map a.eval) (aT.map a.eval)) (by unfold execOp;rw[ho]) h1) h2 h3 h4
theorem Cs (t:TypeId)(l n:Operand):fJ P T c R s a w id Q (.makeSlice t l n):=by
 intro o ho hd vs H K hH hv h;unfold cop at h;simp only at h;simp only[iG] at hv;obtain⟨x,y,rfl⟩:∃x y,vs=[x,y]:=by
  have:=hv.length;match vs with
  |[x,y]=>exact⟨x,y,rfl⟩
  |[]=>simp at this
  |[_]=>simp at this
  |_::_::_::_=>simp at this
 obtain⟨hx,hy⟩:=Pw hv;obtain⟨z,w',R',q,ws,h1,h2,h3,h4⟩:=Ea g hT hf h hx hy;exact gN hd (gG (m:=Instr.makeSlice t (a.eval l) (a.eval n)) (by unfold execOp;rw[ho]) h1) h2 h3 h4
theorem ok_slice (t:TypeId)(x:Operand)(l hi m:Option Operand):fJ P T c R s a w id Q (.slice t x l hi m):=by
 intro o ho hd vs H K hH hv h;unfold cop at h;simp only at h;simp only[iG] at hv;obtain⟨y,z,ws,R',h1,h2,h3,h4⟩:=z8 g hT hH h hv;exact gN hd (gG (m:=Instr.sliceAt t (a.eval x) (l.map a.eval) (hi.map a.eval) (m.map a.eval)) (by unfold execOp;rw[ho]) h1) h2 h3 h4
theorem Ct (t:TypeId)(x:Operand)(f:Nat):fJ P T c R s a w id Q (.fieldAddr t x f):=by
 intro o ho hd vs H K hH hv h;unfold cop at h;simp only at h;split at h
 ·obtain⟨y,v,h1,h2,h3⟩:=uK (w:=w) hT hH h (Mc hv);exact pure_ok g hT hf Q hd h2 h3 (gG (m:=Instr.fieldAt t (a.eval x) f) (by unfold execOp;rw[ho]) h1)
 exact h.elim
theorem MH (t:TypeId)(x:Operand)(f:Nat):fJ P T c R s a w id Q (.field t x f):=by
 intro o ho hd vs H K hH hv h;unfold cop at h;simp only at h;split at h
 ·obtain⟨y,v,h1,h2,h3⟩:=GN hT h (Mc hv);exact pure_ok g hT hf Q hd h2 h3 (gG (m:=Instr.field t (a.eval x) f) (by unfold execOp;rw[ho]) h1)
 exact h.elim
theorem Cv (t:TypeId)(x i:Operand):fJ P T c R s a w id Q (.indexAddr t x i):=by
 intro o ho hd vs H K hH hv h;unfold cop at h;simp only at h;split at h
 ·obtain⟨hx,hy⟩:=Pw hv;obtain⟨y,v,h1,h2,h3⟩:=GQ g hT hH h hx hy;exact pure_ok g hT hf Q hd h2 h3 (gG (m:=Instr.indexAt t (a.eval x) (a.eval i)) (by unfold execOp;rw[ho]) h1)
 exact h.elim
theorem MI (t:TypeId)(x i:Operand):fJ P T c R s a w id Q (.index t x i):=by
 intro o ho hd vs H K hH hv h;unfold cop at h;simp only at h;split at h
 ·obtain⟨hx,hy⟩:=Pw hv;obtain⟨y,v,h1,h2,h3⟩:=Cw hT h hx hy;exact pure_ok g hT hf Q hd h2 h3 (gG (m:=Instr.index t (a.eval x) (a.eval i)) (by unfold execOp;rw[ho]) h1)
 exact h.elim
theorem GR (x:Operand)(i:Nat):fJ P T c R s a w id Q (.extract x i):=by
 intro o ho hd vs H K hH hv h;unfold cop at h;simp only at h;split at h
 ·obtain⟨y,v,h1,h2,h3⟩:=xZ (P:=P) h (Mc hv);exact pure_ok g hT hf Q hd h2 h3 (gG (m:=Instr.extract (a.eval x) i) (by unfold execOp;rw[ho]) h1)
 exact h.elim
theorem PO (cc:Call):fJ P T c R s a w id Q (.call cc):=by
 intro o ho hd vs H K hH hv h;unfold cop at h;simp only at h;have hex:execOp a.eval o=(do let d ←resolve a.eval cc o.type;invoke d.target d.args):=by unfold execOp;rw[ho]
 split at h
 ·-- of a function
  rename_i f oU;simp only[iG,oU,List.map_cons] at hv;cases vs with
  |nil=>exact h.elim
  | cons fv args=>
    obtain⟨u,us,e1,Kt,hargs⟩:=hv;simp only[List.cons.injEq] at e1;obtain⟨e1,rfl⟩:=e1;obtain⟨Sv,first,aT,rfl,⟨fn,hfn,hbody,hname⟩,ru⟩:=Ed g hH h Kt hargs;have hrun:(execOp a.eval o).run P w=.ok (.enter Sv (first++(cc.args.toList.map a.eval).toArray++aT)) w:=by
     rw[hex];have hb:fn.body.isNone=false:=by cases oz:fn.body<;>simp[oz] at hbody ⊢
     have e3:(cc.args.toList.map a.eval).toArray=cc.args.map a.eval:=by rw[←Array.toList_map,Array.toArray_toList]
     simp only[resolve,oU,e1,Deferred.ofValue,Sem.run_bind,Sem.run_pure,Result.andThen_ok,invoke,callFunc,run_program,hfn,hname,hb,e3];simp
    unfold Oper.wp;rw[hrun,Oper.upon_enter];refine ru.mono ?_;rintro e w' ⟨v,z,ws,rfl,hK,g2,hr⟩
    exact⟨R,z,ws,hK,g2.put o.dst hd hr⟩
 ·rename_i b oU;simp only[iG,oU] at hv;have hrun:∀{y:Value} {w':World},(builtin b cc.argTypes o.type (cc.args.map fun|.const _=>true|_=>false) (cc.args.map a.eval)).run P w=.ok (.value y) w'→(execOp a.eval o).run P w=.ok (.value y) w':=by
   intro y w' hy;rw[hex];simp only[resolve,oU,Sem.run_bind,Sem.run_pure,Result.andThen_ok,invoke];exact hy
  have hargs:∀l:List Operand,cc.args.toList=l→cc.args.map a.eval=(l.map a.eval).toArray:=by
   intro l hl;rw[←hl,←Array.toList_map,Array.toArray_toList]
  split at h
  ·-- append
   split at h;rotate_left;cases h
   rename_i t t' hts;split at h;rotate_left;cases h
   rename_i Yb;have Yb:=Nat.eq_of_beq_eq_true Yb;subst Yb;have hat:cc.argTypes = #[t,t]:=by rw[←Array.toArray_toList (xs:=cc.argTypes),hts]
   obtain⟨d,x,rfl⟩:∃x y,vs=[x,y]:=by
    unfold vG at h;split at h
    ·exact⟨_,_,rfl⟩
    unfold qK at h;split at h
    ·exact⟨_,_,rfl⟩
    unfold oC at h;split at h
    ·exact⟨_,_,rfl⟩
    unfold oK at h;split at h
    ·exact⟨_,_,rfl⟩
    exact h.elim
   have hl:=hv.length;obtain⟨x1,x2,hal⟩:∃x1 x2,cc.args.toList=[x1,x2]:=by
    simp only[List.length_map] at hl;match hm:cc.args.toList with
    |[x,y]=>exact⟨x,y,rfl⟩
    |[]=>rw[hm] at hl;simp at hl
    |[_]=>rw[hm] at hl;simp at hl
    |_::_::_::_=>rw[hm] at hl;simp at hl
   rw[hal] at hv;obtain⟨hx,hy⟩:=Pw hv;obtain⟨z,w',R',q,ws,h1,h2,h3,h4⟩:=Ei (ty:=o.type) g hT hH hf h hx hy;refine gN hd (hrun ?_) h2 h3 h4;rw[hargs _ hal,hat];simp only[builtin,List.map_cons,List.map_nil,Sem.run_bind,h1,Result.andThen_ok,Sem.run_pure]
  ·-- len
   split at h;rotate_left;cases h
   rename_i t hts;have hat:cc.argTypes = #[t]:=by rw[←Array.toArray_toList (xs:=cc.argTypes),hts]
   split at h;rotate_left;cases h
   rename_i x;have hl:=hv.length;obtain⟨x1,hal⟩:∃x1,cc.args.toList=[x1]:=by
    simp only[List.length_map] at hl;match hm:cc.args.toList with
    |[x]=>exact⟨x,rfl⟩
    |[]=>rw[hm] at hl;simp at hl
    |_::_::_=>rw[hm] at hl;simp at hl
   rw[hal] at hv;obtain⟨y,v,h1,h2,h3⟩:=Ej (ty:=o.type) g hT hH h (Mc hv);refine pure_ok g hT hf Q hd h2 h3 (hrun ?_);rw[hargs _ hal,hat];simp only[builtin,List.map_cons,List.map_nil,Sem.run_bind,h1,Result.andThen_ok,Sem.run_pure]
  ·-- clear
   split at h;rotate_left;cases h
   rename_i t hts;have hat:cc.argTypes = #[t]:=by rw[←Array.toArray_toList (xs:=cc.argTypes),hts]
   split at h;rotate_left;cases h
   rename_i x;have hl:=hv.length;obtain⟨x1,hal⟩:∃x1,cc.args.toList=[x1]:=by
    simp only[List.length_map] at hl;match hm:cc.args.toList with
    |[x]=>exact⟨x,rfl⟩
    |[]=>rw[hm] at hl;simp at hl
    |_::_::_=>rw[hm] at hl;simp at hl
   rw[hal] at hv;obtain⟨z,w',q,ws,h1,h2,h3,h4⟩:=Cx (ty:=o.type) g hT hH h (Mc hv);refine gN hd (hrun ?_) h2 h3 h4;rw[hargs _ hal,hat];simp only[builtin,List.map_cons,List.map_nil,Sem.run_bind,h1,Result.andThen_ok,Sem.run_pure]
  ·-- max
   obtain⟨d,x,rfl⟩:∃x y,vs=[x,y]:=by
    unfold PG at h;split at h
    ·exact⟨_,_,rfl⟩
    exact h.elim
   have hl:=hv.length;obtain⟨x1,x2,hal⟩:∃x1 x2,cc.args.toList=[x1,x2]:=by
    simp only[List.length_map] at hl;match hm:cc.args.toList with
    |[x,y]=>exact⟨x,y,rfl⟩
    |[]=>rw[hm] at hl;simp at hl
    |[_]=>rw[hm] at hl;simp at hl
    |_::_::_::_=>rw[hm] at hl;simp at hl
   rw[hal] at hv;obtain⟨hx,hy⟩:=Pw hv;obtain⟨z,q,h1,h2,h3⟩:=AQ (P:=P) h hx hy cc.argTypes o.type;refine pure_ok g hT hf Q hd h2 h3 (hrun ?_);rw[hargs _ hal];simp only[if_true] at h1;simp only[builtin,List.map_cons,List.map_nil,Sem.run_bind,h1,Result.andThen_ok,Sem.run_pure]
  ·obtain⟨d,x,rfl⟩:∃x y,vs=[x,y]:=by
    unfold PG at h;split at h
    ·exact⟨_,_,rfl⟩
    exact h.elim
   have hl:=hv.length;obtain⟨x1,x2,hal⟩:∃x1 x2,cc.args.toList=[x1,x2]:=by
    simp only[List.length_map] at hl;match hm:cc.args.toList with
    |[x,y]=>exact⟨x,y,rfl⟩
    |[]=>rw[hm] at hl;simp at hl
    |[_]=>rw[hm] at hl;simp at hl
    |_::_::_::_=>rw[hm] at hl;simp at hl
   rw[hal] at hv;obtain⟨hx,hy⟩:=Pw hv;obtain⟨z,q,h1,h2,h3⟩:=AQ (P:=P) h hx hy cc.argTypes o.type;refine pure_ok g hT hf Q hd h2 h3 (hrun ?_);rw[hargs _ hal];simp only[Bool.false_eq_true,if_false] at h1;simp only[builtin,List.map_cons,List.map_nil,Sem.run_bind,h1,Result.andThen_ok,Sem.run_pure]
  exact h.elim
 exact h.elim
theorem GU (t:TypeId)(r:Option Operand):fJ P T c R s a w id Q (.makeMap t r):=by
 intro o ho hd vs H K hH hv h;unfold cop at h;simp only at h;split at h
 ·obtain⟨z,w',R',q,ws,h1,h2,h3,h4⟩:=Cy g hT hf h;exact gN hd (gG (m:=Instr.makeMap t none) (by unfold execOp;rw[ho];rfl) h1) h2 h3 h4
 exact h.elim
theorem Ku (t:TypeId)(x i:Operand)(ok:Bool):fJ P T c R s a w id Q (.lookup t x i ok):=by
 intro o ho hd vs H K hH hv h;unfold cop at h;simp only at h;split at h;rotate_left;cases h
 split at h
 ·obtain⟨hx,hy⟩:=Pw hv;obtain⟨y,v,h1,h2,h3⟩:=El g hT hH h hx hy;exact pure_ok g hT hf Q hd h2 h3 (gG (m:=Instr.lookup t (a.eval x) (a.eval i) false) (by unfold execOp;rw[ho]) h1)
 exact h.elim
theorem Cz (t:TypeId)(x i y:Operand):fJ P T c R s a w id Q (.mapUpdate t x i y):=by
 intro o ho hd vs H K hH hv h;unfold cop at h;simp only at h;split at h;rotate_left;cases h
 obtain⟨hx,hy,hz⟩:=FL3 hv;obtain⟨w',ws,h1,h2,h3⟩:=Aa g hT hH h hx hy hz;unfold Oper.wp;have:(execOp a.eval o).run P w=.ok .skip w':=by unfold execOp;rw[ho];simp[h1]
 rw[this,Oper.upon_skip];exact⟨R,_,ws,h2,h3.put o.dst hd (by simp only[ah,aU])⟩
theorem Sw (op:Op):fJ P T c R s a w id Q op:=by
 cases op with
 |move x=>exact PI g hT hf Q x
 |assign x=>exact Kr g hT hf Q x
 |pick x y z=>exact PK g hT hf Q x y z
 |alloc t=>exact MC g hT hf Q t
 |box t x=>exact Sr g hT hf Q t x
 |build t ps=>exact ME g hT hf Q t ps
 |buildSlice t n ps=>exact zX g hT hf Q t n ps
 |load t x=>exact PL g hT hf Q t x
 |store t x y=>exact MF g hT hf Q t x y
 |nilCheck x=>exact Ef g hT hf Q x
 |binOp op t x y yt=>exact MG g hT hf Q op t x y yt
 |unOp op t x=>exact PN g hT hf Q op t x
 |convert src dst x=>exact GL g hT hf Q src dst x
 |makeFunc f first aT=>exact Eh g hT hf Q f first aT
 |makeSlice t l n=>exact Cs g hT hf Q t l n
 |slice t x l h m=>exact ok_slice g hT hf Q t x l h m
 |fieldAddr t x f=>exact Ct g hT hf Q t x f
 |field t x f=>exact MH g hT hf Q t x f
 |indexAddr t x i=>exact Cv g hT hf Q t x i
 |index t x i=>exact MI g hT hf Q t x i
 |extract x i=>exact GR g hT hf Q x i
 |makeMap t r=>exact GU g hT hf Q t r
 |lookup t x i ok=>exact Ku g hT hf Q t x i ok
 |mapUpdate t x i y=>exact Cz g hT hf Q t x i y
 |call cc=>exact PO g hT hf Q cc
 |_=>intro o ho hd vs H K hH hv h;exact h.elim
theorem Ro {o:Oper}(hd:∀t,o.dst=some t→t<c.n)(hc:jr o.op=true){vs:List AV}{K:AV→List (Nat×av)→List Nat→Prop}(hv:FL (ah (aH c R s.hp) w s.hp R) vs ((iG o.op).map a.eval))
  (h:gC P s.hp id vs K):o.wp P a w (Nx c s o fun v ws=>∃ids,K v ws ids) Q:=by
 cases ho:o.op<;>rw[ho] at hc<;>simp only[jr] at hc<;>try (cases hc;done)
 rename_i cc;split at hc
 ·rename_i f oU;rw[ho] at hv;simp only[iG,oU,List.map_cons] at hv;cases vs with
  |nil=>exact h.elim
  | cons fv args=>
    obtain⟨u,us,e1,Kt,hargs⟩:=hv;simp only[List.cons.injEq] at e1;obtain⟨e1,rfl⟩:=e1;obtain⟨Sv,first,aT,rfl,⟨fn,hfn,hbody,hname⟩,ru⟩:=MJ g h Kt hargs;have hex:execOp a.eval o=(do let d ←resolve a.eval cc o.type;invoke d.target d.args):=by unfold execOp;rw[ho]
    have hrun:(execOp a.eval o).run P w=.ok (.enter Sv (first++(cc.args.toList.map a.eval).toArray++aT)) w:=by
     rw[hex];have hb:fn.body.isNone=false:=by cases oz:fn.body<;>simp[oz] at hbody ⊢
     have e3:(cc.args.toList.map a.eval).toArray=cc.args.map a.eval:=by rw[←Array.toList_map,Array.toArray_toList]
     simp only[resolve,oU,e1,Deferred.ofValue,Sem.run_bind,Sem.run_pure,Result.andThen_ok,invoke,callFunc,run_program,hfn,hname,hb,e3];simp
    unfold Oper.wp;rw[hrun,Oper.upon_enter];refine ru.mono ?_;rintro e w' ⟨v,z,ws,ids,R',rfl,hK,g2,hr⟩
    exact⟨R',z,ws,⟨ids,hK⟩,g2.put o.dst hd hr⟩
 cases hc
theorem U5 {o:Oper}(hd:∀t,o.dst=some t→t<c.n)(hc:jr o.op=true){vs:List AV}{K:AV→List (Nat×av)→List Nat→Prop}(hv:FL (ah (aH c R s.hp) w s.hp R) vs ((iG o.op).map a.eval))
  (h:gV P s.hp id vs K):o.wp P a w (Nx c s o fun v ws=>∃ids,K v ws ids) Q:=by
 refine Oper.wp_mono ?_ (Ro g hT hf Q hd hc hv h);rintro a' w' ⟨R',v,ws,⟨ids,hK⟩,g'⟩
 obtain⟨h1,h2⟩:=rz hK;refine⟨R',v,[],⟨ids,h1⟩,?_⟩;cases U6:o.dst with
 | none=>
   rw[U6] at g';exact g'.congr (fun _=>rfl) fun b=>(h2 b).symm
 | some d=>
   rw[U6] at g';exact g'.congr (fun _=>rfl) fun b=>(h2 b).symm
theorem U7 {o:Oper}(hd:∀t,o.dst=some t→t<c.n)(hc:jr o.op=true){vs:List AV}{K:AV→List (Nat×av)→List Nat→Prop}(hv:FL (ah (aH c R s.hp) w s.hp R) vs ((iG o.op).map a.eval))
  (h:gI P s.hp id vs K):o.wp P a w (Nx c s o fun v ws=>∃ids,K v ws ids) Q:=by
 cases ho:o.op<;>rw[ho] at hc<;>simp only[jr] at hc<;>try (cases hc;done)
 rename_i cc;split at hc
 ·rename_i f oU;rw[ho] at hv;simp only[iG,oU,List.map_cons] at hv;cases vs with
  |nil=>exact h.elim
  | cons fv args=>
    obtain⟨u,us,e1,Kt,hargs⟩:=hv;simp only[List.cons.injEq] at e1;obtain⟨e1,rfl⟩:=e1;obtain⟨Sv,first,aT,rfl,⟨fn,hfn,hbody,hname⟩,ru⟩:=MK g h Kt hargs;have hex:execOp a.eval o=(do let d ←resolve a.eval cc o.type;invoke d.target d.args):=by unfold execOp;rw[ho]
    have hrun:(execOp a.eval o).run P w=.ok (.enter Sv (first++(cc.args.toList.map a.eval).toArray++aT)) w:=by
     rw[hex];have hb:fn.body.isNone=false:=by cases oz:fn.body<;>simp[oz] at hbody ⊢
     have e3:(cc.args.toList.map a.eval).toArray=cc.args.map a.eval:=by rw[←Array.toList_map,Array.toArray_toList]
     simp only[resolve,oU,e1,Deferred.ofValue,Sem.run_bind,Sem.run_pure,Result.andThen_ok,invoke,callFunc,run_program,hfn,hname,hb,e3];simp
    unfold Oper.wp;rw[hrun,Oper.upon_enter];refine ru.mono ?_;rintro e w' ⟨v,z,ws,ids,R',rfl,hK,g2,hr⟩
    exact⟨R',z,ws,⟨ids,hK⟩,g2.put o.dst hd hr⟩
 cases hc
theorem U8 {o:Oper}(hd:∀t,o.dst=some t→t<c.n)(hc:jr o.op=true){vs:List AV}{K:AV→List (Nat×av)→List Nat→Prop}(hv:FL (ah (aH c R s.hp) w s.hp R) vs ((iG o.op).map a.eval))
  (h:dC P s.hp vs K):o.wp P a w (Nx c s o fun v ws=>∃ids,K v ws ids) Q:=by
 cases ho:o.op<;>rw[ho] at hc<;>simp only[jr] at hc<;>try (cases hc;done)
 rename_i cc;split at hc
 ·rename_i f oU;rw[ho] at hv;simp only[iG,oU,List.map_cons] at hv;cases vs with
  | nil=>
    unfold dC at h;simp only[oV] at h;split at h
    ·simp at h
    exact h.elim
  | cons fv args=>
    obtain⟨u,us,e1,Kt,hargs⟩:=hv;simp only[List.cons.injEq] at e1;obtain⟨e1,rfl⟩:=e1;obtain⟨Sv,first,aT,rfl,⟨fn,hfn,hbody,hname⟩,ru⟩:=ML g h Kt hargs;have hex:execOp a.eval o=(do let d ←resolve a.eval cc o.type;invoke d.target d.args):=by unfold execOp;rw[ho]
    have hrun:(execOp a.eval o).run P w=.ok (.enter Sv (first++(cc.args.toList.map a.eval).toArray++aT)) w:=by
     rw[hex];have hb:fn.body.isNone=false:=by cases oz:fn.body<;>simp[oz] at hbody ⊢
     have e3:(cc.args.toList.map a.eval).toArray=cc.args.map a.eval:=by rw[←Array.toList_map,Array.toArray_toList]
     simp only[resolve,oU,e1,Deferred.ofValue,Sem.run_bind,Sem.run_pure,Result.andThen_ok,invoke,callFunc,run_program,hfn,hname,hb,e3];simp
    unfold Oper.wp;rw[hrun,Oper.upon_enter];refine ru.mono ?_;rintro e w' ⟨v,z,ws,ids,R',rfl,hK,g2,hr⟩
    exact⟨R',z,ws,⟨ids,hK⟩,g2.put o.dst hd hr⟩
 cases hc
theorem Jv {o:Oper}(hd:∀t,o.dst=some t→t<c.n){vs:List AV}{K:AV→List (Nat×av)→List Nat→Prop}(hv:FL (ah (aH c R s.hp) w s.hp R) vs ((iG o.op).map a.eval))
  (h:sM P T o.op vs s.hp id K):o.wp P a w (Nx c s o fun v ws=>∃ids,K v ws ids) Q:=by
 unfold sM at h;simp only at h;split at h;rotate_left;cases h
 rename_i H hH;refine Oper.wp_mono ?_ (Sw g hT hf Q o.op o rfl hd vs H _ (vH hH) hv h);rintro a w ⟨R,v,ws,hK,g2⟩
 exact⟨R,v,ws,⟨_,hK⟩,g2⟩
theorem U9 {o:Oper}(hd:∀t,o.dst=some t→t<c.n)(hc:jr o.op=true){vs:List AV}{K:AV→List (Nat×av)→List Nat→Prop}(hv:FL (ah (aH c R s.hp) w s.hp R) vs ((iG o.op).map a.eval))
  (ro:Option Nat) (h:yC P s.hp vs K):o.wpIn (W1 ro) 0 P a w (Nx c s o fun v ws=>∃ids,K v ws ids) Q:=by
 cases ho:o.op<;>rw[ho] at hc<;>simp only[jr] at hc<;>try (cases hc;done)
 rename_i cc;split at hc
 ·rename_i f oU;rw[ho] at hv;simp only[iG,oU,List.map_cons] at hv;unfold yC at h;split at h;rotate_left;cases h
  rename_i l args;obtain⟨u,us,e1,Kt,hargs⟩:=hv;simp only[List.cons.injEq] at e1;obtain⟨e1,rfl⟩:=e1;split at h;rotate_left;cases h
  rename_i y ver rest st h9;split at h;rotate_left;cases h
  split at h;rotate_left;cases h
  split at h;rotate_left;cases h
  rename_i ps hps;obtain⟨rfl,x,r,rfl,hle,hK⟩:=h;have hbx:=g.boxes 999 _ h9;obtain⟨-,kh,k1,k2,k3,k4⟩:=hbx;simp only[ah,aU] at Kt;obtain⟨fs,cs,rfl,hfs,hcs⟩:=Kt;simp only[cZ] at hfs hcs;have hfs:fs = #[]:=by simpa using hfs
  have hcs:cs = #[]:=by simpa using hcs
  subst hfs hcs;have hargs':cZ (aH c R s.hp) w ps (cc.args.toList.map a.eval):=by
   have:=(bZ _ _ _ _ _ _).2 hargs;rw[uL hps] at this;exact oW _ _ this
  have hx:cZ (fun q=>R.Y.D q∨iU c R s.hp q) w x (cc.args.toList.map a.eval):=by
   refine lS (N:=aH c R s.hp) (fun q hq=>?_) _ _ _ hle hargs';rcases hq with hq|hq
   ·exact .inr ⟨999,by rw[h9];exact hq⟩
   exact hq.1
  obtain⟨fn,tmps,assign,body,hrun,CB⟩:=kh x r R.Y.Z R.Y.D R.Y.wy w (iU c R s.hp) _ (by simpa using k1) k2 k3 (fun q hq=>(k4 q hq.1).resolve_left hq.2)
   (fun q hq=>g.UD hq.1) (fun q hq=>hq.2) hx
  have hex:execOp a.eval o=(do let d ←resolve a.eval cc o.type;invoke d.target d.args):=by unfold execOp;rw[ho]
  have e3:(cc.args.toList.map a.eval).toArray=cc.args.map a.eval:=by rw[←Array.toList_map,Array.toArray_toList]
  have hrun':(execOp a.eval o).run P w=.ok (.round l fn tmps assign body) w:=by
   rw[hex];rw[e3] at hrun;simp only[resolve,oU,e1,Deferred.ofValue,Sem.run_bind,Sem.run_pure,Result.andThen_ok,invoke];simpa using hrun
  have Yc:Oper.semAt ro a.eval o=execOp a.eval o:=by
   cases ro with
   |none=>rfl
   |some l=>exact Oper.semAt_some l _ _ (fun c e=>by rw[ho] at e;cases e)
  refine⟨fun _ _=>trivial,?_⟩;show o.uponIn (W1 ro) 0 P a _ Q ((Oper.semAt ro a.eval o).run P w)
  rw[Yc,hrun',Oper.uponIn_round];refine⟨fun e=>(by cases e),?_⟩;refine (show RoundIn (W1 ro) 0 P l fn tmps assign body w _ from CB).mono ?_;rintro e w' ⟨D',b,rfl,hE,hD1,hD2,hJ⟩
  obtain⟨g2,hr⟩:=g.yielded h9 hE hD1 hD2 hJ;exact⟨_,_,_,⟨_,hK⟩,g2.put o.dst hd hr⟩
 cases hc
theorem Kv (ro:Option Nat){o:Oper}(hd:∀t,o.dst=some t→t<c.n){K:AV→List (Nat×av)→List Nat→Prop}(h:MB P T o s.tm s.hp id K) :
  o.wpIn (W1 ro) 0 P a w (Nx c s o fun v ws=>∃ids,K v ws ids) Q:=by
 have nd:∀{vs:List AV},sM P T o.op vs s.hp id K→∀c,o.op ≠ .defer c:=by
  intro vs hf c e;rw[e] at hf;unfold sM at hf;simp only at hf;split at hf
  ·exact hf.elim
  exact hf.elim
 have XE:jr o.op=true→∀c,o.op ≠ .defer c:=fun hc c e=>by rw[e] at hc;cases hc
 unfold MB at h;split at h;rotate_left;cases h
 rename_i vs hvs;split at h
 ·rename_i hc;split at h
  ·exact U9 g hT hf Q hd hc (iT g hvs) ro h
  rcases h with (h|h)|h
  rotate_left 2
  ·split at h
   ·exact jv ro (XE hc) (U7 g hT hf Q hd hc (iT g hvs) h)
   exact jv ro (XE hc) (U5 g hT hf Q hd hc (iT g hvs) h)
  ·unfold lC at h;split at h
   ·exact jv ro (XE hc) (U8 g hT hf Q hd hc (iT g hvs) h)
   exact jv ro (nd h) (Jv g hT hf Q hd (iT g hvs) h)
  exact jv ro (XE hc) (Ro g hT hf Q hd hc (iT g hvs) h)
 exact jv ro (nd h) (Jv g hT hf Q hd (iT g hvs) h)
end
end
structure oZ where
 look:List Nat
 dst:Option Nat
 rd:List Nat
 wr:List Nat
def tmpsOf:List Operand→List Nat
 |[]=>[]
 |.tmp t::r=>t::tmpsOf r
 |_::r=>tmpsOf r
def Sy (tm:List (Nat×AV))(d:Option Nat)(v:AV):List (Nat×AV):=
 match d with
 |some d=>(d,v)::tm
 |none=>tm
def qg (ops:List Oper)(o:Oper):Option Nat:=
 match o.guard with
 |none=>none
 | some (j,_)=>match nth ops j with
   |some oj=>oj.dst
   |none=>none
def rA (ops:List Oper)(o:Oper):List Nat:=
 match qg ops o with
 |some d=>[d]
 |none=>[]
abbrev RK:=List (Nat×AV)→List (Nat×av)→List oZ→Prop
abbrev RC:=List (Nat×AV)→List (Nat×av)→List oZ→List (Nat×Bool)→Prop
def Sz (tm:List (Nat×AV))(d:Option Nat)(v:AV)(K:List (Nat×AV)→Prop):Prop:=
 match d with
 |some d=>K ((d,v)::tm)
 |none=>K tm
theorem qh (tm:List (Nat×AV))(d:Option Nat)(v:AV)(K:List (Nat×AV)→Prop):Sz tm d v K=K (Sy tm d v):=by cases d<;>rfl
def PU:List (Nat×av)→List (Nat×av)→(List (Nat×av)→Prop)→Prop
 |[],hp,K=>K hp
 |x::r,hp,K=>PU r hp fun h=>K (x::h)
theorem xg:∀(ws hp:List (Nat×av)) (K:List (Nat×av)→Prop),PU ws hp K=K (ws++hp)
 |[],_,_=>rfl
 |x::r,hp,K=>by simp only[PU,xg r hp];rfl
def Rp (P:Program)(T:Tab)(ops:List Oper)(base:Nat)(o:Oper)(i:Nat)(tm:List (Nat×AV))(hp:List (Nat×av))(tr:List oZ)(kn:List (Nat×Bool))(K:RC):Prop:=
 match lk hp (base+i) with
 |some _=>False
 | none=>MB P T o tm hp (base+i) fun v ws ids=>
   Sz tm o.dst v fun tm=>PU ws hp fun hp=>K tm hp (⟨rA ops o++tmpsOf (iG o.op),o.dst,(base+i)::ids,keys ws⟩::tr) kn
def vJ (ops:List Oper)(o:Oper)(tm:List (Nat×AV))(hp:List (Nat×av))(tr:List oZ)(kn:List (Nat×Bool))(K:RC):Prop:=
 Sz tm o.dst (.pv (.sc undef)) fun tm=>K tm hp (⟨rA ops o,o.dst,[],[]⟩::tr) kn
def SA (P:Program)(T:Tab)(ops:List Oper)(base:Nat)(o:Oper)(i:Nat)(wanted:Bool)(tm:List (Nat×AV))(hp:List (Nat×av))(tr:List oZ)(kn:List (Nat×Bool))(K:RC):Prop:=
 match wanted with
 |true=>Rp P T ops base o i tm hp tr kn K
 |false=>vJ ops o tm hp tr kn K
def mI (P:Program)(T:Tab)(ops:List Oper)(base:Nat)(o:Oper)(i:Nat)(tm:List (Nat×AV))(hp:List (Nat×av))(tr:List oZ)(kn:List (Nat×Bool))(K:RC):Prop:=
 match o.guard with
 |none=>Rp P T ops base o i tm hp tr kn K
 | some (j,want)=>match qg ops o with
   |none=>False
   | some d=>match lk tm d with
     | some (.pv (.sc v))=>match v with
       | .bool b=>match lk kn j with
         | some _=>match b with
           |true=>SA P T ops base o i want tm hp tr kn K
           |false=>SA P T ops base o i (!want) tm hp tr kn K
         | none=>(b=true→SA P T ops base o i want ((d,.pv (.sc (.bool true)))::tm) hp tr ((j,true)::kn) K) ∧
           (b=false→SA P T ops base o i (!want) ((d,.pv (.sc (.bool false)))::tm) hp tr ((j,false)::kn) K)
       |.tuple _=>vJ ops o tm hp tr kn K
       |_=>False
     |_=>False
def GV (P:Program)(T:Tab)(ops:List Oper)(base:Nat):List Oper→Nat→List (Nat×AV)→List (Nat×av)→List oZ→List (Nat×Bool)→RK→Prop
 |[],_,tm,hp,tr,_,K=>K tm hp tr
 |o::r,i,tm,hp,tr,kn,K=>mI P T ops base o i tm hp tr kn fun tm hp tr kn=>GV P T ops base r (i+1) tm hp tr kn K
section
variable {P:Program}{T:Tab}{c:Ctx}{R:Real}{s:AS}{a:Act}{w:World}
theorem aR.SB (g:aR c R s a w){tm:List (Nat×AV)}(h:∀t v,lk tm t=some v→lk s.tm t=some v):aR c R { s with tm:=tm } a w:=
 ⟨fun t v hv=>g.slots t v (h t v hv),g.size,g.lo,g.marks,g.fixed,g.boxes,g.inj,g.free,g.gq,g.eG,g.kept⟩
def kL (n:Nat):List Oper→Bool
 |[]=>true
 | o::r=>match o.dst with
   | some d=>match Nat.blt d n with
     |true=>kL n r
     |false=>false
   |none=>kL n r
theorem Jw (tm:List (Nat×AV))(nx:Nat)(hp:List (Nat×av))(d:Option Nat)(v:AV):(AS.mk tm nx hp).put d v=⟨Sy tm d v,nx,hp⟩:=by
 cases d<;>rfl
theorem GX {α:Type}(a:Array α)(i:Nat):nth a.toList i=a[i]? :=by rw[o6,Array.getElem?_toList]
theorem GY {ops:Array Oper}{o:Oper}{j:Nat}{want:Bool}(ho:o.guard=some (j,want)){d:Nat}(hs:qg ops.toList o=some d)(tmps:Array Value) :
  yielded ops tmps j=match tmps[d]? with
   |some (.bool b)=>some b
   |_=>none:=by
 unfold qg at hs;rw[ho] at hs;simp only[GX] at hs;split at hs
 ·rename_i oj hoj;unfold yielded;simp only[hoj,Option.bind_some,hs];rfl
 cases hs
theorem vK (g:aR c R s a w)(hT:bC P T){ops:Array Oper}{base i:Nat}(hid:base+i<s.nx){o:Oper}(hd:∀t,o.dst=some t→t<c.n){tr:List oZ}{kn:List (Nat×Bool)}{K:RC}
  (h:mI P T ops.toList base o i s.tm s.hp tr kn K) (ro:Option Nat) (Q:Exit→Act→World→Prop) :
  if Region.wanted o (yielded ops a.tmps) then o.wpIn (W1 ro) 0 P a w (fun a' w'=>∃R' tm hp mr Ab,K tm hp mr Ab∧aR c R' ⟨tm,s.nx,hp⟩ a' w') Q
  else ∃tm hp mr Ab,K tm hp mr Ab∧aR c R ⟨tm,s.nx,hp⟩ (a.put o.dst undef) w:=by
 have ex:∀(s':AS),aR c R s' a w→s'.nx=s.nx→∀kn,Rp P T ops.toList base o i s'.tm s'.hp tr kn K →
   o.wpIn (W1 ro) 0 P a w (fun a' w'=>∃R' tm hp mr Ab,K tm hp mr Ab∧aR c R' ⟨tm,s.nx,hp⟩ a' w') Q:=by
  intro s' g' hn kn h;unfold Rp at h;split at h
  ·exact h.elim
  rename_i hfr;refine Oper.wpIn_mono ?_ (Kv g' hT hfr Q ro hd h);rintro a' w' ⟨R',v,ws,⟨ids,hK⟩,g2⟩
  rw[qh,xg] at hK;refine⟨R',_,_,_,_,hK,?_⟩;rw[←hn,←Jw];exact g2
 have sk:∀(s':AS),aR c R s' a w→s'.nx=s.nx→∀kn,vJ ops.toList o s'.tm s'.hp tr kn K →
   ∃tm hp mr Ab,K tm hp mr Ab∧aR c R ⟨tm,s.nx,hp⟩ (a.put o.dst undef) w:=by
  intro s' g' hn kn h;unfold vJ at h;rw[qh] at h;refine⟨_,_,_,_,h,?_⟩;have:=g'.put o.dst hd (v:=.pv (.sc undef)) (x:=undef) (by simp only[ah,aU]);rw[←hn,←Jw];exact this
 have go:∀(want b:Bool) (s':AS),aR c R s' a w→s'.nx=s.nx→∀kn wt,wt=(b==want)→SA P T ops.toList base o i wt s'.tm s'.hp tr kn K→(Region.wanted o (yielded ops a.tmps)=(b==want)) →
   if Region.wanted o (yielded ops a.tmps) then o.wpIn (W1 ro) 0 P a w (fun a' w'=>∃R' tm hp mr Ab,K tm hp mr Ab∧aR c R' ⟨tm,s.nx,hp⟩ a' w') Q
   else ∃tm hp mr Ab,K tm hp mr Ab∧aR c R ⟨tm,s.nx,hp⟩ (a.put o.dst undef) w:=by
  intro want b s' g' hn kn wt hw h Va;rw[Va];subst hw;cases hb:b==want with
  |true=>rw[hb] at h;simp only[if_true];exact ex s' g' hn kn h
  |false=>rw[hb] at h;simp only[Bool.false_eq_true,if_false];exact sk s' g' hn kn h
 unfold mI at h;split at h
 ·rename_i hg;simp only[Region.wanted,hg,if_true];exact ex s g rfl _ h
 rename_i j want hg;split at h
 ·exact h.elim
 rename_i d hsl;have hy:=GY hg hsl a.tmps;have hwd:Region.wanted o (yielded ops a.tmps)=(yielded ops a.tmps j==some want):=by simp[Region.wanted,hg]
 split at h;rotate_left;cases h
 rename_i v hv;obtain⟨x,hx,hr⟩:=g.slots d _ hv;simp only[ah,aU] at hr;subst hr;split at h
 ·rename_i b;have hyb:yielded ops a.tmps j=some b:=by rw[hy,hx]
  have hwb:Region.wanted o (yielded ops a.tmps)=(b==want):=by rw[hwd,hyb];cases b<;>cases want<;>rfl
  split at h
  ·split at h
   ·exact go want true s g rfl _ want (by cases want<;>rfl) h hwb
   exact go want false s g rfl _ (!want) (by cases want<;>rfl) h hwb
  obtain⟨h1,h2⟩:=h;have hsub:∀(b':Bool),b=b'→aR c R { s with tm:=(d,.pv (.sc (.bool b')))::s.tm } a w:=by
   rintro _ rfl
   refine g.SB fun t u hu=>?_
   rw[aj] at hu;split at hu
   ·rename_i e;rw[←e,←hu];exact hv
   exact hu
  cases b with
  |true=>exact go want true _ (hsub true rfl) rfl _ want (by cases want<;>rfl) (h1 rfl) hwb
  |false=>exact go want false _ (hsub false rfl) rfl _ (!want) (by cases want<;>rfl) (h2 rfl) hwb
 ·have hyn:yielded ops a.tmps j=none:=by rw[hy,hx]
  have hwf:Region.wanted o (yielded ops a.tmps)=false:=by rw[hwd,hyn];rfl
  rw[hwf];simp only[Bool.false_eq_true,if_false];exact sk s g rfl _ h
 exact h.elim
theorem rC (ro:Option Nat)(hT:bC P T){ops:Array Oper}{base:Nat}{K:RK}{Q:Exit→Act→World→Prop}:∀(l:List Oper) (i:Nat) {R:Real} {s:AS} {a:Act} {w:World} {tr:List oZ} {kn:List (Nat×Bool)},
  aR c R s a w→base+i+l.length≤s.nx→kL c.n l=true→GV P T ops.toList base l i s.tm s.hp tr kn K →
  (∀R tm hp tr a w,K tm hp tr→aR c R ⟨tm,s.nx,hp⟩ a w→Q .normal a w)→wpListIn (W1 ro) 0 P ops Q l a w
 | [],i,R,s,a,w,tr,kn,g,hl,hd,h,hQ=>by
   exact wpListIn_nil (hQ R s.tm s.hp tr a w h g)
 | o::r,i,R,s,a,w,tr,kn,g,hl,hd,h,hQ=>by
   simp only[GV] at h;simp only[List.length_cons] at hl;have hd1:∀t,o.dst=some t→t<c.n:=by
    intro t ht;simp only[kL,ht] at hd;split at hd
    ·rename_i hb;rw[Nat.blt_eq] at hb;exact hb
    cases hd
   have hd2:kL c.n r=true:=by
    simp only[kL] at hd;split at hd
    ·split at hd
     ·exact hd
     cases hd
    exact hd
   have hs:=vK g hT (ops:=ops) (by omega) hd1 h ro Q;refine wpListIn_step fun K' lT=>?_
   split
   ·rename_i hw;rw[if_pos hw] at hs;refine Oper.wpIn_mono ?_ hs;rintro a' w' ⟨R',tm,hp,mr,Ab,h',g'⟩
    exact lT _ _ (rC ro hT r (i+1) g' (by simp only;omega) hd2 h' hQ)
   rename_i hw;rw[if_neg hw] at hs;obtain⟨tm,hp,mr,Ab,h',g'⟩:=hs;exact⟨fun _ _=>trivial,lT _ _ (rC ro hT r (i+1) g' (by simp only;omega) hd2 h' hQ)⟩
end
section
section
variable {N N':Nat→Prop}{w w':World}(hN:∀r cur e fr,w.heap[r]? = some (.cells cur e fr)→N' r→N r)
 (hw:∀r cur e fr,w.heap[r]? = some (.cells cur e fr)→¬N r→w'.heap[r]? = some (.cells cur e fr))
include hN hw
mutual
theorem nk:∀(p:PV) (v:Value),aU N w p v→aU N' w' p v
 |.sc x,v=>by simp only[aU];exact id
 |.agg cs,v=>by simp only[aU];rintro⟨vs,h1,h2⟩;exact⟨vs,h1,zx cs _ h2⟩
 |.fF cs,v=>by simp only[aU];rintro⟨vs,h1,h2⟩;exact⟨vs,h1,lm cs _ h2⟩
 | .sl nn st rows,v=>by
   simp only[aU];rintro⟨p,len,cap,h1,h2,h3,h4,h5⟩
   refine⟨p,len,cap,h1,h2,h3,h4,fun a ha=>?_⟩;rcases h5 a ha with h7|⟨h6,h7,cur,e,fr,h8,h9⟩
   ·exact .inl h7
   exact .inr ⟨h6,fun h=>h7 (hN _ _ _ _ h8 h),cur,e,fr,hw _ _ _ _ h8 h7,iQ st rows _ h9⟩
 | .bT row off,v=>by
   simp only[aU];rintro⟨g,base,cur,e,fr,h1,h7,h8,h9⟩
   exact⟨g,base,cur,e,fr,h1,fun h=>h7 (hN _ _ _ _ h8 h),hw _ _ _ _ h8 h7,jC row _ h9⟩
 | .fn f first aT,v=>by
   simp only[aU];rintro⟨fs,cs,h1,h2,h3⟩;exact⟨fs,cs,h1,lm _ _ h2,lm _ _ h3⟩
 |.junk,v=>by simp only[aU];exact id
 | .Gw st rows,v=>by
   simp only[aU];rintro⟨a,h1,h2,h5⟩
   refine⟨a,h1,h2,?_⟩;rcases h5 with h7|⟨h6,h7,cur,e,fr,h8,h9⟩
   ·exact .inl h7
   exact .inr ⟨h6,fun h=>h7 (hN _ _ _ _ h8 h),cur,e,fr,hw _ _ _ _ h8 h7,iQ st rows _ h9⟩
theorem lm:∀(ps:List PV) (vs:List Value),cZ N w ps vs→cZ N' w' ps vs
 |[],vs=>by simp only[cZ];exact id
 |p::ps,vs=>by simp only[cZ];rintro⟨v,r,h1,h2,h3⟩;exact⟨v,r,h1,nk p v h2,lm ps r h3⟩
theorem zx:∀(ps:List PV) (vs:List Value),fG N w ps vs→fG N' w' ps vs
 |[],vs=>by simp only[fG];exact id
 |p::ps,vs=>by simp only[fG];rintro⟨v,r,h1,h0,h2,h3⟩;exact⟨v,r,h1,h0,nk p v h2,zx ps r h3⟩
theorem jC:∀(ps:List PV) (vs:List Value),dM N w ps vs→dM N' w' ps vs
 |[],vs=>by simp only[dM];exact id
 |p::ps,vs=>by simp only[dM];rintro⟨v,r,h1,h0,h2,h3⟩;exact⟨v,r,h1,h0,nk p v h2,jC ps r h3⟩
theorem iQ (st:Nat):∀(rows:List (List PV)) (vs:List Value),bf N w st rows vs→bf N' w' st rows vs
 |[],vs=>by simp only[bf];exact id
 |row::rows,vs=>by simp only[bf];rintro⟨h1,h2,h3⟩;exact⟨h1,jC row _ h2,iQ st rows _ h3⟩
end
variable {hp:List (Nat×av)}{R:Real}
mutual
theorem oh:∀(p:AV) (v:Value),ah N w hp R p v→ah N' w' hp R p v
 |.pv p,v=>by simp only[ah];exact nk hN hw p v
 |.agg cs,v=>by simp only[ah];rintro⟨vs,a,b⟩;exact⟨vs,a,jR cs _ b⟩
 |.fF cs,v=>by simp only[ah];rintro⟨vs,a,b⟩;exact⟨vs,a,lY cs _ b⟩
 |.ptr b off,v=>by simp only[ah];exact id
 |.aG b ver,v=>by simp only[ah];exact id
 |.sub b ver st lo hi,v=>by simp only[ah];exact id
 |.cB b ver i off,v=>by simp only[ah];exact id
 | .fn f first aT,v=>by
   simp only[ah];rintro⟨fs,cs,a,b,c⟩;exact⟨fs,cs,a,lY _ _ b,lY _ _ c⟩
theorem lY:∀(ps:List AV) (vs:List Value),bB N w hp R ps vs→bB N' w' hp R ps vs
 |[],vs=>by simp only[bB];exact id
 |p::ps,vs=>by simp only[bB];rintro⟨v,r,a,b,c⟩;exact⟨v,r,a,oh p v b,lY ps r c⟩
theorem jR:∀(ps:List AV) (vs:List Value),bq N w hp R ps vs→bq N' w' hp R ps vs
 |[],vs=>by simp only[bq];exact id
 |p::ps,vs=>by simp only[bq];rintro⟨v,r,a,d,b,c⟩;exact⟨v,r,a,d,oh p v b,jR ps r c⟩
end
end
section
variable {N N':Nat→Prop}{w w':World}{hp:List (Nat×av)}{R:Real}
variable (hN:∀r cur e fr,w.heap[r]? = some (.cells cur e fr)→N' r→N r)(hw:∀r cur e fr,w.heap[r]? = some (.cells cur e fr)→¬N r→w'.heap[r]? = some (.cells cur e fr))
include hN hw
theorem rU {st j:Nat}{ed:TypeId}{sd:Nat} :
  ∀{hs:List (Option Value)} {rs:List (Bool×List PV)} {xs:List Value},(∀v,some v∈hs→∀k,v.ownBlock=some k→w'.heap[k]? = w.heap[k]?)→bS N w st j ed sd hs rs xs→bS N' w' st j ed sd hs rs xs
 |[],[],xs,_,h=>by simp only[bS]
 |[],_::_,xs,_,h=>by simp only[bS] at h
 |_::_,[],xs,_,h=>by simp only[bS] at h
 | h::hs,(fl,r)::rs,xs,hk,hh=>by
   simp only[bS] at hh ⊢;obtain⟨h1,h2,h3⟩:=hh;refine⟨h1,?_,rU (fun v hv=>hk v (by simp[hv])) h3⟩;cases h with
   | none=>cases fl with
     |false=>exact jC hN hw _ _ h2
     |true=>exact h2.elim
   | some v=>cases fl with
     |false=>exact h2.elim
     | true=>
       obtain⟨rr,ys,a1,a0,a2,a3,a4⟩:=h2;exact⟨rr,ys,a1,a0,jC hN hw _ _ a2,bV a3 fun k hk'=>hk v (by simp) k hk',iQ hN hw _ _ _ a4⟩
theorem LF {b:Nat}{e:TypeId}{ver st j:Nat}{ed:TypeId}{sd:Nat}{pre post:List (Bool×List PV)}{row:List AV}
  (hk:∀k,ax R b k (some (.bR e ver st j ed sd pre row post))→w'.heap[k]? = w.heap[k]?) (hrow:∀vs,bq N w hp R row vs→bq N' w' hp R row vs)
  (h:dm N w hp R b (.bR e ver st j ed sd pre row post)):dm N' w' hp R b (.bR e ver st j ed sd pre row post):=by
 obtain⟨xs,hs1,hs2,a1,a2,a3,a4,a5,a6,a7⟩:=h;refine⟨xs,hs1,hs2,a1,?_,rU hN hw (fun v hv k hk'=>hk k (.inr ⟨v,by rw[a1];simp[hv],hk'⟩)) a3,a4,hrow _ a5,rU hN hw (fun v hv k hk'=>hk k (.inr ⟨v,by rw[a1];simp[hv],hk'⟩)) a6,a7⟩;refine bV a2 fun k hk'=>hk k (.inl ?_)
 simp only[bA] at hk';cases hnil:R.nil b with
 |true=>simp[hnil,Value.ownBlock] at hk'
 |false=>simp[hnil,Value.ownBlock] at hk';exact⟨rfl,hk'⟩
end
theorem xk.nK {c1 c2:Ctx}{R:Real}{hp:List (Nat×av)}{w w':World}(g:xk c1 R hp w)(abK:∀r,aH c1 R hp r→r<w.heap.size)
  (hK:∀v x,c2.K v x→ah (aH c1 R hp) w hp R v x) (hF:∀r,r<w.heap.size→c2.F r→c1.F r)
  (hw:∀r o,w.heap[r]? = some o→(r<c1.n0.1∨o.isCells=true∨owned R hp r)→¬c1.F r→w'.heap[r]? = some o)
  (hsz:w.heap.size≤w'.heap.size) (hos:w'.os=w.os∧w'.tape=w.tape∧w'.output=w.output)
  (hfree:∀r,owned R hp r→¬c2.F r) (hfix:ou c2.fix (owned R hp) w') (Uf:iZ c2.O c2.w w') (OH:∀r,owned R hp r→c2.O r∨c2.w.heap.size≤r) (hlo:c2.n0=c1.n0∧c2.n0.1≤c2.lo∧c2.lo≤w'.heap.size) :
  xk c2 R hp w'∧∀v x,ah (aH c1 R hp) w hp R v x→ah (aH c2 R hp) w' hp R v x:=by
 have hN:∀r,r<w.heap.size→aH c2 R hp r→aH c1 R hp r:=by
  rintro r hr (h|h)
  ·exact .inl (hF r hr h)
  exact .inr h
 have Mh:∀r cur e fr,w.heap[r]? = some (.cells cur e fr)→aH c2 R hp r→aH c1 R hp r:=fun r cur e fr h=>hN r (size_of_getElem? h)
 have hw2:∀r cur e fr,w.heap[r]? = some (.cells cur e fr)→¬aH c1 R hp r→w'.heap[r]? = some (.cells cur e fr):=fun r cur e fr h hn=>hw r _ h (.inr (.inl rfl)) fun hf=>hn (.inl hf)
 have hwo:∀r o,w.heap[r]? = some o→owned R hp r→w'.heap[r]? = some o:=fun r o h ho=>hw r o h (.inr (.inr ho)) (g.free r ho)
 refine⟨⟨?_,g.inj,hfree,Uf,OH,fun v x h=>oh Mh hw2 v x (hK v x h),hfix,⟨by rw[hlo.1];exact g.lo.1,hlo.2⟩⟩,fun v x h=>oh Mh hw2 v x h⟩;intro b box h;have hr:=g.boxes b box h;have hkeep:∀r o,ax R b r (some box)→w.heap[r]? = some o→w'.heap[r]? = some o:=fun r o ho hx=>hwo r o hx ⟨b,by rw[h];exact ho⟩
 cases box with
 | var cells=>
   obtain⟨cur,e,h8,h9⟩:=hr;exact⟨cur,e,hkeep _ _ rfl h8,jR Mh hw2 _ _ h9⟩
 | ny cells=>
   obtain⟨cur,e,fr,h8,h7,h9⟩:=hr;exact⟨cur,e,fr,hw2 _ _ _ _ h8 h7,fun x=>h7 (Mh _ _ _ _ h8 x),jC Mh hw2 _ _ h9⟩
 | arr e ver st rows=>
   obtain⟨xs,h8,h9⟩:=hr;refine⟨xs,bV h8 fun k hk=>?_,iQ Mh hw2 _ _ _ h9⟩;have hlt:=(h8.lt k hk).2;have hk':ax R b k (some (.arr e ver st rows)):=by
    simp only[bA] at hk;cases hnil:R.nil b with
    |true=>simp[hnil,Value.ownBlock] at hk
    |false=>simp[hnil,Value.ownBlock] at hk;exact⟨hnil,hk⟩
   have hx:w.heap[k]? = some w.heap[k]:=by simp[hlt]
   rw[hkeep k _ hk' hx,hx]
 |bX ver st rows=>exact nk Mh hw2 _ _ hr
 | tr y ver rest st=>
   obtain⟨k0,kh,k1,k2,k3,k4⟩:=hr;refine⟨k0,kh,k1,⟨Nat.le_trans k2.size hsz,fun r o hro hz hc=>?_,hos.1.trans k2.os,hos.2.1.trans k2.tape,hos.2.2.trans k2.output⟩,k3,fun r hn=>?_⟩
   ·have h2:=k2.keep r o hro hz hc;have hD:¬c1.F r:=fun hf=>by
     rcases k4 r (.inl hf) with hd|hz'|hs
     ·exact g.free r ⟨b,by rw[h];exact hd⟩ hf
     ·exact hz hz'
     have:=size_of_getElem? hro;omega
    exact hw r o h2 (hc.imp (fun hl=>by rw[←g.lo.1];exact hl) fun hc=>hc.imp id fun hd=>⟨b,by rw[h];exact hd⟩) hD
   by_cases hlt:r<w.heap.size
   ·exact k4 r (hN r hlt hn)
   exact .inr (.inr (by have:=k2.size;omega))
 | mp kk kv es=>
   obtain⟨cur,clock,h8,h9,h10⟩:=hr;exact⟨cur,clock,hkeep _ _ ⟨h9,rfl⟩ h8,h9,h10⟩
 | bR e ver st j ed sd pre row post=>
   have hr':=hr;exact LF Mh hw2 (fun k hk'=>by
    have hlt:=AX.iB hr' hk';have hx:w.heap[k]? = some w.heap[k]:=by simp[hlt]
    rw[hkeep k _ hk' hx,hx]) (fun vs h=>jR Mh hw2 _ _ h) hr'
 | dL e ver st pre row post=>
   obtain⟨xs,h8,h9,h10,h11,h12⟩:=hr;refine⟨xs,bV h8 fun k hk=>?_,iQ Mh hw2 _ _ _ h9,h10,jR Mh hw2 _ _ h11,iQ Mh hw2 _ _ _ h12⟩;have hlt:=(h8.lt k hk).2;have hk':ax R b k (some (.dL e ver st pre row post)):=by
    simp only[bA] at hk;cases hnil:R.nil b with
    |true=>simp[hnil,Value.ownBlock] at hk
    |false=>simp[hnil,Value.ownBlock] at hk;exact⟨hnil,hk⟩
   have hx:w.heap[k]? = some w.heap[k]:=by simp[hlt]
   rw[hkeep k _ hk' hx,hx]
theorem aR.nK {c1 c2:Ctx}{R:Real}{s:AS}{a a':Act}{w w':World}(g:aR c1 R s a w)(hn:c2.n=c1.n)(ha:a'.tmps=a.tmps)
  (hK:∀v x,c2.K v x→ah (aH c1 R s.hp) w s.hp R v x) (hF:∀r,r<w.heap.size→c2.F r→c1.F r)
  (hw:∀r o,w.heap[r]? = some o→(r<c1.n0.1∨o.isCells=true∨owned R s.hp r)→¬c1.F r→w'.heap[r]? = some o)
  (hsz:w.heap.size≤w'.heap.size) (hos:w'.os=w.os∧w'.tape=w.tape∧w'.output=w.output)
  (hfree:∀r,owned R s.hp r→¬c2.F r) (hfix:ou c2.fix (owned R s.hp) w') (Uf:iZ c2.O c2.w w') (OH:∀r,owned R s.hp r→c2.O r∨c2.w.heap.size≤r) (hlo:c2.n0=c1.n0∧c2.n0.1≤c2.lo∧c2.lo≤w'.heap.size)
  (hm:∃Ds,Marks c2.lo (owned R s.hp) w' a'.defers Ds):aR c2 R s a' w':=by
 obtain⟨h,hmap⟩:=g.hap.nK (fun r=>g.UD) hK hF hw hsz hos hfree hfix Uf OH hlo;refine h.JA (fun t v hv=>?_) (by rw[ha,hn];exact g.size) hm;obtain⟨x,hx,hr⟩:=g.slots t v hv;exact⟨x,by rw[ha];exact hx,hmap v x hr⟩
end
def Kw (P:Program)(f:FuncId)(aT:List PV)(xs:List (List PV)):Prop:=
 Enters P f∧∀(l:Nat) (J:List (List PV)→Bool→(Nat→Prop)→(Nat→Prop)→World→Prop) (D:Nat→Prop) (w:World) (bG:Array Value),YH (P,l) w.heap.size J→(∀r,D r→r<w.heap.size) →
  J xs false (fun _=>False) D w→cZ D w aT bG.toList →
  Calls P f (#[.func (.yield l) #[] #[]]++bG) w fun e w'=>(∃v,e=.returned v)∧∃rest st Z D' wy,J rest st Z D' wy∧wN w.heap.size Z D' wy w'∧(st=true∨rest=[])
def jU (s s':AS):Prop:=∀(c:Ctx) (R:Real) (a:Act) (w:World),aR c R s a w→∃R',aR c R' s' a w
theorem jU.refl (s:AS):jU s s:=fun c R a w g=>⟨R,g⟩
theorem jU.trans {s1 s2 s3:AS}(h:jU s1 s2)(h':jU s2 s3):jU s1 s3:=fun c R a w g=>let ⟨R1,g1⟩:=h c R a w g;h' c R1 a w g1
mutual
def zf:AV→Bool
 |.pv _=>true
 |.agg cs=>tZ cs
 |.fF cs=>tZ cs
 |.ptr b _=>Nat.blt b 1000
 |.cB b _ _ _=>Nat.blt b 1000 && !Nat.beq b 999
 |.aG b _=>Nat.blt b 1000
 |.sub b _ _ _ _=>Nat.blt b 1000
 |.fn _ a c=>tZ a&&tZ c
def tZ:List AV→Bool
 |[]=>true
 |v::r=>zf v&&tZ r
end
def AU:List (Nat×AV)→Bool
 |[]=>true
 |(_,v)::r=>zf v&&AU r
theorem zh:∀{tm:List (Nat×AV)} {t:Nat} {v:AV},AU tm=true→lk tm t=some v→zf v=true
 |[],t,v,_,h=>by simp[lk] at h
 | (t',v')::r,t,v,hl,h=>by
   simp only[AU,Bool.and_eq_true] at hl;rw[aj] at h;split at h
   ·simp only[Option.some.injEq] at h;rw[←h];exact hl.1
   exact zh hl.2 h
def MN:List Nat→List PV→List (Nat×AV)→Option (List (Nat×AV))
 | [],ps,tm=>match ps with
   |[]=>some tm
   |_=>none
 | p::r,ps,tm=>match ps with
   |v::vs=>MN r vs ((p,.pv v)::tm)
   |[]=>none
def Di:Exit→Option Code
 |.ret=>some .ret
 |.exit id=>some (.exit id)
 |_=>none
def Ve (tm:List (Nat×AV))(next:AS→Prop)(K:Exit→AS→Prop)(e:Exit)(s:AS):Prop:=
 match e with
 | .normal=>match s with
   |⟨_,nx,hp⟩=>next ⟨tm,nx,hp⟩
 | .ret=>match s with
   |⟨_,nx,hp⟩=>K .ret ⟨tm,nx,hp⟩
 | .exit id=>match s with
   |⟨_,nx,hp⟩=>K (.exit id) ⟨tm,nx,hp⟩
 |_=>False
section
variable {N N':Nat→Prop}{w w':World}{hp hp':List (Nat×av)}{R R':Real}(hN:∀r,r<w.heap.size→N' r→N r)(hw:∀r,r<w.heap.size→¬N r→w'.heap[r]? = w.heap[r]?)
 (hk:∀v x,fQ v=true→ah N w hp R v x→ah N' w' hp' R' v x)
include hN hw hk
mutual
theorem zi:∀(v:AV) (x:Value),zf v=true→ah N w hp R v x→ah N' w' hp' R' v x
 |.pv p,x,_,h=>by simp only[ah] at h ⊢;exact bN hN hw p x h
 |.agg cs,x,hl,h=>by simp only[ah] at h ⊢;obtain⟨vs,a,b⟩:=h;exact⟨vs,a,BQ cs _ (by simpa only[zf] using hl) b⟩
 |.fF cs,x,hl,h=>by simp only[ah] at h ⊢;obtain⟨vs,a,b⟩:=h;exact⟨vs,a,qz cs _ (by simpa only[zf] using hl) b⟩
 |.ptr b off,x,hl,h=>hk _ x (by simpa only[zf,fQ] using hl) h
 |.cB b ver i off,x,hl,h=>hk _ x (by simpa only[zf,fQ] using hl) h
 |.aG b ver,x,hl,h=>hk _ x (by simpa only[zf,fQ] using hl) h
 | .sub b ver st lo hi,x,hl,h=>by
   simp only[ah] at h ⊢;obtain⟨u,a,c⟩:=h;have:=hk (.aG b ver) u (by simpa only[zf,fQ] using hl) (by simpa only[ah] using a);simp only[ah] at this;exact⟨u,this,c⟩
 | .fn f a c,x,hl,h=>by
   simp only[ah] at h ⊢;simp only[zf,Bool.and_eq_true] at hl;obtain⟨fs,cs,e,h1,h2⟩:=h;exact⟨fs,cs,e,qz a _ hl.1 h1,qz c _ hl.2 h2⟩
theorem qz:∀(vs:List AV) (xs:List Value),tZ vs=true→bB N w hp R vs xs→bB N' w' hp' R' vs xs
 |[],xs,_,h=>by simpa only[bB] using h
 | v::r,xs,hl,h=>by
   simp only[bB] at h ⊢;simp only[tZ,Bool.and_eq_true] at hl;obtain⟨x,ys,e,h1,h2⟩:=h;exact⟨x,ys,e,zi v x hl.1 h1,qz r ys hl.2 h2⟩
theorem BQ:∀(vs:List AV) (xs:List Value),tZ vs=true→bq N w hp R vs xs→bq N' w' hp' R' vs xs
 |[],xs,_,h=>by simpa only[bq] using h
 | v::r,xs,hl,h=>by
   simp only[bq] at h ⊢;simp only[tZ,Bool.and_eq_true] at hl;obtain⟨x,ys,e,h0,h1,h2⟩:=h;exact⟨x,ys,e,h0,zi v x hl.1 h1,BQ r ys hl.2 h2⟩
end
end
theorem Om {N N':Nat→Prop}{w w':World}{hp:List (Nat×av)}{R:Real}{v:AV}{x:Value}(h:fQ v=true)(hr:ah N w hp R v x):ah N' w' hp R v x:=by
 cases v<;>simp only[fQ] at h<;>first
  |(simp only[ah] at hr ⊢;exact hr)
  |cases h
theorem BR {c:Ctx}{R:Real}{w:World}{nx:Nat}{hp:List (Nat×av)}:∀(ps:List Nat) (x:List PV) (tm tm':List (Nat×AV)) (a:Act) (vs:List Value),(∀t∈ps,t<c.n)→MN ps x tm=some tm' →
  cZ (aH c R hp) w x vs→aR c R ⟨tm,nx,hp⟩ a w→vs.length=ps.length∧aR c R ⟨tm',nx,hp⟩ { a with tmps:=(ps.zip vs).foldl (fun t (p,v)=>t.setIfInBounds p v) a.tmps } w
 | [],x,tm,tm',a,vs,_,h,hr,g=>by
   cases x with
   | nil=>
     simp only[MN,Option.some.injEq] at h;subst h;simp only[cZ] at hr;subst hr;exact⟨rfl,g⟩
   |cons _ _=>simp[MN] at h
 | p::ps,x,tm,tm',a,vs,hps,h,hr,g=>by
   cases x with
   |nil=>simp[MN] at h
   | cons y ys=>
     simp only[MN] at h;simp only[cZ] at hr;obtain⟨v,r,rfl,h1,h2⟩:=hr;have g1:=g.put (some p) (fun t ht=>by cases ht;exact hps p (by simp)) (v:=.pv y) (x:=v) (by simpa only[ah] using h1);obtain⟨e,g2⟩:=BR ps ys _ _ _ r (fun t ht=>hps t (by simp[ht])) h h2 g1;exact⟨by simp[e],g2⟩
structure GZ (c:Ctx)(ro:Option Nat):Prop where
 lp:∀l0,ro=some l0→∃r0,c.fix l0=some (.loop r0)
 nc:∀r o,c.fix r=some o→o.isCells=false
def PD (c:Ctx)(Z:Nat→Prop)(l:Nat)(wy:World)(r:Nat):Prop:=(c.F r∨Z r∨r=l)∧r<wy.heap.size
def cb (c:Ctx)(Z:Nat→Prop)(l:Nat)(wy:World):Ctx where
 F:=PD c Z l wy
 O r:=c.O r∨c.w.heap.size≤r
 w:=wy
 n:=c.n
 hF r h:=h.2
 K:=c.K
 hK:=c.hK
 fix:=c.fix
 n0:=c.n0
 lo:=c.lo
def cr (c:Ctx)(Z:Nat→Prop)(l:Nat)(W:World)(own:Nat→Prop)(Kx:AV→Value→Prop)(Wi:∀v x,Kx v x→fQ v=true)(fx:Nat→Option Obj)(lo:Nat):Ctx where
 F:=PD c Z l W
 O r:=own r∨r=l
 w:=W
 n:=c.n
 hF r h:=h.2
 K v x:=c.K v x∨Kx v x
 hK v x h:=h.elim (c.hK v x) (Wi v x)
 fix:=fx
 n0:=c.n0
 lo:=lo
def mq (c:Ctx)(l:Nat)(o:Obj)(Dl:List Nat)(r:Nat):Option Obj:=if r=l then some o else if r∈Dl then some (.deferred (some [])) else c.fix r
def Wj (c:Ctx)(l:Nat)(Dl:List Nat)(R:Real)(hp:List (Nat×av))(r:Nat):Prop:=owned R hp r∨r=l∨(∃o,c.fix r=some o)∨r∈Dl∨c.F r
structure RJ {ι:Type}(c:Ctx)(ao:Act)(l n1:Nat)(Dl:List Nat)(rec:LoopState→Option Code→Loop)(xs:List (List PV))(st:Nat→ι→AS)(K:Exit→AS→Prop)
  (R:Real) (s:AS) (rest:List (List PV)) (Lp:Bool) (Z D:Nat→Prop) (wy:World):Prop where
 zz:∀r,Z r→n1≤r∧r<wy.heap.size∧¬D r
 n1:n1≤wy.heap.size
 gq:iZ c.O c.w wy
 dd:∀r,D r↔Wj c l Dl R s.hp r
 dlt:∀r,D r→r<wy.heap.size
 g:aR (cb c Z l wy) R s ao wy
 Oo:Marks c.lo (owned R s.hp) wy ao.defers Dl
 run:Lp=false→∃k i,s=st k i∧rest=xs.drop k∧k≤xs.length∧wy.heap[l]? = some (.loop (rec .ready none))
 out:Lp=true→∃e code,Di e=some code∧K e s∧wy.heap[l]? = some (.loop (rec .done (some code)))
theorem Fy {P:Program}{ι:Type}{c:Ctx}{ao:Act}{l n1:Nat}{Dl:List Nat}{fn:FuncId}{ps:Array Tmp}{Gr En:Code}{TP:Nat}{xs:List (List PV)}{st:Nat→ι→AS}{K:Exit→AS→Prop}
  {rec:LoopState→Option Code→Loop} (Fz:∀s p,rec s p={ state:=s,pending:=p,fn:=fn,tmps:=ao.tmps,params:=ps,assign:=Gr,body:=En,defers:=TP })
  (hl1:c.w.heap.size≤n1) (hln:c.w.heap.size≤l) (X0:l∉Dl) (X3:c.fix l=none) (abx:l<n1) (hn0:c.n0.1≤n1) (hlo:c.n0.1≤c.lo) (hlo1:c.lo≤n1)
  (hnc:∀r o,c.fix r=some o→o.isCells=false) (hps:∀t∈ps.toList,t<c.n) (hlow:∀k i,AU (st k i).tm=true) {A:Nat→ι→List PV→AS→Prop}
  (TQ:∀(c':Ctx) (k:Nat) (i:ι) (x:List PV) (tm:List (Nat×AV)) (R:Real) (a:Act) (w:World),c'.n=c.n→GZ c' (some l)→xs[k]? = some x→MN ps.toList x (st k i).tm=some tm →
   aR c' R ⟨tm,(st k i).nx,(st k i).hp⟩ a w→Gr.wpIn (W1 (some l)) 0 P (Exit.then (fun a1 w1=>∃R1 s1,A k i x s1∧aR c' R1 s1 a1 w1) (fun _ _ _=>False)) a w)
  (TR:∀(c':Ctx) (k:Nat) (i:ι) (x:List PV) (s1:AS) (R:Real) (a:Act) (w:World),c'.n=c.n→GZ c' (some l)→xs[k]? = some x→A k i x s1 →
   aR c' R s1 a w→En.wpIn (W1 (some l)) 0 P (fun e a' w'=>∃R' s',Ve (st k i).tm (fun s''=>∃j,jU s'' (st (k+1) j)) K e s'∧aR c' R' s' a' w') a w)
  (TS:∀k i x,xs[k]? = some x→∃tm,MN ps.toList x (st k i).tm=some tm) :
  YH (P,l) n1 fun rest Lp Z D wy=>∃R s,RJ c ao l n1 Dl rec xs st K R s rest Lp Z D wy:=by
 rintro x rest Z D wy W Z' vs ⟨R0,s0,J⟩ hE hDlt hZ1 YJ hZ3 hvs
 obtain⟨k,i,rfl,hrest,hkl,YK⟩:=J.run rfl;have hxk:xs[k]? = some x:=by
  have:=congrArg (fun l=>l[0]?) hrest;simpa using this.symm
 have TT:rest=xs.drop (k+1):=by
  have:=congrArg List.tail hrest;simpa using this
 have Tt:k<xs.length:=(List.getElem?_eq_some_iff.1 hxk).1;obtain⟨tmx,Wm⟩:=TS k i x hxk;have g0:=J.g;have hsz:=hE.size;have n1W:n1≤W.heap.size:=Nat.le_trans J.n1 hsz;have TU:l<W.heap.size:=by omega
 have UU:∀(Z0:Nat→Prop) (wz:World),l<wz.heap.size→PD c Z0 l wz l:=fun Z0 wz h=>⟨.inr (.inr rfl),h⟩
 have FB:∀r,owned R0 (st k i).hp r→D r:=fun r h=>(J.dd r).2 (.inl h)
 have wY:D l:=(J.dd l).2 (.inr (.inl rfl));have TV:∀r,D r→¬Z r:=fun r hd hz=>(J.zz r hz).2.2 hd
 have cwW:c.w.heap.size≤W.heap.size:=by omega
 have Wn:∀r,r<wy.heap.size→PD c Z' l W r→PD c Z l wy r:=by
  rintro r hr ⟨h,_⟩
  exact⟨h.imp id fun h=>h.imp (fun h=>(hZ1 r h).resolve_right (by omega)) id,hr⟩
 have hl0:W.heap[l]? = some (.loop (rec .ready none)):=hE.keep l _ YK (TV l wY) (.inr (.inr wY));let NW:Nat→Prop:=fun r=>PD c Z' l W r∨owned R0 (st k i).hp r
 let Kx:AV→Value→Prop:=fun v y=>fQ v=true∧ah NW W (st k i).hp R0 v y
 have Wi:∀v y,Kx v y→fQ v=true:=fun v y h=>h.1
 let c1:Ctx:=cr c Z' l W (owned R0 (st k i).hp) Kx Wi (mq c l (.loop (rec .ready none)) Dl) W.heap.size
 have Oq:∀d∈Dl,d≠l:=fun d hd e=>X0 (e▸hd)
 have RV:∀r o,c.fix r=some o→r≠l:=fun r o h e=>by rw[e,X3] at h;cases h
 have Wo:∀(o':Obj),o'.isCells=false→∀r o,mq c l o' Dl r=some o→o.isCells=false:=by
  intro o' ho' r o h;simp only[mq] at h;split at h
  ·simp only[Option.some.injEq] at h;rw[←h];exact ho'
  split at h
  ·simp only[Option.some.injEq] at h;rw[←h];rfl
  exact hnc r o h
 have G1:aR c1 R0 (st k i) { tmps:=ao.tmps,defers:=[] } W:=by
  refine g0.nK (c2:=c1) rfl rfl ?_ Wn ?_ hsz ⟨hE.os,hE.tape,hE.output⟩ ?_ ?_ (iZ.refl _ _) (fun r h=>.inl (.inl h)) ⟨rfl,by show c.n0.1≤W.heap.size;omega,Nat.le_refl _⟩ ⟨[],Marks.nil⟩
  ·rintro v y (h|h)
   ·exact g0.kept v y h
   exact Om h.1 h.2
  ·intro r o ho hc hf;have hrz:¬Z r:=fun hz=>hf ⟨.inr (.inl hz),size_of_getElem? ho⟩
   exact hE.keep r o ho hrz (hc.imp (fun h=>by have:r<c.n0.1:=h;omega) fun h=>h.imp id (FB r))
  ·intro r ho hf;exact g0.free r ho (Wn r (hDlt r (FB r ho)) hf)
  refine⟨fun r o h=>?_,fun r o h ho=>?_,Wo _ rfl⟩
  ·simp only[c1,cr,mq] at h;split at h
   ·rename_i e;simp only[Option.some.injEq] at h;rw[e,←h];exact hl0
   split at h
   ·rename_i hd;simp only[Option.some.injEq] at h;have hD:=(J.dd r).2 (.inr (.inr (.inr (.inl hd))));rw[←h];exact hE.keep r _ (J.Oo.obj r hd) (TV r hD) (.inr (.inr hD))
   have hD:=(J.dd r).2 (.inr (.inr (.inl ⟨o,h⟩)));exact hE.keep r _ (g0.fixed.obj r o h) (TV r hD) (.inr (.inr hD))
  simp only[c1,cr,mq] at h;split at h
  ·rename_i e;subst e;exact g0.free r ho (UU Z wy (hDlt _ wY))
  split at h
  ·rename_i hd;exact J.Oo.free r hd ho
  exact g0.fixed.free r o h ho
 have YL:cZ (aH c1 R0 (st k i).hp) W x vs:=by
  refine mD (N:=fun r=>D r∨Z' r) (fun r _ h=>?_) (fun _ _ _=>rfl) _ _ hvs;rcases h with ⟨h,_⟩|h
  ·rcases h with h|h|h
   ·exact .inl ((J.dd r).2 (.inr (.inr (.inr (.inr h)))))
   ·exact .inr h
   exact .inl (h▸wY)
  exact .inl (FB r h)
 obtain⟨hlen,G1p⟩:=BR (c:=c1) ps.toList x (st k i).tm tmx _ vs hps Wm YL G1;have hrun:=run_yield (P:=P) (args:=vs.toArray) hl0 (by rw[Fz];simpa using hlen);rw[Fz] at hrun;refine⟨fn,_,Gr,En,hrun,roundIn_of_wpIn trivial ?_⟩;have Wp:∀(r0:Loop),GZ (cr c Z' l W (owned R0 (st k i).hp) Kx Wi (mq c l (.loop r0) Dl) W.heap.size) (some l):=by
  intro r0;refine⟨fun l0 e=>?_,fun r o h=>?_⟩
  ·simp only[Option.some.injEq] at e;subst e;exact⟨r0,by simp[cr,mq]⟩
  simp only[cr,mq] at h;split at h
  ·simp only[Option.some.injEq] at h;rw[←h];rfl
  split at h
  ·simp only[Option.some.injEq] at h;rw[←h];rfl
  exact hnc r o h
 have YM:c1.fix l=some (.loop (rec .ready none)):=by simp[c1,cr,mq]
 have Ky:((ps.zip vs.toArray).foldl (fun tmps (x:Nat×Value)=>tmps.setIfInBounds x.1 x.2) ao.tmps)=(ps.toList.zip vs).foldl (fun t (x:Nat×Value)=>t.setIfInBounds x.1 x.2) ao.tmps:=by
  rw[←Array.foldl_toList,Array.toList_zip]
 simp only[] at Ky ⊢;rw[Ky];refine wpIn_mono (TQ c1 k i x tmx R0 _ W rfl (Wp _) hxk Wm G1p) ?_;rintro e a1 w1 h1
 cases e with
 | normal=>
   obtain⟨R1,s1,hA,G2⟩:=h1;have TW:w1.heap[l]? = some (.loop (rec .ready none)):=G2.fixed.obj l _ YM;refine⟨_,run_beginRound TW (by rw[Fz]),?_⟩;generalize Ot:Obj.loop { rec .ready none with state:=.busy }=ob;let c2:Ctx:=cr c Z' l W (owned R0 (st k i).hp) Kx Wi (mq c l ob Dl) W.heap.size
   have YN:l<w1.heap.size:=size_of_getElem? TW;have G3:aR c2 R1 s1 a1 (w1.putObj l ob):=by
    refine G2.nK (c2:=c2) rfl rfl (fun v y h=>G2.kept v y h) (fun r _ h=>h) ?_ (by simp) ⟨rfl,rfl,rfl⟩ (fun r h=>G2.free r h) ?_ ?_ (fun r h=>G2.eG r h)
     ⟨rfl,by show c.n0.1≤W.heap.size;omega,by rw[World.putObj_size];exact G2.lo.2.2⟩ ?_
    ·intro r o ho _ hf;have hrl:r≠l:=fun e=>hf (e▸UU Z' W TU)
     rw[World.putObj_heap_other hrl];exact ho
    ·refine⟨fun r o h=>?_,fun r o h=>?_,Wo ob (by rw[←Ot];rfl)⟩
     ·simp only[c2,cr,mq] at h;by_cases e:r=l
      ·subst e;simp only[if_true,Option.some.injEq] at h;rw[World.putObj_heap_same YN,h]
      rw[World.putObj_heap_other e];refine G2.fixed.obj r o ?_;simp only[c1,cr,mq];simpa only[if_neg e] using h
     by_cases e:r=l
     ·subst e;exact fun ho=>G2.free r ho (UU Z' W TU)
     refine G2.fixed.free r o ?_;simp only[c2,cr,mq] at h;simp only[c1,cr,mq];simpa only[if_neg e] using h
    ·refine G2.gq.trans (O':=fun r=>r=l) ⟨by simp,fun r _ hn=>World.putObj_heap_other hn,rfl,rfl,rfl⟩ fun r _ h=>.inr h
    obtain⟨Ds,hm⟩:=G2.marks;refine⟨Ds,hm.low,hm.eq,hm.nodup,fun d hd=>?_,hm.free⟩;have:=hm.obj d hd;rw[World.putObj_heap_other]
    ·exact this
    rintro rfl
    rw[TW] at this;cases this
   have YO:c2.fix l=some ob:=by simp[c2,cr,mq]
   refine wpIn_mono (TR c2 k i x s1 R1 a1 _ rfl (by have:=Wp { rec .ready none with state:=.busy };rw[Ot] at this;exact this) hxk hA G3) ?_;rintro e a' w' ⟨R',s',hK,G4⟩
   have hl4:w'.heap[l]? = some (.loop { rec .ready none with state:=.busy }):=by rw[Ot];exact G4.fixed.obj l _ YO
   have TY:l<w'.heap.size:=size_of_getElem? hl4;have YP:W.heap.size≤w'.heap.size:=G4.gq.size;let c3:Ctx:=cr c Z' l W (owned R0 (st k i).hp) (fun _ _=>False) (fun _ _ h=>h.elim) c.fix c.lo
   have G5:∀o',aR c3 R' ⟨(st k i).tm,s'.nx,s'.hp⟩ ao (w'.putObj l o')∧Marks c.lo (owned R' s'.hp) (w'.putObj l o') ao.defers Dl:=by
    intro o';have hmk:Marks c.lo (owned R' s'.hp) (w'.putObj l o') ao.defers Dl:=by
     refine⟨J.Oo.low,J.Oo.eq,J.Oo.nodup,fun d hd=>?_,fun d hd=>?_⟩
     ·rw[World.putObj_heap_other (Oq d hd)];exact G4.fixed.obj d _ (by simp[c2,cr,mq,Oq d hd,hd])
     exact G4.fixed.free d (.deferred (some [])) (by simp[c2,cr,mq,Oq d hd,hd])
    obtain⟨H,hmap⟩:=G4.hap.nK (c2:=c3) (w':=w'.putObj l o') (fun r=>G4.UD) (fun v y h=>by
      rcases h with h|h
      ·exact G4.kept v y (.inl h)
      ·exact h.elim) (fun r _ h=>h) (fun r o ho _ hf=>by
      have hrl:r≠l:=fun e=>hf (e▸UU Z' W TU)
      rw[World.putObj_heap_other hrl];exact ho) (by simp) ⟨rfl,rfl,rfl⟩ (fun r h=>G4.free r h)
     ⟨fun r o h=>by
       have hrl:=RV r o h;rw[World.putObj_heap_other hrl];by_cases hd:r∈Dl
       ·have h1:=J.Oo.obj r hd;have h2:=g0.fixed.obj r o h;rw[h1] at h2;simp only[Option.some.injEq] at h2;rw[←h2];exact G4.fixed.obj r _ (by simp[c2,cr,mq,hrl,hd])
       exact G4.fixed.obj r o (by have h':c.fix r=some o:=h;simp[c2,cr,mq,hrl,hd,h']),
      fun r o h=>by
       have hrl:=RV r o h;by_cases hd:r∈Dl
       ·exact G4.fixed.free r (.deferred (some [])) (by simp[c2,cr,mq,hrl,hd])
       exact G4.fixed.free r o (by have h':c.fix r=some o:=h;simp[c2,cr,mq,hrl,hd,h']),hnc⟩
     (G4.gq.trans (O':=fun r=>r=l) ⟨by simp,fun r _ hn=>World.putObj_heap_other hn,rfl,rfl,rfl⟩ fun r _ h=>.inr h) (fun r h=>G4.eG r h)
     ⟨rfl,hlo,by show c.lo≤_;rw[World.putObj_size];omega⟩
    refine⟨H.JA (fun t v hv=>?_) G1.size ⟨Dl,hmk⟩,hmk⟩;obtain⟨y,hy,hr⟩:=G1.slots t v hv;refine⟨y,hy,hmap v y ?_⟩;refine zi (N:=NW) (w:=W) (hp:=(st k i).hp) (R:=R0) (fun r hr h=>?_) (fun r hr hn=>?_) (fun v y hl h=>G4.kept v y (.inr ⟨hl,h⟩)) v y (zh (hlow k i) hv) hr
    ·rcases h with h|h
     ·exact .inl h
     rcases G4.eG r h with (h|h)|h
     ·exact .inr h
     ·exact .inl (h▸UU Z' W TU)
     exact absurd hr (Nat.not_lt.2 h)
    refine G4.gq.keep r hr fun ho=>?_
    rcases ho with ho|ho
    ·exact hn (.inr ho)
    exact hn (.inl (ho▸UU Z' W TU))
   have Ou:∀(o':Obj) (R5:Real) (s5:AS) (Lp:Bool) (_:aR c3 R5 s5 ao (w'.putObj l o')) (_:Marks c.lo (owned R5 s5.hp) (w'.putObj l o') ao.defers Dl)
     (_:Lp=false→∃k i,s5=st k i∧rest=xs.drop k∧k≤xs.length∧(w'.putObj l o').heap[l]? = some (.loop (rec .ready none)))
     (_:Lp=true→∃e code,Di e=some code∧K e s5∧(w'.putObj l o').heap[l]? = some (.loop (rec .done (some code)))),
     ∃(D':Nat→Prop),iZ D W (w'.putObj l o')∧(∀r,D' r→D r∨W.heap.size≤r)∧(∀r,D' r→r<(w'.putObj l o').heap.size) ∧
      ∃R s,RJ c ao l n1 Dl rec xs st K R s rest Lp Z' D' (w'.putObj l o'):=by
    intro o' R5 s5 Lp G6 RX Wq Ws;have hW4:W.heap.size≤(w'.putObj l o').heap.size:=by simpa using YP
    have hD1:∀r,Wj c l Dl R5 s5.hp r→D r∨W.heap.size≤r:=by
     rintro r (h|h|h|h|h)
     ·rcases G6.eG r h with (h|h)|h
      ·exact .inl (FB r h)
      ·exact .inl (h▸wY)
      exact .inr h
     ·exact .inl (h▸wY)
     ·exact .inl ((J.dd r).2 (.inr (.inr (.inl h))))
     ·exact .inl ((J.dd r).2 (.inr (.inr (.inr (.inl h)))))
     exact .inl ((J.dd r).2 (.inr (.inr (.inr (.inr h)))))
    have Wt:∀r,Wj c l Dl R5 s5.hp r→r<(w'.putObj l o').heap.size:=by
     intro r h;rcases h with ⟨b,h⟩|h
     ·exact G6.iB h
     have:D r:=by
      rcases h with h|h|h|h
      ·exact h▸wY
      ·exact (J.dd r).2 (.inr (.inr (.inl h)))
      ·exact (J.dd r).2 (.inr (.inr (.inr (.inl h))))
      exact (J.dd r).2 (.inr (.inr (.inr (.inr h))))
     have:=hDlt r this;omega
    have hF3:∀r,PD c Z' l (w'.putObj l o') r→PD c Z' l W r:=by
     rintro r ⟨h,_⟩
     refine⟨h,?_⟩;rcases h with h|h|h
     ·have:=c.hF r h;omega
     ·exact YJ r h
     omega
    refine⟨Wj c l Dl R5 s5.hp,G6.gq.mono fun r h=>h.elim (FB r) fun h=>h▸wY,hD1,Wt,R5,s5,?_⟩;refine⟨fun r hz=>⟨?_,?_,fun hd=>?_⟩,by omega,?_,fun r=>Iff.rfl,Wt,?_,RX,Wq,Ws⟩
    ·rcases hZ1 r hz with h|h
     ·exact (J.zz r h).1
     have:=J.n1;omega
    ·have:=YJ r hz;omega
    ·rcases hd with h|h
     ·exact G6.free r h ⟨.inr (.inl hz),YJ r hz⟩
     have:D r:=by
      rcases h with h|h|h|h
      ·exact h▸wY
      ·exact (J.dd r).2 (.inr (.inr (.inl h)))
      ·exact (J.dd r).2 (.inr (.inr (.inr (.inl h))))
      exact (J.dd r).2 (.inr (.inr (.inr (.inr h))))
     exact hZ3 r hz this
    ·have e1:iZ c.O c.w W:=by
      refine⟨Nat.le_trans J.gq.size hsz,fun r hr hn=>?_,hE.os.trans J.gq.os,hE.tape.trans J.gq.tape,hE.output.trans J.gq.output⟩;have h1:=J.gq.keep r hr hn;have hx:c.w.heap[r]? = some c.w.heap[r]:=by simp[hr]
      rw[hx] at h1 ⊢;exact hE.keep r _ h1 (fun hz=>by have:=(J.zz r hz).1;omega) (.inl (by omega))
     refine e1.trans G6.gq fun r hr ho=>?_
     rcases ho with ho|ho
     ·rcases g0.eG r ho with (h|h)|h
      ·exact h
      ·omega
      have h:wy.heap.size≤r:=h;have:=J.n1;omega
     omega
    refine G6.nK (c2:=cb c Z' l (w'.putObj l o')) rfl rfl (fun v y h=>G6.kept v y (.inl h)) (fun r _ h=>hF3 r h) (fun r o ho _ _=>ho) (Nat.le_refl _) ⟨rfl,rfl,rfl⟩ (fun r h hf=>G6.free r h (hF3 r hf)) G6.fixed (iZ.refl _ _) ?_
     ⟨rfl,hlo,by show c.lo≤_;omega⟩ ⟨Dl,RX⟩
    intro r h;rcases G6.eG r h with (h|h)|h
    ·rcases g0.eG r h with h|h
     ·exact .inl h
     refine .inl (.inr ?_);have h:wy.heap.size≤r:=h;have:=J.n1;omega
    ·exact .inl (.inr (by omega))
    exact .inl (.inr (by have h:W.heap.size≤r:=h;omega))
   cases e with
   | normal=>
     obtain⟨tm',nx',hp'⟩:=s';obtain⟨j,hj⟩:=hK;have hend:=run_endRound (P:=P) none hl4;refine⟨_,_,hend,?_⟩;simp only[Option.isNone_none,if_true];have ho:({ { rec .ready none with state:=.busy } with state:=.ready,pending:=none }:Loop)=rec .ready none:=by rw[Fz]
     rw[ho];obtain⟨G6,RX⟩:=G5 (.loop (rec .ready none));obtain⟨R7,G7⟩:=hj c3 R' ao _ G6;obtain⟨Ds,YQ⟩:=G7.marks;have UW:Ds=Dl:=by
      have:=YQ.eq.symm.trans RX.eq;exact List.map_inj_right (fun a b h=>by simpa[mark] using h) |>.1 this
     rw[UW] at YQ;obtain⟨D',e1,e2,e3,R8,s8,J8⟩:=Ou _ R7 _ false G7 YQ (fun _=>⟨k+1,j,rfl,TT,Tt,World.putObj_heap_same TY⟩) (fun h=>by cases h);exact⟨D',true,rfl,e1,e2,e3,R8,s8,J8⟩
   | ret=>
     obtain⟨tm',nx',hp'⟩:=s';have hend:=run_endRound (P:=P) (some .ret) hl4;refine⟨_,_,hend,?_⟩;have ho:({ { rec .ready none with state:=.busy } with state:=.done,pending:=some .ret }:Loop)=rec .done (some .ret):=by rw[Fz,Fz]
     simp only[Option.isNone_some,Bool.false_eq_true,if_false];rw[ho];obtain⟨G6,RX⟩:=G5 (.loop (rec .done (some .ret)));obtain⟨D',e1,e2,e3,R8,s8,J8⟩:=Ou _ R' _ true G6 RX (fun h=>by cases h) (fun _=>⟨.ret,.ret,rfl,hK,World.putObj_heap_same TY⟩);exact⟨D',false,rfl,e1,e2,e3,R8,s8,J8⟩
   | exit id=>
     obtain⟨tm',nx',hp'⟩:=s';have hend:=run_endRound (P:=P) (some (.exit id)) hl4;refine⟨_,_,hend,?_⟩;have ho:({ { rec .ready none with state:=.busy } with state:=.done,pending:=some (.exit id) }:Loop)=rec .done (some (.exit id)):=by rw[Fz,Fz]
     simp only[Option.isNone_some,Bool.false_eq_true,if_false];rw[ho];obtain⟨G6,RX⟩:=G5 (.loop (rec .done (some (.exit id))));obtain⟨D',e1,e2,e3,R8,s8,J8⟩:=Ou _ R' _ true G6 RX (fun h=>by cases h) (fun _=>⟨.exit id,.exit id,rfl,hK,World.putObj_heap_same TY⟩);exact⟨D',false,rfl,e1,e2,e3,R8,s8,J8⟩
   |goto t=>exact hK.elim
   |panic ch=>exact hK.elim
   |outgrown=>exact hK.elim
 |exit id=>exact h1.elim
 |goto t=>exact h1.elim
 |ret=>exact h1.elim
 |panic ch=>exact h1.elim
 |outgrown=>exact h1.elim
end Go.AX
end
