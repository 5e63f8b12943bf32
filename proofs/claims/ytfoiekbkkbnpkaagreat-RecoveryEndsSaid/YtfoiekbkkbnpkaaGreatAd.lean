/-
  Conditions: none. A framework for walks: abstract values, memory, and conditions that suffice; the chapters in plain terms.
-/
import Derived.Test.YtfoiekbkkbnpkaaGreatAc
import Derived.OrdersIn
import Derived.RangeFuncNested
import Derived.Deep.LoopGhost
set_option linter.unusedSectionVars false
set_option linter.unusedVariables false
set_option linter.unusedSimpArgs false
section
namespace Go.AX
structure u7 where
 look:List Nat
 dst:Option Nat
 rd:List Nat
 wr:List Nat
def tmpsOf:List Operand→List Nat
 |[]=>[]
 |.tmp t::r=>t::tmpsOf r
 |_::r=>tmpsOf r
def afR (tm:List (Nat×AV))(d:Option Nat)(v:AV):List (Nat×AV):=
 match d with
 |some d=>(d,v)::tm
 |none=>tm
def wL (ops:List Oper)(o:Oper):Option Nat:=
 match o.guard with
 |none=>none
 | some (j,_)=>match nth ops j with
   |some G=>G.dst
   |none=>none
def yg (ops:List Oper)(o:Oper):List Nat:=
 match wL ops o with
 |some d=>[d]
 |none=>[]
abbrev RK:=List (Nat×AV)→List (Nat×aI)→List u7→Prop
abbrev RC:=List (Nat×AV)→List (Nat×aI)→List u7→List (Nat×Bool)→Prop
def afS (tm:List (Nat×AV))(d:Option Nat)(v:AV)(K:List (Nat×AV)→Prop):Prop:=
 match d with
 |some d=>K ((d,v)::tm)
 |none=>K tm
theorem wM (tm:List (Nat×AV))(d:Option Nat)(v:AV)(K:List (Nat×AV)→Prop):afS tm d v K=K (afR tm d v):=by cases d<;>rfl
def acV:List (Nat×aI)→List (Nat×aI)→(List (Nat×aI)→Prop)→Prop
 |[],G,K=>K G
 |x::r,G,K=>acV r G fun h=>K (x::h)
theorem D7:∀(ws hp:List (Nat×aI)) (K:List (Nat×aI)→Prop),acV ws hp K=K (ws++hp)
 |[],_,_=>rfl
 |x::r,hp,K=>by simp only[acV,D7 r hp];rfl
def vex (P:Program)(T:Tab)(ops:List Oper)(base:Nat)(o:Oper)(i:Nat)(tm:List (Nat×AV))(hp:List (Nat×aI))(tr:List u7)(J:List (Nat×Bool))(K:RC):Prop:=
 match lk hp (base+i) with
 |some _=>False
 | none=>XF P T o tm hp (base+i) fun v ws G=>
   afS tm o.dst v fun tm=>acV ws hp fun hp=>K tm hp (⟨yg ops o++tmpsOf (kX o.op),o.dst,(base+i)::G,keys ws⟩::tr) J
def Cs (ops:List Oper)(o:Oper)(tm:List (Nat×AV))(hp:List (Nat×aI))(tr:List u7)(G:List (Nat×Bool))(K:RC):Prop:=
 afS tm o.dst (.pv (.sc undef)) fun tm=>K tm hp (⟨yg ops o,o.dst,[],[]⟩::tr) G
def vgo (P:Program)(T:Tab)(ops:List Oper)(base:Nat)(o:Oper)(i:Nat)(G:Bool)(tm:List (Nat×AV))(hp:List (Nat×aI))(tr:List u7)(J:List (Nat×Bool))(K:RC):Prop:=
 match G with
 |true=>vex P T ops base o i tm hp tr J K
 |false=>Cs ops o tm hp tr J K
def rG (P:Program)(T:Tab)(ops:List Oper)(base:Nat)(o:Oper)(i:Nat)(tm:List (Nat×AV))(hp:List (Nat×aI))(tr:List u7)(J:List (Nat×Bool))(K:RC):Prop:=
 match o.guard with
 |none=>vex P T ops base o i tm hp tr J K
 | some (j,G)=>match wL ops o with
   |none=>False
   | some d=>match lk tm d with
     | some (.pv (.sc v))=>match v with
       | .bool b=>match lk J j with
         | some _=>match b with
           |true=>vgo P T ops base o i G tm hp tr J K
           |false=>vgo P T ops base o i (!G) tm hp tr J K
         | none=>(b=true→vgo P T ops base o i G ((d,.pv (.sc (.bool true)))::tm) hp tr ((j,true)::J) K) ∧
           (b=false→vgo P T ops base o i (!G) ((d,.pv (.sc (.bool false)))::tm) hp tr ((j,false)::J) K)
       |.tuple _=>Cs ops o tm hp tr J K
       |_=>False
     |_=>False
def Pv (P:Program)(T:Tab)(ops:List Oper)(base:Nat):List Oper→Nat→List (Nat×AV)→List (Nat×aI)→List u7→List (Nat×Bool)→RK→Prop
 |[],_,J,G,tr,_,K=>K J G tr
 |o::r,i,J,G,tr,Q,K=>rG P T ops base o i J G tr Q fun J G tr Q=>Pv P T ops base r (i+1) J G tr Q K
section
variable {P:Program}{T:Tab}{c:Ctx}{R:Real}{s:AS}{a:Act}{w:World}
theorem bN.afU (g:bN c R s a w){tm:List (Nat×AV)}(h:∀t v,lk tm t=some v→lk s.tm t=some v):bN c R { s with tm:=tm } a w:=
 ⟨fun t v G=>g.slots t v (h t v G),g.size,g.lo,g.marks,g.fixed,g.boxes,g.inj,g.free,g.jV,g.jy,g.kept⟩
def oC (n:Nat):List Oper→Bool
 |[]=>true
 | o::r=>match o.dst with
   | some d=>match Nat.blt d n with
     |true=>oC n r
     |false=>false
   |none=>oC n r
theorem SG (tm:List (Nat×AV))(nx:Nat)(hp:List (Nat×aI))(d:Option Nat)(v:AV):(AS.mk tm nx hp).put d v=⟨afR tm d v,nx,hp⟩:=by
 cases d<;>rfl
theorem Pw {α:Type}(a:Array α)(i:Nat):nth a.toList i=a[i]? :=by rw[ve,Array.getElem?_toList]
theorem Px {ops:Array Oper}{o:Oper}{j:Nat}{J:Bool}(Q:o.guard=some (j,J)){d:Nat}(hs:wL ops.toList o=some d)(G:Array Value) :
  yielded ops G j=match G[d]? with
   |some (.bool b)=>some b
   |_=>none:=by
 unfold wL at hs;rw[Q] at hs;simp only[Pw] at hs;split at hs
 ·rename_i S K;unfold yielded;simp only[K,Option.bind_some,hs];rfl
 cases hs
theorem Ct (g:bN c R s a w)(hT:dB P T){ops:Array Oper}{base i:Nat}(am:base+i<s.nx){o:Oper}(hd:∀t,o.dst=some t→t<c.n){tr:List u7}{V:List (Nat×Bool)}{K:RC}
  (h:rG P T ops.toList base o i s.tm s.hp tr V K) (ro:Option Nat) (Q:Exit→Act→World→Prop) :
  if Region.wanted o (yielded ops a.tmps) then o.wpIn (W1 ro) 0 P a w (fun a' w'=>∃R' tm S rz X,K tm S rz X∧bN c R' ⟨tm,s.nx,S⟩ a' w') Q
  else ∃tm S rz X,K tm S rz X∧bN c R ⟨tm,s.nx,S⟩ (a.put o.dst undef) w:=by
 have ex:∀(J:AS),bN c R J a w→J.nx=s.nx→∀V,vex P T ops.toList base o i J.tm J.hp tr V K →
   o.wpIn (W1 ro) 0 P a w (fun a' w'=>∃R' tm S rz X,K tm S rz X∧bN c R' ⟨tm,s.nx,S⟩ a' w') Q:=by
  intro J g' hn V h;unfold vex at h;split at h
  ·exact h.elim
  rename_i ag;refine Oper.wpIn_mono ?_ (UD g' hT ag Q ro hd h);rintro a' w' ⟨R',v,ws,⟨ao,hK⟩,g2⟩
  rw[wM,D7] at hK;refine⟨R',_,_,_,_,hK,?_⟩;rw[←hn,←SG];exact g2
 have sk:∀(J:AS),bN c R J a w→J.nx=s.nx→∀V,Cs ops.toList o J.tm J.hp tr V K →
   ∃tm S rz X,K tm S rz X∧bN c R ⟨tm,s.nx,S⟩ (a.put o.dst undef) w:=by
  intro J g' hn V h;unfold Cs at h;rw[wM] at h;refine⟨_,_,_,_,h,?_⟩;have:=g'.put o.dst hd (v:=.pv (.sc undef)) (x:=undef) (by simp only[au,bL]);rw[←hn,←SG];exact this
 have go:∀(G b:Bool) (J:AS),bN c R J a w→J.nx=s.nx→∀V wt,wt=(b==G)→vgo P T ops.toList base o i wt J.tm J.hp tr V K→(Region.wanted o (yielded ops a.tmps)=(b==G)) →
   if Region.wanted o (yielded ops a.tmps) then o.wpIn (W1 ro) 0 P a w (fun a' w'=>∃R' tm S rz X,K tm S rz X∧bN c R' ⟨tm,s.nx,S⟩ a' w') Q
   else ∃tm S rz X,K tm S rz X∧bN c R ⟨tm,s.nx,S⟩ (a.put o.dst undef) w:=by
  intro G b J g' hn V wt hw h af;rw[af];subst hw;cases hb:b==G with
  |true=>rw[hb] at h;simp only[if_true];exact ex J g' hn V h
  |false=>rw[hb] at h;simp only[Bool.false_eq_true,if_false];exact sk J g' hn V h
 unfold rG at h;split at h
 ·rename_i hg;simp only[Region.wanted,hg,if_true];exact ex s g rfl _ h
 rename_i j G hg;split at h
 ·exact h.elim
 rename_i d ah;have hy:=Px hg ah a.tmps;have ae:Region.wanted o (yielded ops a.tmps)=(yielded ops a.tmps j==some G):=by simp[Region.wanted,hg]
 split at h;rotate_left;cases h
 rename_i v hv;obtain⟨x,hx,hr⟩:=g.slots d _ hv;simp only[au,bL] at hr;subst hr;split at h
 ·rename_i b;have ak:yielded ops a.tmps j=some b:=by rw[hy,hx]
  have aa:Region.wanted o (yielded ops a.tmps)=(b==G):=by rw[ae,ak];cases b<;>cases G<;>rfl
  split at h
  ·split at h
   ·exact go G true s g rfl _ G (by cases G<;>rfl) h aa
   exact go G false s g rfl _ (!G) (by cases G<;>rfl) h aa
  obtain⟨h1,h2⟩:=h;have ad:∀(b':Bool),b=b'→bN c R { s with tm:=(d,.pv (.sc (.bool b')))::s.tm } a w:=by
   rintro _ rfl
   refine g.afU fun t u hu=>?_
   rw[aG] at hu;split at hu
   ·rename_i e;rw[←e,←hu];exact hv
   exact hu
  cases b with
  |true=>exact go G true _ (ad true rfl) rfl _ G (by cases G<;>rfl) (h1 rfl) aa
  |false=>exact go G false _ (ad false rfl) rfl _ (!G) (by cases G<;>rfl) (h2 rfl) aa
 ·have al:yielded ops a.tmps j=none:=by rw[hy,hx]
  have ai:Region.wanted o (yielded ops a.tmps)=false:=by rw[ae,al];rfl
  rw[ai];simp only[Bool.false_eq_true,if_false];exact sk s g rfl _ h
 exact h.elim
theorem yh (ro:Option Nat)(hT:dB P T){ops:Array Oper}{base:Nat}{K:RK}{Q:Exit→Act→World→Prop}:∀(l:List Oper) (i:Nat) {R:Real} {s:AS} {a:Act} {w:World} {tr:List u7} {kn:List (Nat×Bool)},
  bN c R s a w→base+i+l.length≤s.nx→oC c.n l=true→Pv P T ops.toList base l i s.tm s.hp tr kn K →
  (∀R tm hp tr a w,K tm hp tr→bN c R ⟨tm,s.nx,hp⟩ a w→Q .normal a w)→wpListIn (W1 ro) 0 P ops Q l a w
 | [],i,R,s,a,w,tr,kn,g,hl,G,h,S=>by
   exact wpListIn_nil (S R s.tm s.hp tr a w h g)
 | o::r,i,R,s,a,w,tr,kn,g,hl,G,h,S=>by
   simp only[Pv] at h;simp only[List.length_cons] at hl;have aa:∀t,o.dst=some t→t<c.n:=by
    intro t ht;simp only[oC,ht] at G;split at G
    ·rename_i hb;rw[Nat.blt_eq] at hb;exact hb
    cases G
   have J:oC c.n r=true:=by
    simp only[oC] at G;split at G
    ·split at G
     ·exact G
     cases G
    exact G
   have hs:=Ct g hT (ops:=ops) (by omega) aa h ro Q;refine wpListIn_step fun K' qF=>?_
   split
   ·rename_i hw;rw[if_pos hw] at hs;refine Oper.wpIn_mono ?_ hs;rintro a' w' ⟨R',tm,hp,rz,Ht,X,V⟩
    exact qF _ _ (yh ro hT r (i+1) V (by simp only;omega) J X S)
   rename_i hw;rw[if_neg hw] at hs;obtain⟨tm,hp,rz,Ht,X,V⟩:=hs;exact⟨fun _ _=>trivial,qF _ _ (yh ro hT r (i+1) V (by simp only;omega) J X S)⟩
end
section
section
variable {N N':Nat→Prop}{w w':World}(hN:∀r cur e fr,w.heap[r]? = some (.cells cur e fr)→N' r→N r)
 (hw:∀r cur e fr,w.heap[r]? = some (.cells cur e fr)→¬N r→w'.heap[r]? = some (.cells cur e fr))
include hN hw
mutual
theorem sG:∀(p:PV) (v:Value),bL N w p v→bL N' w' p v
 |.sc x,v=>by simp only[bL];exact id
 |.agg cs,v=>by simp only[bL];rintro⟨vs,J,Q⟩;exact⟨vs,J,Gv cs _ Q⟩
 |.cK cs,v=>by simp only[bL];rintro⟨vs,J,Q⟩;exact⟨vs,J,qi cs _ Q⟩
 | .sl nn st K,v=>by
   simp only[bL];rintro⟨p,aa,X,J,Q,h3,h4,h5⟩
   refine⟨p,aa,X,J,Q,h3,h4,fun a ha=>?_⟩;rcases h5 a ha with G|⟨h6,G,cur,e,fr,S,V⟩
   ·exact .inl G
   exact .inr ⟨h6,fun h=>G (hN _ _ _ _ S h),cur,e,fr,hw _ _ _ _ S G,nD st K _ V⟩
 | .dU ad off,v=>by
   simp only[bL];rintro⟨g,base,cur,e,fr,J,G,S,V⟩
   exact⟨g,base,cur,e,fr,J,fun h=>G (hN _ _ _ _ S h),hw _ _ _ _ S G,uj ad _ V⟩
 | .fn f first bD,v=>by
   simp only[bL];rintro⟨fs,cs,J,Q,h3⟩;exact⟨fs,cs,J,qi _ _ Q,qi _ _ h3⟩
 |.junk,v=>by simp only[bL];exact id
 | .O8 st K,v=>by
   simp only[bL];rintro⟨a,J,Q,h5⟩
   refine⟨a,J,Q,?_⟩;rcases h5 with G|⟨h6,G,cur,e,fr,S,V⟩
   ·exact .inl G
   exact .inr ⟨h6,fun h=>G (hN _ _ _ _ S h),cur,e,fr,hw _ _ _ _ S G,nD st K _ V⟩
theorem qi:∀(ps:List PV) (vs:List Value),fE N w ps vs→fE N' w' ps vs
 |[],vs=>by simp only[fE];exact id
 |p::ps,vs=>by simp only[fE];rintro⟨v,r,G,J,K⟩;exact⟨v,r,G,sG p v J,qi ps r K⟩
theorem Gv:∀(ps:List PV) (vs:List Value),jk N w ps vs→jk N' w' ps vs
 |[],vs=>by simp only[jk];exact id
 |p::ps,vs=>by simp only[jk];rintro⟨v,r,J,G,K,Q⟩;exact⟨v,r,J,G,sG p v K,Gv ps r Q⟩
theorem uj:∀(ps:List PV) (vs:List Value),jD N w ps vs→jD N' w' ps vs
 |[],vs=>by simp only[jD];exact id
 |p::ps,vs=>by simp only[jD];rintro⟨v,r,J,G,K,Q⟩;exact⟨v,r,J,G,sG p v K,uj ps r Q⟩
theorem nD (st:Nat):∀(rows:List (List PV)) (vs:List Value),dI N w st rows vs→dI N' w' st rows vs
 |[],vs=>by simp only[dI];exact id
 |row::rows,vs=>by simp only[dI];rintro⟨G,J,K⟩;exact⟨G,uj row _ J,nD st rows _ K⟩
end
variable {hp:List (Nat×aI)}{R:Real}
mutual
theorem um:∀(p:AV) (v:Value),au N w hp R p v→au N' w' hp R p v
 |.pv p,v=>by simp only[au];exact sG hN hw p v
 |.agg cs,v=>by simp only[au];rintro⟨vs,a,b⟩;exact⟨vs,a,qO cs _ b⟩
 |.cK cs,v=>by simp only[au];rintro⟨vs,a,b⟩;exact⟨vs,a,qP cs _ b⟩
 |.ptr b off,v=>by simp only[au];exact id
 |.aO b ver,v=>by simp only[au];exact id
 |.sub b ver K J hi,v=>by simp only[au];exact id
 |.eY b ver i off,v=>by simp only[au];exact id
 | .fn f first bD,v=>by
   simp only[au];rintro⟨G,cs,a,b,c⟩;exact⟨G,cs,a,qP _ _ b,qP _ _ c⟩
theorem qP:∀(ps:List AV) (vs:List Value),dw N w hp R ps vs→dw N' w' hp R ps vs
 |[],vs=>by simp only[dw];exact id
 |p::ps,vs=>by simp only[dw];rintro⟨v,r,a,b,c⟩;exact⟨v,r,a,um p v b,qP ps r c⟩
theorem qO:∀(ps:List AV) (vs:List Value),dZ N w hp R ps vs→dZ N' w' hp R ps vs
 |[],vs=>by simp only[dZ];exact id
 |p::ps,vs=>by simp only[dZ];rintro⟨v,r,a,d,b,c⟩;exact⟨v,r,a,d,um p v b,qO ps r c⟩
end
end
section
variable {N N':Nat→Prop}{w w':World}{hp:List (Nat×aI)}{R:Real}
variable (hN:∀r cur e fr,w.heap[r]? = some (.cells cur e fr)→N' r→N r)(hw:∀r cur e fr,w.heap[r]? = some (.cells cur e fr)→¬N r→w'.heap[r]? = some (.cells cur e fr))
include hN hw
end
theorem zH.sZ {V c2:Ctx}{R:Real}{hp:List (Nat×aI)}{w w':World}(g:zH V R hp w)(a1:∀r,bA V R hp r→r<w.heap.size)
  (hK:∀v x,c2.K v x→au (bA V R hp) w hp R v x) (hF:∀r,r<w.heap.size→c2.F r→V.F r)
  (hw:∀r o,w.heap[r]? = some o→(r<V.n0.1∨o.isCells=true∨owned R hp r)→¬V.F r→w'.heap[r]? = some o)
  (aw:w.heap.size≤w'.heap.size) (ah:w'.os=w.os∧w'.tape=w.tape∧w'.output=w.output)
  (af:∀r,owned R hp r→¬c2.F r) (ai:uF c2.fix (owned R hp) w') (ao:mV c2.O c2.w w') (am:∀r,owned R hp r→c2.O r∨c2.w.heap.size≤r) (ak:c2.n0=V.n0∧c2.n0.1≤c2.lo∧c2.lo≤w'.heap.size) :
  zH c2 R hp w'∧∀v x,au (bA V R hp) w hp R v x→au (bA c2 R hp) w' hp R v x:=by
 have hN:∀r,r<w.heap.size→bA c2 R hp r→bA V R hp r:=by
  rintro r hr (h|h)
  ·exact .inl (hF r hr h)
  exact .inr h
 have J:∀r cur e fr,w.heap[r]? = some (.cells cur e fr)→bA c2 R hp r→bA V R hp r:=fun r cur e fr h=>hN r (size_of_getElem? h)
 have Q:∀r cur e fr,w.heap[r]? = some (.cells cur e fr)→¬bA V R hp r→w'.heap[r]? = some (.cells cur e fr):=fun r cur e fr h hn=>hw r _ h (.inr (.inl rfl)) fun hf=>hn (.inl hf)
 have ax:∀r o,w.heap[r]? = some o→owned R hp r→w'.heap[r]? = some o:=fun r o h ho=>hw r o h (.inr (.inr ho)) (g.free r ho)
 refine⟨⟨?_,g.inj,af,ao,am,fun v x h=>um J Q v x (hK v x h),ai,⟨by rw[ak.1];exact g.lo.1,ak.2⟩⟩,fun v x h=>um J Q v x h⟩;intro b box h;have hr:=g.boxes b box h;have S:∀r o,aQ R b r (some box)→w.heap[r]? = some o→w'.heap[r]? = some o:=fun r o ho hx=>ax r o hx ⟨b,by rw[h];exact ho⟩
 cases box with
 | var ae=>
   obtain⟨cur,e,h8,h9⟩:=hr;exact⟨cur,e,S _ _ rfl h8,qO J Q _ _ h9⟩
 | oN ae=>
   obtain⟨cur,e,fr,h8,h7,h9⟩:=hr;exact⟨cur,e,fr,Q _ _ _ _ h8 h7,fun x=>h7 (J _ _ _ _ h8 x),uj J Q _ _ h9⟩
 | arr e ver st ad=>
   obtain⟨xs,h8,h9⟩:=hr;refine⟨xs,kZ h8 fun k X=>?_,nD J Q _ _ _ h9⟩;have aa:=(h8.lt k X).2;have ag:aQ R b k (some (.arr e ver st ad)):=by
    simp only[dW] at X;cases G:R.nil b with
    |true=>simp[G,Value.ownBlock] at X
    |false=>simp[G,Value.ownBlock] at X;exact⟨G,X⟩
   have hx:w.heap[k]? = some w.heap[k]:=by simp[aa]
   rw[S k _ ag hx,hx]
 |d9 ver st ad=>exact sG J Q _ _ hr
 | tr y ver rest st=>
   obtain⟨k0,kh,k1,k2,k3,k4⟩:=hr;refine⟨k0,kh,k1,⟨Nat.le_trans k2.size aw,fun r o al hz hc=>?_,ah.1.trans k2.os,ah.2.1.trans k2.tape,ah.2.2.trans k2.output⟩,k3,fun r hn=>?_⟩
   ·have h2:=k2.keep r o al hz hc;have hD:¬V.F r:=fun hf=>by
     rcases k4 r (.inl hf) with hd|az|hs
     ·exact g.free r ⟨b,by rw[h];exact hd⟩ hf
     ·exact hz az
     have:=size_of_getElem? al;omega
    exact hw r o h2 (hc.imp (fun hl=>by rw[←g.lo.1];exact hl) fun hc=>hc.imp id fun hd=>⟨b,by rw[h];exact hd⟩) hD
   by_cases aa:r<w.heap.size
   ·exact k4 r (hN r aa hn)
   exact .inr (.inr (by have:=k2.size;omega))
 | iP e ver st pre a0 post=>
   obtain⟨xs,h8,h9,ap,aq,ar⟩:=hr;refine⟨xs,kZ h8 fun k X=>?_,nD J Q _ _ _ h9,ap,qO J Q _ _ aq,nD J Q _ _ _ ar⟩;have aa:=(h8.lt k X).2;have ag:aQ R b k (some (.iP e ver st pre a0 post)):=by
    simp only[dW] at X;cases G:R.nil b with
    |true=>simp[G,Value.ownBlock] at X
    |false=>simp[G,Value.ownBlock] at X;exact⟨G,X⟩
   have hx:w.heap[k]? = some w.heap[k]:=by simp[aa]
   rw[S k _ ag hx,hx]
theorem bN.sZ {G c2:Ctx}{R:Real}{s:AS}{a V:Act}{w w':World}(g:bN G R s a w)(hn:c2.n=G.n)(ha:V.tmps=a.tmps)
  (hK:∀v x,c2.K v x→au (bA G R s.hp) w s.hp R v x) (hF:∀r,r<w.heap.size→c2.F r→G.F r)
  (hw:∀r o,w.heap[r]? = some o→(r<G.n0.1∨o.isCells=true∨owned R s.hp r)→¬G.F r→w'.heap[r]? = some o)
  (af:w.heap.size≤w'.heap.size) (ae:w'.os=w.os∧w'.tape=w.tape∧w'.output=w.output)
  (J:∀r,owned R s.hp r→¬c2.F r) (Q:uF c2.fix (owned R s.hp) w') (aa:mV c2.O c2.w w') (X:∀r,owned R s.hp r→c2.O r∨c2.w.heap.size≤r) (ad:c2.n0=G.n0∧c2.n0.1≤c2.lo∧c2.lo≤w'.heap.size)
  (hm:∃Ds,Marks c2.lo (owned R s.hp) w' V.defers Ds):bN c2 R s V w':=by
 obtain⟨h,S⟩:=g.hap.sZ (fun r=>g.Nlt) hK hF hw af ae J Q aa X ad;refine h.X3 (fun t v hv=>?_) (by rw[ha,hn];exact g.size) hm;obtain⟨x,hx,hr⟩:=g.slots t v hv;exact⟨x,by rw[ha];exact hx,S v x hr⟩
end
def acZ (P:Program)(f:FuncId)(V:List PV)(xs:List (List PV)):Prop:=
 Enters P f∧∀(l:Nat) (J:List (List PV)→Bool→(Nat→Prop)→(Nat→Prop)→World→Prop) (D:Nat→Prop) (w:World) (K:Array Value),YH (P,l) w.heap.size J→(∀r,D r→r<w.heap.size) →
  J xs false (fun _=>False) D w→fE D w V K.toList →
  Calls P f (#[.func (.yield l) #[] #[]]++K) w fun e w'=>(∃v,e=.returned v)∧∃rest Q Z G S,J rest Q Z G S∧DF w.heap.size Z G S w'∧(Q=true∨rest=[])
def vg (s G:AS):Prop:=∀(c:Ctx) (R:Real) (a:Act) (w:World),bN c R s a w→∃R',bN c R' G a w
theorem vg.refl (s:AS):vg s s:=fun c R a w g=>⟨R,g⟩
theorem vg.trans {s1 s2 s3:AS}(h:vg s1 s2)(G:vg s2 s3):vg s1 s3:=fun c R a w g=>let ⟨R1,g1⟩:=h c R a w g;G c R1 a w g1
mutual
def Gl:AV→Bool
 |.pv _=>true
 |.agg cs=>Ao cs
 |.cK cs=>Ao cs
 |.ptr b _=>Nat.blt b 1000
 |.eY b _ _ _=>Nat.blt b 1000 && !Nat.beq b 999
 |.aO b _=>Nat.blt b 1000
 |.sub b _ _ _ _=>Nat.blt b 1000
 |.fn _ a c=>Ao a&&Ao c
def Ao:List AV→Bool
 |[]=>true
 |v::r=>Gl v&&Ao r
end
def Ij:List (Nat×AV)→Bool
 |[]=>true
 |(_,v)::r=>Gl v&&Ij r
theorem Gm:∀{tm:List (Nat×AV)} {t:Nat} {v:AV},Ij tm=true→lk tm t=some v→Gl v=true
 |[],t,v,_,h=>by simp[lk] at h
 | (J,K)::r,t,v,G,h=>by
   simp only[Ij,Bool.and_eq_true] at G;rw[aG] at h;split at h
   ·simp only[Option.some.injEq] at h;rw[←h];exact G.1
   exact Gm G.2 h
def XQ:List Nat→List PV→List (Nat×AV)→Option (List (Nat×AV))
 | [],G,J=>match G with
   |[]=>some J
   |_=>none
 | p::r,G,J=>match G with
   |v::vs=>XQ r vs ((p,.pv v)::J)
   |[]=>none
def KS:Exit→Option Code
 |.ret=>some .ret
 |.exit id=>some (.exit id)
 |_=>none
def rfK (tm:List (Nat×AV))(next:AS→Prop)(K:Exit→AS→Prop)(e:Exit)(s:AS):Prop:=
 match e with
 | .normal=>match s with
   |⟨_,G,hp⟩=>next ⟨tm,G,hp⟩
 | .ret=>match s with
   |⟨_,G,hp⟩=>K .ret ⟨tm,G,hp⟩
 | .exit id=>match s with
   |⟨_,G,hp⟩=>K (.exit id) ⟨tm,G,hp⟩
 |_=>False
section
variable {N N':Nat→Prop}{w w':World}{hp hp':List (Nat×aI)}{R R':Real}(hN:∀r,r<w.heap.size→N' r→N r)(hw:∀r,r<w.heap.size→¬N r→w'.heap[r]? = w.heap[r]?)
 (hk:∀v x,jP v=true→au N w hp R v x→au N' w' hp' R' v x)
include hN hw hk
mutual
theorem Gn:∀(v:AV) (x:Value),Gl v=true→au N w hp R v x→au N' w' hp' R' v x
 |.pv p,x,_,h=>by simp only[au] at h ⊢;exact dV hN hw p x h
 |.agg cs,x,G,h=>by simp only[au] at h ⊢;obtain⟨vs,a,b⟩:=h;exact⟨vs,a,JC cs _ (by simpa only[Gl] using G) b⟩
 |.cK cs,x,G,h=>by simp only[au] at h ⊢;obtain⟨vs,a,b⟩:=h;exact⟨vs,a,xg cs _ (by simpa only[Gl] using G) b⟩
 |.ptr b off,x,G,h=>hk _ x (by simpa only[Gl,jP] using G) h
 |.eY b ver i off,x,G,h=>hk _ x (by simpa only[Gl,jP] using G) h
 |.aO b ver,x,G,h=>hk _ x (by simpa only[Gl,jP] using G) h
 | .sub b ver V S hi,x,G,h=>by
   simp only[au] at h ⊢;obtain⟨u,a,c⟩:=h;have:=hk (.aO b ver) u (by simpa only[Gl,jP] using G) (by simpa only[au] using a);simp only[au] at this;exact⟨u,this,c⟩
 | .fn f a c,x,G,h=>by
   simp only[au] at h ⊢;simp only[Gl,Bool.and_eq_true] at G;obtain⟨J,cs,e,K,Q⟩:=h;exact⟨J,cs,e,xg a _ G.1 K,xg c _ G.2 Q⟩
theorem xg:∀(vs:List AV) (xs:List Value),Ao vs=true→dw N w hp R vs xs→dw N' w' hp' R' vs xs
 |[],xs,_,h=>by simpa only[dw] using h
 | v::r,xs,G,h=>by
   simp only[dw] at h ⊢;simp only[Ao,Bool.and_eq_true] at G;obtain⟨x,ys,e,J,K⟩:=h;exact⟨x,ys,e,Gn v x G.1 J,xg r ys G.2 K⟩
theorem JC:∀(vs:List AV) (xs:List Value),Ao vs=true→dZ N w hp R vs xs→dZ N' w' hp' R' vs xs
 |[],xs,_,h=>by simpa only[dZ] using h
 | v::r,xs,G,h=>by
   simp only[dZ] at h ⊢;simp only[Ao,Bool.and_eq_true] at G;obtain⟨x,ys,e,J,K,Q⟩:=h;exact⟨x,ys,e,J,Gn v x G.1 K,JC r ys G.2 Q⟩
end
end
theorem aak {N N':Nat→Prop}{w w':World}{hp:List (Nat×aI)}{R:Real}{v:AV}{x:Value}(h:jP v=true)(G:au N w hp R v x):au N' w' hp R v x:=by
 cases v<;>simp only[jP] at h<;>first
  |(simp only[au] at G ⊢;exact G)
  |cases h
theorem JD {c:Ctx}{R:Real}{w:World}{nx:Nat}{hp:List (Nat×aI)}:∀(ps:List Nat) (x:List PV) (tm tm':List (Nat×AV)) (a:Act) (vs:List Value),(∀t∈ps,t<c.n)→XQ ps x tm=some tm' →
  fE (bA c R hp) w x vs→bN c R ⟨tm,nx,hp⟩ a w→vs.length=ps.length∧bN c R ⟨tm',nx,hp⟩ { a with tmps:=(ps.zip vs).foldl (fun t (p,v)=>t.setIfInBounds p v) a.tmps } w
 | [],x,tm,tm',a,vs,_,h,J,g=>by
   cases x with
   | nil=>
     simp only[XQ,Option.some.injEq] at h;subst h;simp only[fE] at J;subst J;exact⟨rfl,g⟩
   |cons _ _=>simp[XQ] at h
 | p::ps,x,tm,tm',a,vs,G,h,J,g=>by
   cases x with
   |nil=>simp[XQ] at h
   | cons y ys=>
     simp only[XQ] at h;simp only[fE] at J;obtain⟨v,r,rfl,V,X⟩:=J;have Q:=g.put (some p) (fun t K=>by cases K;exact G p (by simp)) (v:=.pv y) (x:=v) (by simpa only[au] using V);obtain⟨e,S⟩:=JD ps ys _ _ _ r (fun t K=>G t (by simp[K])) h X Q;exact⟨by simp[e],S⟩
structure Py (c:Ctx)(ro:Option Nat):Prop where
 lp:∀l0,ro=some l0→∃r0,c.fix l0=some (.loop r0)
 nc:∀r o,c.fix r=some o→o.isCells=false
def cbF (c:Ctx)(Z:Nat→Prop)(l:Nat)(G:World)(r:Nat):Prop:=(c.F r∨Z r∨r=l)∧r<G.heap.size
def cb (c:Ctx)(Z:Nat→Prop)(l:Nat)(G:World):Ctx where
 F:=cbF c Z l G
 O r:=c.O r∨c.w.heap.size≤r
 w:=G
 n:=c.n
 hF r h:=h.2
 K:=c.K
 hK:=c.hK
 fix:=c.fix
 n0:=c.n0
 lo:=c.lo
def cr (c:Ctx)(Z:Nat→Prop)(l:Nat)(W:World)(J:Nat→Prop)(Q:AV→Value→Prop)(G:∀v x,Q v x→jP v=true)(S:Nat→Option Obj)(lo:Nat):Ctx where
 F:=cbF c Z l W
 O r:=J r∨r=l
 w:=W
 n:=c.n
 hF r h:=h.2
 K v x:=c.K v x∨Q v x
 hK v x h:=h.elim (c.hK v x) (G v x)
 fix:=S
 n0:=c.n0
 lo:=lo
def rf (c:Ctx)(l:Nat)(o:Obj)(G:List Nat)(r:Nat):Option Obj:=if r=l then some o else if r∈G then some (.deferred (some [])) else c.fix r
def Dst (c:Ctx)(l:Nat)(G:List Nat)(R:Real)(hp:List (Nat×aI))(r:Nat):Prop:=owned R hp r∨r=l∨(∃o,c.fix r=some o)∨r∈G∨c.F r
structure RJ {ι:Type}(c:Ctx)(ao:Act)(l n1:Nat)(Dl:List Nat)(rec:LoopState→Option Code→Loop)(xs:List (List PV))(st:Nat→ι→AS)(K:Exit→AS→Prop)
  (R:Real) (s:AS) (rest:List (List PV)) (VG:Bool) (Z D:Nat→Prop) (wy:World):Prop where
 zz:∀r,Z r→n1≤r∧r<wy.heap.size∧¬D r
 n1:n1≤wy.heap.size
 jV:mV c.O c.w wy
 dd:∀r,D r↔Dst c l Dl R s.hp r
 dlt:∀r,D r→r<wy.heap.size
 g:bN (cb c Z l wy) R s ao wy
 mks:Marks c.lo (owned R s.hp) wy ao.defers Dl
 run:VG=false→∃k i,s=st k i∧rest=xs.drop k∧k≤xs.length∧wy.heap[l]? = some (.loop (rec .ready none))
 out:VG=true→∃e code,KS e=some code∧K e s∧wy.heap[l]? = some (.loop (rec .done (some code)))
theorem NE {P:Program}{ι:Type}{c:Ctx}{ao:Act}{l n1:Nat}{X:List Nat}{fn:FuncId}{ps:Array Tmp}{O3 LV:Code}{dfr:Nat}{xs:List (List PV)}{st:Nat→ι→AS}{K:Exit→AS→Prop}
  {rec:LoopState→Option Code→Loop} (NF:∀s p,rec s p={ state:=s,pending:=p,fn:=fn,tmps:=ao.tmps,params:=ps,assign:=O3,body:=LV,defers:=dfr })
  (cq:c.w.heap.size≤n1) (ct:c.w.heap.size≤l) (ce:l∉X) (gN:c.fix l=none) (cm:l<n1) (cu:c.n0.1≤n1) (bk:c.n0.1≤c.lo) (cl:c.lo≤n1)
  (a2:∀r o,c.fix r=some o→o.isCells=false) (cg:∀t∈ps.toList,t<c.n) (bm:∀k i,Ij (st k i).tm=true) {A:Nat→ι→List PV→AS→Prop}
  (bv:∀(c':Ctx) (k:Nat) (i:ι) (x:List PV) (tm:List (Nat×AV)) (R:Real) (a:Act) (w:World),c'.n=c.n→Py c' (some l)→xs[k]? = some x→XQ ps.toList x (st k i).tm=some tm →
   bN c' R ⟨tm,(st k i).nx,(st k i).hp⟩ a w→O3.wpIn (W1 (some l)) 0 P (Exit.then (fun a1 w1=>∃R1 s1,A k i x s1∧bN c' R1 s1 a1 w1) (fun _ _ _=>False)) a w)
  (bx:∀(c':Ctx) (k:Nat) (i:ι) (x:List PV) (s1:AS) (R:Real) (a:Act) (w:World),c'.n=c.n→Py c' (some l)→xs[k]? = some x→A k i x s1 →
   bN c' R s1 a w→LV.wpIn (W1 (some l)) 0 P (fun e a' w'=>∃R' s',rfK (st k i).tm (fun ck=>∃j,vg ck (st (k+1) j)) K e s'∧bN c' R' s' a' w') a w)
  (bz:∀k i x,xs[k]? = some x→∃tm,XQ ps.toList x (st k i).tm=some tm) :
  YH (P,l) n1 fun rest VG Z D wy=>∃R s,RJ c ao l n1 X rec xs st K R s rest VG Z D wy:=by
 rintro x rest Z D wy W Z' vs ⟨R0,s0,J⟩ hE af bd az cd cj
 obtain⟨k,i,rfl,ah,cp,b3⟩:=J.run rfl;have ak:xs[k]? = some x:=by
  have:=congrArg (fun l=>l[0]?) ah;simpa using this.symm
 have b0:rest=xs.drop (k+1):=by
  have:=congrArg List.tail ah;simpa using this
 have bw:k<xs.length:=(List.getElem?_eq_some_iff.1 ak).1;obtain⟨bt,a6⟩:=bz k i x ak;have g0:=J.g;have a3:=hE.size;have cv:n1≤W.heap.size:=Nat.le_trans J.n1 a3;have ag:l<W.heap.size:=by omega
 have ae:∀(Z0:Nat→Prop) (wz:World),l<wz.heap.size→cbF c Z0 l wz l:=fun Z0 wz h=>⟨.inr (.inr rfl),h⟩
 have NG:∀r,owned R0 (st k i).hp r→D r:=fun r h=>(J.dd r).2 (.inl h)
 have DZ:D l:=(J.dd l).2 (.inr (.inl rfl));have a0:∀r,D r→¬Z r:=fun r Q hz=>(J.zz r hz).2.2 Q
 have cn:c.w.heap.size≤W.heap.size:=by omega
 have a7:∀r,r<wy.heap.size→cbF c Z' l W r→cbF c Z l wy r:=by
  rintro r hr ⟨h,_⟩
  exact⟨h.imp id fun h=>h.imp (fun h=>(bd r h).resolve_right (by omega)) id,hr⟩
 have bh:W.heap[l]? = some (.loop (rec .ready none)):=hE.keep l _ b3 (a0 l DZ) (.inr (.inr DZ));let NW:Nat→Prop:=fun r=>cbF c Z' l W r∨owned R0 (st k i).hp r
 let Kx:AV→Value→Prop:=fun v y=>jP v=true∧au NW W (st k i).hp R0 v y
 have ax:∀v y,Kx v y→jP v=true:=fun v y h=>h.1
 let c1:Ctx:=cr c Z' l W (owned R0 (st k i).hp) Kx ax (rf c l (.loop (rec .ready none)) X) W.heap.size
 have am:∀d∈X,d≠l:=fun d Q e=>ce (e▸Q)
 have a5:∀r o,c.fix r=some o→r≠l:=fun r o h e=>by rw[e,gN] at h;cases h
 have a8:∀(S:Obj),S.isCells=false→∀r o,rf c l S X r=some o→o.isCells=false:=by
  intro S cf r o h;simp only[rf] at h;split at h
  ·simp only[Option.some.injEq] at h;rw[←h];exact cf
  split at h
  ·simp only[Option.some.injEq] at h;rw[←h];rfl
  exact a2 r o h
 have G1:bN c1 R0 (st k i) { tmps:=ao.tmps,defers:=[] } W:=by
  refine g0.sZ (c2:=c1) rfl rfl ?_ a7 ?_ a3 ⟨hE.os,hE.tape,hE.output⟩ ?_ ?_ (mV.refl _ _) (fun r h=>.inl (.inl h)) ⟨rfl,by show c.n0.1≤W.heap.size;omega,Nat.le_refl _⟩ ⟨[],Marks.nil⟩
  ·rintro v y (h|h)
   ·exact g0.kept v y h
   exact aak h.1 h.2
  ·intro r o G hc hf;have ci:¬Z r:=fun hz=>hf ⟨.inr (.inl hz),size_of_getElem? G⟩
   exact hE.keep r o G ci (hc.imp (fun h=>by have:r<c.n0.1:=h;omega) fun h=>h.imp id (NG r))
  ·intro r G hf;exact g0.free r G (a7 r (af r (NG r G)) hf)
  refine⟨fun r o h=>?_,fun r o h G=>?_,a8 _ rfl⟩
  ·simp only[c1,cr,rf] at h;split at h
   ·rename_i e;simp only[Option.some.injEq] at h;rw[e,←h];exact bh
   split at h
   ·rename_i Q;simp only[Option.some.injEq] at h;have hD:=(J.dd r).2 (.inr (.inr (.inr (.inl Q))));rw[←h];exact hE.keep r _ (J.mks.obj r Q) (a0 r hD) (.inr (.inr hD))
   have hD:=(J.dd r).2 (.inr (.inr (.inl ⟨o,h⟩)));exact hE.keep r _ (g0.fixed.obj r o h) (a0 r hD) (.inr (.inr hD))
  simp only[c1,cr,rf] at h;split at h
  ·rename_i e;subst e;exact g0.free r G (ae Z wy (af _ DZ))
  split at h
  ·rename_i Q;exact J.mks.free r Q G
  exact g0.fixed.free r o h G
 have b4:fE (bA c1 R0 (st k i).hp) W x vs:=by
  refine oO (N:=fun r=>D r∨Z' r) (fun r _ h=>?_) (fun _ _ _=>rfl) _ _ cj;rcases h with ⟨h,_⟩|h
  ·rcases h with h|h|h
   ·exact .inl ((J.dd r).2 (.inr (.inr (.inr (.inr h)))))
   ·exact .inr h
   exact .inl (h▸DZ)
  exact .inl (NG r h)
 obtain⟨bj,bu⟩:=JD (c:=c1) ps.toList x (st k i).tm bt _ vs cg a6 b4 G1;have al:=run_yield (P:=P) (args:=vs.toArray) bh (by rw[NF];simpa using bj);rw[NF] at al;refine⟨fn,_,O3,LV,al,roundIn_of_wpIn trivial ?_⟩;have a9:∀(r0:Loop),Py (cr c Z' l W (owned R0 (st k i).hp) Kx ax (rf c l (.loop r0) X) W.heap.size) (some l):=by
  intro r0;refine⟨fun l0 e=>?_,fun r o h=>?_⟩
  ·simp only[Option.some.injEq] at e;subst e;exact⟨r0,by simp[cr,rf]⟩
  simp only[cr,rf] at h;split at h
  ·simp only[Option.some.injEq] at h;rw[←h];rfl
  split at h
  ·simp only[Option.some.injEq] at h;rw[←h];rfl
  exact a2 r o h
 have b5:c1.fix l=some (.loop (rec .ready none)):=by simp[c1,cr,rf]
 have UE:((ps.zip vs.toArray).foldl (fun tmps (x:Nat×Value)=>tmps.setIfInBounds x.1 x.2) ao.tmps)=(ps.toList.zip vs).foldl (fun t (x:Nat×Value)=>t.setIfInBounds x.1 x.2) ao.tmps:=by
  rw[←Array.foldl_toList,Array.toList_zip]
 simp only[] at UE ⊢;rw[UE];refine wpIn_mono (bv c1 k i x bt R0 _ W rfl (a9 _) ak a6 bu) ?_;rintro e a1 w1 h1
 cases e with
 | normal=>
   obtain⟨R1,s1,hA,G2⟩:=h1;have ar:w1.heap[l]? = some (.loop (rec .ready none)):=G2.fixed.obj l _ b5;refine⟨_,run_beginRound ar (by rw[NF]),?_⟩;generalize ap:Obj.loop { rec .ready none with state:=.busy }=ob;let c2:Ctx:=cr c Z' l W (owned R0 (st k i).hp) Kx ax (rf c l ob X) W.heap.size
   have b6:l<w1.heap.size:=size_of_getElem? ar;have G3:bN c2 R1 s1 a1 (w1.putObj l ob):=by
    refine G2.sZ (c2:=c2) rfl rfl (fun v y h=>G2.kept v y h) (fun r _ h=>h) ?_ (by simp) ⟨rfl,rfl,rfl⟩ (fun r h=>G2.free r h) ?_ ?_ (fun r h=>G2.jy r h)
     ⟨rfl,by show c.n0.1≤W.heap.size;omega,by rw[World.putObj_size];exact G2.lo.2.2⟩ ?_
    ·intro r o G _ hf;have V:r≠l:=fun e=>hf (e▸ae Z' W ag)
     rw[World.putObj_heap_other V];exact G
    ·refine⟨fun r o h=>?_,fun r o h=>?_,a8 ob (by rw[←ap];rfl)⟩
     ·simp only[c2,cr,rf] at h;by_cases e:r=l
      ·subst e;simp only[if_true,Option.some.injEq] at h;rw[World.putObj_heap_same b6,h]
      rw[World.putObj_heap_other e];refine G2.fixed.obj r o ?_;simp only[c1,cr,rf];simpa only[if_neg e] using h
     by_cases e:r=l
     ·subst e;exact fun G=>G2.free r G (ae Z' W ag)
     refine G2.fixed.free r o ?_;simp only[c2,cr,rf] at h;simp only[c1,cr,rf];simpa only[if_neg e] using h
    ·refine G2.jV.trans (O':=fun r=>r=l) ⟨by simp,fun r _ hn=>World.putObj_heap_other hn,rfl,rfl,rfl⟩ fun r _ h=>.inr h
    obtain⟨Ds,hm⟩:=G2.marks;refine⟨Ds,hm.low,hm.eq,hm.nodup,fun d Q=>?_,hm.free⟩;have:=hm.obj d Q;rw[World.putObj_heap_other]
    ·exact this
    rintro rfl
    rw[ar] at this;cases this
   have b7:c2.fix l=some ob:=by simp[c2,cr,rf]
   refine wpIn_mono (bx c2 k i x s1 R1 a1 _ rfl (by have:=a9 { rec .ready none with state:=.busy };rw[ap] at this;exact this) ak hA G3) ?_;rintro e a' w' ⟨R',s',hK,G4⟩
   have ai:w'.heap[l]? = some (.loop { rec .ready none with state:=.busy }):=by rw[ap];exact G4.fixed.obj l _ b7
   have aw:l<w'.heap.size:=size_of_getElem? ai;have b8:W.heap.size≤w'.heap.size:=G4.jV.size;let c3:Ctx:=cr c Z' l W (owned R0 (st k i).hp) (fun _ _=>False) (fun _ _ h=>h.elim) c.fix c.lo
   have G5:∀S,bN c3 R' ⟨(st k i).tm,s'.nx,s'.hp⟩ ao (w'.putObj l S)∧Marks c.lo (owned R' s'.hp) (w'.putObj l S) ao.defers X:=by
    intro S;have bp:Marks c.lo (owned R' s'.hp) (w'.putObj l S) ao.defers X:=by
     refine⟨J.mks.low,J.mks.eq,J.mks.nodup,fun d Q=>?_,fun d Q=>?_⟩
     ·rw[World.putObj_heap_other (am d Q)];exact G4.fixed.obj d _ (by simp[c2,cr,rf,am d Q,Q])
     exact G4.fixed.free d (.deferred (some [])) (by simp[c2,cr,rf,am d Q,Q])
    obtain⟨H,bo⟩:=G4.hap.sZ (c2:=c3) (w':=w'.putObj l S) (fun r=>G4.Nlt) (fun v y h=>by
      rcases h with h|h
      ·exact G4.kept v y (.inl h)
      ·exact h.elim) (fun r _ h=>h) (fun r o G _ hf=>by
      have V:r≠l:=fun e=>hf (e▸ae Z' W ag)
      rw[World.putObj_heap_other V];exact G) (by simp) ⟨rfl,rfl,rfl⟩ (fun r h=>G4.free r h)
     ⟨fun r o h=>by
       have V:=a5 r o h;rw[World.putObj_heap_other V];by_cases Q:r∈X
       ·have h1:=J.mks.obj r Q;have h2:=g0.fixed.obj r o h;rw[h1] at h2;simp only[Option.some.injEq] at h2;rw[←h2];exact G4.fixed.obj r _ (by simp[c2,cr,rf,V,Q])
       exact G4.fixed.obj r o (by have h':c.fix r=some o:=h;simp[c2,cr,rf,V,Q,h']),
      fun r o h=>by
       have V:=a5 r o h;by_cases Q:r∈X
       ·exact G4.fixed.free r (.deferred (some [])) (by simp[c2,cr,rf,V,Q])
       exact G4.fixed.free r o (by have h':c.fix r=some o:=h;simp[c2,cr,rf,V,Q,h']),a2⟩
     (G4.jV.trans (O':=fun r=>r=l) ⟨by simp,fun r _ hn=>World.putObj_heap_other hn,rfl,rfl,rfl⟩ fun r _ h=>.inr h) (fun r h=>G4.jy r h)
     ⟨rfl,bk,by show c.lo≤_;rw[World.putObj_size];omega⟩
    refine⟨H.X3 (fun t v hv=>?_) G1.size ⟨X,bp⟩,bp⟩;obtain⟨y,hy,hr⟩:=G1.slots t v hv;refine⟨y,hy,bo v y ?_⟩;refine Gn (N:=NW) (w:=W) (hp:=(st k i).hp) (R:=R0) (fun r hr h=>?_) (fun r hr hn=>?_) (fun v y hl h=>G4.kept v y (.inr ⟨hl,h⟩)) v y (Gm (bm k i) hv) hr
    ·rcases h with h|h
     ·exact .inl h
     rcases G4.jy r h with (h|h)|h
     ·exact .inr h
     ·exact .inl (h▸ae Z' W ag)
     exact absurd hr (Nat.not_lt.2 h)
    refine G4.jV.keep r hr fun G=>?_
    rcases G with G|G
    ·exact hn (.inr G)
    exact hn (.inl (G▸ae Z' W ag))
   have aq:∀(S:Obj) (R5:Real) (s5:AS) (VG:Bool) (_:bN c3 R5 s5 ao (w'.putObj l S)) (_:Marks c.lo (owned R5 s5.hp) (w'.putObj l S) ao.defers X)
     (_:VG=false→∃k i,s5=st k i∧rest=xs.drop k∧k≤xs.length∧(w'.putObj l S).heap[l]? = some (.loop (rec .ready none)))
     (_:VG=true→∃e code,KS e=some code∧K e s5∧(w'.putObj l S).heap[l]? = some (.loop (rec .done (some code)))),
     ∃(D':Nat→Prop),mV D W (w'.putObj l S)∧(∀r,D' r→D r∨W.heap.size≤r)∧(∀r,D' r→r<(w'.putObj l S).heap.size) ∧
      ∃R s,RJ c ao l n1 X rec xs st K R s rest VG Z' D' (w'.putObj l S):=by
    intro S R5 s5 VG G6 ad b1 b2;have co:W.heap.size≤(w'.putObj l S).heap.size:=by simpa using b8
    have b9:∀r,Dst c l X R5 s5.hp r→D r∨W.heap.size≤r:=by
     rintro r (h|h|h|h|h)
     ·rcases G6.jy r h with (h|h)|h
      ·exact .inl (NG r h)
      ·exact .inl (h▸DZ)
      exact .inr h
     ·exact .inl (h▸DZ)
     ·exact .inl ((J.dd r).2 (.inr (.inr (.inl h))))
     ·exact .inl ((J.dd r).2 (.inr (.inr (.inr (.inl h)))))
     exact .inl ((J.dd r).2 (.inr (.inr (.inr (.inr h)))))
    have ba:∀r,Dst c l X R5 s5.hp r→r<(w'.putObj l S).heap.size:=by
     intro r h;rcases h with ⟨b,h⟩|h
     ·exact G6.mG h
     have:D r:=by
      rcases h with h|h|h|h
      ·exact h▸DZ
      ·exact (J.dd r).2 (.inr (.inr (.inl h)))
      ·exact (J.dd r).2 (.inr (.inr (.inr (.inl h))))
      exact (J.dd r).2 (.inr (.inr (.inr (.inr h))))
     have:=af r this;omega
    have bb:∀r,cbF c Z' l (w'.putObj l S) r→cbF c Z' l W r:=by
     rintro r ⟨h,_⟩
     refine⟨h,?_⟩;rcases h with h|h|h
     ·have:=c.hF r h;omega
     ·exact az r h
     omega
    refine⟨Dst c l X R5 s5.hp,G6.jV.mono fun r h=>h.elim (NG r) fun h=>h▸DZ,b9,ba,R5,s5,?_⟩;refine⟨fun r hz=>⟨?_,?_,fun Q=>?_⟩,by omega,?_,fun r=>Iff.rfl,ba,?_,ad,b1,b2⟩
    ·rcases bd r hz with h|h
     ·exact (J.zz r h).1
     have:=J.n1;omega
    ·have:=az r hz;omega
    ·rcases Q with h|h
     ·exact G6.free r h ⟨.inr (.inl hz),az r hz⟩
     have:D r:=by
      rcases h with h|h|h|h
      ·exact h▸DZ
      ·exact (J.dd r).2 (.inr (.inr (.inl h)))
      ·exact (J.dd r).2 (.inr (.inr (.inr (.inl h))))
      exact (J.dd r).2 (.inr (.inr (.inr (.inr h))))
     exact cd r hz this
    ·have e1:mV c.O c.w W:=by
      refine⟨Nat.le_trans J.jV.size a3,fun r hr hn=>?_,hE.os.trans J.jV.os,hE.tape.trans J.jV.tape,hE.output.trans J.jV.output⟩;have h1:=J.jV.keep r hr hn;have hx:c.w.heap[r]? = some c.w.heap[r]:=by simp[hr]
      rw[hx] at h1 ⊢;exact hE.keep r _ h1 (fun hz=>by have:=(J.zz r hz).1;omega) (.inl (by omega))
     refine e1.trans G6.jV fun r hr G=>?_
     rcases G with G|G
     ·rcases g0.jy r G with (h|h)|h
      ·exact h
      ·omega
      have h:wy.heap.size≤r:=h;have:=J.n1;omega
     omega
    refine G6.sZ (c2:=cb c Z' l (w'.putObj l S)) rfl rfl (fun v y h=>G6.kept v y (.inl h)) (fun r _ h=>bb r h) (fun r o G _ _=>G) (Nat.le_refl _) ⟨rfl,rfl,rfl⟩ (fun r h hf=>G6.free r h (bb r hf)) G6.fixed (mV.refl _ _) ?_
     ⟨rfl,bk,by show c.lo≤_;omega⟩ ⟨X,ad⟩
    intro r h;rcases G6.jy r h with (h|h)|h
    ·rcases g0.jy r h with h|h
     ·exact .inl h
     refine .inl (.inr ?_);have h:wy.heap.size≤r:=h;have:=J.n1;omega
    ·exact .inl (.inr (by omega))
    exact .inl (.inr (by have h:W.heap.size≤r:=h;omega))
   cases e with
   | normal=>
     obtain⟨br,bq,hp'⟩:=s';obtain⟨j,hj⟩:=hK;have aa:=run_endRound (P:=P) none ai;refine⟨_,_,aa,?_⟩;simp only[Option.isNone_none,if_true];have G:({ { rec .ready none with state:=.busy } with state:=.ready,pending:=none }:Loop)=rec .ready none:=by rw[NF]
     rw[G];obtain⟨G6,ad⟩:=G5 (.loop (rec .ready none));obtain⟨R7,G7⟩:=hj c3 R' ao _ G6;obtain⟨Ds,a4⟩:=G7.marks;have cc:Ds=X:=by
      have:=a4.eq.symm.trans ad.eq;exact List.map_inj_right (fun a b h=>by simpa[mark] using h) |>.1 this
     rw[cc] at a4;obtain⟨D',e1,e2,e3,R8,s8,J8⟩:=aq _ R7 _ false G7 a4 (fun _=>⟨k+1,j,rfl,b0,bw,World.putObj_heap_same aw⟩) (fun h=>by cases h);exact⟨D',true,rfl,e1,e2,e3,R8,s8,J8⟩
   | ret=>
     obtain⟨br,bq,hp'⟩:=s';have aa:=run_endRound (P:=P) (some .ret) ai;refine⟨_,_,aa,?_⟩;have G:({ { rec .ready none with state:=.busy } with state:=.done,pending:=some .ret }:Loop)=rec .done (some .ret):=by rw[NF,NF]
     simp only[Option.isNone_some,Bool.false_eq_true,if_false];rw[G];obtain⟨G6,ad⟩:=G5 (.loop (rec .done (some .ret)));obtain⟨D',e1,e2,e3,R8,s8,J8⟩:=aq _ R' _ true G6 ad (fun h=>by cases h) (fun _=>⟨.ret,.ret,rfl,hK,World.putObj_heap_same aw⟩);exact⟨D',false,rfl,e1,e2,e3,R8,s8,J8⟩
   | exit id=>
     obtain⟨br,bq,hp'⟩:=s';have aa:=run_endRound (P:=P) (some (.exit id)) ai;refine⟨_,_,aa,?_⟩;have G:({ { rec .ready none with state:=.busy } with state:=.done,pending:=some (.exit id) }:Loop)=rec .done (some (.exit id)):=by rw[NF,NF]
     simp only[Option.isNone_some,Bool.false_eq_true,if_false];rw[G];obtain⟨G6,ad⟩:=G5 (.loop (rec .done (some (.exit id))));obtain⟨D',e1,e2,e3,R8,s8,J8⟩:=aq _ R' _ true G6 ad (fun h=>by cases h) (fun _=>⟨.exit id,.exit id,rfl,hK,World.putObj_heap_same aw⟩);exact⟨D',false,rfl,e1,e2,e3,R8,s8,J8⟩
   |goto t=>exact hK.elim
   |panic ch=>exact hK.elim
   |outgrown=>exact hK.elim
 |exit id=>exact h1.elim
 |goto t=>exact h1.elim
 |ret=>exact h1.elim
 |panic ch=>exact h1.elim
 |outgrown=>exact h1.elim
theorem XT {P:Program}{c:Ctx}{R:Real}{s:AS}{a:Act}{w:World}{ro:Option Nat}(g:bN c R s a w)(ak:Py c ro)
  {go:Operand} {ps:Array Tmp} {O3 LV:Code} {f:FuncId} {bD:List PV} {xs:List (List PV)}  (hs:acZ P f bD xs)
  (b2:∀t∈ps.toList,t<c.n) {ι:Type} {st:Nat→ι→AS} (bx:∀i,jV (st 0 i).tm go=some (.pv (.fn (.func f) [] bD))) (h0:∃i,vg s (st 0 i)) (a9:∀k i,Ij (st k i).tm=true) {K:Exit→AS→Prop} {A:Nat→ι→List PV→AS→Prop}
  (bj:∀(l:Nat) (c':Ctx) (k:Nat) (i:ι) (x:List PV) (tm:List (Nat×AV)) (R:Real) (a:Act) (w:World),c'.n=c.n→Py c' (some l)→xs[k]? = some x→XQ ps.toList x (st k i).tm=some tm →
   bN c' R ⟨tm,(st k i).nx,(st k i).hp⟩ a w→O3.wpIn (W1 (some l)) 0 P (Exit.then (fun a1 w1=>∃R1 s1,A k i x s1∧bN c' R1 s1 a1 w1) (fun _ _ _=>False)) a w)
  (bk:∀(l:Nat) (c':Ctx) (k:Nat) (i:ι) (x:List PV) (s1:AS) (R:Real) (a:Act) (w:World),c'.n=c.n→Py c' (some l)→xs[k]? = some x→A k i x s1 →
   bN c' R s1 a w→LV.wpIn (W1 (some l)) 0 P (fun e a' w'=>∃R' s',rfK (st k i).tm (fun b5=>∃j,vg b5 (st (k+1) j)) K e s'∧bN c' R' s' a' w') a w)
  (bm:∀k i x,xs[k]? = some x→∃tm,XQ ps.toList x (st k i).tm=some tm) (a6:∀i,K .normal (st xs.length i)) :
  (Code.rangeFunc go ps O3 LV).wpIn (W1 ro) 0 P (fun e a' w'=>∃R' s',K e s'∧bN c R' s' a' w') a w:=by
 obtain⟨i0,h0⟩:=h0;obtain⟨R0,g0⟩:=h0 c R a w g;have UC:=wI g0 (bx i0);obtain⟨Ds,ae⟩:=g0.marks;refine wpIn_rangeFunc fun fn _=>?_
 have a7:∃(l dfr:Nat) (Dm:List Nat) (V:World),(Instr.enterLoop fn a.tmps ps O3 LV ro).run P w=.ok (l,Dm.map mark) V ∧
   (∀r,r<w.heap.size→V.heap[r]? = w.heap[r]?)∧w.heap.size≤V.heap.size∧(V.os=w.os∧V.tape=w.tape∧V.output=w.output)∧w.heap.size≤l∧l<V.heap.size ∧
   V.heap[l]? = some (.loop { state:=.ready,pending:=none,fn:=fn,tmps:=a.tmps,params:=ps,assign:=O3,body:=LV,defers:=dfr })∧Dm.Nodup ∧
   (∀d∈Dm,w.heap.size≤d∧V.heap[d]? = some (.deferred (some []))∧d≠l):=by
  cases S:ro with
  | none=>
    refine⟨w.heap.size+1,w.heap.size,[w.heap.size],_,run_enterLoop_outer _ _ _ _ _,fun r S=>?_,by simp;omega,⟨rfl,rfl,rfl⟩,by omega,by simp,?_,by simp,?_⟩
    ·rw[Go.RowKit.Below.heap_alloc _ _ _ (by simp;omega),Go.RowKit.Below.heap_alloc _ _ _ S]
    ·have:=World.alloc_heap_new (w.alloc (.deferred (some []))) (.loop { state:=.ready,pending:=none,fn:=fn,tmps:=a.tmps,params:=ps,assign:=O3,body:=LV,defers:=w.heap.size });rwa [World.size_alloc] at this
    intro d Q;simp only[List.mem_singleton] at Q;subst Q;exact⟨Nat.le_refl _,(Go.RowKit.Below.heap_alloc _ _ _ (by simp)).trans (World.alloc_heap_new w _),by omega⟩
  | some l0=>
    obtain⟨r0,b3⟩:=ak.lp l0 S;have bz:=g.fixed.obj l0 _ b3;refine⟨w.heap.size,r0.defers,[],_,run_enterLoop_inner bz _ _ _ _ _,fun r S=>Go.RowKit.Below.heap_alloc _ _ _ S,by simp,⟨rfl,rfl,rfl⟩,Nat.le_refl _,by simp,World.alloc_heap_new w _,by simp,by simp⟩
 obtain⟨l,dfr,Dm,W,ba,ad,ax,ai,b8,b0,bo,bp,QZ⟩:=a7;let VH:LoopState→Option Code→Loop:=fun s p=>{ state:=s,pending:=p,fn:=fn,tmps:=a.tmps,params:=ps,assign:=O3,body:=LV,defers:=dfr }
 simp only[au,bL] at UC;obtain⟨fs,cs,bb,ah,bw⟩:=UC;simp only[fE] at ah;have ah:fs = #[]:=by simpa using ah
 subst ah;let ao:Act:={ a with defers:=Dm.map mark++a.defers }
 have b6:c.w.heap.size≤w.heap.size:=g.jV.size;have az:∀r o,c.fix r=some o→r<w.heap.size:=fun r o h=>size_of_getElem? (g.fixed.obj r o h)
 have gN:c.fix l=none:=by
  cases h:c.fix l with
  |none=>rfl
  |some o=>have:=az l o h;omega
 have ag:∀d∈Ds,d<w.heap.size:=fun d Q=>size_of_getElem? (ae.obj d Q)
 have a8:l∉Dm++Ds:=by
  intro h;rcases List.mem_append.1 h with h|h
  ·exact (QZ l h).2.2 rfl
  have:=ag l h;omega
 have KT:∀r,owned R0 (st 0 i0).hp r→r<w.heap.size:=fun r ⟨b,h⟩=>g0.mG h
 have mG:∀r,owned R s.hp r→r<w.heap.size:=fun r ⟨b,h⟩=>g.mG h
 have hE:mV (fun _=>False) w W:=⟨ax,fun r S _=>ad r S,ai.1,ai.2.1,ai.2.2⟩;have bd:Marks c.lo (owned R0 (st 0 i0).hp) W ao.defers (Dm++Ds):=by
  refine⟨fun d Q=>?_,?_,?_,fun d Q=>?_,fun d Q=>?_⟩
  ·rcases List.mem_append.1 Q with h|h
   ·exact Nat.le_trans g.lo.2.2 (QZ d h).1
   exact ae.low d h
  ·simp only[ao,List.map_append,ae.eq]
  ·rw[List.nodup_append];refine⟨bp,ae.nodup,fun x hx y hy e=>?_⟩;have h1:=(QZ x hx).1;have h2:=ag y hy;omega
  ·rcases List.mem_append.1 Q with h|h
   ·exact (QZ d h).2.1
   rw[ad d (ag d h)];exact ae.obj d h
  rcases List.mem_append.1 Q with h|h
  ·exact fun ho=>by have:=KT d ho;have:=(QZ d h).1;omega
  exact ae.free d h
 have a3:∀r,r<w.heap.size→cbF c (fun _=>False) l W r→c.F r:=by
  rintro r S ⟨h,_⟩
  rcases h with h|h|h
  ·exact h
  ·exact h.elim
  omega
 have GW:bN (cb c (fun _=>False) l W) R0 (st 0 i0) ao W:=by
  refine g0.sZ (c2:=cb c (fun _=>False) l W) rfl rfl (fun v y h=>g0.kept v y h) a3 (fun r o ho _ _=>by rw[ad r (size_of_getElem? ho)];exact ho) ax ai
   (fun r ho hf=>g0.free r ho (a3 r (KT r ho) hf)) (g0.fixed.kept (fun r S _=>ad r S) (fun _ _ h=>h)) (mV.refl _ _) (fun r ho=>.inl ?_) ⟨rfl,g.lo.2.1,Nat.le_trans g.lo.2.2 ax⟩ ⟨_,bd⟩
  exact g0.jy r ho
 let D0:Nat→Prop:=Dst c l (Dm++Ds) R0 (st 0 i0).hp
 have a2:∀r,D0 r→r<W.heap.size:=by
  rintro r (h|h|⟨o,h⟩|h|h)
  ·have:=KT r h;omega
  ·omega
  ·have:=az r o h;omega
  ·rcases List.mem_append.1 h with h|h
   ·exact size_of_getElem? (QZ r h).2.1
   have:=ag r h;omega
  have:=c.hF r h;omega
 have bu:∃R s,RJ c ao l W.heap.size (Dm++Ds) VH xs st K R s xs false (fun _=>False) D0 W:=
  ⟨R0,st 0 i0,fun r h=>h.elim,Nat.le_refl _,g.jV.trans hE fun _ _ h=>h.elim,fun r=>Iff.rfl,a2,GW,bd,fun _=>⟨0,i0,rfl,by simp,Nat.zero_le _,bo⟩,fun h=>by cases h⟩
 have hY:YH (P,l) W.heap.size fun rest VG Z D wy=>∃R s,RJ c ao l W.heap.size (Dm++Ds) VH xs st K R s rest VG Z D wy:=
  NE (fn:=fn) (dfr:=dfr) (fun _ _=>rfl) (by omega) (by omega) a8 gN b0 (by have:=g.lo.2.1;have:=g.lo.2.2;omega) g.lo.2.1 (by have:=g.lo.2.2;omega) ak.nc b2 a9
   (fun c' k i x tm R a w h1 h2 h3 h4 h5=>bj l c' k i x tm R a w h1 h2 h3 h4 h5) (fun c' k i x s1 R a w h1 h2 h3 h4 h5=>bk l c' k i x s1 R a w h1 h2 h3 h4 h5) bm
 have a5:fE D0 W bD cs.toList:=by
  refine qi (N:=bA c R0 (st 0 i0).hp) (w:=w) (fun r bt e fr h Q=>?_) (fun r bt e fr h _=>by rw[ad r (size_of_getElem? h)];exact h) _ _ bw;have S:=size_of_getElem? h;rcases Q with Q|Q|⟨o,Q⟩|Q|Q
  ·exact .inr Q
  ·omega
  ·have h1:=g.fixed.obj r o Q;rw[h] at h1;simp only[Option.some.injEq] at h1;have:=ak.nc r o Q;rw[←h1] at this;cases this
  ·rcases List.mem_append.1 Q with Q|Q
   ·have:=(QZ r Q).1;omega
   have h1:=ae.obj r Q;rw[h] at h1;cases h1
  exact .inl Q
 obtain⟨bh,ap⟩:=hs;obtain⟨a0,fq,H8,bq⟩:=bh;have bv:a0.body.isNone=false:=by cases wJ:a0.body<;>simp[wJ] at H8 ⊢
 have hC:=ap l _ D0 W cs hY a2 bu a5;refine⟨l,Dm.map mark,W,{ target:=.fn (.func f) cs,args:=#[.func (.yield l) #[] #[]] },W,f,#[.func (.yield l) #[] #[]]++cs,W,ba,?_,fun _ _=>trivial,?_,fun e=>(by cases e),?_⟩
 ·simp only[resolve,bb];simp[Deferred.ofValue,Act.eval]
 ·simp only[invoke,callFunc,run_program,Sem.run_bind,Result.andThen_ok,fq,bq,bv];simp
 refine Gp (hC.mono ?_);rintro e w3 ⟨⟨v,rfl⟩,rest,VG,Z,D,wy,⟨R5,s5,J⟩,X,aq⟩
 have DZ:D l:=(J.dd l).2 (.inr (.inl rfl));have am:∀r,D r→¬Z r:=fun r Q hz=>(J.zz r hz).2.2 Q
 have br:c.w.heap.size≤wy.heap.size:=J.jV.size;have b9:c.w.heap.size≤W.heap.size:=by omega
 have fin:∀(o o':Obj),wy.heap[l]? = some o→o.isCells=false→w3.heap[l]? = some o∧bN c R5 s5 ao (w3.putObj l o'):=by
  intro o o' ho cc;have af:=X.keep l o ho (am l DZ) (.inr (.inr DZ));refine⟨af,?_⟩;have al:wy.heap.size≤(w3.putObj l o').heap.size:=by rw[World.putObj_size];exact X.size
  have a4:∀r,r<wy.heap.size→c.F r→cbF c Z l wy r:=fun r S h=>⟨.inl h,S⟩
  have aa:∀r o,wy.heap[r]? = some o→(r<W.heap.size∨o.isCells=true∨D r)→¬Z r→r≠l→(w3.putObj l o').heap[r]? = some o:=by
   intro r o S hc hz b1;rw[World.putObj_heap_other b1];exact X.keep r o S hz hc
  refine J.g.sZ (c2:=c) rfl rfl (fun v y h=>J.g.kept v y h) a4 ?_ al ⟨X.os,X.tape,X.output⟩ (fun r h hf=>J.g.free r h (a4 r (J.dlt r ((J.dd r).2 (.inl h))) hf)) ?_ ?_ ?_ ⟨rfl,g.lo.2.1,?_⟩ ⟨Dm++Ds,?_⟩
  ·intro r o S hc hf;refine aa r o S (hc.imp (fun h=>?_) fun h=>h.imp id fun h=>(J.dd r).2 (.inl h)) (fun hz=>hf ⟨.inr (.inl hz),size_of_getElem? S⟩) fun e=>hf ⟨.inr (.inr e),size_of_getElem? S⟩
   have h:r<c.n0.1:=h;have:=g.lo.2.1;have:=g.lo.2.2;omega
  ·refine⟨fun r o h=>?_,fun r o h=>J.g.fixed.free r o h,ak.nc⟩;have hD:=(J.dd r).2 (.inr (.inr (.inl ⟨o,h⟩)));exact aa r o (J.g.fixed.obj r o h) (.inr (.inr hD)) (am r hD) fun e=>by rw[e,gN] at h;cases h
  ·refine⟨Nat.le_trans J.jV.size al,fun r S hn=>?_,X.os.trans J.jV.os,X.tape.trans J.jV.tape,X.output.trans J.jV.output⟩;have h1:=J.jV.keep r S hn;have hx:c.w.heap[r]? = some c.w.heap[r]:=by simp[S]
   rw[hx] at h1 ⊢;exact aa r _ h1 (.inl (by omega)) (fun hz=>by have:=(J.zz r hz).1;omega) (by omega)
  ·intro r h;rcases J.g.jy r h with h|h
   ·exact h
   exact .inr (Nat.le_trans br h)
  ·have:=g.lo.2.2;have:=J.n1;omega
  refine⟨J.mks.low,J.mks.eq,J.mks.nodup,fun d Q=>?_,J.mks.free⟩;have hD:=(J.dd d).2 (.inr (.inr (.inr (.inl Q))));exact aa d _ (J.mks.obj d Q) (.inr (.inr hD)) (am d hD) fun e=>a8 (e▸Q)
 cases VG with
 | false=>
   obtain⟨k,i,rfl,aw,b7,ar⟩:=J.run rfl;have b4:rest=[]:=aq.resolve_left (by simp);have hk:k=xs.length:=by
    have:=congrArg List.length aw;rw[b4] at this;simp at this;omega
   subst hk;obtain⟨af,G⟩:=fin _ (.loop { VH .ready none with state:=.exhausted }) ar rfl;refine⟨none,_,run_endLoop (P:=P) af (by simp[VH]),?_⟩;exact⟨R5,_,a6 i,G⟩
 | true=>
   obtain⟨e,code,hj,hK,ar⟩:=J.out rfl;obtain⟨af,G⟩:=fin _ (.loop { VH .done (some code) with state:=.exhausted }) ar rfl;refine⟨some code,_,run_endLoop (P:=P) af (by simp[VH]),?_⟩;cases e with
   | ret=>
     simp only[KS,Option.some.injEq] at hj;subst hj;exact wpIn_ret ⟨R5,_,hK,G⟩
   | exit id=>
     simp only[KS,Option.some.injEq] at hj;subst hj;exact wpIn_exit ⟨R5,_,hK,G⟩
   |normal=>cases hj
   |goto t=>cases hj
   |panic ch=>cases hj
   |outgrown=>cases hj
def SH:List Oper→Bool
 |[]=>true
 | o::r=>match o.guard with
   |none=>SH r
   |some _=>false
def afV:Code→Bool
 | .region _ J G=>match G with
   |true=>false
   |false=>SH J.toList
 |.skip=>true
 |_=>false
def akN (ι:Type)(st:ι→AS)(K:Exit→AS→Prop)(e:Exit)(s:AS):Prop:=
 match e with
 |.normal=>∃i,vg s (st i)
 |e=>K e s
def acX (X:AS→Prop)(K:Exit→AS→Prop)(e:Exit)(s:AS):Prop:=
 match e with
 |.normal=>X s
 |e=>K e s
def aip (id:Nat)(K:Exit→AS→Prop)(e:Exit)(s:AS):Prop:=
 match e with
 | .exit i=>match Nat.beq i id with
   |true=>K .normal s
   |false=>K e s
 |e=>K e s
def meet:List Nat→List Nat→Bool
 |[],_=>false
 | x::r,l=>match EQ x l with
   |true=>true
   |false=>meet r l
def dl (d:Option Nat):List Nat:=
 match d with
 |some d=>[d]
 |none=>[]
def nO (x y:u7):Bool:=meet (dl x.dst) y.look||(meet (dl y.dst) x.look||(meet (dl x.dst) (dl y.dst)||(meet x.wr y.rd||(meet y.wr x.rd||meet x.wr y.wr))))
def LU (G:List Nat):List Edge→Nat
 |[]=>0
 | e::r=>match Region.binds .any e with
   | true=>((2 ^ e.on ||| (match nth G e.on with
     |some m=>m
     |none=>0)) ||| LU G r)
   |false=>LU G r
def zG (i:Nat):List Edge→Bool
 |[]=>true
 | e::r=>match Region.binds .any e with
   |true=>Nat.blt e.on i&&zG i r
   |false=>zG i r
def D8 (e:u7)(m:Nat):List u7→Nat→Bool
 |[],_=>true
 |x::r,k=>(!(nO x e)||m.testBit k)&&D8 e m r (k+1)
def acY (all:List u7):List Oper→List u7→Nat→List Nat→Bool
 |[],_,_,_=>true
 | o::r,G,i,J=>match G with
   |[]=>false
   | e::G=>match LU J o.after.toList with
     |m=>zG i o.after.toList&&(D8 e m (all.take i) 0&&acY all r G (i+1) (J++[m]))
def aiq (ops:List Oper)(tr:List u7):Bool:=acY tr ops tr 0 []
def afW (ps:List Nat)(x:List PV)(tm:List (Nat×AV))(K:List (Nat×AV)→Prop):Prop:=
 match XQ ps x tm with
 |some tm=>K tm
 |none=>False
def akO (X:AS→Prop)(e:Exit)(s:AS):Prop:=
 match e with
 |.normal=>X s
 |_=>False
def VC (P:Program)(T:Tab):Code→AS→(Exit→AS→Prop)→Prop
 |.skip,s,K=>K .normal s
 | .seq a b,s,K=>match afV a with
   |true=>VC P T a s (acX (fun s=>VC P T b s K) K)
   |false=>VC P T a s (acX (fun s=>VC P T b s K) K)∨∃(ι:Type) (G:ι→AS),VC P T a s (akN ι G K)∧∀i,VC P T b (G i) K
 | .cond c x y,s,K=>match jV s.tm c with
   | some (.pv (.sc v))=>match v with
     |.bool b=>(b=true→VC P T x s K)∧(b=false→VC P T y s K)
     |_=>False
   | some (.eY b ver _ off)=>match s with
     | ⟨Q,V,S⟩=>match lk S b with
       | some (.tr y' v rest G)=>match G with
         | none=>match Nat.beq ver v with
           | true=>match off with
             |0=>VC P T x ⟨Q,V,(b,.tr y' v rest (some false))::S⟩ K∧VC P T y ⟨Q,V,(b,.tr y' v rest (some true))::S⟩ K
             |1=>VC P T x ⟨Q,V,(b,.tr y' v rest (some true))::S⟩ K∧VC P T y ⟨Q,V,(b,.tr y' v rest (some false))::S⟩ K
             |_=>False
           |false=>False
         |some _=>False
       |_=>False
   |_=>False
 | .rangeFunc go ps O3 LV,s,K=>∃(f:FuncId) (bD:List PV) (xs:List (List PV)),acZ P f bD xs∧∃(ι:Type) (ok:Nat→ι→Prop) (G:Nat→ι→AS),(∃i,vg s (G 0 i)) ∧
   (∀i,jV (G 0 i).tm go=some (.pv (.fn (.func f) [] bD)))∧(∀k i,Ij (G k i).tm=true) ∧
   (∀k x i,xs[k]? = some x→afW ps.toList x (G k i).tm fun Q=>(k≠0→ok k i)→VC P T O3 ⟨Q,(G k i).nx,(G k i).hp⟩ (akO fun s1=>VC P T LV s1 (rfK (G k i).tm (fun s2=>∃j,ok (k+1) j∧vg s2 (G (k+1) j)) K))) ∧
   ∀i,(xs.length≠0→ok xs.length i)→K .normal (G xs.length i)
 |.block id c,s,K=>VC P T c s (aip id K)
 |.exit id,s,K=>K (.exit id) s
 |.ret,s,K=>K .ret s
 |.loop c,s,K=>∃(ι:Type) (G:ι→AS) (μ:ι→Nat),(∃i,vg s (G i))∧∀i,VC P T c (G i) (acX (fun s'=>∃j,μ j<μ i∧vg s' (G j)) K)
 | .region id J X,s,K=>match s with
   | ⟨Q,V,S⟩=>match Nat.ble ((id+2)*1000+J.toList.length) V with
     | true=>match X with
       |false=>Pv P (mk3 T) J.toList ((id+2)*1000) J.toList 0 Q S [] [] fun Q S tr=>K .normal ⟨Q,V,S⟩
       |true=>Pv P T J.toList ((id+2)*1000) J.toList 0 Q S [] [] fun Q S tr=>aiq J.toList tr.reverse=true∧K .normal ⟨Q,V,S⟩
     |false=>False
 |_,_,_=>False
def codeOk (n:Nat):Code→Bool
 |.seq a b=>codeOk n a&&codeOk n b
 |.cond _ a b=>codeOk n a&&codeOk n b
 |.block _ a=>codeOk n a
 |.loop a=>codeOk n a
 |.region _ G _=>oC n G.toList
 |.rangeFunc _ J a b=>J.toList.all (fun t=>Nat.blt t n)&&(codeOk n a&&codeOk n b)
 |_=>true
section
variable {P:Program}{T:Tab}
theorem wpIn_loop_ghost {F:Fence}{n:Nat}{P:Program}{Q:Exit→Act→World→Prop}{a:Act}{w:World}{c:Code}(I:Nat→Act→World→Prop)(X:Nat)(h₀:I X a w)
  (round:∀m a w,I m a w→c.wpIn F n P (Exit.then (fun K S=>∃n',n'<m∧I n' K S) Q) a w):(Code.loop c).wpIn F n P Q a w:=by
 refine wpIn_loop (fun a w=>∃n,I n a w) (fun a w=>leastOf (fun n=>I n a w)) ⟨X,h₀⟩ ?_;intro a w hI;refine Go.wpIn_mono (round _ a w (leastOf_spec hI).1) ?_;intro e K S J;cases e with
 | normal=>
   obtain⟨n',V,G⟩:=J;exact show (∃n,I n K S)∧leastOf (fun n=>I n K S)<leastOf (fun n=>I n a w) from ⟨⟨n',G⟩,Nat.lt_of_le_of_lt ((leastOf_spec ⟨n',G⟩).2 n' G) V⟩
 |exit id=>exact J
 |goto l=>exact J
 |ret=>exact J
 |panic ch=>exact J
 |outgrown=>exact J
def ac0 (s:AS):AS:=⟨s.tm,s.nx,[(0,.arr 0 0 1 [[]])]⟩
theorem XR {c:Ctx}{R:Real}{s:AS}{a:Act}{w:World}(g:bN c R (ac0 s) a w):False:=by
 obtain⟨xs,_,h⟩:=g.boxes 0 (.arr 0 0 1 [[]]) rfl;simp only[dI] at h;exact absurd h.1 (by decide)
open Classical in
noncomputable def stB {ι:Type} (ok:Nat→ι→Prop) (st:Nat→ι→AS) (k:Nat) (i:ι):AS:=if k≠0→ok k i then st k i else ac0 (st k i)
theorem Ke {ι:Type}{ok:Nat→ι→Prop}{st:Nat→ι→AS}{k:Nat}{i:ι}(h:k≠0→ok k i):stB ok st k i=st k i:=if_pos h
theorem SI {ι:Type}{ok:Nat→ι→Prop}{st:Nat→ι→AS}{k:Nat}{i:ι}(h:¬(k≠0→ok k i)):stB ok st k i=ac0 (st k i):=if_neg h
theorem ER {ι:Type}{ok:Nat→ι→Prop}{st:Nat→ι→AS}{k:Nat}{i:ι}:(stB ok st k i).tm=(st k i).tm:=by
 unfold stB;split<;>rfl
theorem gD (hT:dB P T)(jY:∀(c:Ctx) (R:Real) (s:AS) (a:Act) (w:World) (id:Nat) (ops:Array Oper) (K:Exit→AS→Prop) (ro:Option Nat),bN c R s a w→oC c.n ops.toList=true →
  VC P T (.region id ops true) s K→(Code.region id ops true).wpIn (W1 ro) 0 P (fun e a' w'=>∃R' S,K e S∧bN c R' S a' w') a w) :
  ∀(code:Code) {c:Ctx} {R:Real} {s:AS} {a:Act} {w:World} {K:Exit→AS→Prop} {ro:Option Nat},Py c ro→bN c R s a w→codeOk c.n code=true→VC P T code s K →
   code.wpIn (W1 ro) 0 P (fun e a' w'=>∃R' S,K e S∧bN c R' S a' w') a w
 |.skip,c,R,s,a,w,K,ro,J,g,G,h=>wpIn_skip ⟨R,s,h,g⟩
 | .seq x y,c,R,s,a,w,K,ro,J,g,G,h=>by
   simp only[codeOk,Bool.and_eq_true] at G;have direct:VC P T x s (acX (fun s=>VC P T y s K) K)→(Code.seq x y).wpIn (W1 ro) 0 P (fun e a' w'=>∃R' S,K e S∧bN c R' S a' w') a w:=by
    intro h;refine wpIn_seq (Go.wpIn_mono (gD hT jY x J g G.1 h) ?_);rintro e a' w' ⟨R',S,Q,V⟩
    cases e with
    |normal=>exact gD hT jY y J V G.2 Q
    |exit i=>exact⟨R',S,Q,V⟩
    |goto l=>exact⟨R',S,Q,V⟩
    |ret=>exact⟨R',S,Q,V⟩
    |panic ch=>exact⟨R',S,Q,V⟩
    |outgrown=>exact⟨R',S,Q,V⟩
   simp only[VC] at h;split at h
   ·exact direct h
   rcases h with h|⟨ι,st,h,h2⟩
   ·exact direct h
   refine wpIn_seq (Go.wpIn_mono (gD hT jY x J g G.1 h) ?_);rintro e a' w' ⟨R',S,Q,V⟩
   cases e with
   | normal=>
     obtain⟨i,hi⟩:=Q;obtain⟨R2,g2⟩:=hi c R' a' w' V;exact gD hT jY y J g2 G.2 (h2 i)
   |exit i=>exact⟨R',S,Q,V⟩
   |goto l=>exact⟨R',S,Q,V⟩
   |ret=>exact⟨R',S,Q,V⟩
   |panic ch=>exact⟨R',S,Q,V⟩
   |outgrown=>exact⟨R',S,Q,V⟩
 | .cond cc x y,c,R,s,a,w,K,ro,J,g,G,h=>by
   simp only[codeOk,Bool.and_eq_true] at G;simp only[VC] at h;split at h
   ·rename_i v hv;have hr:=wI g hv;simp only[au,bL] at hr;split at h;rotate_left;cases h
    rename_i b;refine wpIn_cond hr ?_;cases b with
    |true=>exact gD hT jY x J g G.1 (h.1 rfl)
    |false=>exact gD hT jY y J g G.2 (h.2 rfl)
   ·rename_i b ver i off hv;have hr:=wI g hv;obtain⟨tm,nx,hp⟩:=s;simp only at h;split at h;rotate_left;cases h
    rename_i y' v rest st hb;split at h;rotate_left;cases h
    split at h;rotate_left;cases h
    rename_i gu;have gu:=Nat.eq_of_beq_eq_true gu;simp only[au,hb,bC] at hr;have af:=hr.2.2 gu (by trivial);have ad:Nat.beq 0 1=false:=rfl;have ae:Nat.beq 1 1=true:=rfl;have aa:∀(q:Bool),R.nil b=(!q)→bN c R ⟨tm,nx,(b,.tr y' v rest (some q))::hp⟩ a w:=by
     intro q hq;have ao:=g.boxes b _ hb;refine g.upd (s:=⟨tm,nx,hp⟩) (R':=R) (w':=w) (b:=b) (cZ:=.tr y' v rest (some q)) (nx':=nx) (fun _ _=>⟨rfl,rfl,rfl⟩) (fun off v h=>?_) (fun ver v h=>?_) (fun ver i off v h=>?_) (fun r h=>.inl ?_) (mV.refl _ _) ?_
     ·simp only[hb,bf] at h
     ·simp only[hb,aX] at h
     ·simp only[hb,bC] at h ⊢;exact⟨h.1,h.2.1,fun _ e=>by cases e⟩
     ·simp only[hb];exact h
     obtain⟨k0,kh,k1,k2,k3,k4⟩:=ao;refine⟨k0,kh,?_,k2,k3,fun r X=>k4 r ?_⟩
     ·simp only[Option.getD_none,hq,Bool.not_not] at k1;exact k1
     rcases X with X|⟨b2,ho⟩
     ·exact .inl X
     refine .inr ⟨b2,?_⟩;by_cases e:b2=b
     ·subst e;rw[aG,if_pos rfl] at ho;simp only[hb];exact ho
     rw[aG,if_neg (fun e'=>e e'.symm)] at ho;exact ho
    split at h
    ·refine wpIn_cond af ?_;cases X:R.nil b with
     |true=>simpa[X,ad,ae] using gD hT jY x J (aa false (by simp[X])) G.1 h.1
     |false=>simpa[X,ad,ae] using gD hT jY y J (aa true (by simp[X])) G.2 h.2
    ·refine wpIn_cond af ?_;cases X:R.nil b with
     |true=>simpa[X,ad,ae] using gD hT jY y J (aa false (by simp[X])) G.2 h.2
     |false=>simpa[X,ad,ae] using gD hT jY x J (aa true (by simp[X])) G.1 h.1
    exact h.elim
   exact h.elim
 | .block id x,c,R,s,a,w,K,ro,J,g,G,h=>by
   simp only[codeOk] at G;simp only[VC] at h;refine wpIn_block (Go.wpIn_mono (gD hT jY x J g G h) ?_);rintro e a' w' ⟨R',S,Q,V⟩
   cases e with
   | exit i=>
     simp only[Exit.inBlock];simp only[aip] at Q;split at Q
     ·rename_i hb;rw[if_pos (Nat.eq_of_beq_eq_true hb)];exact⟨R',S,Q,V⟩
     rename_i hb;rw[if_neg (Nat.ne_of_beq_eq_false hb)];exact⟨R',S,Q,V⟩
   |normal=>exact⟨R',S,Q,V⟩
   |goto l=>exact⟨R',S,Q,V⟩
   |ret=>exact⟨R',S,Q,V⟩
   |panic ch=>exact⟨R',S,Q,V⟩
   |outgrown=>exact⟨R',S,Q,V⟩
 |.exit id,c,R,s,a,w,K,ro,J,g,G,h=>wpIn_exit ⟨R,s,h,g⟩
 |.ret,c,R,s,a,w,K,ro,J,g,G,h=>wpIn_ret ⟨R,s,h,g⟩
 | .loop x,c,R,s,a,w,K,ro,J,g,G,h=>by
   simp only[codeOk] at G;simp only[VC] at h;obtain⟨ι,st,μ,⟨i0,h0⟩,hr⟩:=h;obtain⟨R0,g0⟩:=h0 c R a w g;refine wpIn_loop_ghost (fun n a w=>∃i R,μ i=n∧bN c R (st i) a w) (μ i0) ⟨i0,R0,rfl,g0⟩ ?_;rintro n a' w' ⟨i,R1,rfl,g1⟩
   refine Go.wpIn_mono (gD hT jY x J g1 G (hr i)) ?_;rintro e a2 w2 ⟨R2,s2,Q,g2⟩
   cases e with
   | normal=>
     obtain⟨j,hj,he⟩:=Q;obtain⟨R3,g3⟩:=he c R2 a2 w2 g2;exact⟨μ j,hj,j,R3,rfl,g3⟩
   |exit i=>exact⟨R2,s2,Q,g2⟩
   |goto l=>exact⟨R2,s2,Q,g2⟩
   |ret=>exact⟨R2,s2,Q,g2⟩
   |panic ch=>exact⟨R2,s2,Q,g2⟩
   |outgrown=>exact⟨R2,s2,Q,g2⟩
 | .region id ops ah,c,R,s,a,w,K,ro,J,g,G,h=>by
   simp only[codeOk] at G;cases ah with
   |true=>exact jY c R s a w id ops K ro g G h
   | false=>
     simp only[VC] at h;obtain⟨tm,nx,hp⟩:=s;simp only at h;split at h;rotate_left;cases h
     rename_i hb;refine wpIn_region_list (yh ro hT.mk3 ops.toList 0 (s:=⟨tm,nx,hp⟩) g (by simp only[Nat.add_zero];exact Nat.le_of_ble_eq_true hb) G h ?_);intro R' aw ar rz a' w' Q V;exact⟨R',_,Q,V⟩
 | .rangeFunc go ps O3 LV,c,R,s,a,w,K,ro,J,g,G,h=>by
   simp only[codeOk,Bool.and_eq_true] at G;obtain⟨aq,al,am⟩:=G;simp only[VC] at h;obtain⟨f,bD,xs,hs,ι,ok,st,h0,ap,ak,bK,ai⟩:=h;refine Go.wpIn_mono (XT (ps:=ps) (O3:=O3) (LV:=LV) (st:=stB ok st) (K:=fun e s=>K e s∨∃s0,s=ac0 s0)
    (A:=fun k i x s1=>(k≠0→ok k i)∧VC P T LV s1 (rfK (st k i).tm (fun s2=>∃j,ok (k+1) j∧vg s2 (st (k+1) j)) K)) g J hs (fun t ht=>?_) (fun i=>by rw[ER];exact ap i) (by rw[show stB ok st 0=st 0 from funext fun i=>Ke fun h=>absurd rfl h];exact h0)
    (fun k i=>by rw[ER];exact ak k i) (fun l c' k i x tm R a w X ag hx UE V=>?_) (fun l c' k i x s1 R a w X ag hx hA V=>?_) (fun k i x hx=>?_) (fun i=>?_)) ?_
   ·have:=List.all_eq_true.1 aq t ht;rwa [Nat.blt_eq] at this
   ·by_cases hv:k≠0→ok k i
    ·rw[ER] at UE;rw[Ke hv] at V;have h1:=bK k x i hx;simp only[afW,UE] at h1;refine Go.wpIn_mono (gD hT jY O3 ag V (by rw[X];exact al) (h1 hv)) ?_;rintro e a' w' ⟨R',S,Q,g2⟩
     cases e with
     |normal=>exact⟨R',S,⟨hv,Q⟩,g2⟩
     |exit i=>exact Q.elim
     |goto l=>exact Q.elim
     |ret=>exact Q.elim
     |panic ch=>exact Q.elim
     |outgrown=>exact Q.elim
    rw[SI hv] at V;exact (XR (s:=⟨tm,_,[]⟩) V).elim
   ·refine Go.wpIn_mono (gD hT jY LV ag V (by rw[X];exact am) hA.2) ?_;rintro e a' w' ⟨R',S,Q,g2⟩
    refine⟨R',S,?_,g2⟩;rw[ER];revert Q;unfold rfK;split
    ·rintro⟨j,hj,he⟩
     exact⟨j,by rw[Ke fun _=>hj];exact he⟩
    ·exact .inl
    ·exact .inl
    exact id
   ·rw[ER];have h1:=bK k x i hx;unfold afW at h1;split at h1
    ·rename_i tm UE;exact⟨tm,UE⟩
    exact h1.elim
   ·by_cases hv:xs.length≠0→ok xs.length i
    ·rw[Ke hv];exact .inl (ai i hv)
    rw[SI hv];exact .inr ⟨_,rfl⟩
   rintro e a' w' ⟨R',S,Q,g2⟩
   rcases Q with Q|⟨s0,rfl⟩
   ·exact⟨R',S,Q,g2⟩
   exact (XR g2).elim
 |.scope _,c,R,s,a,w,K,ro,J,g,G,h=>by simp[VC] at h
 |.label _,c,R,s,a,w,K,ro,J,g,G,h=>by simp[VC] at h
 |.goto _,c,R,s,a,w,K,ro,J,g,G,h=>by simp[VC] at h
 |.refuse _,c,R,s,a,w,K,ro,J,g,G,h=>by simp[VC] at h
def lits:List Nat:=[0,1,2,3,4,5,6,7,8,9,10,11,12,13,14,15]
def Pz:List Nat→List PV→Option (List (Nat×AV))
 |_,[]=>some []
 |[],_::_=>none
 | k::ks,p::r=>match Pz ks r with
   |some t=>some ((k,.pv p)::t)
   |none=>none
def afY (args:List PV)(K:AS→Prop):Prop:=
 match Pz lits args with
 |some G=>K ⟨G,1000000000,[]⟩
 |none=>False
def Bf (T:Tab)(s:AS):List ResultVar→(List AV→Prop)→Prop
 |[],K=>K []
 | rv::r,K=>match rv with
   | .tmp t=>match lk s.tm t with
     |some v=>Bf T s r fun vs=>K (v::vs)
     |none=>False
   | .cell x t=>match lk s.tm x with
     | some v=>match LW v with
       |true=>vk T s.hp t v fun u=>Bf T s r fun vs=>K (u::vs)
       |false=>False
     |none=>False
def XU (hp:List (Nat×aI))(vs:List AV)(Q:PV→Prop):Prop:=
 match vs with
 | [v]=>match vw hp v with
   |some p=>Q p
   |none=>False
 | _=>match Ie hp vs with
   |some G=>Q (.cK G)
   |none=>False
def fnK (T:Tab)(G:List ResultVar)(Q:PV→Prop)(e:Exit)(s:AS):Prop:=
 match e with
 |.normal=>Bf T s G fun vs=>XU s.hp vs Q
 |.ret=>Bf T s G fun vs=>XU s.hp vs Q
 |_=>False
def ES (P:Program)(G:Array Value):ResultVar→Sem Value
 |.tmp t=>pure (G.getD t undef)
 |.cell a t=>do loadVar t (←asAddr (G.getD a undef))
theorem pJ {c:Ctx}{R:Real}{s:AS}{a:Act}{w:World}(g:bN c R s a w)(V:dB P T):∀(rs:List ResultVar) {K:List AV→Prop},Bf T s rs K →
  ∃vs us,(rs.mapM (ES P a.tmps)).run P w=.ok us w∧K vs∧FL (au (bA c R s.hp) w s.hp R) vs us
 |[],K,h=>⟨[],[],by simp,h,rfl⟩
 | rv::r,K,h=>by
   simp only[Bf] at h;split at h
   ·rename_i t;split at h;rotate_left;cases h
    rename_i v hv;obtain⟨vs,us,J,Q,S⟩:=pJ g V r h;obtain⟨x,hx,G⟩:=g.slots t v hv;refine⟨v::vs,x::us,?_,Q,⟨x,us,rfl,G,S⟩⟩;simp[List.mapM_cons,ES,J,hx]
   rename_i x t;split at h;rotate_left;cases h
   rename_i v hv;split at h;rotate_left;cases h
   rename_i X;obtain⟨xv,hx,G⟩:=g.slots x v hv;obtain⟨y,z,J,Q,S⟩:=vo g V (fun b box hb=>hb) h G;obtain⟨vs,us,h4,h5,h6⟩:=pJ g V r Q;obtain⟨ad,rfl⟩:=zF X G;refine⟨z::vs,y::us,?_,h5,⟨y,us,rfl,S,h6⟩⟩;have h7:(loadVar t ad).run P w=.ok y w:=by simpa[Instr.loadAt,Instr.sureAddr] using J
   simp[List.mapM_cons,ES,hx,asAddr,h7,h4]
theorem PD {c:Ctx}{R:Real}{s:AS}{a:Act}{w:World}(g:bN c R s a w){vs:List AV}{us:List Value}{Q:PV→Prop}(h:XU s.hp vs Q)
  (X:FL (au (bA c R s.hp) w s.hp R) vs us):∃r v,(if hu:us.toArray.size=1 then us.toArray[0] else .tuple us.toArray)=v∧Q r∧bL c.F w r v:=by
 have hN:∀r,c.F r→bA c R s.hp r:=fun r h=>.inl h
 have h2:∀b,∀r,aQ R b r (lk s.hp b)→¬c.F r:=fun b r ho=>g.free r ⟨b,ho⟩
 have J:=X.length;unfold XU at h;split at h
 ·rename_i v;obtain⟨u,r,rfl,hu,hr⟩:=X;simp only[FL] at hr;subst hr;split at h
  ·rename_i p hp;refine⟨p,u,by simp,h,rE g (fun b box G=>G) hN v p u (fun b _=>h2 b) hp hu⟩
  exact h.elim
 rename_i K;split at h;rotate_left;cases h
 rename_i ps S;have V:us.toArray.size≠1:=by
  intro e;simp only[List.size_toArray] at e;rw[e] at J;match vs with
  |[v]=>exact K v rfl
  |[]=>simp at J
  |_::_::_=>simp at J
 refine⟨.cK ps,.tuple us.toArray,by rw[dif_neg V],h,?_⟩;simp only[bL];refine⟨us.toArray,rfl,?_⟩;exact iQ g (fun b box G=>G) hN vs ps _ (fun b _=>h2 b) S (by rw[eZ];exact X)
theorem Kg:∀(ks:List Nat) (k:Nat) (args:List PV) (tm:List (Nat×AV)) (t:Nat) (v:AV),(∀i x,ks[i]? = some x→x=k+i)→Pz ks args=some tm→lk tm t=some v →
  k≤t∧∃p,args[t-k]? = some p∧v=.pv p
 |ks,k,[],tm,t,v,_,G,h=>by cases ks<;>simp only[Pz,Option.some.injEq] at G<;>subst G<;>simp[lk] at h
 |[],k,p::r,tm,t,v,_,G,h=>by simp[Pz] at G
 | k'::ks,k,p::r,tm,t,v,Q,G,h=>by
   simp only[Pz] at G;split at G
   ·rename_i K S;simp only[Option.some.injEq] at G;subst G;have J:k'=k:=by simpa using Q 0 k' rfl
    subst J;rw[aG] at h;split at h
    ·rename_i e;simp only[Option.some.injEq] at h;subst e;subst h;exact⟨Nat.le_refl _,p,by simp,rfl⟩
    rename_i e;obtain⟨h1,q,V,X⟩:=Kg ks (k'+1) r K t v (fun i x hx=>by have:=Q (i+1) x (by simpa using hx);omega) S h;refine⟨by omega,q,?_,X⟩;rw[show t-k'=(t-(k'+1))+1 from by omega,List.getElem?_cons_succ];exact V
   cases G
theorem D9:∀i x,lits[i]? = some x→x=0+i:=by
 intro i x h;rcases i with _|_|_|_|_|_|_|_|_|_|_|_|_|_|_|_|i<;>simp[lits] at h<;>omega
def codeOf (fn:Func):Code:=
 match fn.body with
 |some c=>c
 |none=>.skip
structure bM (P:Program)(f:FuncId)(fn:Func):Prop where
 func:P.funcs[f]? = some fn
 body:fn.body.isSome=true
 name:(fn.name == "runtime.NumGoroutine")=false
 ok:codeOk fn.ntmps (codeOf fn)=true
theorem pK {c:Ctx}{R:Real}{s:AS}(ae:c.w.heap.size≤c.lo)(K:∀r o,c.fix r=some o→r<c.lo){fn:Func}{Rr:Ending→World→Prop}:∀(G:List Nat) (a:Act) (w:World),bN c R s a w→Marks c.lo (owned R s.hp) w a.defers G →
  ∃w',w.heap.size≤w'.heap.size∧bN c R s { a with defers:=[] } w'∧(LeavesIn Fence.wide 0 P fn a.tmps Rr [] .returning w'→LeavesInM Fence.wide 0 P fn a.tmps Rr a.defers .returning w)
 | [],a,w,g,mk=>by
   have e:a.defers=[]:=by simpa using mk.eq
   have ea:({ a with defers:=[] }:Act)=a:=by cases a;simp only at e;subst e;rfl
   refine⟨w,Nat.le_refl _,by rw[ea];exact g,fun h=>by rw[e];exact h⟩
 | D::G,a,w,g,mk=>by
   have e:a.defers=mark D::G.map mark:=by simpa using mk.eq
   have hD:=mk.obj D (by simp);have af:=mk.low D (by simp);have aa:=mk.free D (by simp);have Q:=List.nodup_cons.1 mk.nodup;let X:Act:={ a with defers:=G.map mark }
   have S:Marks c.lo (owned R s.hp) (w.putObj D (.deferred none)) X.defers G:=by
    refine⟨fun d J=>mk.low d (by simp[J]),rfl,Q.2,fun d J=>?_,fun d J=>mk.free d (by simp[J])⟩;rw[World.putObj_heap_other (fun (e:d=D)=>Q.1 (by rw[←e];exact J))];exact mk.obj d (by simp[J])
   have g1:bN c R s X (w.putObj D (.deferred none)):=by
    refine g.sZ (c2:=c) rfl rfl (fun v y h=>g.kept v y h) (fun r _ h=>h) (fun r o V hc _=>?_) (by simp) ⟨rfl,rfl,rfl⟩ g.free ?_ ?_ g.jy ⟨rfl,g.lo.2.1,by rw[World.putObj_size];exact g.lo.2.2⟩ ⟨G,S⟩
    ·rw[World.putObj_heap_other]
     ·exact V
     rintro rfl
     rcases hc with h|h|h
     ·have:=g.lo.2.1;omega
     ·rw[hD] at V;simp only[Option.some.injEq] at V;rw[←V] at h;cases h
     exact aa h
    ·refine⟨fun r o h=>?_,g.fixed.free,g.fixed.nc⟩;have:=K r o h;rw[World.putObj_heap_other (by omega)];exact g.fixed.obj r o h
    exact g.jV.trans (O':=fun r=>r=D) ⟨by simp,fun r _ hn=>World.putObj_heap_other hn,rfl,rfl,rfl⟩ fun r hr h=>by omega
   obtain⟨w2,ad,g2,hl⟩:=pK ae K G X _ g1 S;refine⟨w2,Nat.le_trans (by simp) ad,g2,fun h=>?_⟩;rw[e];refine⟨by simp,.inl ⟨D,_,rfl,run_takeDeferred hD,hl h⟩⟩
theorem LX (hT:dB P T)(jY:∀(c:Ctx) (R:Real) (s:AS) (a:Act) (w:World) (id:Nat) (ops:Array Oper) (K:Exit→AS→Prop) (ro:Option Nat),bN c R s a w→oC c.n ops.toList=true →
  VC P T (.region id ops true) s K→(Code.region id ops true).wpIn (W1 ro) 0 P (fun e X S=>∃R' s',K e s'∧bN c R' s' X S) a w)
  {f:FuncId} {fn:Func} (hf:bM P f fn) {args:List PV} (hl:Nat.ble args.length fn.ntmps=true) {Q:PV→Prop}
  (h:afY args fun s=>VC P T (codeOf fn) s (fnK T fn.results.toList Q)):PC P f args Q:=by
 unfold afY at h;split at h
 case h_2=>exact h.elim
 rename_i XV PE;refine⟨⟨fn,hf.func,hf.body,hf.name⟩,fun F w dG hF G=>?_⟩;have aa:fn.body=some (codeOf fn):=by
  have:=hf.body;unfold codeOf;cases J:fn.body with
  |none=>rw[J] at this;cases this
  |some c=>rfl
 have hl:=Nat.le_of_ble_eq_true hl;rw[jF] at G;have ak:dG.size=args.length:=by have:=G.length;simpa using this
 let c:Ctx:={ F:=F,O:=fun _=>False,w:=w,n:=fn.ntmps,hF:=hF,K:=fun _ _=>False,hK:=fun _ _ h=>h.elim,fix:=fun _=>none,n0:=(0,fun _ _ _ _ _=>False),lo:=w.heap.size }
 let R:Real:=⟨fun _=>0,fun _=>true,fun _=>(0,[],0),⟨fun _=>False,fun _=>False,w,(0,fun _ _ _ _ _=>False)⟩⟩
 have ag:∀r,¬owned R [] r:=by rintro r ⟨b,J⟩;exact J
 have af:∀r,bA c R [] r→F r:=fun r h=>h.resolve_right (ag r)
 refine callsIn_wide.1 (callsIn_of_wp_marks (n:=0) hf.func aa trivial ?_);have g:bN c R ⟨XV,1000000000,[]⟩ { tmps:=dG++Array.replicate (fn.ntmps-dG.size) undef,defers:=[] } w:=by
  refine⟨?_,?_,⟨rfl,Nat.zero_le _,Nat.le_refl _⟩,⟨[],Marks.nil⟩,uF.none,?_,?_,?_,mV.refl _ _,?_,fun _ _ h=>h.elim⟩
  ·intro t v hv;obtain⟨_,p,hp,rfl⟩:=Kg lits 0 args XV t v D9 PE hv;obtain⟨x,hx,hr⟩:=G.get hp;have ae:dG[t]? = some x:=by simpa using hx
   refine⟨x,?_,?_⟩
   ·have:=size_of_getElem? ae;simp only;rw[Array.getElem?_append_left this];exact ae
   simp only[au];exact dV (fun r _ h=>af r h) (fun _ _ _=>rfl) _ _ hr
  ·show (dG++Array.replicate (fn.ntmps-dG.size) undef).size=fn.ntmps
   simp;omega
  ·intro b box J;simp[lk] at J
  ·intro b b' r J;exact J.elim
  ·rintro r ⟨b,J⟩;exact J.elim
  rintro r ⟨b,J⟩;exact J.elim
 refine Go.wpIn_mono (gD (ro:=none) hT jY (codeOf fn) ⟨fun _ h=>(by cases h),fun _ _ h=>(by cases h)⟩ g hf.ok h) ?_;rintro e X XW ⟨R',s',hK,XY⟩
 obtain⟨Ds,ah⟩:=XY.marks;obtain⟨S,ai,g',V⟩:=pK (P:=P) (fn:=fn) (Rr:=fun e S=>∃v r,e=.returned v∧Q r∧bL F S r v∧Same w S) (Nat.le_refl _) (fun _ _ h=>(by cases h)) Ds X XW XY ah;have fin:(Bf T s' fn.results.toList fun vs=>XU s'.hp vs Q)→LeavesInM Fence.wide 0 P fn X.tmps (fun e S=>∃v r,e=.returned v∧Q r∧bL F S r v∧Same w S) X.defers .returning XW:=by
  intro hK;refine V ?_;obtain⟨vs,us,h1,h2,h3⟩:=pJ g' hT _ hK;obtain⟨r,v,h4,h5,h6⟩:=PD g' h2 h3;refine⟨v,?_,v,r,rfl,h5,h6,g'.jV⟩;have ad:results fn X.tmps=(fn.results.mapM (ES P X.tmps) >>= fun vs=>pure (if h:vs.size=1 then vs[0] else .tuple vs)):=by
   unfold results;congr 2
  have hm:(fn.results.mapM (ES P X.tmps)).run P S=.ok us.toArray S:=by
   rw[Array.mapM_eq_mapM_toList,Sem.run_map,h1];rfl
  rw[ad];simp only[Sem.run_bind,hm,Result.andThen_ok,Sem.run_pure];exact congrArg (fun x=>Result.ok x S) h4
 cases e with
 |normal=>exact fin hK
 |ret=>exact fin hK
 |exit i=>exact hK.elim
 |goto l=>exact hK.elim
 |panic ch=>exact hK.elim
 |outgrown=>exact hK.elim
def Ik:List Nat→List AV→Option (List (Nat×AV))
 |_,[]=>some []
 |[],_::_=>none
 | k::ks,p::r=>match Ik ks r with
   |some t=>some ((k,p)::t)
   |none=>none
def XZ (args:List AV)(hp:List (Nat×aI))(K:AS→Prop):Prop:=
 match Ik lits args with
 |some G=>K ⟨G,1000000000,hp⟩
 |none=>False
def SK (vs:List AV):AV:=
 match jE vs with
 |some G=>.pv (.cK G)
 |none=>.cK vs
def X0 (hp:List (Nat×aI))(vs:List AV)(Q:AV→List (Nat×aI)→Prop):Prop:=
 match vs with
 |[v]=>ac1 hp v Q
 | _=>match SK vs with
   |v=>ac1 hp v Q
def fnG (T:Tab)(G:List ResultVar)(Q:AV→List (Nat×aI)→Prop)(e:Exit)(s:AS):Prop:=
 match e with
 |.normal=>Bf T s G fun vs=>X0 s.hp vs Q
 |.ret=>Bf T s G fun vs=>X0 s.hp vs Q
 |_=>False
theorem ET:∀(ks:List Nat) (k:Nat) (args:List AV) (tm:List (Nat×AV)) (t:Nat) (v:AV),(∀i x,ks[i]? = some x→x=k+i)→Ik ks args=some tm→lk tm t=some v →
  k≤t∧args[t-k]? = some v
 |ks,k,[],tm,t,v,_,G,h=>by cases ks<;>simp only[Ik,Option.some.injEq] at G<;>subst G<;>simp[lk] at h
 |[],k,p::r,tm,t,v,_,G,h=>by simp[Ik] at G
 | k'::ks,k,p::r,tm,t,v,Q,G,h=>by
   simp only[Ik] at G;split at G
   ·rename_i K S;simp only[Option.some.injEq] at G;subst G;have J:k'=k:=by simpa using Q 0 k' rfl
    subst J;rw[aG] at h;split at h
    ·rename_i e;simp only[Option.some.injEq] at h;subst e;subst h;exact⟨Nat.le_refl _,by simp⟩
    rename_i e;obtain⟨h1,V⟩:=ET ks (k'+1) r K t v (fun i x X=>by have:=Q (i+1) x (by simpa using X);omega) S h;refine⟨by omega,?_⟩;rw[show t-k'=(t-(k'+1))+1 from by omega,List.getElem?_cons_succ];exact V
   cases G
theorem PG {c:Ctx}{R:Real}{hp:List (Nat×aI)}{w:World}(g:zH c R hp w){vs:List AV}{us:List Value}{Q:AV→List (Nat×aI)→Prop}(h:X0 hp vs Q)
  (hv:FL (au (bA c R hp) w hp R) vs us):∃r G K,Q r G∧zH c K G w∧au (bA c K G) w G K r (if hu:us.toArray.size=1 then us.toArray[0] else .tuple us.toArray):=by
 have S:=hv.length;unfold X0 at h;split at h
 ·rename_i v;obtain⟨u,r,rfl,hu,hr⟩:=hv;simp only[FL] at hr;subst hr;exact yj h g (by simpa using hu)
 rename_i V;have aa:us.toArray.size≠1:=by
  intro e;simp only[List.size_toArray] at e;rw[e] at S;match vs with
  |[v]=>exact V v rfl
  |[]=>simp at S
  |_::_::_=>simp at S
 rw[dif_neg aa];refine yj h g ?_;have J:=(eZ _ _ _ _ _ _).2 hv;unfold SK;split
 ·rename_i ps X;have:=wK X;subst this;simp only[au,bL];exact⟨us.toArray,rfl,qD _ _ J⟩
 simp only[au];exact⟨us.toArray,rfl,J⟩
theorem zI (hT:dB P T)(jY:∀(c:Ctx) (R:Real) (s:AS) (a:Act) (w:World) (id:Nat) (ops:Array Oper) (K:Exit→AS→Prop) (ro:Option Nat),bN c R s a w→oC c.n ops.toList=true →
  VC P T (.region id ops true) s K→(Code.region id ops true).wpIn (W1 ro) 0 P (fun e a' V=>∃X s',K e s'∧bN c X s' a' V) a w)
  {f:FuncId} {fn:Func} (hf:bM P f fn) {args:List AV} {hp:List (Nat×aI)} (hl:Nat.ble args.length fn.ntmps=true) {Q:AV→List (Nat×aI)→Prop}
  (h:XZ args hp fun s=>VC P T (codeOf fn) s (fnG T fn.results.toList Q)):GC P f args hp Q:=by
 unfold XZ at h;split at h
 case h_2=>exact h.elim
 rename_i XV PE;refine⟨⟨fn,hf.func,hf.body,hf.name⟩,fun c R w dG S J=>?_⟩;have ad:fn.body=some (codeOf fn):=by
  have:=hf.body;unfold codeOf;cases hb:fn.body with
  |none=>rw[hb] at this;cases this
  |some c=>rfl
 have hl:=Nat.le_of_ble_eq_true hl;rw[eZ] at J;have ai:dG.size=args.length:=by have:=J.length;simpa using this
 let c':Ctx:={ c with n:=fn.ntmps,lo:=w.heap.size }
 have PI:zH c' R hp w:=⟨S.boxes,S.inj,S.free,S.jV,S.jy,S.kept,S.fixed,⟨S.lo.1,Nat.le_trans S.lo.2.1 S.lo.2.2,Nat.le_refl _⟩⟩;refine callsIn_wide.1 (callsIn_of_wp_marks (n:=0) hf.func ad trivial ?_);have g:bN c' R ⟨XV,1000000000,hp⟩ { tmps:=dG++Array.replicate (fn.ntmps-dG.size) undef,defers:=[] } w:=by
  refine PI.X3 ?_ ?_ ⟨[],Marks.nil⟩
  ·intro t v hv;obtain⟨_,hp⟩:=ET lits 0 args XV t v D9 PE hv;obtain⟨x,hx,hr⟩:=J.get hp;have af:dG[t]? = some x:=by simpa using hx
   refine⟨x,?_,hr⟩;have:=size_of_getElem? af;simp only;rw[Array.getElem?_append_left this];exact af
  show (dG++Array.replicate (fn.ntmps-dG.size) undef).size=fn.ntmps
  simp;omega
 refine Go.wpIn_mono (gD (c:=c') (ro:=none) hT jY (codeOf fn) ⟨fun _ h=>(by cases h),S.fixed.nc⟩ g hf.ok h) ?_;rintro e a' XW ⟨X,s',hK,XY⟩
 obtain⟨Ds,ag⟩:=XY.marks;obtain⟨V,ah,g',aa⟩:=pK (c:=c') (P:=P) (fn:=fn) (Rr:=fun e V=>∃v r G X,e=.returned v∧Q r G∧zH c X G V∧au (bA c X G) V G X r v) S.jV.size (fun r o h=>size_of_getElem? (S.fixed.obj r o h)) Ds a' XW XY ag;have fin:(Bf T s' fn.results.toList fun vs=>X0 s'.hp vs Q)→LeavesInM Fence.wide 0 P fn a'.tmps (fun e V=>∃v r G X,e=.returned v∧Q r G∧zH c X G V∧au (bA c X G) V G X r v) a'.defers .returning XW:=by
  intro hK;refine aa ?_;obtain⟨vs,us,h1,h2,h3⟩:=pJ g' hT _ hK;obtain⟨r,G,R2,h4,h5,h6⟩:=PG g'.hap h2 h3;refine⟨_,?_,_,r,G,R2,rfl,h4,⟨h5.boxes,h5.inj,h5.free,h5.jV,h5.jy,h5.kept,h5.fixed,⟨h5.lo.1,S.lo.2.1,?_⟩⟩,h6⟩;rotate_left
  ·have h1:w.heap.size≤V.heap.size:=h5.lo.2.2;exact Nat.le_trans S.lo.2.2 h1
  have ae:results fn a'.tmps=(fn.results.mapM (ES P a'.tmps) >>= fun vs=>pure (if h:vs.size=1 then vs[0] else .tuple vs)):=by
   unfold results;congr 2
  have hm:(fn.results.mapM (ES P a'.tmps)).run P V=.ok us.toArray V:=by
   rw[Array.mapM_eq_mapM_toList,Sem.run_map,h1];rfl
  rw[ae];simp only[Sem.run_bind,hm,Result.andThen_ok,Sem.run_pure]
 cases e with
 |normal=>exact fin hK
 |ret=>exact fin hK
 |exit i=>exact hK.elim
 |goto l=>exact hK.elim
 |panic ch=>exact hK.elim
 |outgrown=>exact hK.elim
def ac2 (o:Option aI):Prop:=
 match o with
 | some (.tr _ _ rest G)=>match G with
   |some true=>True
   |some false=>rest=[]
   |none=>rest=[]
 |_=>False
def fnY (e:Exit)(s:AS):Prop:=
 match e with
 |.normal=>ac2 (lk s.hp 999)
 |.ret=>ac2 (lk s.hp 999)
 |_=>False
def ais (P:Program)(l:Nat)(G:List PV)(xs:List (List PV))(K:AS→Prop):Prop:=
 match Pz lits (.fn (.yield l) [] []::G) with
 |some J=>K ⟨J,1000000000,[(999,.tr (P,l) 0 xs (some false))]⟩
 |none=>False
theorem PK (hT:dB P T)(jY:∀(c:Ctx) (R:Real) (s:AS) (a:Act) (w:World) (id:Nat) (ops:Array Oper) (K:Exit→AS→Prop) (ro:Option Nat),bN c R s a w→oC c.n ops.toList=true →
  VC P T (.region id ops true) s K→(Code.region id ops true).wpIn (W1 ro) 0 P (fun e V S=>∃R' s',K e s'∧bN c R' s' V S) a w)
  {f:FuncId} {fn:Func} (hf:bM P f fn) {bD:List PV} {xs:List (List PV)} (hl:Nat.ble (bD.length+1) fn.ntmps=true) (ah:fn.results.toList=[])
  (h:∀l,ais P l bD xs fun s=>VC P T (codeOf fn) s fnY):acZ P f bD xs:=by
 refine⟨⟨fn,hf.func,hf.body,hf.name⟩,fun l J D w dG hY hD hJ ai=>?_⟩;have h:=h l;unfold ais at h;split at h
 case h_2=>exact h.elim
 rename_i XV PE;have ad:fn.body=some (codeOf fn):=by
  have:=hf.body;unfold codeOf;cases X:fn.body with
  |none=>rw[X] at this;cases this
  |some c=>rfl
 have hl:=Nat.le_of_ble_eq_true hl;have G:fE D w (.fn (.yield l) [] []::bD) (#[Value.func (.yield l) #[] #[]]++dG).toList:=by
  simp only[fE,bL,Array.toList_append,List.cons_append,List.nil_append];exact⟨_,_,rfl,⟨#[],#[],rfl,rfl,rfl⟩,ai⟩
 generalize am : #[Value.func (.yield l) #[] #[]]++dG=ca at G;rw[jF] at G;have ao:ca.size=bD.length+1:=by have:=G.length;simpa using this
 let c:Ctx:={ F:=fun _=>False,O:=D,w:=w,n:=fn.ntmps,hF:=fun _ h=>h.elim,K:=fun _ _=>False,hK:=fun _ _ h=>h.elim,fix:=fun _=>none,n0:=(w.heap.size,J),lo:=w.heap.size }
 let R:Real:=⟨fun _=>0,fun _=>true,fun _=>(0,[],0),⟨fun _=>False,D,w,(w.heap.size,J)⟩⟩
 let mR:List (Nat×aI):=[(999,.tr (P,l) 0 xs (some false))]
 have Q:∀b r,aQ R b r (lk mR b)→b=999∧D r:=by
  intro b r h;simp only[mR,aG] at h;split at h
  ·rename_i e;exact⟨e.symm,h⟩
  exact h.elim
 have ae:∀r,bA c R mR r→D r:=fun r h=>h.elim (fun h=>h.elim) fun⟨b,h⟩=>(Q b r h).2
 refine callsIn_wide.1 (callsIn_of_wp_marks (n:=0) hf.func ad trivial ?_);have g:bN c R ⟨XV,1000000000,mR⟩ { tmps:=ca++Array.replicate (fn.ntmps-ca.size) undef,defers:=[] } w:=by
  refine⟨?_,?_,⟨rfl,Nat.le_refl _,Nat.le_refl _⟩,⟨[],Marks.nil⟩,uF.none,?_,?_,fun _ _ h=>h,mV.refl _ _,?_,fun _ _ h=>h.elim⟩
  ·intro t v hv;obtain⟨_,p,hp,rfl⟩:=Kg lits 0 _ XV t v D9 PE hv;obtain⟨x,hx,hr⟩:=G.get hp;have ag:ca[t]? = some x:=by simpa using hx
   refine⟨x,?_,?_⟩
   ·have:=size_of_getElem? ag;simp only;rw[Array.getElem?_append_left this];exact ag
   simp only[au];exact dV (fun r _ h=>ae r h) (fun _ _ _=>rfl) _ _ hr
  ·show (ca++Array.replicate (fn.ntmps-ca.size) undef).size=fn.ntmps
   simp;omega
  ·intro b box X;simp only[mR,aG] at X;split at X
   ·rename_i e;subst e;simp only[Option.some.injEq] at X;subst X;exact⟨rfl,hY,hJ,DF.refl _ _ _ _,hD,fun r h=>.inl (ae r h)⟩
   simp[lk] at X
  ·intro b b' r h h';rw[(Q b r h).1,(Q b' r h').1]
  rintro r ⟨b,h⟩
  exact .inl (Q b r h).2
 refine Go.wpIn_mono (gD (ro:=none) hT jY (codeOf fn) ⟨fun _ h=>(by cases h),fun _ _ h=>(by cases h)⟩ g hf.ok h) ?_;rintro e V XW ⟨R',s',hK,XY⟩
 obtain⟨Ds,ak⟩:=XY.marks;obtain⟨S,al,g',aa⟩:=pK (P:=P) (fn:=fn) (Rr:=fun e S=>(∃v,e=.returned v)∧∃rest st Z D' wy,J rest st Z D' wy∧DF w.heap.size Z D' wy S∧(st=true∨rest=[])) (Nat.le_refl _) (fun _ _ h=>(by cases h)) Ds V XW XY ak;have fin:ac2 (lk s'.hp 999)→LeavesInM Fence.wide 0 P fn V.tmps (fun e S=>(∃v,e=.returned v)∧∃rest st Z D' wy,J rest st Z D' wy∧DF w.heap.size Z D' wy S∧(st=true∨rest=[])) V.defers .returning XW:=by
  intro hK;refine aa ?_;have af:(results fn V.tmps).run P S=.ok (.tuple #[]) S:=by
   have h1:results fn V.tmps=(fn.results.mapM (ES P V.tmps) >>= fun vs=>pure (if h:vs.size=1 then vs[0] else .tuple vs)):=by
    unfold results;congr 2
   have h2:(fn.results.mapM (ES P V.tmps)).run P S=.ok #[] S:=by
    rw[Array.mapM_eq_mapM_toList,Sem.run_map,ah];simp
   rw[h1];simp only[Sem.run_bind,h2,Result.andThen_ok,Sem.run_pure];simp
  refine⟨_,af,⟨_,rfl⟩,?_⟩;unfold ac2 at hK;split at hK
  ·rename_i y ver rest st X;obtain⟨_,_,k1,k2,_,_⟩:=g'.boxes 999 _ X;have hn:=g'.lo.1;rw[hn] at k1 k2;refine⟨rest,_,_,_,_,k1,k2,?_⟩;split at hK
   ·exact .inl rfl
   ·exact .inr hK
   exact .inr hK
  exact hK.elim
 cases e with
 |normal=>exact fin hK
 |ret=>exact fin hK
 |exit i=>exact hK.elim
 |goto l=>exact hK.elim
 |panic ch=>exact hK.elim
 |outgrown=>exact hK.elim
end
mutual
def flatK (P:Program):Nat→TypeId→Option (List EK)
 |0,_=>none
 | d+1,t=>match P.underlying t with
   |some .bool=>some [.bool]
   |some (.int k)=>some [.int k]
   |some .string=>some [.str]
   | some (.struct G)=>match P.stoodInHeld t with
     |true=>none
     |false=>yu P d G.toList 0
   |_=>none
def yu (P:Program):Nat→List Field→Nat→Option (List EK)
 |_,[],_=>some []
 |0,_::_,_=>none
 | d+1,f::G,off=>match f.name == "_",Nat.beq f.offset off with
   | false,true=>match flatK P d f.type with
     | some a=>match Nat.beq (P.cellsOf f.type) a.length,Nat.beq a.length 0 with
       | true,false=>match yu P d G (off+a.length) with
         |some b=>some (a++b)
         |none=>none
       |_,_=>none
     |none=>none
   |_,_=>none
end
theorem oP {k:EK}{ks:List EK}{x y:Value}{xs ys:List Value}{b:Bool}:mo (k::ks) (x::xs) (y::ys)=some b↔∃a c,eqV k x y=some a∧mo ks xs ys=some c∧b=(a&&c):=by
 simp only[mo];cases h:eqV k x y with
 |none=>simp
 | some a=>
   simp only[Option.some.injEq];cases ks with
   | nil=>
     cases xs<;>cases ys<;>simp[mo]
     constructor
     ·rintro rfl;rfl
     rintro rfl;rfl
   | cons G ks=>
     simp only;cases J:mo (G::ks) xs ys with
     |none=>simp
     | some c=>
       simp only[Option.some.injEq];constructor
       ·rintro rfl;exact⟨a,c,rfl,rfl,rfl⟩
       rintro⟨_,_,rfl,rfl,rfl⟩;rfl
theorem LY:∀{ks:List EK} {xs ys:List Value} {b:Bool},mo ks xs ys=some b→xs.length=ks.length∧ys.length=ks.length
 |[],[],[],b,_=>⟨rfl,rfl⟩
 |[],[],_::_,b,h=>by simp[mo] at h
 |[],_::_,_,b,h=>by simp[mo] at h
 |k::ks,[],_,b,h=>by simp[mo] at h
 |k::ks,_::_,[],b,h=>by simp[mo] at h
 | k::ks,x::xs,y::ys,b,h=>by
   obtain⟨a,c,_,G,_⟩:=oP.1 h;have:=LY G;simp[this]
theorem LZ {xs ys:List Value}{b:Bool}(h:mo [] xs ys=some b):b=true:=by
 cases xs<;>cases ys<;>simp[mo] at h
 exact h
theorem Cv:∀{G J:List EK} {xs ys:List Value} {b:Bool},mo (G++J) xs ys=some b →
  ∃a c,mo G (xs.take G.length) (ys.take G.length)=some a∧mo J (xs.drop G.length) (ys.drop G.length)=some c∧b=(a&&c)
 |[],J,xs,ys,b,h=>⟨true,b,by simp[mo],by simpa using h,by simp⟩
 |k::G,J,[],ys,b,h=>by simp[mo] at h
 |k::G,J,x::xs,[],b,h=>by simp[mo] at h
 | k::G,J,x::xs,y::ys,b,h=>by
   rw[List.cons_append] at h;obtain⟨a,c,Q,S,rfl⟩:=oP.1 h;obtain⟨K,c',V,X,rfl⟩:=Cv S;refine⟨a&&K,c',?_,by simpa using X,by simp[Bool.and_assoc]⟩;simp only[List.length_cons,List.take_succ_cons];exact oP.2 ⟨a,K,Q,V,rfl⟩
section
variable {P:Program}
def aiv (P:Program)(d:Nat):Prop:=∀(t:TypeId) (ks:List EK) (n:Nat) (w:World),flatK P d t=some ks→d≤n →
 (∀(x y:Value) (b:Bool),(match P.underlying t with|some (.struct _)=>False|_=>True)→mo ks [x] [y]=some b→(Op.equalIn n t x y).run P w=.ok b w) ∧
 (∀(xs ys:Array Value) (b:Bool),(match P.underlying t with|some (.struct _)=>True|_=>False)→mo ks xs.toList ys.toList=some b→(Op.equalIn n t (.agg xs) (.agg ys)).run P w=.ok b w)
theorem aiw:∀(d:Nat),aiv P d:=by
 intro d;induction d using Nat.strongRecOn with
 | _ d ih=>
   intro t ks n w h hn;cases d with
   |zero=>simp[flatK] at h
   | succ d=>
     obtain⟨m,rfl⟩:∃m,n=m+1:=⟨n-1,by omega⟩;simp only[flatK] at h;split at h
     ·rename_i X;simp only[Option.some.injEq] at h;subst h;refine⟨fun x y b _ V=>?_,fun xs ys b hs=>by rw[X] at hs;exact hs.elim⟩;obtain⟨a,c,Q,h2,rfl⟩:=oP.1 V;simp only[mo,Option.some.injEq] at h2;subst h2;cases x<;>cases y<;>simp[eqV] at Q
      subst Q;simpa using run_equalIn_bool w m t _ _ X
     ·rename_i k X;simp only[Option.some.injEq] at h;subst h;refine⟨fun x y b _ V=>?_,fun xs ys b hs=>by rw[X] at hs;exact hs.elim⟩;obtain⟨a,c,Q,h2,rfl⟩:=oP.1 V;simp only[mo,Option.some.injEq] at h2;subst h2;cases x<;>cases y<;>simp only[eqV] at Q<;>try (cases Q;done)
      split at Q
      ·rename_i e1 e2;have e1:=of_decide_eq_true e1;have e2:=of_decide_eq_true e2;subst e1;subst e2;simp only[Option.some.injEq] at Q;subst Q;simpa using run_equalIn_int w m t _ _ _ _ X
      cases Q
     ·rename_i X;simp only[Option.some.injEq] at h;subst h;refine⟨fun x y b _ V=>?_,fun xs ys b hs=>by rw[X] at hs;exact hs.elim⟩;obtain⟨a,c,Q,h2,rfl⟩:=oP.1 V;simp only[mo,Option.some.injEq] at h2;subst h2;cases x<;>cases y<;>simp only[eqV] at Q<;>try (cases Q;done)
      simp only[Option.some.injEq] at Q;subst Q;simpa using run_equalIn_string w m t _ _ X
     ·rename_i fs X;split at h
      ·cases h
      rename_i ap;refine⟨fun x y b hs=>by rw[X] at hs;exact hs.elim,fun xs ys b _ V=>?_⟩;have fq:P.fieldsOf t=fs:=by simp[Program.fieldsOf,X]
      rw[run_equalIn_struct w m t xs ys (by rw[fq];exact X) ap,fq];have key:∀(d':Nat) (fl:List Field) (off:Nat) (ks:List EK) (b:Bool),d'≤d→yu P d' fl off=some ks→mo ks (xs.toList.drop off) (ys.toList.drop off)=some b →
        (Op.eqFields m xs ys fl).run P w=.ok b w:=by
       intro d';induction d' with
       | zero=>
         intro fl off ks b _ h V;cases fl with
         | nil=>
           simp only[yu,Option.some.injEq] at h;subst h;have:=LZ V;subst this;simp[Op.eqFields]
         |cons f fl=>simp[yu] at h
       | succ d' ar=>
         intro fl off ks b aw h V;cases fl with
         | nil=>
           simp only[yu,Option.some.injEq] at h;subst h;have:=LZ V;subst this;simp[Op.eqFields]
         | cons f fl=>
           simp only[yu] at h;split at h
           ·rename_i al J;have J:=Nat.eq_of_beq_eq_true J;split at h
            ·rename_i ka G;split at h
             ·rename_i ai ak;have ai:=Nat.eq_of_beq_eq_true ai;have ak:=Nat.ne_of_beq_eq_false ak;split at h
              ·rename_i kb am;simp only[Option.some.injEq] at h;subst h;obtain⟨a1,a2,q1,q2,rfl⟩:=Cv V;rw[List.drop_drop,List.drop_drop] at q2;have ah:=ar fl (off+ka.length) kb a2 (by omega) am q2;obtain⟨e1,e2⟩:=ih d' (by omega) f.type ka m w G (by omega);have ao:(f.name ≠ "_")=True:=by simp only[ne_eq,eq_iff_iff,iff_true];intro e;rw[e] at al;simp at al
               have af:=LY q1;have lx:off+ka.length≤xs.size:=by have:=af.1;simp at this;omega
               have ly:off+ka.length≤ys.size:=by have:=af.2;simp at this;omega
               obtain⟨ii,aa⟩:∃ii,P.info? f.type=some ii:=by
                cases aa:P.info? f.type with
                |some ii=>exact⟨ii,rfl⟩
                | none=>
                  have aq:P.underlying f.type=none:=by unfold Program.underlying;rw[aa]
                  cases d'<;>simp[flatK,aq] at G
               have ad:ii.size=ka.length:=by rw[←ai];simp[Program.cellsOf,aa]
               have ae:∃x y,(Go.part f.type xs f.offset).run P w=.ok x w∧(Go.part f.type ys f.offset).run P w=.ok y w∧(Op.equalIn m f.type x y).run P w=.ok a1 w:=by
                cases K:P.underlying f.type with
                |none=>cases d'<;>simp[flatK,K] at G
                | some dd=>
                  have S:(match dd with|.struct _=>False|.array _ _=>False|_=>True)→ka.length=1→∃x y,(Go.part f.type xs f.offset).run P w=.ok x w∧(Go.part f.type ys f.offset).run P w=.ok y w ∧
                    (Op.equalIn m f.type x y).run P w=.ok a1 w:=by
                   intro ag Q;have g1:xs[off]? = some xs[off]:=Array.getElem?_eq_getElem (by omega);have g2:ys[off]? = some ys[off]:=Array.getElem?_eq_getElem (by omega);refine⟨xs[off],ys[off],?_,?_,e1 _ _ a1 (by rw[K];cases dd<;>first|trivial|exact ag) ?_⟩
                   ·rw[J];cases dd<;>first|exact ag.elim|simp[Go.part,isAgg,run_underlying K,g1]
                   ·rw[J];cases dd<;>first|exact ag.elim|simp[Go.part,isAgg,run_underlying K,g2]
                   rw[Q] at q1;have t1:(xs.toList.drop off).take 1=[xs[off]]:=by
                    rw[List.drop_eq_getElem_cons (by simpa using (by omega:off<xs.size))];simp
                   have t2:(ys.toList.drop off).take 1=[ys[off]]:=by
                    rw[List.drop_eq_getElem_cons (by simpa using (by omega:off<ys.size))];simp
                   rw[t1,t2] at q1;exact q1
                  cases d' with
                  |zero=>simp[flatK] at G
                  | succ d'=>
                    simp only[flatK,K] at G;cases dd<;>simp only at G<;>try (cases G;done)
                    ·simp only[Option.some.injEq] at G;exact S trivial (by rw[←G];rfl)
                    ·simp only[Option.some.injEq] at G;exact S trivial (by rw[←G];rfl)
                    ·simp only[Option.some.injEq] at G;exact S trivial (by rw[←G];rfl)
                    refine⟨.agg (xs.extract off (off+ii.size)),.agg (ys.extract off (off+ii.size)),?_,?_,e2 _ _ a1 (by rw[K];trivial) ?_⟩
                    ·rw[J];simp[Go.part,isAgg,run_underlying K,sizeOf,typeInfo,aa]
                    ·rw[J];simp[Go.part,isAgg,run_underlying K,sizeOf,typeInfo,aa]
                    have f1:(xs.extract off (off+ii.size)).toList=(xs.toList.drop off).take ka.length:=by simp[Array.toList_extract,List.extract,ad]
                    have f2:(ys.extract off (off+ii.size)).toList=(ys.toList.drop off).take ka.length:=by simp[Array.toList_extract,List.extract,ad]
                    rw[f1,f2];exact q1
               obtain⟨x,y,p1,p2,p3⟩:=ae;simp only[Op.eqFields,ao,if_true,Sem.run_bind,p1,p2,p3,Result.andThen_ok];cases a1 with
               |false=>simp
               |true=>simpa using ah
              cases h
             cases h
            cases h
           cases h
      exact key d fs.toList 0 ks b (Nat.le_refl _) h (by simpa using V)
     cases h
theorem Kh {t:TypeId}{ks:List EK}(h:flatK P 20 t=some ks)(hs:(match P.underlying t with|some (.struct _)=>true|_=>false)=true):af3 P t ks:=by
 intro w xs ys b J;refine (aiw 20 t ks 10000 w h (by omega)).2 xs ys b ?_ J;cases G:P.underlying t with
 |none=>rw[G] at hs;cases hs
 |some d=>rw[G] at hs;cases d<;>first|trivial|cases hs
end
end Go.AX
namespace Go.AX
theorem X4 {α:Type}:∀{l:List (Nat×α)} {t:Nat} {v:α},lk l t=some v→(t,v)∈l
 |[],t,v,h=>by simp[lk] at h
 | (k,u)::r,t,v,h=>by
   rw[aG] at h;split at h
   ·rename_i e;simp only[Option.some.injEq] at h;subst e;subst h;exact List.mem_cons_self
   exact List.mem_cons_of_mem _ (X4 h)
theorem acz {P:Program}{T:Tab}(h:∀x∈T,og P x.1 x.2):dB P T:=fun t i G=>h (t,i) (X4 G)
def kD {α:Type}(m:(α→Prop)→Prop):Prop:=∀K,m K→∃x,K x∧∀G,G x→m G
theorem bG {α:Type}(x:α):kD fun K=>K x:=fun K h=>⟨x,h,fun _ h=>h⟩
theorem oQ {α:Type}:kD fun (_:α→Prop)=>False:=fun _ h=>h.elim
theorem aT {α:Type}{p:Prop}{m:(α→Prop)→Prop}(h:p→kD m):kD fun K=>p∧m K:=fun K ⟨G,hm⟩=>
 let ⟨x,h1,h2⟩:=h G K hm;⟨x,h1,fun J Q=>⟨G,h2 J Q⟩⟩
theorem ng {α β:Type}{m:β→(α→Prop)→Prop}(h:∀b,kD (m b)):kD fun K=>∃b,m b K:=fun K ⟨b,hm⟩=>
 let ⟨x,h1,h2⟩:=h b K hm;⟨x,h1,fun G J=>⟨b,h2 G J⟩⟩
theorem Ki {α β:Type}{m:(α→Prop)→Prop}(f:α→β)(h:kD m):kD fun K=>m fun x=>K (f x):=fun K J=>
 let ⟨x,h1,h2⟩:=h _ J;⟨f x,h1,fun Q G=>h2 _ G⟩
theorem ac3 {α:Type}{m:(α→Prop)→Prop}{o G:Option Int}{n:Nat}(h:kD m):kD fun K=>inF o G n (m K):=by
 intro K J;cases o with
 | none=>
   obtain⟨x,S,V⟩:=h K (by simpa only[inF] using J);exact⟨x,S,fun Q G=>by simpa only[inF] using V Q G⟩
 | some i=>
   obtain⟨a,b,J⟩:=(by simpa only[inF] using J:G=some i∧0<n∧m K);obtain⟨x,S,V⟩:=h K J;exact⟨x,S,fun Q G=>by simpa only[inF] using ⟨a,b,V Q G⟩⟩
theorem pM {α:Type}{m:(α→Prop)→Prop}{X:Int}{o:Option Int}{hi:Int}(h:kD m):kD fun K=>O4 X o hi (m K):=by
 intro K G;cases o with
 | none=>
   obtain⟨x,S,V⟩:=h K (by simpa only[O4] using G);exact⟨x,S,fun J Q=>by simpa only[O4] using V J Q⟩
 | some i=>
   obtain⟨a,b,G⟩:=(by simpa only[O4] using G:X≤i∧i≤hi∧m K);obtain⟨x,S,V⟩:=h K G;exact⟨x,S,fun J Q=>by simpa only[O4] using ⟨a,b,V J Q⟩⟩
theorem X5 (op:BinOp)(k:IntKind)(a b:Int):kD (UF op k a b):=by
 unfold UF;cases op<;>first|exact bG _|exact oQ|exact aT fun _=>bG _
theorem X6 (op:BinOp)(a b:ByteArray):kD (X7 op a b):=by
 unfold X7;cases op<;>first|exact bG _|exact oQ|exact aT fun _=>bG _
theorem SL (op:BinOp)(b:Bool):kD (SB op b):=by
 unfold SB;cases op<;>first|exact bG _|exact oQ
theorem dz {α:Type}{m:(α→Prop)→Prop}{K:α→Prop}{x:α}(h:K x)(J:∀G,G x→m G):∃x,K x∧∀G,G x→m G:=⟨x,h,J⟩
theorem aP {α:Type}{m J:(α→Prop)→Prop}{K:α→Prop}(S:kD m)(h:m K)(V:∀G,m G→J G):∃x,K x∧∀G,G x→J G:=
 let ⟨x,h1,h2⟩:=S K h;⟨x,h1,fun G Q=>V G (h2 G Q)⟩
theorem X8 (i:TI)(op:BinOp)(x y:AV):kD (PL i op x y):=by
 intro K h;unfold PL at h;repeat' split at h
 all_goals first
  |exact h.elim
  |exact dz h fun J G=>by unfold PL;simp only[*]<;>first|exact G|simp
  |exact aP (SL _ _) h fun J G=>by unfold PL;simp only[*]<;>first|exact G|simp
theorem PN (op:BinOp)(k:IntKind)(a b:Int):kD (Bg op k a b):=by
 intro K h;unfold Bg at h;split at h
 ·exact⟨_,h.2,fun J G=>by unfold Bg;exact⟨h.1,G⟩⟩
 ·exact⟨_,h.2,fun J G=>by unfold Bg;exact⟨h.1,G⟩⟩
 exact h.elim
theorem X9 (T:Tab)(op:BinOp)(t:TypeId)(x y:AV):kD (Hf T op t x y):=by
 intro K h;unfold Hf at h;repeat' split at h
 all_goals first
  |exact h.elim
  |exact dz h fun J G=>by unfold Hf;simp only[*]<;>first|exact G|simp
  |exact aP (PN _ _ _ _) h fun J G=>by unfold Hf;simp only[*]<;>first|exact G|simp
  |exact aP (X5 _ _ _ _) h fun J G=>by unfold Hf;simp only[*]<;>first|exact G|simp
  |exact aP (X6 _ _ _) h fun J G=>by unfold Hf;simp only[*]<;>first|exact G|simp
  |exact aP (X8 _ _ _ _) h fun J G=>by unfold Hf;simp only[*]<;>first|exact G|simp
theorem UG (T:Tab)(H:List (Nat×aI))(op:BinOp)(t:TypeId)(x y:AV):kD (EM T H op t x y):=by
 intro K h;unfold EM at h;repeat' split at h
 all_goals first
  |exact h.elim
  |exact aP (SL _ _) h fun J G=>by unfold EM;simp only[*]<;>first|exact G|simp
  |exact aP (X9 _ _ _ _ _) h fun J G=>by unfold EM;simp only[*]<;>first|exact G|simp
theorem EU (i:TI)(cs:List AV):kD (vz i cs):=by
 intro K h;unfold vz at h;repeat' split at h
 all_goals first
  |exact h.elim
  |exact dz h fun J G=>by unfold vz;simp only[*]<;>first|exact G|simp
theorem EW (i:TI)(cs:List PV):kD (zJ i cs):=by
 intro K h;unfold zJ at h;repeat' split at h
 all_goals first
  |exact h.elim
  |exact dz h fun J G=>by unfold zJ;simp only[*]<;>first|exact G|simp
theorem Ya (off:Nat)(i:TI)(row:List PV):kD fun K=>match part off i.size row with
  |some cs=>zJ i cs K
  |none=>False:=by
 cases h:part off i.size row with
 |some cs=>exact EW i cs
 |none=>exact oQ
theorem ac4 (off:Nat)(row cs:List PV)(F:List PV→AV×List (Nat×aI)):kD fun K=>match oh off row cs with
  |some G=>K (F G)
  |none=>False:=by
 cases h:oh off row cs with
 |some cs=>exact bG _
 |none=>exact oQ
theorem UH (T:Tab)(H:List (Nat×aI))(t:TypeId)(x:AV):kD (vk T H t x):=by
 intro K h;unfold vk at h;repeat' split at h
 all_goals first
  |exact h.elim
  |exact dz h fun J G=>by unfold vk;simp only[*]<;>first|exact G|simp
  |exact aP (EU _ _) h fun J G=>by unfold vk;simp only[*]<;>first|exact G|simp
  |exact aP (ng fun _=>aT fun _=>Ya _ _ _) h fun J G=>by unfold vk;simp only[*]<;>first|exact G|simp
  |exact aP (EW _ _) h fun J G=>by unfold vk;simp only[*]<;>first|exact G|simp
theorem EX (T:Tab)(H:List (Nat×aI))(t:TypeId)(x:AV)(f:Nat):kD (mX T H t x f):=by
 intro K h;unfold mX at h;repeat' split at h
 all_goals first
  |exact h.elim
  |exact dz h fun J G=>by unfold mX;simp only[*]<;>first|exact G|simp
theorem Yb (T:Tab)(t:TypeId)(x:AV)(f:Nat):kD (LH T t x f):=by
 intro K h;unfold LH at h;repeat' split at h
 all_goals first
  |exact h.elim
  |exact dz h fun J G=>by unfold LH;simp only[*]<;>first|exact G|simp
  |exact aP (EU _ _) h fun J G=>by unfold LH;simp only[*]<;>first|exact G|simp
  |exact aP (EW _ _) h fun J G=>by unfold LH;simp only[*]<;>first|exact G|simp
theorem EY (T:Tab)(H:List (Nat×aI))(t:TypeId)(x Q:AV):kD (fP T H t x Q):=by
 intro K h;unfold fP at h;repeat' split at h
 all_goals first
  |exact h.elim
  |exact dz h fun J G=>by unfold fP;simp only[*]<;>first|exact G|simp
  |exact aP (aT fun _=>bG _) h fun J G=>by unfold fP;simp only[*]<;>first|exact G|simp
  |exact aP (aT fun _=>aT fun _=>bG _) h fun J G=>by unfold fP;simp only[*]<;>first|exact G|simp
  |exact aP (ng fun _=>aT fun _=>bG _) h fun J G=>by unfold fP;simp only[*]<;>first|exact G|simp
  |exact aP (aT fun _=>ng fun _=>aT fun _=>bG _) h fun J G=>by unfold fP;simp only[*]<;>first|exact G|simp
  |exact aP (aT fun _=>aT fun _=>aT fun _=>aT fun _=>bG _) h fun J G=>by unfold fP;simp only[*]<;>first|exact G|simp
theorem PO (T:Tab)(t:TypeId)(x Q:AV):kD (pI T t x Q):=by
 intro K h;unfold pI at h;repeat' split at h
 all_goals first
  |exact h.elim
  |exact dz h fun J G=>by unfold pI;simp only[*]<;>first|exact G|simp
  |exact aP (aT fun _=>bG _) h fun J G=>by unfold pI;simp only[*]<;>first|exact G|simp
  |exact aP (aT fun _=>aT fun _=>bG _) h fun J G=>by unfold pI;simp only[*]<;>first|exact G|simp
  |exact aP (ng fun _=>aT fun _=>bG _) h fun J G=>by unfold pI;simp only[*]<;>first|exact G|simp
  |exact aP (aT fun _=>ng fun _=>aT fun _=>bG _) h fun J G=>by unfold pI;simp only[*]<;>first|exact G|simp
  |exact aP (aT fun _=>aT fun _=>aT fun _=>aT fun _=>bG _) h fun J G=>by unfold pI;simp only[*]<;>first|exact G|simp
theorem Kj (x:AV)(i:Nat):kD (rF x i):=by
 intro K h;unfold rF at h;repeat' split at h
 all_goals first
  |exact h.elim
  |exact dz h fun J G=>by unfold rF;simp only[*]<;>first|exact G|simp
theorem ac5 (op:UnOp)(x:AV):kD (cUn op x):=by
 intro K h;unfold cUn at h;repeat' split at h
 all_goals first
  |exact h.elim
  |exact dz h fun J G=>by unfold cUn;simp only[*]<;>first|exact G|simp
theorem UI (T:Tab)(H:List (Nat×aI))(src Q:TypeId)(x:AV):kD (uZ T H src Q x):=by
 intro K h;unfold uZ at h;repeat' split at h
 all_goals first
  |exact h.elim
  |exact dz h fun J G=>by unfold uZ;simp only[*]<;>first|exact G|simp
  |exact aP (aT fun _=>bG _) h fun J G=>by unfold uZ;simp only[*]<;>first|exact G|simp
  |exact aP (aT fun _=>aT fun _=>bG _) h fun J G=>by unfold uZ;simp only[*]<;>first|exact G|simp
  |exact aP (ng fun _=>aT fun _=>bG _) h fun J G=>by unfold uZ;simp only[*]<;>first|exact G|simp
  |exact aP (aT fun _=>ng fun _=>aT fun _=>bG _) h fun J G=>by unfold uZ;simp only[*]<;>first|exact G|simp
  |exact aP (aT fun _=>aT fun _=>aT fun _=>aT fun _=>bG _) h fun J G=>by unfold uZ;simp only[*]<;>first|exact G|simp
theorem Yc (T:Tab)(H:List (Nat×aI))(t:TypeId)(x:AV):kD (Kk T H t x):=by
 intro K h;unfold Kk at h;repeat' split at h
 all_goals first
  |exact h.elim
  |exact dz h fun J G=>by unfold Kk;simp only[*]<;>first|exact G|simp
theorem PS (T:Tab)(t:TypeId)(S hi V:Option Operand)(vs:List AV):kD (pG T t S hi V vs):=by
 intro K h;unfold pG at h;repeat' split at h
 all_goals first
  |exact h.elim
  |exact dz h fun J G=>by unfold pG;simp only[*]<;>first|exact G|simp
  |exact aP (pM (pM (bG _))) h fun J G=>by unfold pG;simp only[*]<;>first|exact G|simp
  |exact aP (pM (pM (pM (bG _)))) h fun J G=>by unfold pG;simp only[*]<;>first|exact G|simp
  |exact aP (ac3 (pM (pM (pM (bG _))))) h fun J G=>by unfold pG;simp only[*]<;>first|exact G|simp
  |exact aP (aT fun _=>pM (pM (pM (bG _)))) h fun J G=>by have Q:=G.1;have X:=G.2;clear G h;subst Q;unfold pG;simp only[*,true_and]
theorem PU (T:Tab)(H:List (Nat×aI))(t:TypeId)(x y:AV):kD (fun (K:AV×List (Nat×aI)→Prop)=>qZ T H t x y fun v ws=>K (v,ws)):=by
 intro K h;unfold qZ at h;repeat' split at h
 all_goals first
  |exact h.elim
  |exact dz h fun Q G=>by unfold qZ;simp only[*]<;>first|exact G|simp
  |exact aP (ng fun _=>aT fun _=>ac4 _ _ _ fun J=>(.pv (.sc undef),[(_,.arr _ _ _ (List.set _ _ J))])) h fun Q G=>by unfold qZ;simp only[*]<;>first|exact G|simp
theorem Yd (T:Tab)(H:List (Nat×aI))(t:TypeId)(vs:List AV)(id:Nat):kD (fun (K:AV×List (Nat×aI)→Prop)=>uM T H t vs id fun v ws=>K (v,ws)):=by
 intro K h;unfold uM at h;simp only[fF] at h;repeat' split at h
 all_goals first
  |exact h.elim
  |exact dz h fun J G=>by unfold uM;simp only[fF, *]<;>first|exact G|simp
  |exact aP (aT fun _=>bG _) h fun J G=>by unfold uM;simp only[fF, *]<;>first|exact G|simp
  |exact aP (aT fun _=>aT fun _=>bG _) h fun J G=>by unfold uM;simp only[fF, *]<;>first|exact G|simp
  |exact aP (ng fun _=>aT fun _=>bG _) h fun J G=>by unfold uM;simp only[fF, *]<;>first|exact G|simp
  |exact aP (aT fun _=>ng fun _=>aT fun _=>bG _) h fun J G=>by unfold uM;simp only[fF, *]<;>first|exact G|simp
  |exact aP (aT fun _=>aT fun _=>aT fun _=>aT fun _=>bG _) h fun J G=>by unfold uM;simp only[fF, *]<;>first|exact G|simp
theorem UJ (H:List (Nat×aI))(f:Fn)(J:Nat)(vs:List AV):kD (fun (K:AV×List (Nat×aI)→Prop)=>Ic H f J vs fun v ws=>K (v,ws)):=by
 intro K h;unfold Ic at h;repeat' split at h
 all_goals first
  |exact h.elim
  |exact dz h fun Q G=>by unfold Ic;simp only[*]<;>first|exact G|simp
theorem PW (T:Tab)(t:TypeId)(ks:List Nat)(vs:List AV):kD (Ba T t ks vs):=by
 intro K h;unfold Ba at h;repeat' split at h
 all_goals first
  |exact h.elim
  |exact dz h fun J G=>by unfold Ba;simp only[*]<;>first|exact G|simp
theorem zK (T:Tab)(H:List (Nat×aI))(t:TypeId)(len:Nat)(ks:List Nat)(vs:List AV)(id:Nat):kD (fun (K:AV×List (Nat×aI)→Prop)=>mF T H t len ks vs id fun v ws=>K (v,ws)):=by
 intro K h;unfold mF at h;simp only[fF] at h;repeat' split at h
 all_goals first
  |exact h.elim
  |exact dz h fun J G=>by unfold mF;simp only[fF, *]<;>first|exact G|simp
theorem UK (T:Tab)(t:TypeId)(vs:List AV)(id:Nat):kD (fun (K:AV×List (Nat×aI)→Prop)=>uY T t vs id fun v ws=>K (v,ws)):=by
 intro K h;unfold uY at h;simp only[fF] at h;repeat' split at h
 all_goals first
  |exact h.elim
  |exact dz h fun J G=>by unfold uY;simp only[fF, *]<;>first|exact G|simp
  |exact aP (aT fun _=>bG _) h fun J G=>by unfold uY;simp only[fF, *]<;>first|exact G|simp
  |exact aP (aT fun _=>aT fun _=>bG _) h fun J G=>by unfold uY;simp only[fF, *]<;>first|exact G|simp
  |exact aP (ng fun _=>aT fun _=>bG _) h fun J G=>by unfold uY;simp only[fF, *]<;>first|exact G|simp
  |exact aP (aT fun _=>ng fun _=>aT fun _=>bG _) h fun J G=>by unfold uY;simp only[fF, *]<;>first|exact G|simp
  |exact aP (aT fun _=>aT fun _=>aT fun _=>aT fun _=>bG _) h fun J G=>by unfold uY;simp only[fF, *]<;>first|exact G|simp
theorem PX (T:Tab)(t:TypeId)(id:Nat):kD (fun (K:AV×List (Nat×aI)→Prop)=>Bb T t id fun v ws=>K (v,ws)):=by
 intro K h;unfold Bb at h;repeat' split at h
 all_goals first
  |exact h.elim
  |exact dz h fun J G=>by unfold Bb;simp only[*]<;>first|exact G|simp
theorem Ye (T:Tab)(t:TypeId)(x:AV)(id:Nat):kD (fun (K:AV×List (Nat×aI)→Prop)=>Ux T t x id fun v ws=>K (v,ws)):=by
 intro K h;unfold Ux at h;repeat' split at h
 all_goals first
  |exact h.elim
  |exact dz h fun J G=>by unfold Ux;simp only[*]<;>first|exact G|simp
theorem PY (T:Tab)(H:List (Nat×aI))(src G:TypeId)(x:AV):kD (fun (K:AV×List (Nat×aI)→Prop)=>qY T H src G x fun v ws=>K (v,ws)):=by
 intro K h;unfold qY at h;repeat' split at h
 all_goals first
  |exact h.elim
  |exact dz h fun Q J=>by unfold qY;simp only[*]<;>first|exact J|simp
  |exact aP (aT fun _=>bG _) h fun Q J=>by unfold qY;simp only[*]<;>first|exact J|simp
  |exact aP (Ki (fun v=>(v,[])) (UI T H src G x)) h fun Q J=>by unfold qY;simp only[*]<;>first|exact J|simp
theorem L6 (T:Tab)(H:List (Nat×aI))(t:TypeId)(J hi Q:Option Operand)(vs:List AV):kD (fun (K:AV×List (Nat×aI)→Prop)=>nL T H t J hi Q vs fun v ws=>K (v,ws)):=by
 intro K h;unfold nL at h;repeat' split at h
 all_goals first
  |exact h.elim
  |exact dz h fun S G=>by unfold nL;simp only[*]<;>first|exact G|simp
  |exact aP (Ki (fun v=>(v,_)) (PS T t J hi Q _)) h fun S G=>by unfold nL;simp only[*]<;>first|exact G|simp
theorem Yf (V S:Bool)(rows:List (List PV))(b ver:Nat)(e:TypeId)(st:Nat)(l h:Option Int):kD (fun (K:AV×List (Nat×aI)→Prop)=>PZ V S rows b ver e st l h fun v ws=>K (v,ws)):=by
 intro K G;unfold PZ at G;repeat' split at G
 all_goals first
  |exact G.elim
  |exact dz G fun Q J=>by unfold PZ;exact J
  |exact aP (aT fun _=>aT fun _=>bG _) G fun Q J=>by unfold PZ;exact J
  |exact aP (aT fun _=>aT fun _=>aT fun _=>aT fun _=>bG _) G fun Q J=>by unfold PZ;exact J
theorem L8 (T:Tab)(H:List (Nat×aI))(t:TypeId)(J hi Q:Option Operand)(vs:List AV):kD (fun (K:AV×List (Nat×aI)→Prop)=>oK T H t J hi Q vs fun v ws=>K (v,ws)):=by
 intro K h;unfold oK at h;repeat' split at h
 all_goals first
  |exact h.elim
  |exact aP (L6 T H t J hi Q _) h fun S G=>by unfold oK;simp only[*]<;>first|exact G|simp
  |exact aP (Yf _ _ _ _ _ _ _ _ _) h fun S G=>by unfold oK;simp only[*]<;>first|exact G|simp
theorem P5 (T:Tab)(H:List (Nat×aI))(t:TypeId)(x:AV):kD (fun (K:AV×List (Nat×aI)→Prop)=>Bd T H t x fun v ws=>K (v,ws)):=by
 intro K h;unfold Bd at h;repeat' split at h
 all_goals first
  |exact h.elim
  |exact dz h fun J G=>by unfold Bd;simp only[*]<;>first|exact G|simp
theorem UL (T:Tab)(H:List (Nat×aI))(t:TypeId)(vs:List AV)(id:Nat):kD (fun (K:AV×List (Nat×aI)→Prop)=>uG T H t vs id fun v ws=>K (v,ws)):=by
 intro K h;unfold uG at h;repeat' split at h
 all_goals first
  |exact h.elim
  |exact aP (Yd T H t _ id) h fun J G=>by unfold uG;simp only[*]<;>first|exact G|simp
  |exact aP (aT fun _=>bG _) h fun J G=>by unfold uG;simp only[*]<;>first|exact G|simp
theorem UM (T:Tab)(H:List (Nat×aI))(t:TypeId)(Q hi S:Option Operand)(b ver st J:Nat)(r:List AV):kD (fun (K:AV×List (Nat×aI)→Prop)=>Il T H t Q hi S b ver st J r fun v ws=>K (v,ws)):=by
 intro K h;unfold Il at h;repeat' split at h
 all_goals first
  |exact h.elim
  |exact aP (aT fun _=>aT fun _=>aT fun _=>aT fun _=>bG _) h fun V G=>by unfold Il;simp only[*]<;>first|exact G|simp
theorem UN (T:Tab)(H:List (Nat×aI))(t:TypeId)(J hi Q:Option Operand)(b ver:Nat)(r:List AV):kD (fun (K:AV×List (Nat×aI)→Prop)=>Im T H t J hi Q b ver r fun v ws=>K (v,ws)):=by
 intro K h;unfold Im at h;repeat' split at h
 all_goals first
  |exact h.elim
  |exact aP (aT fun _=>aT fun _=>aT fun _=>aT fun _=>aT fun _=>aT fun _=>bG _) h fun S G=>by unfold Im;simp only[*]<;>first|exact G|simp
theorem L9 (T:Tab)(H:List (Nat×aI))(t:TypeId)(Q hi S:Option Operand)(vs:List AV):kD (fun (K:AV×List (Nat×aI)→Prop)=>qC T H t Q hi S vs fun v ws=>K (v,ws)):=by
 intro K h;unfold qC at h;repeat' split at h
 all_goals first
  |exact h.elim
  |exact aP (L8 T H t Q hi S _) h fun J G=>by unfold qC;simp only[*]<;>first|exact G|simp
  |exact aP (UM _ _ _ _ _ _ _ _ _ _ _) h fun J G=>by unfold qC;simp only[*]<;>first|exact G|simp
  |exact aP (UN _ _ _ _ _ _ _ _ _) h fun J G=>by unfold qC;simp only[*]<;>first|exact G|simp
theorem ac6 (J:Bool)(vs:List AV):kD (cMM J vs):=by
 intro K h;unfold cMM at h;repeat' split at h
 all_goals first
  |exact h.elim
  |exact dz h fun Q G=>by unfold cMM;simp only[*]<;>first|exact G|simp
theorem Yg (r:PV)(H:List (Nat×aI))(G:List Nat):kD fun (K:AV×List (Nat×aI)→Prop)=>match DK r with
  |true=>K (.pv r,[])
  | false=>match JZ H G with
    |some J=>K (.pv r,J)
    |none=>False:=by
 cases h:DK r with
 |true=>exact bG _
 | false=>cases Q:JZ H G with
   |some J=>exact bG _
   |none=>exact oQ
theorem UO (P:Program)(H:List (Nat×aI))(vs:List AV):kD fun (K:AV×List (Nat×aI)→Prop)=>Ih P H vs fun v ws=>K (v,ws):=by
 intro K h;unfold Ih at h;split at h
 ·split at h
  ·exact aP (ng fun r=>aT fun _=>Yg r _ _) h fun J G=>by unfold Ih;simp only[*]<;>first|exact G|simp
  exact h.elim
 exact h.elim
theorem vC {m:(AV→Prop)→Prop}(h:kD m):kD fun (K:AV×List (Nat×aI)→Prop)=>m fun v=>K (v,[]):=Ki (fun v=>(v,[])) h
theorem Yh (H:List (Nat×aI))(op:UnOp)(x:AV):kD (Uz H op x):=by
 cases x with
 | eY b ver i off=>
   intro K h;unfold Uz at h;simp only at h;repeat' split at h
   all_goals first
    |exact h.elim
    |exact dz h fun J G=>by unfold Uz;simp only[*]<;>first|exact G|simp
 |_=>exact ac5 op _
theorem P6 (T:Tab)(H:List (Nat×aI))(t:TypeId)(x:AV):kD (xY T H t x):=by
 intro K h;unfold xY at h;repeat' split at h
 all_goals first
  |exact h.elim
  |exact aP (aT fun _=>EU _ _) h fun J G=>by unfold xY;simp only[*]<;>first|exact G|simp
  |exact aP (UH T H t _) h fun J G=>by unfold xY;first|exact G|(simp only[*]<;>first|exact G|simp)|(split<;>first|exact G|simp_all)
theorem Ma (T:Tab)(H:List (Nat×aI))(t:TypeId)(x y:AV):kD (fun (K:AV×List (Nat×aI)→Prop)=>sW T H t x y fun v ws=>K (v,ws)):=by
 intro K h;unfold sW at h;repeat' split at h
 all_goals first
  |exact h.elim
  |exact aP (aT fun _=>bG (_,_)) h fun J G=>by unfold sW;simp only[*]<;>first|exact G|simp
  |exact aP (PU T H t _ y) h fun J G=>by unfold sW;first|exact G|(simp only[*]<;>first|exact G|simp)|(split<;>first|exact G|simp_all)
theorem Yi (T:Tab)(H:List (Nat×aI))(t:TypeId)(x J:AV):kD (P7 T H t x J):=by
 intro K h;unfold P7 at h;repeat' split at h
 all_goals first
  |exact h.elim
  |exact aP (aT fun _=>aT fun _=>bG _) h fun Q G=>by unfold P7;simp only[*]<;>first|exact G|simp
  |exact aP (EY T H t _ J) h fun Q G=>by unfold P7;first|exact G|(simp only[*]<;>first|exact G|simp)|(split<;>first|exact G|simp_all)
theorem UQ (T:Tab)(H:List (Nat×aI))(t:TypeId)(x:AV):kD (EN T H t x):=by
 intro K h;unfold EN at h;repeat' split at h
 all_goals first
  |exact h.elim
  |exact aP (Yc T H t _) h fun J G=>by unfold EN;first|exact G|(simp only[*]<;>first|exact G|simp)|(split<;>first|exact G|simp_all)
  |exact dz h fun J G=>by unfold EN;simp only[*]<;>first|exact G|simp
theorem Mc (T:Tab)(t:TypeId)(len:Nat)(ks:List Nat)(cs:List AV)(id:Nat):kD (fun (K:AV×List (Nat×aI)→Prop)=>wN T t len ks cs id fun v ws=>K (v,ws)):=by
 intro K h;unfold wN at h;simp only[fF] at h;repeat' split at h
 all_goals first
  |exact h.elim
  |exact dz h fun J G=>by unfold wN;simp only[fF];simp only[*]<;>first|exact G|simp
theorem Md (T:Tab)(H:List (Nat×aI))(t:TypeId)(len:Nat)(ks:List Nat)(vs:List AV)(id:Nat):kD (fun (K:AV×List (Nat×aI)→Prop)=>qB T H t len ks vs id fun v ws=>K (v,ws)):=by
 intro K h;unfold qB at h;split at h
 ·rename_i J;split at h
  ·exact aP (Mc T t len ks _ id) h fun Q G=>by unfold qB;simp only[J];exact G
  rename_i vs S;refine aP (zK T H t len ks _ id) h fun Q G=>?_
  unfold qB;simp only[J];exact G
 rename_i J;exact aP (zK T H t len ks _ id) h fun Q G=>by unfold qB;simp only[J];exact G
theorem UR (T:Tab)(H:List (Nat×aI))(t:TypeId)(d:AV)(k J id:Nat):kD (fun (K:AV×List (Nat×aI)→Prop)=>Io T H t d k J id fun v ws=>K (v,ws)):=by
 intro K h;unfold Io at h;simp only[fF] at h;repeat' split at h
 all_goals first
  |exact h.elim
  |exact aP (aT fun _=>bG (_,_)) h fun Q G=>by unfold Io;simp only[fF];simp only[*]<;>first|exact G|simp
theorem EZ (T:Tab)(t:TypeId)(ver:Nat)(o:Option aI)(src:Nat→Option (List (List PV)))(b:Nat):kD (fun (K:AV×List (Nat×aI)→Prop)=>yw T t ver o src b fun v ws=>K (v,ws)):=by
 intro K h;unfold yw at h;simp only[fF] at h;repeat' split at h
 all_goals first
  |exact h.elim
  |exact aP (aT fun _=>bG (_,_)) h fun J G=>by unfold yw;simp only[fF];simp only[*]<;>first|exact G|simp
theorem UU (T:Tab)(H:List (Nat×aI))(t:TypeId)(b ver:Nat)(x:AV):kD (fun (K:AV×List (Nat×aI)→Prop)=>Cw T H t b ver x fun v ws=>K (v,ws)):=by
 intro K h;unfold Cw at h;split at h
 ·exact aP (EZ T t ver _ _ b) h fun J G=>by unfold Cw;exact G
 ·split at h
  ·exact h.elim
  rename_i Q;exact aP (EZ T t ver _ _ b) h fun J G=>by unfold Cw;simp only[Q];exact G
 exact h.elim
theorem UW (T:Tab)(H:List (Nat×aI))(t:TypeId)(vs:List AV)(id:Nat):kD (fun (K:AV×List (Nat×aI)→Prop)=>zC T H t vs id fun v ws=>K (v,ws)):=by
 intro K h;unfold zC at h;repeat' split at h
 all_goals first
  |exact h.elim
  |exact aP (UR T H t _ _ _ id) h fun J G=>by unfold zC;simp only[*]<;>first|exact G|simp
  |exact aP (UU T H t _ _ _) h fun J G=>by unfold zC;first|(simp only[*];done)|(simp only[*]<;>first|exact G|simp)|(split<;>first|exact G|simp_all)
  |exact aP (UL T H t _ id) h fun J G=>by unfold zC;first|exact G|(simp only[*]<;>first|exact G|simp)|(repeat' split)<;>first|exact G|simp_all
theorem P8 (T:Tab)(H:List (Nat×aI))(src G:TypeId)(x:AV):kD (fun (K:AV×List (Nat×aI)→Prop)=>xZ T H src G x fun v ws=>K (v,ws)):=by
 intro K h;unfold xZ at h;repeat' split at h
 all_goals first
  |exact h.elim
  |exact dz h fun Q J=>by unfold xZ;simp only[*]<;>first|exact J|simp
  |exact aP (PY T H src G _) h fun Q J=>by unfold xZ;first|exact J|(simp only[*]<;>first|exact J|simp)|(split<;>first|exact J|simp_all)
theorem Yj (T:Tab)(H:List (Nat×aI))(t:TypeId)(x J:AV):kD (Pm T H t x J):=by
 intro K h;unfold Pm at h;repeat' split at h
 all_goals first
  |exact h.elim
  |exact aP (aT fun _=>aT fun _=>bG _) h fun Q G=>by unfold Pm;simp only[*]<;>first|exact G|simp
  |exact aP (Yi T H t _ J) h fun Q G=>by unfold Pm;first|exact G|(simp only[*]<;>first|exact G|simp)|(split<;>first|exact G|simp_all)
theorem SN (P:Program)(T:Tab)(op:Op)(vs:List AV)(H:List (Nat×aI))(id:Nat):kD fun (K:AV×List (Nat×aI)→Prop)=>cop P T op vs H id fun v ws=>K (v,ws):=by
 intro K h;unfold cop at h;repeat' split at h
 all_goals first
  |exact h.elim
  |exact dz h fun J G=>by unfold cop;simp only[*]<;>first|exact G|simp
  |exact aP (PX T _ id) h fun J G=>by unfold cop;simp only[*]<;>first|exact G|simp
  |exact aP (Ye T _ _ id) h fun J G=>by unfold cop;simp only[*]<;>first|exact G|simp
  |exact aP (vC (PW T _ _ _)) h fun J G=>by unfold cop;simp only[*]<;>first|exact G|simp
  |exact aP (Md T H _ _ _ _ id) h fun J G=>by unfold cop;simp only[*]<;>first|exact G|simp
  |exact aP (vC (P6 T H _ _)) h fun J G=>by unfold cop;simp only[*]<;>first|exact G|simp
  |exact aP (Ma T H _ _ _) h fun J G=>by unfold cop;simp only[*]<;>first|exact G|simp
  |exact aP (vC (UG T H _ _ _ _)) h fun J G=>by unfold cop;simp only[*]<;>first|exact G|simp
  |exact aP (vC (Yh H _ _)) h fun J G=>by unfold cop;simp only[*]<;>first|exact G|simp
  |exact aP (P8 T H _ _ _) h fun J G=>by unfold cop;simp only[*]<;>first|exact G|simp
  |exact aP (UJ H _ _ _) h fun J G=>by unfold cop;simp only[*]<;>first|exact G|simp
  |exact aP (UK T _ _ id) h fun J G=>by unfold cop;simp only[*]<;>first|exact G|simp
  |exact aP (L9 T H _ _ _ _ _) h fun J G=>by unfold cop;simp only[*]<;>first|exact G|simp
  |exact aP (vC (EX T H _ _ _)) h fun J G=>by unfold cop;simp only[*]<;>first|exact G|simp
  |exact aP (vC (Yb T _ _ _)) h fun J G=>by unfold cop;simp only[*]<;>first|exact G|simp
  |exact aP (vC (Yj T H _ _ _)) h fun J G=>by unfold cop;simp only[*]<;>first|exact G|simp
  |exact aP (vC (PO T _ _ _)) h fun J G=>by unfold cop;simp only[*]<;>first|exact G|simp
  |exact aP (vC (Kj _ _)) h fun J G=>by unfold cop;simp only[*]<;>first|exact G|simp
  |exact aP (UO P H _) h fun J G=>by unfold cop;simp only[*]<;>first|exact G|simp
  |exact aP (UW T H _ _ id) h fun J G=>by unfold cop;simp only[*]<;>first|exact G|simp
  |exact aP (vC (UQ T H _ _)) h fun J G=>by unfold cop;simp only[*]<;>first|exact G|simp
  |exact aP (P5 T H _ _) h fun J G=>by unfold cop;simp only[*]<;>first|exact G|simp
  |exact aP (vC (ac6 _ _)) h fun J G=>by unfold cop;simp only[*]<;>first|exact G|simp
theorem oU {tm tm':List (Nat×AV)}:∀{xs:List Operand} {vs:List AV},(∀t∈tmpsOf xs,lk tm' t=lk tm t)→evs tm xs=some vs→evs tm' xs=some vs
 |[],vs,_,h=>h
 | x::xs,vs,hs,h=>by
   simp only[evs] at h ⊢;split at h
   ·rename_i v Q;have G:jV tm' x=some v:=by
     rw[←Q];unfold jV;cases x with
     |tmp t=>exact hs t (by simp[tmpsOf])
     |const v=>rfl
     |func f=>rfl
     |«global» g=>rfl
    split at h
    ·rename_i S J;rw[G];simp only;rw[oU (fun t K=>hs t (by cases x<;>simp[tmpsOf,K])) J];exact h
    cases h
   cases h
theorem nP {hp hp':List (Nat×aI)}:∀{G:List Nat} {H:List (Nat×aI)},(∀b∈G,lk hp' b=lk hp b)→kK hp G=some H→kK hp' G=some H
 |[],H,_,h=>h
 | i::r,H,hs,h=>by
   simp only[kK] at h ⊢;rw[hs i (by simp)];split at h
   ·rename_i S K;split at h
    ·rename_i t Q;rw[nP (fun b J=>hs b (by simp[J])) Q];exact h
    cases h
   cases h
theorem Yk {P:Program}{T:Tab}{op:Op}{vs:List AV}{hp:List (Nat×aI)}{id:Nat}{K:AV→List (Nat×aI)→List Nat→Prop}(h:zD P T op vs hp id K) :
  ∃v ws G,K v ws G∧∀(hp':List (Nat×aI)),(∀b∈G,lk hp' b=lk hp b)→∀J:AV→List (Nat×aI)→List Nat→Prop,J v ws G→zD P T op vs hp' id J:=by
 unfold zD at h;simp only at h;split at h;rotate_left;cases h
 rename_i H V;obtain⟨⟨v,ws⟩,Q,S⟩:=SN P T op vs H id (fun x=>K x.1 x.2 (J4 op vs)) h;refine⟨v,ws,J4 op vs,Q,fun hp' X J qF=>?_⟩;unfold zD;simp only;rw[nP X V];exact S (fun x=>J x.1 x.2 (J4 op vs)) qF
theorem UX {P:Program}{T:Tab}{op:Op}{vs:List AV}{hp:List (Nat×aI)}{id:Nat}{K:AV→List (Nat×aI)→List Nat→Prop}(h:zD P T op vs hp id K) :
  ∃v ws G,K v ws G∧G=J4 op vs∧∀(hp':List (Nat×aI)),(∀b∈G,lk hp' b=lk hp b)→∀J:AV→List (Nat×aI)→List Nat→Prop,J v ws G→zD P T op vs hp' id J:=by
 unfold zD at h;simp only at h;split at h;rotate_left;cases h
 rename_i H V;obtain⟨⟨v,ws⟩,Q,S⟩:=SN P T op vs H id (fun x=>K x.1 x.2 (J4 op vs)) h;refine⟨v,ws,J4 op vs,Q,rfl,fun hp' X J qF=>?_⟩;unfold zD;simp only;rw[nP X V];exact S (fun x=>J x.1 x.2 (J4 op vs)) qF
theorem E5 {x y:Nat}:∀{l:List Nat},x∈snoc l y↔x∈l∨x=y
 |[]=>by simp[snoc]
 |z::l=>by simp[snoc,E5 (l:=l),or_assoc]
theorem E8 {hp:List (Nat×aI)}:∀{n:Nat} {todo G:List Nat},∀b∈G,b∈Bh hp n todo G
 |0,_,_,b,h=>h
 |_+1,[],_,b,h=>h
 | n+1,x::todo,G,b,h=>by
   simp only[Bh];split
   ·exact E8 b h
   split<;>exact E8 b (E5.2 (.inl h))
theorem pO {hp hp':List (Nat×aI)}:∀{n:Nat} {todo G:List Nat},(∀b∈Bh hp n todo G,lk hp' b=lk hp b)→Bh hp' n todo G=Bh hp n todo G
 |0,_,_,_=>rfl
 |_+1,[],_,_=>rfl
 | n+1,x::todo,G,h=>by
   simp only[Bh] at h ⊢;cases K:EQ x G with
   | true=>
     simp only[K] at h ⊢;exact pO h
   | false=>
     simp only[K] at h ⊢;have S:lk hp' x=lk hp x:=by
      refine h x ?_;split<;>exact E8 x (E5.2 (.inr rfl))
     rw[S];cases J:lk hp x with
     |none=>simp only[J] at h ⊢;exact pO h
     |some Q=>cases Q<;>simp only[J] at h ⊢ <;> exact pO h
theorem xI {hp hp':List (Nat×aI)}:∀{l:List Nat},(∀b∈l,lk hp' b=lk hp b)→tq hp' l=tq hp l
 |[],_=>rfl
 | x::r,h=>by
   simp only[tq];rw[h x (by simp),xI fun b G=>h b (by simp[G])]
theorem Yl {P:Program}{vs:List AV}{hp:List (Nat×aI)}{id:Nat}{K:AV→List (Nat×aI)→List Nat→Prop}(h:gC P hp id vs K) :
  ∃v ws J,K v ws J∧∀(hp':List (Nat×aI)),(∀b∈J,lk hp' b=lk hp b)→∀S:AV→List (Nat×aI)→List Nat→Prop,S v ws J→gC P hp' id vs S:=by
 unfold gC at h;split at h;rotate_left;cases h
 rename_i fv args;split at h;rotate_left;cases h
 rename_i f first bD aa
 simp only at h;split at h;rotate_left;cases h
 rename_i H hH;obtain⟨r,V,Pb,h⟩:=h;split at h;rotate_left;cases h
 rename_i ad;have h0:=h;rw[zL,zM] at h;have h:=nQ _ _ _ h;refine⟨_,_,_,h,fun hp' hb S qF=>?_⟩;have Q:=fun b G=>hb b (List.mem_append_left _ G)
 have X:=fun b G=>hb b (List.mem_append_right _ G)
 unfold gC;simp only[aa];rw[pO Q,nP Q hH];simp only;refine⟨r,V,Pb,?_⟩;have:gOk (lT 1 H) (jZ 1 H) id hp' V=gOk (lT 1 H) (jZ 1 H) id hp V:=by
  unfold gOk;rw[xI X]
 rw[this,ad];simp only;rw[zL,zM] at h0 ⊢;exact lU _ _ _ h0 qF
theorem af7 {P:Program}{vs:List AV}{hp:List (Nat×aI)}{id:Nat}{K:AV→List (Nat×aI)→List Nat→Prop}(h:gV P hp id vs K) :
  ∃v ws G,K v ws G∧∀(hp':List (Nat×aI)),(∀b∈G,lk hp' b=lk hp b)→∀J:AV→List (Nat×aI)→List Nat→Prop,J v ws G→gV P hp' id vs J:=by
 obtain⟨v,ws,G,Q,V⟩:=Yl h;refine⟨v,[],G,(yc Q).1,fun hp' S J X=>?_⟩;exact V hp' S _ (Cx S Q X)
theorem af8 {P:Program}{vs:List AV}{hp:List (Nat×aI)}{K:AV→List (Nat×aI)→List Nat→Prop}(h:dC P hp vs K) :
  ∃v ws G,K v ws G∧(∀b∈fH vs,b∈G)∧∀(hp':List (Nat×aI)),(∀b∈G,lk hp' b=lk hp b)→∀Q:AV→List (Nat×aI)→List Nat→Prop,Q v ws G→dC P hp' vs Q:=by
 unfold dC at h;simp only at h;split at h;rotate_left;cases h
 rename_i H hH;split at h;rotate_left;cases h
 rename_i f first bD ps hm
 obtain⟨r,X,h⟩:=h;split at h;rotate_left;cases h
 rename_i hs;refine⟨_,_,_,h,fun b S=>List.mem_append_left _ S,fun hp' S Q qF=>?_⟩;have J:=fun b V=>S b (List.mem_append_right _ V)
 unfold dC;simp only;rw[pO J,nP J hH];simp only[hm];refine⟨r,X,?_⟩;rw[hs];exact qF
theorem E9 {hp hp':List (Nat×aI)}:∀{G:List Nat},(∀b∈G,lk hp' b=lk hp b)→kK hp' G=kK hp G
 |[],_=>rfl
 | i::r,h=>by
   simp only[kK];rw[h i (by simp),E9 fun b J=>h b (by simp[J])]
theorem Cy {hp hp':List (Nat×aI)}{vs:List AV}(h:∀b∈fH vs,lk hp' b=lk hp b):SC hp' vs=SC hp vs:=by
 unfold SC;split
 ·rename_i p args;rw[E9 fun b G=>h b (by simp only[fH,refs,List.nil_append];exact G)]
 rfl
theorem af9 {P:Program}{T:Tab}{op:Op}(hc:mY op=true){vs:List AV}{hp:List (Nat×aI)}{id:Nat}{K:AV→List (Nat×aI)→List Nat→Prop}(h:lC P T op vs hp id K) :
  ∃v ws G,K v ws G∧∀(hp':List (Nat×aI)),(∀b∈G,lk hp' b=lk hp b)→∀J:AV→List (Nat×aI)→List Nat→Prop,J v ws G→lC P T op vs hp' id J:=by
 unfold lC at h;split at h
 ·rename_i hd;obtain⟨v,ws,G,V,S,X⟩:=af8 h;refine⟨v,ws,G,V,fun hp' Q J qF=>?_⟩;unfold lC;rw[Cy fun b aa=>Q b (S b aa),hd];exact X hp' Q J qF
 rename_i hd;have hn:J4 op vs=fH vs:=by
  cases op<;>simp only[mY] at hc<;>first|rfl|(cases hc;done)
 obtain⟨v,ws,G,V,S,X⟩:=UX h;rw[hn] at S;subst S;refine⟨v,ws,_,V,fun hp' Q J qF=>?_⟩;unfold lC;rw[Cy Q,hd];exact X hp' Q J qF
theorem aga {P:Program}{vs:List AV}{hp:List (Nat×aI)}{K:AV→List (Nat×aI)→List Nat→Prop}(h:yC P hp vs K) :
  ∃v ws G,K v ws G∧∀(hp':List (Nat×aI)),(∀b∈G,lk hp' b=lk hp b)→∀J:AV→List (Nat×aI)→List Nat→Prop,J v ws G→yC P hp' vs J:=by
 unfold yC at h;split at h;rotate_left;cases h
 split at h;rotate_left;cases h
 rename_i y ver rest st X;split at h;rotate_left;cases h
 split at h;rotate_left;cases h
 split at h;rotate_left;cases h
 rename_i ps S;obtain⟨e,x,r,V,Q,hK⟩:=h;refine⟨_,_,_,hK,fun hp' hb J qF=>?_⟩;unfold yC;simp only[hb 999 (by simp),X,S];exact⟨e,x,r,V,Q,qF⟩
theorem ac7 {P:Program}{T:Tab}(hg:gen T=false){o:Oper}{tm:List (Nat×AV)}{hp:List (Nat×aI)}{id:Nat}{K:AV→List (Nat×aI)→List Nat→Prop}(h:XF P T o tm hp id K) :
  ∃v ws G,K v ws G∧∀(tm':List (Nat×AV)) (hp':List (Nat×aI)),(∀t∈tmpsOf (kX o.op),lk tm' t=lk tm t)→(∀b∈G,lk hp' b=lk hp b) →
   ∀J:AV→List (Nat×aI)→List Nat→Prop,J v ws G→XF P T o tm' hp' id J:=by
 unfold XF at h;split at h;rotate_left;cases h
 rename_i vs Q;split at h
 ·rename_i hc;split at h
  ·rename_i hy;obtain⟨v,ws,G,S,V⟩:=aga h;refine⟨v,ws,G,S,fun tm' hp' ht X J qF=>?_⟩;unfold XF;rw[oU ht Q];simp only[hc,hy];exact V hp' X J qF
  rename_i hy;rw[hg] at h;rcases h with (h|h)|h
  rotate_left 2
  ·obtain⟨v,ws,G,S,V⟩:=af7 h;refine⟨v,ws,G,S,fun tm' hp' ht X J qF=>?_⟩;unfold XF;rw[oU ht Q,hg];simp only[hc,hy];exact .inr (V hp' X J qF)
  ·obtain⟨v,ws,G,S,V⟩:=af9 hc h;refine⟨v,ws,G,S,fun tm' hp' ht X J qF=>?_⟩;unfold XF;rw[oU ht Q];simp only[hc,hy];exact .inl (.inl (V hp' X J qF))
  obtain⟨v,ws,G,S,V⟩:=Yl h;refine⟨v,ws,G,S,fun tm' hp' ht X J qF=>?_⟩;unfold XF;rw[oU ht Q];simp only[hc,hy];exact .inl (.inr (V hp' X J qF))
 rename_i hc;obtain⟨v,ws,G,S,V⟩:=Yk h;refine⟨v,ws,G,S,fun tm' hp' ht X J qF=>?_⟩;unfold XF;rw[oU ht Q];simp only[hc];exact V hp' X J qF
section
variable {α:Type}
def acc (S:Nat→Bool):List (List (Nat×α))→Nat→List (Nat×α)→List (Nat×α)
 |[],_,s=>s
 |ws::r,i,s=>acc S r (i+1) (if S i then ws++s else s)
theorem j3 {ws s:List (Nat×α)}{t:Nat}(h:t∉keys ws):lk (ws++s) t=lk s t:=by
 induction ws with
 |nil=>rfl
 | cons x ws ih=>
   obtain⟨k,v⟩:=x;simp only[keys,List.mem_cons,not_or] at h;rw[List.cons_append,aG,if_neg (Ne.symm h.1),ih h.2]
theorem vD {ws s J:List (Nat×α)}{t:Nat}(h:t∈keys ws):lk (ws++s) t=lk (ws++J) t:=by
 induction ws with
 |nil=>simp[keys] at h
 | cons x ws ih=>
   obtain⟨k,v⟩:=x;simp only[keys,List.mem_cons] at h;rw[List.cons_append,List.cons_append,aG,aG];split
   ·rfl
   rename_i G;exact ih (h.resolve_left (Ne.symm G))
theorem om {ws s J:List (Nat×α)}{t:Nat}(h:lk s t=lk J t):lk (ws++s) t=lk (ws++J) t:=by
 by_cases G:t∈keys ws
 ·exact vD G
 rw[j3 G,j3 G,h]
theorem oV:∀(l:List (List (Nat×α))) (i:Nat) (s:List (Nat×α)),acc (fun _=>false) l i s=s
 |[],_,_=>rfl
 |ws::r,i,s=>by simp only[acc,Bool.false_eq_true,if_false,oV r]
theorem lV {S S':Nat→Bool}(t:Nat):∀(l:List (List (Nat×α))) (i:Nat) (s J:List (Nat×α)),lk s t=lk J t →
  (∀k ws,l[k]? = some ws→t∈keys ws→S (i+k)=S' (i+k))→lk (acc S l i s) t=lk (acc S' l i J) t
 |[],_,_,_,h,_=>h
 | ws::r,i,s,J,h,K=>by
   simp only[acc];refine lV t r (i+1) _ _ ?_ fun k uO G X=>by
    have:=K (k+1) uO (by simpa using G) X;rwa [show i+(k+1)=i+1+k from by omega] at this
   by_cases G:t∈keys ws
   ·have:=K 0 ws rfl G;simp only[Nat.add_zero] at this;rw[this];split
    ·exact om h
    exact h
   have Q:lk (ws++s) t=lk s t:=j3 G;have V:lk (ws++J) t=lk J t:=j3 G;split<;>split<;>simp[Q,V,h]
theorem Mf {S:Nat→Bool}(t:Nat):∀(l:List (List (Nat×α))) (i:Nat) (s:List (Nat×α)) (j:Nat) (ws:List (Nat×α)),l[j]? = some ws→t∈keys ws→S (i+j)=true →
  (∀k K,l[k]? = some K→t∈keys K→S (i+k)=true→k≤j)→∀V,lk (acc S l i s) t=lk (ws++V) t
 |[],_,_,j,_,h,_,_,_,_=>by simp at h
 | w0::r,i,s,0,ws,h,ht,Q,hk,V=>by
   simp only[List.getElem?_cons_zero,Option.some.injEq] at h;subst h;simp only[Nat.add_zero] at Q;simp only[acc,Q,if_true];rw[lV (S':=fun _=>false) t r (i+1) _ (w0++s) rfl ?_,oV]
   ·exact vD ht
   intro k K G J;cases hb:S (i+1+k) with
   |false=>rfl
   | true=>
     have:=hk (k+1) K (by simpa using G) J (by rw[show i+(k+1)=i+1+k from by omega];exact hb);omega
 | w0::r,i,s,j+1,ws,h,ht,Q,hk,V=>by
   simp only[acc];refine Mf t r (i+1) _ j ws (by simpa using h) ht (by rw[show i+1+j=i+(j+1) from by omega];exact Q) (fun k K G J X=>?_) V;have:=hk (k+1) K (by simpa using G) J (by rw[show i+(k+1)=i+1+k from by omega];exact X);omega
theorem SQ {S S':Nat→Bool}{l:List (List (Nat×α))}{s:List (Nat×α)}{j:Nat}{ws:List (Nat×α)}(hj:l[j]? = some ws)(V:∀k,S' k=(S k||Nat.beq k j))(t:Nat)
  (hw:∀k J,l[k]? = some J→t∈keys ws→t∈keys J→S k=true→k<j):lk (acc S' l 0 s) t=lk (ws++acc S l 0 s) t:=by
 by_cases Q:t∈keys ws
 ·refine Mf t l 0 s j ws hj Q (by rw[V];simp) (fun k J K G X=>?_) _;rw[Nat.zero_add,V,Bool.or_eq_true] at X;rcases X with h|h
  ·exact Nat.le_of_lt (hw k J K Q G h)
  exact Nat.le_of_eq (Nat.eq_of_beq_eq_true h)
 rw[j3 Q];refine lV t l 0 s s rfl fun k J K G=>?_
 rw[Nat.zero_add,V];cases hb:Nat.beq k j with
 |false=>simp
 | true=>
   have:=Nat.eq_of_beq_eq_true hb;subst this;rw[hj] at K;cases K;exact absurd G Q
theorem rH {S:Nat→Bool}:∀(l:List (List (Nat×α))) (i:Nat) (s:List (Nat×α)),acc S l (i+1) s=acc (fun k=>S (k+1)) l i s
 |[],_,_=>rfl
 |ws::r,i,s=>by simp only[acc];rw[rH r]
end
def Hw (d:Option Nat)(v:AV):List (Nat×AV):=
 match d with
 |some d=>[(d,v)]
 |none=>[]
theorem zN (tm:List (Nat×AV))(d:Option Nat)(v:AV):afR tm d v=Hw d v++tm:=by cases d<;>rfl
section
variable {P:Program}{T:Tab}{c:Ctx}
def UY (P:Program)(c:Ctx)(ops:Array Oper)(base:Nat)(o:Oper)(i:Nat)(v:AV)(ws:List (Nat×aI))(e:u7)(tm:List (Nat×AV))(hp:List (Nat×aI)):Prop:=
 ∀(R:Real) (J:List (Nat×AV)) (G:List (Nat×aI)) (K:Nat) (a:Act) (w:World),(∀t∈e.look,lk J t=lk tm t)→(∀b∈e.rd,lk G b=lk hp b)→base+i<K →
  (∀t,o.dst=some t→t<c.n)→bN c R ⟨J,K,G⟩ a w→∀(X:Option Nat) (Q:Exit→Act→World→Prop),
   if Region.wanted o (yielded ops a.tmps) then o.wpIn (W1 X) 0 P a w (fun V w'=>∃S,bN c S ⟨Hw o.dst v++J,K,ws++G⟩ V w') Q
   else ∃S,bN c S ⟨Hw o.dst v++J,K,ws++G⟩ (a.put o.dst undef) w
theorem UY.congr {ops:Array Oper}{base:Nat}{o:Oper}{i:Nat}{v:AV}{ws:List (Nat×aI)}{e:u7}{tm J:List (Nat×AV)}{hp G:List (Nat×aI)}
  (h:UY P c ops base o i v ws e tm hp) (ht:∀t,lk J t=lk tm t) (hh:∀b,lk G b=lk hp b):UY P c ops base o i v ws e J G:=by
 intro R V K nx a w X h2 h3 h4 g ro Q;exact h R V K nx a w (fun t S=>(X t S).trans (ht t)) (fun b hb=>(h2 b hb).trans (hh b)) h3 h4 g ro Q
theorem SS (G:gen T=false){ops:List Oper}{base:Nat}{o:Oper}{i:Nat}{tm:List (Nat×AV)}{hp:List (Nat×aI)}{tr:List u7}{J:List (Nat×Bool)}{K:RC}
  (h:vex P T ops base o i tm hp tr J K):∃v ws e,K (Hw o.dst v++tm) (ws++hp) (e::tr) J∧e.dst=o.dst∧e.wr=keys ws∧(∀d∈yg ops o,d∈e.look) ∧
   ∀tm' hp' V,(∀t∈e.look,lk tm' t=lk tm t)→(∀b∈e.rd,lk hp' b=lk hp b)→∀Q:RC,Q (Hw o.dst v++tm') (ws++hp') (e::V) J→vex P T ops base o i tm' hp' V J Q:=by
 unfold vex at h;split at h
 ·exact h.elim
 rename_i hn;obtain⟨v,ws,aa,X,h2⟩:=ac7 G h;simp only[wM,D7,zN] at X;refine⟨v,ws,_,X,rfl,rfl,fun d hd=>List.mem_append_left _ hd,fun tm' hp' V ht hb Q qF=>?_⟩;unfold vex;rw[hb (base+i) (by simp),hn];simp only;refine h2 tm' hp' (fun t S=>ht t (List.mem_append_right _ S)) (fun b S=>hb b (List.mem_cons_of_mem _ S)) _ ?_;simp only[wM,D7,zN];exact qF
theorem Ip {ops:List Oper}{o:Oper}{tm:List (Nat×AV)}{hp:List (Nat×aI)}{tr:List u7}{G:List (Nat×Bool)}{K:RC}
  (h:Cs ops o tm hp tr G K):∃v ws e,K (Hw o.dst v++tm) (ws++hp) (e::tr) G∧e.dst=o.dst∧e.wr=keys ws∧(∀d∈yg ops o,d∈e.look) ∧
   ∀tm' hp' Q,(∀t∈e.look,lk tm' t=lk tm t)→(∀b∈e.rd,lk hp' b=lk hp b)→∀J:RC,J (Hw o.dst v++tm') (ws++hp') (e::Q) G→Cs ops o tm' hp' Q G J:=by
 unfold Cs at h;simp only[wM,zN] at h;refine⟨_,[],_,h,rfl,rfl,fun d S=>S,fun tm' hp' Q ht X J V=>?_⟩;unfold Cs;simp only[wM,zN];exact V
theorem Ea (G:gen T=false){ops:List Oper}{base:Nat}{o:Oper}{i:Nat}{Q:Bool}{tm:List (Nat×AV)}{hp:List (Nat×aI)}{tr:List u7}{J:List (Nat×Bool)}{K:RC}
  (h:vgo P T ops base o i Q tm hp tr J K):∃v ws e,K (Hw o.dst v++tm) (ws++hp) (e::tr) J∧e.dst=o.dst∧e.wr=keys ws∧(∀d∈yg ops o,d∈e.look) ∧
   ∀tm' hp' V,(∀t∈e.look,lk tm' t=lk tm t)→(∀b∈e.rd,lk hp' b=lk hp b)→∀S:RC,S (Hw o.dst v++tm') (ws++hp') (e::V) J→vgo P T ops base o i Q tm' hp' V J S:=by
 cases Q with
 |true=>exact SS G h
 |false=>exact Ip h
theorem UZ (G:gen T=false){ops:List Oper}{base:Nat}{o:Oper}{i:Nat}{tm:List (Nat×AV)}{hp:List (Nat×aI)}{tr:List u7}{kn:List (Nat×Bool)}{K:RC}
  (h:rG P T ops base o i tm hp tr kn K):∃v ws e Ht ae,(∀t,lk ae t=lk tm t)∧K (Hw o.dst v++ae) (ws++hp) (e::tr) Ht∧e.dst=o.dst∧e.wr=keys ws ∧
   ∀tm' hp' X,(∀t∈e.look,lk tm' t=lk tm t)→(∀b∈e.rd,lk hp' b=lk hp b)→∀V:RC,(∀ad,(∀t,lk ad t=lk tm' t)→V (Hw o.dst v++ad) (ws++hp') (e::X) Ht) →
    rG P T ops base o i tm' hp' X kn V:=by
 unfold rG at h;split at h
 ·rename_i hg;obtain⟨v,ws,e,h1,h2,h3,h4,h5⟩:=SS G h;refine⟨v,ws,e,kn,tm,fun _=>rfl,h1,h2,h3,fun tm' hp' X Q hb V qF=>?_⟩;unfold rG;rw[hg];exact h5 tm' hp' X Q hb V (qF tm' fun _=>rfl)
 rename_i j ag hg;split at h
 ·exact h.elim
 rename_i d hd;have J:d∈yg ops o:=by simp[yg,hd]
 split at h;rotate_left;cases h
 rename_i vv hv;split at h
 ·rename_i b;split at h
  ·rename_i kb aa;cases b with
   | true=>
     obtain⟨v,ws,e,h1,h2,h3,h4,h5⟩:=Ea G h;refine⟨v,ws,e,kn,tm,fun _=>rfl,h1,h2,h3,fun tm' hp' X Q hb V qF=>?_⟩;unfold rG;simp only[hg,hd,Q d (h4 d J),hv,aa];exact h5 tm' hp' X Q hb V (qF tm' fun _=>rfl)
   | false=>
     obtain⟨v,ws,e,h1,h2,h3,h4,h5⟩:=Ea G h;refine⟨v,ws,e,kn,tm,fun _=>rfl,h1,h2,h3,fun tm' hp' X Q hb V qF=>?_⟩;unfold rG;simp only[hg,hd,Q d (h4 d J),hv,aa];exact h5 tm' hp' X Q hb V (qF tm' fun _=>rfl)
  rename_i aa;have same:∀(b':Bool) (tm':List (Nat×AV)),lk tm' d=some (.pv (.sc (.bool b')))→∀t,lk ((d,AV.pv (.sc (.bool b')))::tm') t=lk tm' t:=by
   intro b' tm' af t;rw[aG];split
   ·rename_i e;rw[←e,af]
   rfl
  cases b with
  | true=>
    obtain⟨v,ws,e,h1,h2,h3,h4,h5⟩:=Ea G (h.1 rfl);refine⟨v,ws,e,_,_,same true tm hv,h1,h2,h3,fun tm' hp' X Q hb V qF=>?_⟩;have S:lk tm' d=some (.pv (.sc (.bool true))):=(Q d (h4 d J)).trans hv;unfold rG;simp only[hg,hd,S,aa];refine⟨fun _=>h5 _ hp' X (fun t hx=>?_) hb V (qF _ (same true tm' S)),fun h=>(by cases h)⟩;rw[same true tm' S,same true tm hv];exact Q t hx
  | false=>
    obtain⟨v,ws,e,h1,h2,h3,h4,h5⟩:=Ea G (h.2 rfl);refine⟨v,ws,e,_,_,same false tm hv,h1,h2,h3,fun tm' hp' X Q hb V qF=>?_⟩;have S:lk tm' d=some (.pv (.sc (.bool false))):=(Q d (h4 d J)).trans hv;unfold rG;simp only[hg,hd,S,aa];refine⟨fun h=>(by cases h),fun _=>h5 _ hp' X (fun t hx=>?_) hb V (qF _ (same false tm' S))⟩;rw[same false tm' S,same false tm hv];exact Q t hx
 ·obtain⟨v,ws,e,h1,h2,h3,h4,h5⟩:=Ip h;refine⟨v,ws,e,kn,tm,fun _=>rfl,h1,h2,h3,fun tm' hp' X Q hb V qF=>?_⟩;unfold rG;simp only[hg,hd,Q d (h4 d J),hv];exact h5 tm' hp' X Q hb V (qF tm' fun _=>rfl)
 exact h.elim
theorem Ym (hT:dB P T)(aa:gen T=false){ops:Array Oper}{base:Nat}{o:Oper}{i:Nat}{tm:List (Nat×AV)}{hp:List (Nat×aI)}{tr:List u7}{kn:List (Nat×Bool)}{K:RC}
  (h:rG P T ops.toList base o i tm hp tr kn K):∃v ws e Ht G,(∀t,lk G t=lk tm t)∧K (Hw o.dst v++G) (ws++hp) (e::tr) Ht∧e.dst=o.dst∧e.wr=keys ws ∧
   UY P c ops base o i v ws e tm hp:=by
 obtain⟨v,ws,e,Ht,G,h1,h2,h3,h4,h5⟩:=UZ aa h;refine⟨v,ws,e,Ht,G,h1,h2,h3,h4,fun R V J nx a w ht hb hn hd g ro Q=>?_⟩;have hv:=h5 V J [] ht hb (fun X S _ _=>(∀t,lk X t=lk (Hw o.dst v++V) t)∧S=ws++J) fun af ad=>⟨fun t=>om (ad t),rfl⟩
 have hs:=Ct (s:=⟨V,nx,J⟩) g hT (ops:=ops) hn hd hv ro Q;split
 ·rename_i hw;rw[if_pos hw] at hs;refine Oper.wpIn_mono ?_ hs;rintro a' w' ⟨R',X,S,rz,ae,⟨hk,rfl⟩,g'⟩
  exact⟨R',g'.congr (fun t=>(hk t).symm) fun _=>rfl⟩
 rename_i hw;rw[if_neg hw] at hs;obtain⟨X,S,rz,ae,⟨hk,rfl⟩,g'⟩:=hs;exact⟨R,g'.congr (fun t=>(hk t).symm) fun _=>rfl⟩
end
theorem Mg {x:Nat}:∀{l:List Nat},EQ x l=true↔x∈l
 |[]=>by simp[EQ]
 | y::r=>by
   simp only[EQ,List.mem_cons];split
   ·rename_i h;simp[Nat.eq_of_beq_eq_true h]
   rename_i h;have:=Nat.ne_of_beq_eq_false h;simp[this,Mg]
theorem tC {x:Nat}:∀{l G:List Nat},x∈l→x∈G→meet l G=true
 |[],_,h,_=>by simp at h
 | y::r,G,h,J=>by
   simp only[meet];split
   ·rfl
   rename_i K;rcases List.mem_cons.1 h with rfl|h
   ·rw[Mg.2 J] at K;cases K
   exact tC h J
theorem Mh (d:Option Nat)(v:AV):keys (Hw d v)=dl d:=by cases d<;>rfl
section
variable {P:Program}{T:Tab}{c:Ctx}
theorem Mi (hT:dB P T)(hg:gen T=false){ops:Array Oper}{base:Nat}{K:RK}:∀(l:List Oper) (i:Nat) {tm:List (Nat×AV)} {hp:List (Nat×aI)} {tr:List u7} {kn:List (Nat×Bool)},
  Pv P T ops.toList base l i tm hp tr kn K→∃(Q:List (List (Nat×AV))) (V:List (List (Nat×aI))) (X:List u7) (J:List (Nat×AV)) (G:List (Nat×aI)),
   Q.length=l.length∧V.length=l.length∧X.length=l.length∧K J G (X.reverse++tr)∧(∀t,lk J t=lk (acc (fun _=>true) Q 0 tm) t)∧(∀b,lk G b=lk (acc (fun _=>true) V 0 hp) b) ∧
   ∀k o,l[k]? = some o→∃v ws e,Q[k]? = some (Hw o.dst v)∧V[k]? = some ws∧X[k]? = some e∧e.dst=o.dst∧e.wr=keys ws ∧
    UY P c ops base o (i+k) v ws e (acc (fun x=>Nat.blt x k) Q 0 tm) (acc (fun x=>Nat.blt x k) V 0 hp)
 |[],i,tm,hp,tr,kn,h=>⟨[],[],[],tm,hp,rfl,rfl,rfl,h,fun _=>rfl,fun _=>rfl,fun k o hk=>by simp at hk⟩
 | o::r,i,tm,hp,tr,kn,h=>by
   simp only[Pv] at h;obtain⟨v,ws,e,Ht,af,h1,h2,h3,h4,h5⟩:=Ym (c:=c) hT hg h;obtain⟨Q,V,X,J,G,l1,l2,l3,hK,hf,ae,aa⟩:=Mi hT hg r (i+1) h2;have e0:(fun x=>Nat.blt x 0)=fun _=>false:=by
    funext x
    cases hb:Nat.blt x 0 with
    |false=>rfl
    |true=>rw[Nat.blt_eq] at hb;omega
   have e1:∀k,(fun x=>Nat.blt (x+1) (k+1))=fun x=>Nat.blt x k:=by
    intro k;funext x
    rw[Bool.eq_iff_iff,Nat.blt_eq,Nat.blt_eq];omega
   have e2:∀k,Nat.blt 0 (k+1)=true:=by intro k;rw[Nat.blt_eq];omega
   have ad:∀(S:Nat→Bool) t,lk (acc S Q 0 (Hw o.dst v++af)) t=lk (acc S Q 0 (Hw o.dst v++tm)) t:=fun S t=>lV t Q 0 _ _ (om (h1 t)) fun _ _ _ _=>rfl
   refine⟨Hw o.dst v::Q,ws::V,e::X,J,G,by simp[l1],by simp[l2],by simp[l3],?_,?_,?_,?_⟩
   ·simpa using hK
   ·intro t;rw[hf t,ad];simp only[acc,if_true,rH]
   ·intro b;rw[ae b];simp only[acc,if_true,rH]
   intro k o' hk;cases k with
   | zero=>
     simp only[List.getElem?_cons_zero,Option.some.injEq] at hk;subst hk;refine⟨v,ws,e,rfl,rfl,rfl,h3,h4,?_⟩;rw[e0,oV,oV];exact h5
   | succ k=>
     obtain⟨v',uO,e',a1,a2,a3,a4,a5,a6⟩:=aa k o' (by simpa using hk);refine⟨v',uO,e',by simpa using a1,by simpa using a2,by simpa using a3,a4,a5,?_⟩;rw[show i+(k+1)=i+1+k from by omega];refine a6.congr (fun t=>?_) fun b=>?_
     ·simp only[acc,e2,if_true,rH,e1];exact (ad _ t).symm
     simp only[acc,e2,if_true,rH,e1]
theorem Hy {α:Type}{l G:List α}{k:Nat}(h:k<l.length):nth (l++G) k=nth l k:=by
 rw[ve,ve,List.getElem?_append_left h]
def Closed (ops:List Oper)(S:Nat→Bool):Prop:=∀k o,ops[k]? = some o→S k=true→∀e∈o.after.toList,Region.binds .any e=true→S e.on=true
theorem vE {S:Nat→Bool}{V:List Nat}(K:∀k m,nth V k=some m→S k=true→∀x,m.testBit x=true→S x=true):∀(X:List Edge),
  (∀e∈X,Region.binds .any e=true→S e.on=true)→∀x,(LU V X).testBit x=true→S x=true
 |[],_,x,h=>by simp[LU] at h
 | e::r,Q,x,h=>by
   simp only[LU] at h;split at h
   ·rename_i hb;have G:=Q e (by simp) hb;rw[Nat.testBit_or,Nat.testBit_or,Bool.or_eq_true,Bool.or_eq_true] at h;rcases h with (h|h)|h
    ·rw[Nat.testBit_two_pow] at h;simp only[decide_eq_true_eq] at h;rw[←h];exact G
    ·split at h
     ·rename_i m hm;exact K e.on m hm G x h
     simp at h
    exact vE K r (fun e' J=>Q e' (by simp[J])) x h
   exact vE K r (fun e' J=>Q e' (by simp[J])) x h
theorem tF {i:Nat}:∀{K:List Edge},zG i K=true→∀e∈K,Region.binds .any e=true→e.on<i
 |[],_,e,G,_=>by simp at G
 | x::r,h,e,G,J=>by
   simp only[zG] at h;split at h
   ·rw[Bool.and_eq_true] at h;rcases List.mem_cons.1 G with rfl|G
    ·have:=h.1;rwa [Nat.blt_eq] at this
    exact tF h.2 e G J
   rename_i Q;rcases List.mem_cons.1 G with rfl|G
   ·rw[J] at Q;cases Q
   exact tF h e G J
theorem zO {e:u7}{m:Nat}:∀{l:List u7} {J:Nat},D8 e m l J=true→∀k x,l[k]? = some x→nO x e=true→m.testBit (J+k)=true
 |[],_,_,k,x,G,_=>by simp at G
 | y::r,J,h,k,x,G,hc=>by
   simp only[D8,Bool.and_eq_true,Bool.or_eq_true,Bool.not_eq_true'] at h;cases k with
   | zero=>
     simp only[List.getElem?_cons_zero,Option.some.injEq] at G;subst G;exact h.1.resolve_left (by simp[hc])
   | succ k=>
     have:=zO h.2 k x (by simpa using G) hc;rwa [show J+1+k=J+(k+1) from by omega] at this
def Sep (ops:List Oper)(J:List u7)(S:Nat→Bool)(i:Nat)(o:Oper)(e:u7):Prop:=
 (∀G∈o.after.toList,Region.binds .any G=true→G.on<i) ∧
 ((∀G∈o.after.toList,Region.binds .any G=true→S G.on=true)→∀k x,k<i→J[k]? = some x→nO x e=true→S k=true)
theorem Bj {ops:List Oper}{all:List u7}{S:Nat→Bool}(hS:Closed ops S):∀(r:List Oper) (Q:List u7) (i:Nat) (J:List Nat),acY all r Q i J=true →
  ops.drop i=r→all.drop i=Q→J.length=i→(∀k m,nth J k=some m→S k=true→∀x,m.testBit x=true→S x=true) →
  ∀k o,r[k]? = some o→∃e,Q[k]? = some e∧Sep ops all S (i+k) o e
 |[],Q,i,J,_,_,_,_,_,k,o,hk=>by simp at hk
 | o0::r,Q,i,J,h,V,ae,aa,U0,k,o,hk=>by
   simp only[acY] at h;cases Q with
   |nil=>simp at h
   | cons e0 Q=>
     simp only[Bool.and_eq_true] at h;obtain⟨h1,h2,h3⟩:=h;have ah:ops[i]? = some o0:=by
      have:=congrArg (fun l=>l[0]?) V;simpa using this
     have X:(∀e∈o0.after.toList,Region.binds .any e=true→S e.on=true)→∀x,(LU J o0.after.toList).testBit x=true→S x=true:=fun he=>vE U0 _ he
     cases k with
     | zero=>
       simp only[List.getElem?_cons_zero,Option.some.injEq] at hk;subst hk;refine⟨e0,rfl,fun ed Xu hb=>tF h1 ed Xu hb,fun he k x K hx hc=>?_⟩;have:=zO h2 k x (by rw[List.getElem?_take];simp only[Nat.add_zero] at K;rw[if_pos K];exact hx) hc;rw[Nat.zero_add] at this;exact X he k this
     | succ k=>
       obtain⟨e,he,ad⟩:=Bj hS r Q (i+1) (J++[LU J o0.after.toList]) h3 (by rw[←List.drop_drop,V];rfl) (by rw[←List.drop_drop,ae];rfl) (by simp[aa])
        (fun k' m G P9 x hx=>by
         rcases Nat.lt_or_ge k' J.length with ag|af
         ·rw[Hy ag] at G;exact U0 k' m G P9 x hx
         rw[ve,List.getElem?_append_right af] at G;have:k' - J.length=0:=by
          rcases Nat.eq_zero_or_pos (k' - J.length) with h|h
          ·exact h
          rw[List.getElem?_eq_none (by simp;omega)] at G;cases G
         rw[this] at G;simp only[List.getElem?_cons_zero,Option.some.injEq] at G;subst G;have K:k'=i:=by omega
         subst K;exact X (fun ed Xu hb=>hS _ o0 ah P9 ed Xu hb) x hx)
        k o (by simpa using hk)
       refine⟨e,by simpa using he,?_⟩;rw[show i+(k+1)=i+1+k from by omega];exact ad
end
end Go.AX
end
