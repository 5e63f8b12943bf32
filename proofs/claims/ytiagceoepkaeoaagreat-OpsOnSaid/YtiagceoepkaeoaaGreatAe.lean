/-
  Conditions: none. A framework for walks: abstract values, memory, and conditions that suffice; the chapters in plain terms.
-/
import Derived.Test.YtiagceoepkaeoaaGreatAd
import Derived.Deep.LoopGhost
import Derived.Sort.Walk13a
import Derived.Sort.AssemblyPlain
import Derived.Sort.LotD4
import Derived.Sort.LotD5
import Derived.Deep.Slices
import Derived.Carry
set_option linter.unusedSectionVars false
set_option linter.unusedVariables false
set_option linter.unusedSimpArgs false
section
namespace Go.AX
def RV:List Oper→Bool
 |[]=>true
 | o::r=>match o.guard with
   |none=>RV r
   |some _=>false
def ada:Code→Bool
 | .region _ ops draw=>match draw with
   |true=>false
   |false=>RV ops.toList
 |.skip=>true
 |_=>false
def ah7 (ι:Type)(st:ι→AS)(K:Exit→AS→Prop)(e:Exit)(s:AS):Prop:=
 match e with
 |.normal=>∃i,qM s (st i)
 |e=>K e s
def ZX (X:AS→Prop)(K:Exit→AS→Prop)(e:Exit)(s:AS):Prop:=
 match e with
 |.normal=>X s
 |e=>K e s
def afs (id:Nat)(K:Exit→AS→Prop)(e:Exit)(s:AS):Prop:=
 match e with
 | .exit i=>match Nat.beq i id with
   |true=>K .normal s
   |false=>K e s
 |e=>K e s
def meet:List Nat→List Nat→Bool
 |[],_=>false
 | x::r,l=>match EF x l with
   |true=>true
   |false=>meet r l
def dl (d:Option Nat):List Nat:=
 match d with
 |some d=>[d]
 |none=>[]
def nH (x y:vk):Bool:=meet (dl x.dst) y.look||(meet (dl y.dst) x.look||(meet (dl x.dst) (dl y.dst)||(meet x.wr y.rd||(meet y.wr x.rd||meet x.wr y.wr))))
def Md (Hf:List Nat):List Edge→Nat
 |[]=>0
 | e::r=>match Region.binds .any e with
   | true=>((2 ^ e.on ||| (match nth Hf e.on with
     |some m=>m
     |none=>0)) ||| Md Hf r)
   |false=>Md Hf r
def zT (i:Nat):List Edge→Bool
 |[]=>true
 | e::r=>match Region.binds .any e with
   |true=>Nat.blt e.on i&&zT i r
   |false=>zT i r
def D9 (e:vk)(m:Nat):List vk→Nat→Bool
 |[],_=>true
 |x::r,k=>(!(nH x e)||m.testBit k)&&D9 e m r (k+1)
def ZY (all:List vk):List Oper→List vk→Nat→List Nat→Bool
 |[],_,_,_=>true
 | o::r,es,i,Hf=>match es with
   |[]=>false
   | e::es=>match Md Hf o.after.toList with
     |m=>zT i o.after.toList&&(D9 e m (all.take i) 0&&ZY all r es (i+1) (Hf++[m]))
def aft (ops:List Oper)(tr:List vk):Bool:=ZY tr ops tr 0 []
def adb (ps:List Nat)(x:List PV)(tm:List (Nat×AV))(K:List (Nat×AV)→Prop):Prop:=
 match WC ps x tm with
 |some tm=>K tm
 |none=>False
def ah8 (X:AS→Prop)(e:Exit)(s:AS):Prop:=
 match e with
 |.normal=>X s
 |_=>False
def VC (P:Program)(T:Tab):Code→AS→(Exit→AS→Prop)→Prop
 |.skip,s,K=>K .normal s
 | .seq a b,s,K=>match ada a with
   |true=>VC P T a s (ZX (fun s=>VC P T b s K) K)
   |false=>VC P T a s (ZX (fun s=>VC P T b s K) K)∨∃(ι:Type) (st:ι→AS),VC P T a s (ah7 ι st K)∧∀i,VC P T b (st i) K
 | .cond c x y,s,K=>match jE s.tm c with
   | some (.pv (.sc v))=>match v with
     |.bool b=>(b=true→VC P T x s K)∧(b=false→VC P T y s K)
     |_=>False
   | some (.bn b ver _ off)=>match s with
     | ⟨tm,nx,hp⟩=>match lk hp b with
       | some (.tr y' v rest st)=>match st with
         | none=>match Nat.beq ver v with
           | true=>match off with
             |0=>VC P T x ⟨tm,nx,(b,.tr y' v rest (some false))::hp⟩ K∧VC P T y ⟨tm,nx,(b,.tr y' v rest (some true))::hp⟩ K
             |1=>VC P T x ⟨tm,nx,(b,.tr y' v rest (some true))::hp⟩ K∧VC P T y ⟨tm,nx,(b,.tr y' v rest (some false))::hp⟩ K
             |_=>False
           |false=>False
         |some _=>False
       |_=>False
   |_=>False
 | .rangeFunc go ps O8 Me,s,K=>∃(f:FuncId) (aR:List PV) (xs:List (List PV)),afu P f aR xs∧∃(ι:Type) (ok:Nat→ι→Prop) (st:Nat→ι→AS),(∃i,qM s (st 0 i)) ∧
   (∀i,jE (st 0 i).tm go=some (.pv (.fn (.func f) [] aR)))∧(∀k i,IK (st k i).tm=true) ∧
   (∀k x i,xs[k]? = some x→adb ps.toList x (st k i).tm fun tm=>(k≠0→ok k i)→VC P T O8 ⟨tm,(st k i).nx,(st k i).hp⟩ (ah8 fun s1=>VC P T Me s1 (rfK (st k i).tm (fun s2=>∃j,ok (k+1) j∧qM s2 (st (k+1) j)) K))) ∧
   ∀i,(xs.length≠0→ok xs.length i)→K .normal (st xs.length i)
 |.block id c,s,K=>VC P T c s (afs id K)
 |.exit id,s,K=>K (.exit id) s
 |.ret,s,K=>K .ret s
 |.loop c,s,K=>∃(ι:Type) (st:ι→AS) (μ:ι→Nat),(∃i,qM s (st i))∧∀i,VC P T c (st i) (ZX (fun s'=>∃j,μ j<μ i∧qM s' (st j)) K)
 | .region id ops draw,s,K=>match s with
   | ⟨tm,nx,hp⟩=>match Nat.ble ((id+2)*1000+ops.toList.length) nx with
     | true=>match draw with
       |false=>PI P (mk3 T) ops.toList ((id+2)*1000) ops.toList 0 tm hp [] [] fun tm hp tr=>K .normal ⟨tm,nx,hp⟩
       |true=>PI P T ops.toList ((id+2)*1000) ops.toList 0 tm hp [] [] fun tm hp tr=>aft ops.toList tr.reverse=true∧K .normal ⟨tm,nx,hp⟩
     |false=>False
 |_,_,_=>False
def codeOk (n:Nat):Code→Bool
 |.seq a b=>codeOk n a&&codeOk n b
 |.cond _ a b=>codeOk n a&&codeOk n b
 |.block _ a=>codeOk n a
 |.loop a=>codeOk n a
 |.region _ ops _=>qg n ops.toList
 |.rangeFunc _ ps a b=>ps.toList.all (fun t=>Nat.blt t n)&&(codeOk n a&&codeOk n b)
 |_=>true
section
variable {P:Program}{T:Tab}
theorem wpIn_loop_ghost {F:Fence}{n:Nat}{P:Program}{Q:Exit→Act→World→Prop}{a:Act}{w:World}{c:Code}(I:Nat→Act→World→Prop)(n₀:Nat)(h₀:I n₀ a w)
  (round:∀m a w,I m a w→c.wpIn F n P (Exit.then (fun a' w'=>∃n',n'<m∧I n' a' w') Q) a w):(Code.loop c).wpIn F n P Q a w:=by
 refine wpIn_loop (fun a w=>∃n,I n a w) (fun a w=>leastOf (fun n=>I n a w)) ⟨n₀,h₀⟩ ?_;intro a w hI;refine Go.wpIn_mono (round _ a w (leastOf_spec hI).1) ?_;intro e a' w' hq;cases e with
 | normal=>
   obtain⟨n',hlt,hI'⟩:=hq;exact show (∃n,I n a' w')∧leastOf (fun n=>I n a' w')<leastOf (fun n=>I n a w) from ⟨⟨n',hI'⟩,Nat.lt_of_le_of_lt ((leastOf_spec ⟨n',hI'⟩).2 n' hI') hlt⟩
 |exit id=>exact hq
 |goto l=>exact hq
 |ret=>exact hq
 |panic ch=>exact hq
 |outgrown=>exact hq
def Z4 (s:AS):AS:=⟨s.tm,s.nx,[(0,.arr 0 0 1 [[]])]⟩
theorem WE {c:Ctx}{R:Real}{s:AS}{a:Act}{w:World}(g:bD c R (Z4 s) a w):False:=by
 obtain⟨xs,_,h⟩:=g.boxes 0 (.arr 0 0 1 [[]]) rfl;simp only[bL] at h;exact absurd h.1 (by decide)
open Classical in
noncomputable def stB {ι:Type} (ok:Nat→ι→Prop) (st:Nat→ι→AS) (k:Nat) (i:ι):AS:=if k≠0→ok k i then st k i else Z4 (st k i)
theorem Kj {ι:Type}{ok:Nat→ι→Prop}{st:Nat→ι→AS}{k:Nat}{i:ι}(h:k≠0→ok k i):stB ok st k i=st k i:=if_pos h
theorem RX {ι:Type}{ok:Nat→ι→Prop}{st:Nat→ι→AS}{k:Nat}{i:ι}(h:¬(k≠0→ok k i)):stB ok st k i=Z4 (st k i):=if_neg h
theorem EG {ι:Type}{ok:Nat→ι→Prop}{st:Nat→ι→AS}{k:Nat}{i:ι}:(stB ok st k i).tm=(st k i).tm:=by
 unfold stB;split<;>rfl
theorem gH (hT:bP P T)(lV:∀(c:Ctx) (R:Real) (s:AS) (a:Act) (w:World) (id:Nat) (ops:Array Oper) (K:Exit→AS→Prop) (ro:Option Nat),bD c R s a w→qg c.n ops.toList=true →
  VC P T (.region id ops true) s K→(Code.region id ops true).wpIn (W1 ro) 0 P (fun e a' w'=>∃R' s',K e s'∧bD c R' s' a' w') a w) :
  ∀(code:Code) {c:Ctx} {R:Real} {s:AS} {a:Act} {w:World} {K:Exit→AS→Prop} {ro:Option Nat},PN c ro→bD c R s a w→codeOk c.n code=true→VC P T code s K →
   code.wpIn (W1 ro) 0 P (fun e a' w'=>∃R' s',K e s'∧bD c R' s' a' w') a w
 |.skip,c,R,s,a,w,K,ro,hro,g,hok,h=>wpIn_skip ⟨R,s,h,g⟩
 | .seq x y,c,R,s,a,w,K,ro,hro,g,hok,h=>by
   simp only[codeOk,Bool.and_eq_true] at hok;have direct:VC P T x s (ZX (fun s=>VC P T y s K) K)→(Code.seq x y).wpIn (W1 ro) 0 P (fun e a' w'=>∃R' s',K e s'∧bD c R' s' a' w') a w:=by
    intro h;refine wpIn_seq (Go.wpIn_mono (gH hT lV x hro g hok.1 h) ?_);rintro e a' w' ⟨R',s',hK,g'⟩
    cases e with
    |normal=>exact gH hT lV y hro g' hok.2 hK
    |exit i=>exact⟨R',s',hK,g'⟩
    |goto l=>exact⟨R',s',hK,g'⟩
    |ret=>exact⟨R',s',hK,g'⟩
    |panic ch=>exact⟨R',s',hK,g'⟩
    |outgrown=>exact⟨R',s',hK,g'⟩
   simp only[VC] at h;split at h
   ·exact direct h
   rcases h with h|⟨ι,st,h,h2⟩
   ·exact direct h
   refine wpIn_seq (Go.wpIn_mono (gH hT lV x hro g hok.1 h) ?_);rintro e a' w' ⟨R',s',hK,g'⟩
   cases e with
   | normal=>
     obtain⟨i,hi⟩:=hK;obtain⟨R2,g2⟩:=hi c R' a' w' g';exact gH hT lV y hro g2 hok.2 (h2 i)
   |exit i=>exact⟨R',s',hK,g'⟩
   |goto l=>exact⟨R',s',hK,g'⟩
   |ret=>exact⟨R',s',hK,g'⟩
   |panic ch=>exact⟨R',s',hK,g'⟩
   |outgrown=>exact⟨R',s',hK,g'⟩
 | .cond cc x y,c,R,s,a,w,K,ro,hro,g,hok,h=>by
   simp only[codeOk,Bool.and_eq_true] at hok;simp only[VC] at h;split at h
   ·rename_i v hv;have hr:=xe g hv;simp only[aj,bG] at hr;split at h;rotate_left;exact h.elim
    rename_i b;refine wpIn_cond hr ?_;cases b with
    |true=>exact gH hT lV x hro g hok.1 (h.1 rfl)
    |false=>exact gH hT lV y hro g hok.2 (h.2 rfl)
   ·rename_i b ver i off hv;have hr:=xe g hv;obtain⟨tm,nx,hp⟩:=s;simp only at h;split at h;rotate_left;exact h.elim
    rename_i y' v rest st hb;split at h;rotate_left;exact h.elim
    split at h;rotate_left;exact h.elim
    rename_i fT;have fT:=Nat.eq_of_beq_eq_true fT;simp only[aj,hb,aZ] at hr;have hval:=hr.2.2 fT (by trivial);have e01:Nat.beq 0 1=false:=rfl;have e11:Nat.beq 1 1=true:=rfl;have hres:∀(q:Bool),R.nil b=(!q)→bD c R ⟨tm,nx,(b,.tr y' v rest (some q))::hp⟩ a w:=by
     intro q hq;have hbx:=g.boxes b _ hb;refine g.upd (s:=⟨tm,nx,hp⟩) (R':=R) (w':=w) (b:=b) (bH:=.tr y' v rest (some q)) (nx':=nx) (fun _ _=>⟨rfl,rfl,rfl⟩) (fun off v h=>?_) (fun ver v h=>?_) (fun ver i off v h=>?_) (fun r h=>.inl ?_) (nR.refl _ _) ?_
     ·simp only[hb,aX] at h
     ·simp only[hb,aT] at h
     ·simp only[hb,aZ] at h ⊢;exact⟨h.1,h.2.1,fun _ e=>by cases e⟩
     ·simp only[hb];exact h
     obtain⟨k0,kh,k1,k2,k3,k4⟩:=hbx;refine⟨k0,kh,?_,k2,k3,fun r hn=>k4 r ?_⟩
     ·simp only[Option.getD_none,hq,Bool.not_not] at k1;exact k1
     rcases hn with hn|⟨b2,ho⟩
     ·exact .inl hn
     refine .inr ⟨b2,?_⟩;by_cases e:b2=b
     ·subst e;rw[aB,if_pos rfl] at ho;simp only[hb];exact ho
     rw[aB,if_neg (fun e'=>e e'.symm)] at ho;exact ho
    split at h
    ·refine wpIn_cond hval ?_;cases hn:R.nil b with
     |true=>simpa[hn,e01,e11] using gH hT lV x hro (hres false (by simp[hn])) hok.1 h.1
     |false=>simpa[hn,e01,e11] using gH hT lV y hro (hres true (by simp[hn])) hok.2 h.2
    ·refine wpIn_cond hval ?_;cases hn:R.nil b with
     |true=>simpa[hn,e01,e11] using gH hT lV y hro (hres false (by simp[hn])) hok.2 h.2
     |false=>simpa[hn,e01,e11] using gH hT lV x hro (hres true (by simp[hn])) hok.1 h.1
    exact h.elim
   exact h.elim
 | .block id x,c,R,s,a,w,K,ro,hro,g,hok,h=>by
   simp only[codeOk] at hok;simp only[VC] at h;refine wpIn_block (Go.wpIn_mono (gH hT lV x hro g hok h) ?_);rintro e a' w' ⟨R',s',hK,g'⟩
   cases e with
   | exit i=>
     simp only[Exit.inBlock];simp only[afs] at hK;split at hK
     ·rename_i hb;rw[if_pos (Nat.eq_of_beq_eq_true hb)];exact⟨R',s',hK,g'⟩
     rename_i hb;rw[if_neg (Nat.ne_of_beq_eq_false hb)];exact⟨R',s',hK,g'⟩
   |normal=>exact⟨R',s',hK,g'⟩
   |goto l=>exact⟨R',s',hK,g'⟩
   |ret=>exact⟨R',s',hK,g'⟩
   |panic ch=>exact⟨R',s',hK,g'⟩
   |outgrown=>exact⟨R',s',hK,g'⟩
 |.exit id,c,R,s,a,w,K,ro,hro,g,hok,h=>wpIn_exit ⟨R,s,h,g⟩
 |.ret,c,R,s,a,w,K,ro,hro,g,hok,h=>wpIn_ret ⟨R,s,h,g⟩
 | .loop x,c,R,s,a,w,K,ro,hro,g,hok,h=>by
   simp only[codeOk] at hok;simp only[VC] at h;obtain⟨ι,st,μ,⟨i0,h0⟩,hr⟩:=h;obtain⟨R0,g0⟩:=h0 c R a w g;refine wpIn_loop_ghost (fun n a w=>∃i R,μ i=n∧bD c R (st i) a w) (μ i0) ⟨i0,R0,rfl,g0⟩ ?_;rintro n a' w' ⟨i,R1,rfl,g1⟩
   refine Go.wpIn_mono (gH hT lV x hro g1 hok (hr i)) ?_;rintro e a2 w2 ⟨R2,s2,hK,g2⟩
   cases e with
   | normal=>
     obtain⟨j,hj,he⟩:=hK;obtain⟨R3,g3⟩:=he c R2 a2 w2 g2;exact⟨μ j,hj,j,R3,rfl,g3⟩
   |exit i=>exact⟨R2,s2,hK,g2⟩
   |goto l=>exact⟨R2,s2,hK,g2⟩
   |ret=>exact⟨R2,s2,hK,g2⟩
   |panic ch=>exact⟨R2,s2,hK,g2⟩
   |outgrown=>exact⟨R2,s2,hK,g2⟩
 | .region id ops draw,c,R,s,a,w,K,ro,hro,g,hok,h=>by
   simp only[codeOk] at hok;cases draw with
   |true=>exact lV c R s a w id ops K ro g hok h
   | false=>
     simp only[VC] at h;obtain⟨tm,nx,hp⟩:=s;simp only at h;split at h;rotate_left;exact h.elim
     rename_i hb;refine wpIn_region_list (yS ro hT.mk3 ops.toList 0 (s:=⟨tm,nx,hp⟩) g (by simp only[Nat.add_zero];exact Nat.le_of_ble_eq_true hb) hok h ?_);intro R' tm' hp' q8 a' w' hK g';exact⟨R',_,hK,g'⟩
 | .rangeFunc go ps O8 Me,c,R,s,a,w,K,ro,hro,g,hok,h=>by
   simp only[codeOk,Bool.and_eq_true] at hok;obtain⟨hps,hok1,hok2⟩:=hok;simp only[VC] at h;obtain⟨f,aR,xs,hs,ι,ok,st,h0,hgo,hlow,Ki,hend⟩:=h;refine Go.wpIn_mono (WG (ps:=ps) (O8:=O8) (Me:=Me) (st:=stB ok st) (K:=fun e s=>K e s∨∃s0,s=Z4 s0)
    (A:=fun k i x s1=>(k≠0→ok k i)∧VC P T Me s1 (rfK (st k i).tm (fun s2=>∃j,ok (k+1) j∧qM s2 (st (k+1) j)) K)) g hro hs (fun t ht=>?_) (fun i=>by rw[EG];exact hgo i) (by rw[show stB ok st 0=st 0 from funext fun i=>Kj fun h=>absurd rfl h];exact h0)
    (fun k i=>by rw[EG];exact hlow k i) (fun l c' k i x tm R a w hn ade hx RY g'=>?_) (fun l c' k i x s1 R a w hn ade hx hA g'=>?_) (fun k i x hx=>?_) (fun i=>?_)) ?_
   ·have:=List.all_eq_true.1 hps t ht;rwa [Nat.blt_eq] at this
   ·by_cases hv:k≠0→ok k i
    ·rw[EG] at RY;rw[Kj hv] at g';have h1:=Ki k x i hx;simp only[adb,RY] at h1;refine Go.wpIn_mono (gH hT lV O8 ade g' (by rw[hn];exact hok1) (h1 hv)) ?_;rintro e a' w' ⟨R',s',hK,g2⟩
     cases e with
     |normal=>exact⟨R',s',⟨hv,hK⟩,g2⟩
     |exit i=>exact hK.elim
     |goto l=>exact hK.elim
     |ret=>exact hK.elim
     |panic ch=>exact hK.elim
     |outgrown=>exact hK.elim
    rw[RX hv] at g';exact (WE (s:=⟨tm,_,[]⟩) g').elim
   ·refine Go.wpIn_mono (gH hT lV Me ade g' (by rw[hn];exact hok2) hA.2) ?_;rintro e a' w' ⟨R',s',hK,g2⟩
    refine⟨R',s',?_,g2⟩;rw[EG];revert hK;unfold rfK;split
    ·rintro⟨j,hj,he⟩
     exact⟨j,by rw[Kj fun _=>hj];exact he⟩
    ·exact .inl
    ·exact .inl
    exact id
   ·rw[EG];have h1:=Ki k x i hx;unfold adb at h1;split at h1
    ·rename_i tm RY;exact⟨tm,RY⟩
    exact h1.elim
   ·by_cases hv:xs.length≠0→ok xs.length i
    ·rw[Kj hv];exact .inl (hend i hv)
    rw[RX hv];exact .inr ⟨_,rfl⟩
   rintro e a' w' ⟨R',s',hK,g2⟩
   rcases hK with hK|⟨s0,rfl⟩
   ·exact⟨R',s',hK,g2⟩
   exact (WE g2).elim
 |.scope _,c,R,s,a,w,K,ro,hro,g,hok,h=>by simp[VC] at h
 |.label _,c,R,s,a,w,K,ro,hro,g,hok,h=>by simp[VC] at h
 |.goto _,c,R,s,a,w,K,ro,hro,g,hok,h=>by simp[VC] at h
 |.refuse _,c,R,s,a,w,K,ro,hro,g,hok,h=>by simp[VC] at h
def lits:List Nat:=[0,1,2,3,4,5,6,7,8,9,10,11,12,13,14,15]
def TR:List Nat→List PV→Option (List (Nat×AV))
 |_,[]=>some []
 |[],_::_=>none
 | k::ks,p::r=>match TR ks r with
   |some t=>some ((k,.pv p)::t)
   |none=>none
def adf (args:List PV)(K:AS→Prop):Prop:=
 match TR lits args with
 |some tm=>K ⟨tm,1000000000,[]⟩
 |none=>False
def Hg (T:Tab)(s:AS):List ResultVar→(List AV→Prop)→Prop
 |[],K=>K []
 | rv::r,K=>match rv with
   | .tmp t=>match lk s.tm t with
     |some v=>Hg T s r fun vs=>K (v::vs)
     |none=>False
   | .cell x t=>match lk s.tm x with
     | some v=>match Mf v with
       |true=>vz T s.hp t v fun u=>Hg T s r fun vs=>K (u::vs)
       |false=>False
     |none=>False
def WH (hp:List (Nat×aD))(vs:List AV)(Q:PV→Prop):Prop:=
 match vs with
 | [v]=>match vw hp v with
   |some p=>Q p
   |none=>False
 | _=>match IC hp vs with
   |some ps=>Q (.dn ps)
   |none=>False
def fnK (T:Tab)(rs:List ResultVar)(Q:PV→Prop)(e:Exit)(s:AS):Prop:=
 match e with
 |.normal=>Hg T s rs fun vs=>WH s.hp vs Q
 |.ret=>Hg T s rs fun vs=>WH s.hp vs Q
 |_=>False
def PO (P:Program)(tmps:Array Value):ResultVar→Sem Value
 |.tmp t=>pure (tmps.getD t undef)
 |.cell a t=>do loadVar t (←asAddr (tmps.getD a undef))
theorem sN {c:Ctx}{R:Real}{s:AS}{a:Act}{w:World}(g:bD c R s a w)(hT:bP P T):∀(rs:List ResultVar) {K:List AV→Prop},Hg T s rs K →
  ∃vs us,(rs.mapM (PO P a.tmps)).run P w=.ok us w∧K vs∧FL (aj (aU c R s.hp) w s.hp R) vs us
 |[],K,h=>⟨[],[],by simp,h,rfl⟩
 | rv::r,K,h=>by
   simp only[Hg] at h;split at h
   ·rename_i t;split at h;rotate_left;exact h.elim
    rename_i v hv;obtain⟨vs,us,h1,h2,h3⟩:=sN g hT r h;obtain⟨x,hx,hr⟩:=g.slots t v hv;refine⟨v::vs,x::us,?_,h2,⟨x,us,rfl,hr,h3⟩⟩;simp[List.mapM_cons,PO,h1,hx]
   rename_i x t;split at h;rotate_left;exact h.elim
   rename_i v hv;split at h;rotate_left;exact h.elim
   rename_i hp';obtain⟨xv,hx,hr⟩:=g.slots x v hv;obtain⟨y,z,h1,h2,h3⟩:=vB g hT (fun b box hb=>hb) h hr;obtain⟨vs,us,h4,h5,h6⟩:=sN g hT r h2;obtain⟨ad,rfl⟩:=zS hp' hr;refine⟨z::vs,y::us,?_,h5,⟨y,us,rfl,h3,h6⟩⟩;have h7:(loadVar t ad).run P w=.ok y w:=by simpa[Instr.loadAt,Instr.sureAddr] using h1
   simp[List.mapM_cons,PO,hx,asAddr,h7,h4]
theorem PS {c:Ctx}{R:Real}{s:AS}{a:Act}{w:World}(g:bD c R s a w){vs:List AV}{us:List Value}{Q:PV→Prop}(h:WH s.hp vs Q)
  (hv:FL (aj (aU c R s.hp) w s.hp R) vs us):∃r v,(if hu:us.toArray.size=1 then us.toArray[0] else .tuple us.toArray)=v∧Q r∧bG c.F w r v:=by
 have hN:∀r,c.F r→aU c R s.hp r:=fun r h=>.inl h
 have h2:∀b,∀r,aN R b r (lk s.hp b)→¬c.F r:=fun b r ho=>g.free r ⟨b,ho⟩
 have hl:=hv.length;unfold WH at h;split at h
 ·rename_i v;obtain⟨u,r,rfl,hu,hr⟩:=hv;simp only[FL] at hr;subst hr;split at h
  ·rename_i p hp;refine⟨p,u,by simp,h,ru g (fun b box hb=>hb) hN v p u (fun b _=>h2 b) hp hu⟩
  exact h.elim
 rename_i hne;split at h;rotate_left;exact h.elim
 rename_i ps hps;have hsz:us.toArray.size≠1:=by
  intro e;simp only[List.size_toArray] at e;rw[e] at hl;match vs with
  |[v]=>exact hne v rfl
  |[]=>simp at hl
  |_::_::_=>simp at hl
 refine⟨.dn ps,.tuple us.toArray,by rw[dif_neg hsz],h,?_⟩;simp only[bG];refine⟨us.toArray,rfl,?_⟩;exact iF g (fun b box hb=>hb) hN vs ps _ (fun b _=>h2 b) hps (by rw[eZ];exact hv)
theorem RZ:∀(ks:List Nat) (k:Nat) (args:List PV) (tm:List (Nat×AV)) (t:Nat) (v:AV),(∀i x,ks[i]? = some x→x=k+i)→TR ks args=some tm→lk tm t=some v →
  k≤t∧∃p,args[t-k]? = some p∧v=.pv p
 |ks,k,[],tm,t,v,_,hn,h=>by cases ks<;>simp only[TR,Option.some.injEq] at hn<;>subst hn<;>simp[lk] at h
 |[],k,p::r,tm,t,v,_,hn,h=>by simp[TR] at hn
 | k'::ks,k,p::r,tm,t,v,hk,hn,h=>by
   simp only[TR] at hn;split at hn
   ·rename_i tm' RY;simp only[Option.some.injEq] at hn;subst hn;have hk0:k'=k:=by simpa using hk 0 k' rfl
    subst hk0;rw[aB] at h;split at h
    ·rename_i e;simp only[Option.some.injEq] at h;subst e;subst h;exact⟨Nat.le_refl _,p,by simp,rfl⟩
    rename_i e;obtain⟨h1,q,h2,h3⟩:=RZ ks (k'+1) r tm' t v (fun i x hx=>by have:=hk (i+1) x (by simpa using hx);omega) RY h;refine⟨by omega,q,?_,h3⟩;rw[show t-k'=(t-(k'+1))+1 from by omega,List.getElem?_cons_succ];exact h2
   cases hn
theorem R4:∀i x,lits[i]? = some x→x=0+i:=by
 intro i x h;rcases i with _|_|_|_|_|_|_|_|_|_|_|_|_|_|_|_|i<;>simp[lits] at h<;>omega
def codeOf (fn:Func):Code:=
 match fn.body with
 |some c=>c
 |none=>.skip
structure Mg (P:Program)(f:FuncId)(fn:Func):Prop where
 func:P.funcs[f]? = some fn
 body:fn.body.isSome=true
 name:(fn.name == "runtime.NumGoroutine")=false
 ok:codeOk fn.ntmps (codeOf fn)=true
theorem yT {c:Ctx}{R:Real}{s:AS}(hwl:c.w.heap.size≤c.lo)(WI:∀r o,c.fix r=some o→r<c.lo){fn:Func}{Rr:Ending→World→Prop}:∀(Ds:List Nat) (a:Act) (w:World),bD c R s a w→Marks c.lo (owned R s.hp) w a.defers Ds →
  ∃w',w.heap.size≤w'.heap.size∧bD c R s { a with defers:=[] } w'∧(LeavesIn Fence.wide 0 P fn a.tmps Rr [] .returning w'→LeavesInM Fence.wide 0 P fn a.tmps Rr a.defers .returning w)
 | [],a,w,g,mk=>by
   have e:a.defers=[]:=by simpa using mk.eq
   have ea:({ a with defers:=[] }:Act)=a:=by cases a;simp only at e;subst e;rfl
   refine⟨w,Nat.le_refl _,by rw[ea];exact g,fun h=>by rw[e];exact h⟩
 | D::Ds,a,w,g,mk=>by
   have e:a.defers=mark D::Ds.map mark:=by simpa using mk.eq
   have hD:=mk.obj D (by simp);have ak9:=mk.low D (by simp);have hDf:=mk.free D (by simp);have hnd:=List.nodup_cons.1 mk.nodup;let a1:Act:={ a with defers:=Ds.map mark }
   have mk1:Marks c.lo (owned R s.hp) (w.putObj D (.deferred none)) a1.defers Ds:=by
    refine⟨fun d hd=>mk.low d (by simp[hd]),rfl,hnd.2,fun d hd=>?_,fun d hd=>mk.free d (by simp[hd])⟩;rw[World.putObj_heap_other (fun (e:d=D)=>hnd.1 (by rw[←e];exact hd))];exact mk.obj d (by simp[hd])
   have g1:bD c R s a1 (w.putObj D (.deferred none)):=by
    refine g.sO (c2:=c) rfl rfl (fun v y h=>g.kept v y h) (fun r _ h=>h) (fun r o ho hc _=>?_) (by simp) ⟨rfl,rfl,rfl⟩ g.free ?_ ?_ g.iN ⟨rfl,g.lo.2.1,by rw[World.putObj_size];exact g.lo.2.2⟩ ⟨Ds,mk1⟩
    ·rw[World.putObj_heap_other]
     ·exact ho
     rintro rfl
     rcases hc with h|h|h
     ·have:=g.lo.2.1;omega
     ·rw[hD] at ho;simp only[Option.some.injEq] at ho;rw[←ho] at h;cases h
     exact hDf h
    ·refine⟨fun r o h=>?_,g.fixed.free,g.fixed.nc⟩;have:=WI r o h;rw[World.putObj_heap_other (by omega)];exact g.fixed.obj r o h
    exact g.jE.trans (O':=fun r=>r=D) ⟨by simp,fun r _ hn=>World.putObj_heap_other hn,rfl,rfl,rfl⟩ fun r hr h=>by omega
   obtain⟨w2,hsz,g2,hl⟩:=yT hwl WI Ds a1 _ g1 mk1;refine⟨w2,Nat.le_trans (by simp) hsz,g2,fun h=>?_⟩;rw[e];refine⟨by simp,.inl ⟨D,_,rfl,run_takeDeferred hD,hl h⟩⟩
theorem WJ (hT:bP P T)(lV:∀(c:Ctx) (R:Real) (s:AS) (a:Act) (w:World) (id:Nat) (ops:Array Oper) (K:Exit→AS→Prop) (ro:Option Nat),bD c R s a w→qg c.n ops.toList=true →
  VC P T (.region id ops true) s K→(Code.region id ops true).wpIn (W1 ro) 0 P (fun e a' w'=>∃R' s',K e s'∧bD c R' s' a' w') a w)
  {f:FuncId} {fn:Func} (hf:Mg P f fn) {args:List PV} (hl:Nat.ble args.length fn.ntmps=true) {Q:PV→Prop}
  (h:adf args fun s=>VC P T (codeOf fn) s (fnK T fn.results.toList Q)):PC P f args Q:=by
 unfold adf at h;split at h
 case h_2=>exact h.elim
 rename_i tm0 adg;refine⟨⟨fn,hf.func,hf.body,hf.name⟩,fun F w dw hF hargs=>?_⟩;have hbody:fn.body=some (codeOf fn):=by
  have:=hf.body;unfold codeOf;cases hb:fn.body with
  |none=>rw[hb] at this;cases this
  |some c=>rfl
 have hl:=Nat.le_of_ble_eq_true hl;rw[jG] at hargs;have hcl:dw.size=args.length:=by have:=hargs.length;simpa using this
 let c:Ctx:={ F:=F,O:=fun _=>False,w:=w,n:=fn.ntmps,hF:=hF,K:=fun _ _=>False,hK:=fun _ _ h=>h.elim,fix:=fun _=>none,n0:=(0,fun _ _ _ _ _=>False),lo:=w.heap.size }
 let R:Real:=⟨fun _=>0,fun _=>true,fun _=>(0,[]),⟨fun _=>False,fun _=>False,w,(0,fun _ _ _ _ _=>False)⟩⟩
 have hno:∀r,¬owned R [] r:=by rintro r ⟨b,hb⟩;exact hb
 have hNF:∀r,aU c R [] r→F r:=fun r h=>h.resolve_right (hno r)
 refine callsIn_wide.1 (callsIn_of_wp_marks (n:=0) hf.func hbody trivial ?_);have g:bD c R ⟨tm0,1000000000,[]⟩ { tmps:=dw++Array.replicate (fn.ntmps-dw.size) undef,defers:=[] } w:=by
  refine⟨?_,?_,⟨rfl,Nat.zero_le _,Nat.le_refl _⟩,⟨[],Marks.nil⟩,uV.none,?_,?_,?_,nR.refl _ _,?_,fun _ _ h=>h.elim⟩
  ·intro t v hv;obtain⟨_,p,hp,rfl⟩:=RZ lits 0 args tm0 t v R4 adg hv;obtain⟨x,hx,hr⟩:=hargs.get hp;have hx':dw[t]? = some x:=by simpa using hx
   refine⟨x,?_,?_⟩
   ·have:=size_of_getElem? hx';simp only;rw[Array.getElem?_append_left this];exact hx'
   simp only[aj];exact dA (fun r _ h=>hNF r h) (fun _ _ _=>rfl) _ _ hr
  ·show (dw++Array.replicate (fn.ntmps-dw.size) undef).size=fn.ntmps
   simp;omega
  ·intro b box hb;simp[lk] at hb
  ·intro b b' r hb;exact hb.elim
  ·rintro r ⟨b,hb⟩;exact hb.elim
  rintro r ⟨b,hb⟩;exact hb.elim
 refine Go.wpIn_mono (gH (ro:=none) hT lV (codeOf fn) ⟨fun _ h=>(by cases h),fun _ _ h=>(by cases h)⟩ g hf.ok h) ?_;rintro e a' w0' ⟨R',s',hK,g0'⟩
 obtain⟨Ds,mkD⟩:=g0'.marks;obtain⟨w',aib,g',hleave⟩:=yT (P:=P) (fn:=fn) (Rr:=fun e w'=>∃v r,e=.returned v∧Q r∧bG F w' r v∧Same w w') (Nat.le_refl _) (fun _ _ h=>(by cases h)) Ds a' w0' g0' mkD;have fin:(Hg T s' fn.results.toList fun vs=>WH s'.hp vs Q)→LeavesInM Fence.wide 0 P fn a'.tmps (fun e w'=>∃v r,e=.returned v∧Q r∧bG F w' r v∧Same w w') a'.defers .returning w0':=by
  intro hK;refine hleave ?_;obtain⟨vs,us,h1,h2,h3⟩:=sN g' hT _ hK;obtain⟨r,v,h4,h5,h6⟩:=PS g' h2 h3;refine⟨v,?_,v,r,rfl,h5,h6,g'.jE⟩;have hres:results fn a'.tmps=(fn.results.mapM (PO P a'.tmps) >>= fun vs=>pure (if h:vs.size=1 then vs[0] else .tuple vs)):=by
   unfold results;congr 2
  have hm:(fn.results.mapM (PO P a'.tmps)).run P w'=.ok us.toArray w':=by
   rw[Array.mapM_eq_mapM_toList,Sem.run_map,h1];rfl
  rw[hres];simp only[Sem.run_bind,hm,Result.andThen_ok,Sem.run_pure];exact congrArg (fun x=>Result.ok x w') h4
 cases e with
 |normal=>exact fin hK
 |ret=>exact fin hK
 |exit i=>exact hK.elim
 |goto l=>exact hK.elim
 |panic ch=>exact hK.elim
 |outgrown=>exact hK.elim
def IL:List Nat→List AV→Option (List (Nat×AV))
 |_,[]=>some []
 |[],_::_=>none
 | k::ks,p::r=>match IL ks r with
   |some t=>some ((k,p)::t)
   |none=>none
def adh (args:List AV)(hp:List (Nat×aD))(K:AS→Prop):Prop:=
 match IL lits args with
 |some tm=>K ⟨tm,1000000000,hp⟩
 |none=>False
def acg (vs:List AV):AV:=
 match jf vs with
 |some ps=>.pv (.dn ps)
 |none=>.dn vs
def WK (hp:List (Nat×aD))(vs:List AV)(Q:AV→List (Nat×aD)→Prop):Prop:=
 match vs with
 |[v]=>PU hp v Q
 | _=>match acg vs with
   |v=>PU hp v Q
def fnG (T:Tab)(rs:List ResultVar)(Q:AV→List (Nat×aD)→Prop)(e:Exit)(s:AS):Prop:=
 match e with
 |.normal=>Hg T s rs fun vs=>WK s.hp vs Q
 |.ret=>Hg T s rs fun vs=>WK s.hp vs Q
 |_=>False
theorem Mh:∀(ks:List Nat) (k:Nat) (args:List AV) (tm:List (Nat×AV)) (t:Nat) (v:AV),(∀i x,ks[i]? = some x→x=k+i)→IL ks args=some tm→lk tm t=some v →
  k≤t∧args[t-k]? = some v
 |ks,k,[],tm,t,v,_,hn,h=>by cases ks<;>simp only[IL,Option.some.injEq] at hn<;>subst hn<;>simp[lk] at h
 |[],k,p::r,tm,t,v,_,hn,h=>by simp[IL] at hn
 | k'::ks,k,p::r,tm,t,v,hk,hn,h=>by
   simp only[IL] at hn;split at hn
   ·rename_i tm' RY;simp only[Option.some.injEq] at hn;subst hn;have hk0:k'=k:=by simpa using hk 0 k' rfl
    subst hk0;rw[aB] at h;split at h
    ·rename_i e;simp only[Option.some.injEq] at h;subst e;subst h;exact⟨Nat.le_refl _,by simp⟩
    rename_i e;obtain⟨h1,h2⟩:=Mh ks (k'+1) r tm' t v (fun i x hx=>by have:=hk (i+1) x (by simpa using hx);omega) RY h;refine⟨by omega,?_⟩;rw[show t-k'=(t-(k'+1))+1 from by omega,List.getElem?_cons_succ];exact h2
   cases hn
theorem PW {c:Ctx}{R:Real}{hp:List (Nat×aD)}{w:World}(g:GK c R hp w){vs:List AV}{us:List Value}{Q:AV→List (Nat×aD)→Prop}(h:WK hp vs Q)
  (hv:FL (aj (aU c R hp) w hp R) vs us):∃r hp' R',Q r hp'∧GK c R' hp' w∧aj (aU c R' hp') w hp' R' r (if hu:us.toArray.size=1 then us.toArray[0] else .tuple us.toArray):=by
 have hl:=hv.length;unfold WK at h;split at h
 ·rename_i v;obtain⟨u,r,rfl,hu,hr⟩:=hv;simp only[FL] at hr;subst hr;exact mM h g (by simpa using hu)
 rename_i hne;have hsz:us.toArray.size≠1:=by
  intro e;simp only[List.size_toArray] at e;rw[e] at hl;match vs with
  |[v]=>exact hne v rfl
  |[]=>simp at hl
  |_::_::_=>simp at hl
 rw[dif_neg hsz];refine mM h g ?_;have hv':=(eZ _ _ _ _ _ _).2 hv;unfold acg;split
 ·rename_i ps hps;have:=Bu hps;subst this;simp only[aj,bG];exact⟨us.toArray,rfl,vg _ _ hv'⟩
 simp only[aj];exact⟨us.toArray,rfl,hv'⟩
theorem zU (hT:bP P T)(lV:∀(c:Ctx) (R:Real) (s:AS) (a:Act) (w:World) (id:Nat) (ops:Array Oper) (K:Exit→AS→Prop) (ro:Option Nat),bD c R s a w→qg c.n ops.toList=true →
  VC P T (.region id ops true) s K→(Code.region id ops true).wpIn (W1 ro) 0 P (fun e a' w'=>∃R' s',K e s'∧bD c R' s' a' w') a w)
  {f:FuncId} {fn:Func} (hf:Mg P f fn) {args:List AV} {hp:List (Nat×aD)} (hl:Nat.ble args.length fn.ntmps=true) {Q:AV→List (Nat×aD)→Prop}
  (h:adh args hp fun s=>VC P T (codeOf fn) s (fnG T fn.results.toList Q)):GC P f args hp Q:=by
 unfold adh at h;split at h
 case h_2=>exact h.elim
 rename_i tm0 adg;refine⟨⟨fn,hf.func,hf.body,hf.name⟩,fun c R w dw hh hargs=>?_⟩;have hbody:fn.body=some (codeOf fn):=by
  have:=hf.body;unfold codeOf;cases hb:fn.body with
  |none=>rw[hb] at this;cases this
  |some c=>rfl
 have hl:=Nat.le_of_ble_eq_true hl;rw[eZ] at hargs;have hcl:dw.size=args.length:=by have:=hargs.length;simpa using this
 let c':Ctx:={ c with n:=fn.ntmps,lo:=w.heap.size }
 have O9:GK c' R hp w:=⟨hh.boxes,hh.inj,hh.free,hh.jE,hh.iN,hh.kept,hh.fixed,⟨hh.lo.1,Nat.le_trans hh.lo.2.1 hh.lo.2.2,Nat.le_refl _⟩⟩;refine callsIn_wide.1 (callsIn_of_wp_marks (n:=0) hf.func hbody trivial ?_);have g:bD c' R ⟨tm0,1000000000,hp⟩ { tmps:=dw++Array.replicate (fn.ntmps-dw.size) undef,defers:=[] } w:=by
  refine O9.WL ?_ ?_ ⟨[],Marks.nil⟩
  ·intro t v hv;obtain⟨_,hp⟩:=Mh lits 0 args tm0 t v R4 adg hv;obtain⟨x,hx,hr⟩:=hargs.get hp;have hx':dw[t]? = some x:=by simpa using hx
   refine⟨x,?_,hr⟩;have:=size_of_getElem? hx';simp only;rw[Array.getElem?_append_left this];exact hx'
  show (dw++Array.replicate (fn.ntmps-dw.size) undef).size=fn.ntmps
  simp;omega
 refine Go.wpIn_mono (gH (c:=c') (ro:=none) hT lV (codeOf fn) ⟨fun _ h=>(by cases h),hh.fixed.nc⟩ g hf.ok h) ?_;rintro e a' w0' ⟨R',s',hK,g0'⟩
 obtain⟨Ds,mkD⟩:=g0'.marks;obtain⟨w',aib,g',hleave⟩:=yT (c:=c') (P:=P) (fn:=fn) (Rr:=fun e w'=>∃v r hp' R',e=.returned v∧Q r hp'∧GK c R' hp' w'∧aj (aU c R' hp') w' hp' R' r v) hh.jE.size (fun r o h=>size_of_getElem? (hh.fixed.obj r o h)) Ds a' w0' g0' mkD;have fin:(Hg T s' fn.results.toList fun vs=>WK s'.hp vs Q)→LeavesInM Fence.wide 0 P fn a'.tmps (fun e w'=>∃v r hp' R',e=.returned v∧Q r hp'∧GK c R' hp' w'∧aj (aU c R' hp') w' hp' R' r v) a'.defers .returning w0':=by
  intro hK;refine hleave ?_;obtain⟨vs,us,h1,h2,h3⟩:=sN g' hT _ hK;obtain⟨r,hp',R2,h4,h5,h6⟩:=PW g'.hap h2 h3;refine⟨_,?_,_,r,hp',R2,rfl,h4,⟨h5.boxes,h5.inj,h5.free,h5.jE,h5.iN,h5.kept,h5.fixed,⟨h5.lo.1,hh.lo.2.1,?_⟩⟩,h6⟩;rotate_left
  ·have h1:w.heap.size≤w'.heap.size:=h5.lo.2.2;exact Nat.le_trans hh.lo.2.2 h1
  have hres:results fn a'.tmps=(fn.results.mapM (PO P a'.tmps) >>= fun vs=>pure (if h:vs.size=1 then vs[0] else .tuple vs)):=by
   unfold results;congr 2
  have hm:(fn.results.mapM (PO P a'.tmps)).run P w'=.ok us.toArray w':=by
   rw[Array.mapM_eq_mapM_toList,Sem.run_map,h1];rfl
  rw[hres];simp only[Sem.run_bind,hm,Result.andThen_ok,Sem.run_pure]
 cases e with
 |normal=>exact fin hK
 |ret=>exact fin hK
 |exit i=>exact hK.elim
 |goto l=>exact hK.elim
 |panic ch=>exact hK.elim
 |outgrown=>exact hK.elim
end
mutual
def flatK (P:Program):Nat→TypeId→Option (List EK)
 |0,_=>none
 | d+1,t=>match P.underlying t with
   |some .bool=>some [.bool]
   |some (.int k)=>some [.int k]
   |some .string=>some [.str]
   | some (.struct fs)=>match P.stoodInHeld t with
     |true=>none
     |false=>yU P d fs.toList 0
   |_=>none
def yU (P:Program):Nat→List Field→Nat→Option (List EK)
 |_,[],_=>some []
 |0,_::_,_=>none
 | d+1,f::fs,off=>match f.name == "_",Nat.beq f.offset off with
   | false,true=>match flatK P d f.type with
     | some a=>match Nat.beq (P.cellsOf f.type) a.length,Nat.beq a.length 0 with
       | true,false=>match yU P d fs (off+a.length) with
         |some b=>some (a++b)
         |none=>none
       |_,_=>none
     |none=>none
   |_,_=>none
end
theorem oJ {k:EK}{ks:List EK}{x y:Value}{xs ys:List Value}{b:Bool}:lM (k::ks) (x::xs) (y::ys)=some b↔∃a c,eqV k x y=some a∧lM ks xs ys=some c∧b=(a&&c):=by
 simp only[lM];cases h:eqV k x y with
 |none=>simp
 | some a=>
   simp only[Option.some.injEq];cases ks with
   | nil=>
     cases xs<;>cases ys<;>simp[lM]
     constructor
     ·rintro rfl;rfl
     rintro rfl;rfl
   | cons k2 ks=>
     simp only;cases h2:lM (k2::ks) xs ys with
     |none=>simp
     | some c=>
       simp only[Option.some.injEq];constructor
       ·rintro rfl;exact⟨a,c,rfl,rfl,rfl⟩
       rintro⟨_,_,rfl,rfl,rfl⟩;rfl
theorem Mi:∀{ks:List EK} {xs ys:List Value} {b:Bool},lM ks xs ys=some b→xs.length=ks.length∧ys.length=ks.length
 |[],[],[],b,_=>⟨rfl,rfl⟩
 |[],[],_::_,b,h=>by simp[lM] at h
 |[],_::_,_,b,h=>by simp[lM] at h
 |k::ks,[],_,b,h=>by simp[lM] at h
 |k::ks,_::_,[],b,h=>by simp[lM] at h
 | k::ks,x::xs,y::ys,b,h=>by
   obtain⟨a,c,_,h2,_⟩:=oJ.1 h;have:=Mi h2;simp[this]
theorem Mj {xs ys:List Value}{b:Bool}(h:lM [] xs ys=some b):b=true:=by
 cases xs<;>cases ys<;>simp[lM] at h
 exact h
theorem CJ:∀{k1 k2:List EK} {xs ys:List Value} {b:Bool},lM (k1++k2) xs ys=some b →
  ∃a c,lM k1 (xs.take k1.length) (ys.take k1.length)=some a∧lM k2 (xs.drop k1.length) (ys.drop k1.length)=some c∧b=(a&&c)
 |[],k2,xs,ys,b,h=>⟨true,b,by simp[lM],by simpa using h,by simp⟩
 |k::k1,k2,[],ys,b,h=>by simp[lM] at h
 |k::k1,k2,x::xs,[],b,h=>by simp[lM] at h
 | k::k1,k2,x::xs,y::ys,b,h=>by
   rw[List.cons_append] at h;obtain⟨a,c,h1,h2,rfl⟩:=oJ.1 h;obtain⟨a',c',h3,h4,rfl⟩:=CJ h2;refine⟨a&&a',c',?_,by simpa using h4,by simp[Bool.and_assoc]⟩;simp only[List.length_cons,List.take_succ_cons];exact oJ.2 ⟨a,a',h1,h3,rfl⟩
section
variable {P:Program}
def afz (P:Program)(d:Nat):Prop:=∀(t:TypeId) (ks:List EK) (n:Nat) (w:World),flatK P d t=some ks→d≤n →
 (∀(x y:Value) (b:Bool),(match P.underlying t with|some (.struct _)=>False|_=>True)→lM ks [x] [y]=some b→(Op.equalIn n t x y).run P w=.ok b w) ∧
 (∀(xs ys:Array Value) (b:Bool),(match P.underlying t with|some (.struct _)=>True|_=>False)→lM ks xs.toList ys.toList=some b→(Op.equalIn n t (.agg xs) (.agg ys)).run P w=.ok b w)
theorem afA:∀(d:Nat),afz P d:=by
 intro d;induction d using Nat.strongRecOn with
 | _ d ih=>
   intro t ks n w h hn;cases d with
   |zero=>simp[flatK] at h
   | succ d=>
     obtain⟨m,rfl⟩:∃m,n=m+1:=⟨n-1,by omega⟩;simp only[flatK] at h;split at h
     ·rename_i hu;simp only[Option.some.injEq] at h;subst h;refine⟨fun x y b _ hb=>?_,fun xs ys b hs=>by rw[hu] at hs;exact hs.elim⟩;obtain⟨a,c,h1,h2,rfl⟩:=oJ.1 hb;simp only[lM,Option.some.injEq] at h2;subst h2;cases x<;>cases y<;>simp[eqV] at h1
      subst h1;simpa using run_equalIn_bool w m t _ _ hu
     ·rename_i k hu;simp only[Option.some.injEq] at h;subst h;refine⟨fun x y b _ hb=>?_,fun xs ys b hs=>by rw[hu] at hs;exact hs.elim⟩;obtain⟨a,c,h1,h2,rfl⟩:=oJ.1 hb;simp only[lM,Option.some.injEq] at h2;subst h2;cases x<;>cases y<;>simp only[eqV] at h1<;>try (cases h1;done)
      split at h1
      ·rename_i e1 e2;have e1:=of_decide_eq_true e1;have e2:=of_decide_eq_true e2;subst e1;subst e2;simp only[Option.some.injEq] at h1;subst h1;simpa using run_equalIn_int w m t _ _ _ _ hu
      cases h1
     ·rename_i hu;simp only[Option.some.injEq] at h;subst h;refine⟨fun x y b _ hb=>?_,fun xs ys b hs=>by rw[hu] at hs;exact hs.elim⟩;obtain⟨a,c,h1,h2,rfl⟩:=oJ.1 hb;simp only[lM,Option.some.injEq] at h2;subst h2;cases x<;>cases y<;>simp only[eqV] at h1<;>try (cases h1;done)
      simp only[Option.some.injEq] at h1;subst h1;simpa using run_equalIn_string w m t _ _ hu
     ·rename_i fs hu;split at h
      ·cases h
      rename_i hst;refine⟨fun x y b hs=>by rw[hu] at hs;exact hs.elim,fun xs ys b _ hb=>?_⟩;have hff:P.fieldsOf t=fs:=by simp[Program.fieldsOf,hu]
      rw[run_equalIn_struct w m t xs ys (by rw[hff];exact hu) hst,hff];have key:∀(d':Nat) (fl:List Field) (off:Nat) (ks:List EK) (b:Bool),d'≤d→yU P d' fl off=some ks→lM ks (xs.toList.drop off) (ys.toList.drop off)=some b →
        (Op.eqFields m xs ys fl).run P w=.ok b w:=by
       intro d';induction d' with
       | zero=>
         intro fl off ks b _ h hb;cases fl with
         | nil=>
           simp only[yU,Option.some.injEq] at h;subst h;have:=Mj hb;subst this;simp[Op.eqFields]
         |cons f fl=>simp[yU] at h
       | succ d' ih2=>
         intro fl off ks b hd' h hb;cases fl with
         | nil=>
           simp only[yU,Option.some.injEq] at h;subst h;have:=Mj hb;subst this;simp[Op.eqFields]
         | cons f fl=>
           simp only[yU] at h;split at h
           ·rename_i hnm hoff;have hoff:=Nat.eq_of_beq_eq_true hoff;split at h
            ·rename_i ka hka;split at h
             ·rename_i hsz hk0;have hsz:=Nat.eq_of_beq_eq_true hsz;have hk0:=Nat.ne_of_beq_eq_false hk0;split at h
              ·rename_i kb hkb;simp only[Option.some.injEq] at h;subst h;obtain⟨a1,a2,q1,q2,rfl⟩:=CJ hb;rw[List.drop_drop,List.drop_drop] at q2;have hrest:=ih2 fl (off+ka.length) kb a2 (by omega) hkb q2;obtain⟨e1,e2⟩:=ih d' (by omega) f.type ka m w hka (by omega);have hne:(f.name ≠ "_")=True:=by simp only[ne_eq,eq_iff_iff,iff_true];intro e;rw[e] at hnm;simp at hnm
               have hlen:=Mi q1;have lx:off+ka.length≤xs.size:=by have:=hlen.1;simp at this;omega
               have ly:off+ka.length≤ys.size:=by have:=hlen.2;simp at this;omega
               obtain⟨ii,hii⟩:∃ii,P.info? f.type=some ii:=by
                cases hii:P.info? f.type with
                |some ii=>exact⟨ii,rfl⟩
                | none=>
                  have hun:P.underlying f.type=none:=by unfold Program.underlying;rw[hii]
                  cases d'<;>simp[flatK,hun] at hka
               have hsize:ii.size=ka.length:=by rw[←hsz];simp[Program.cellsOf,hii]
               have hparts:∃x y,(Go.part f.type xs f.offset).run P w=.ok x w∧(Go.part f.type ys f.offset).run P w=.ok y w∧(Op.equalIn m f.type x y).run P w=.ok a1 w:=by
                cases hud:P.underlying f.type with
                |none=>cases d'<;>simp[flatK,hud] at hka
                | some dd=>
                  have plain:(match dd with|.struct _=>False|.array _ _=>False|_=>True)→ka.length=1→∃x y,(Go.part f.type xs f.offset).run P w=.ok x w∧(Go.part f.type ys f.offset).run P w=.ok y w ∧
                    (Op.equalIn m f.type x y).run P w=.ok a1 w:=by
                   intro hpl h1;have g1:xs[off]? = some xs[off]:=Array.getElem?_eq_getElem (by omega);have g2:ys[off]? = some ys[off]:=Array.getElem?_eq_getElem (by omega);refine⟨xs[off],ys[off],?_,?_,e1 _ _ a1 (by rw[hud];cases dd<;>first|trivial|exact hpl) ?_⟩
                   ·rw[hoff];cases dd<;>first|exact hpl.elim|simp[Go.part,isAgg,run_underlying hud,g1]
                   ·rw[hoff];cases dd<;>first|exact hpl.elim|simp[Go.part,isAgg,run_underlying hud,g2]
                   rw[h1] at q1;have t1:(xs.toList.drop off).take 1=[xs[off]]:=by
                    rw[List.drop_eq_getElem_cons (by simpa using (by omega:off<xs.size))];simp
                   have t2:(ys.toList.drop off).take 1=[ys[off]]:=by
                    rw[List.drop_eq_getElem_cons (by simpa using (by omega:off<ys.size))];simp
                   rw[t1,t2] at q1;exact q1
                  cases d' with
                  |zero=>simp[flatK] at hka
                  | succ d'=>
                    simp only[flatK,hud] at hka;cases dd<;>simp only at hka<;>try (cases hka;done)
                    ·simp only[Option.some.injEq] at hka;exact plain trivial (by rw[←hka];rfl)
                    ·simp only[Option.some.injEq] at hka;exact plain trivial (by rw[←hka];rfl)
                    ·simp only[Option.some.injEq] at hka;exact plain trivial (by rw[←hka];rfl)
                    refine⟨.agg (xs.extract off (off+ii.size)),.agg (ys.extract off (off+ii.size)),?_,?_,e2 _ _ a1 (by rw[hud];trivial) ?_⟩
                    ·rw[hoff];simp[Go.part,isAgg,run_underlying hud,sizeOf,typeInfo,hii]
                    ·rw[hoff];simp[Go.part,isAgg,run_underlying hud,sizeOf,typeInfo,hii]
                    have f1:(xs.extract off (off+ii.size)).toList=(xs.toList.drop off).take ka.length:=by simp[Array.toList_extract,List.extract,hsize]
                    have f2:(ys.extract off (off+ii.size)).toList=(ys.toList.drop off).take ka.length:=by simp[Array.toList_extract,List.extract,hsize]
                    rw[f1,f2];exact q1
               obtain⟨x,y,p1,p2,p3⟩:=hparts;simp only[Op.eqFields,hne,if_true,Sem.run_bind,p1,p2,p3,Result.andThen_ok];cases a1 with
               |false=>simp
               |true=>simpa using hrest
              cases h
             cases h
            cases h
           cases h
      exact key d fs.toList 0 ks b (Nat.le_refl _) h (by simpa using hb)
     cases h
theorem jS {t:TypeId}{ks:List EK}(h:flatK P 20 t=some ks)(hs:(match P.underlying t with|some (.struct _)=>true|_=>false)=true):afC P t ks:=by
 intro w xs ys b hb;refine (afA 20 t ks 10000 w h (by omega)).2 xs ys b ?_ hb;cases hu:P.underlying t with
 |none=>rw[hu] at hs;cases hs
 |some d=>rw[hu] at hs;cases d<;>first|trivial|cases hs
end
end Go.AX
namespace Go.AX
theorem WM {α:Type}:∀{l:List (Nat×α)} {t:Nat} {v:α},lk l t=some v→(t,v)∈l
 |[],t,v,h=>by simp[lk] at h
 | (k,u)::r,t,v,h=>by
   rw[aB] at h;split at h
   ·rename_i e;simp only[Option.some.injEq] at h;subst e;subst h;exact List.mem_cons_self
   exact List.mem_cons_of_mem _ (WM h)
theorem Hq {P:Program}{T:Tab}(h:∀x∈T,bY P x.1 x.2):bP P T:=fun t i hl=>h (t,i) (WM hl)
def iW {α:Type}(m:(α→Prop)→Prop):Prop:=∀K,m K→∃x,K x∧∀K',K' x→m K'
theorem bB {α:Type}(x:α):iW fun K=>K x:=fun K h=>⟨x,h,fun _ h=>h⟩
theorem oK {α:Type}:iW fun (_:α→Prop)=>False:=fun _ h=>h.elim
theorem aP {α:Type}{p:Prop}{m:(α→Prop)→Prop}(h:p→iW m):iW fun K=>p∧m K:=fun K ⟨hp,hm⟩=>
 let ⟨x,h1,h2⟩:=h hp K hm;⟨x,h1,fun K' h'=>⟨hp,h2 K' h'⟩⟩
theorem mO {α β:Type}{m:β→(α→Prop)→Prop}(h:∀b,iW (m b)):iW fun K=>∃b,m b K:=fun K ⟨b,hm⟩=>
 let ⟨x,h1,h2⟩:=h b K hm;⟨x,h1,fun K' h'=>⟨b,h2 K' h'⟩⟩
theorem Kk {α β:Type}{m:(α→Prop)→Prop}(f:α→β)(h:iW m):iW fun K=>m fun x=>K (f x):=fun K hm=>
 let ⟨x,h1,h2⟩:=h _ hm;⟨f x,h1,fun K' h'=>h2 _ h'⟩
theorem Z5 {α:Type}{m:(α→Prop)→Prop}{o h':Option Int}{n:Nat}(h:iW m):iW fun K=>inF o h' n (m K):=by
 intro K hm;cases o with
 | none=>
   obtain⟨x,h1,h2⟩:=h K (by simpa only[inF] using hm);exact⟨x,h1,fun K' h'=>by simpa only[inF] using h2 K' h'⟩
 | some i=>
   obtain⟨a,b,hm⟩:=(by simpa only[inF] using hm:h'=some i∧0<n∧m K);obtain⟨x,h1,h2⟩:=h K hm;exact⟨x,h1,fun K' h'=>by simpa only[inF] using ⟨a,b,h2 K' h'⟩⟩
theorem o8 {α:Type}{m:(α→Prop)→Prop}{lo:Int}{o:Option Int}{hi:Int}(h:iW m):iW fun K=>Pb lo o hi (m K):=by
 intro K hm;cases o with
 | none=>
   obtain⟨x,h1,h2⟩:=h K (by simpa only[Pb] using hm);exact⟨x,h1,fun K' h'=>by simpa only[Pb] using h2 K' h'⟩
 | some i=>
   obtain⟨a,b,hm⟩:=(by simpa only[Pb] using hm:lo≤i∧i≤hi∧m K);obtain⟨x,h1,h2⟩:=h K hm;exact⟨x,h1,fun K' h'=>by simpa only[Pb] using ⟨a,b,h2 K' h'⟩⟩
theorem WN (op:BinOp)(k:IntKind)(a b:Int):iW (TS op k a b):=by
 unfold TS;cases op<;>first|exact bB _|exact oK|exact aP fun _=>bB _
theorem WQ (op:BinOp)(a b:ByteArray):iW (WR op a b):=by
 unfold WR;cases op<;>first|exact bB _|exact oK|exact aP fun _=>bB _
theorem R6 (op:BinOp)(b:Bool):iW (RO op b):=by
 unfold RO;cases op<;>first|exact bB _|exact oK
theorem bM {α:Type}{m:(α→Prop)→Prop}{K:α→Prop}{x:α}(h:K x)(hm:∀K',K' x→m K'):∃x,K x∧∀K',K' x→m K':=⟨x,h,hm⟩
theorem aJ {α:Type}{m m':(α→Prop)→Prop}{K:α→Prop}(hd:iW m)(h:m K)(hm:∀K',m K'→m' K'):∃x,K x∧∀K',K' x→m' K':=
 let ⟨x,h1,h2⟩:=hd K h;⟨x,h1,fun K' h'=>hm K' (h2 K' h')⟩
theorem WS (i:TI)(op:BinOp)(x y:AV):iW (PX i op x y):=by
 intro K h;unfold PX at h;repeat' split at h
 all_goals first
  |exact h.elim
  |exact bM h fun K' h'=>by unfold PX;simp only[*]<;>first|exact h'|simp
  |exact aJ (R6 _ _) h fun K' h'=>by unfold PX;simp only[*]<;>first|exact h'|simp
theorem PY (op:BinOp)(k:IntKind)(a b:Int):iW (Bv op k a b):=by
 intro K h;unfold Bv at h;split at h
 ·exact⟨_,h.2,fun K' h'=>by unfold Bv;exact⟨h.1,h'⟩⟩
 ·exact⟨_,h.2,fun K' h'=>by unfold Bv;exact⟨h.1,h'⟩⟩
 exact h.elim
theorem WT (T:Tab)(op:BinOp)(t:TypeId)(x y:AV):iW (GV T op t x y):=by
 intro K h;unfold GV at h;repeat' split at h
 all_goals first
  |exact h.elim
  |exact bM h fun K' h'=>by unfold GV;simp only[*]<;>first|exact h'|simp
  |exact aJ (PY _ _ _ _) h fun K' h'=>by unfold GV;simp only[*]<;>first|exact h'|simp
  |exact aJ (WN _ _ _ _) h fun K' h'=>by unfold GV;simp only[*]<;>first|exact h'|simp
  |exact aJ (WQ _ _ _) h fun K' h'=>by unfold GV;simp only[*]<;>first|exact h'|simp
  |exact aJ (WS _ _ _ _) h fun K' h'=>by unfold GV;simp only[*]<;>first|exact h'|simp
theorem TT (T:Tab)(H:List (Nat×aD))(op:BinOp)(t:TypeId)(x y:AV):iW (EA T H op t x y):=by
 intro K h;unfold EA at h;repeat' split at h
 all_goals first
  |exact h.elim
  |exact aJ (R6 _ _) h fun K' h'=>by unfold EA;simp only[*]<;>first|exact h'|simp
  |exact aJ (WT _ _ _ _ _) h fun K' h'=>by unfold EA;simp only[*]<;>first|exact h'|simp
theorem vC (i:TI)(cs:List AV):iW (sP i cs):=by
 intro K h;unfold sP at h;repeat' split at h
 all_goals first
  |exact h.elim
  |exact bM h fun K' h'=>by unfold sP;simp only[*]<;>first|exact h'|simp
theorem EH (i:TI)(cs:List PV):iW (zV i cs):=by
 intro K h;unfold zV at h;repeat' split at h
 all_goals first
  |exact h.elim
  |exact bM h fun K' h'=>by unfold zV;simp only[*]<;>first|exact h'|simp
theorem WU (off:Nat)(i:TI)(row:List PV):iW fun K=>match part off i.size row with
  |some cs=>zV i cs K
  |none=>False:=by
 cases h:part off i.size row with
 |some cs=>exact EH i cs
 |none=>exact oK
theorem Z6 (off:Nat)(row cs:List PV)(F:List PV→AV×List (Nat×aD)):iW fun K=>match jR off row cs with
  |some row'=>K (F row')
  |none=>False:=by
 cases h:jR off row cs with
 |some cs=>exact bB _
 |none=>exact oK
theorem TU (T:Tab)(H:List (Nat×aD))(t:TypeId)(x:AV):iW (vz T H t x):=by
 intro K h;unfold vz at h;repeat' split at h
 all_goals first
  |exact h.elim
  |exact bM h fun K' h'=>by unfold vz;simp only[*]<;>first|exact h'|simp
  |exact aJ (vC _ _) h fun K' h'=>by unfold vz;simp only[*]<;>first|exact h'|simp
  |exact aJ (mO fun _=>aP fun _=>WU _ _ _) h fun K' h'=>by unfold vz;simp only[*]<;>first|exact h'|simp
  |exact aJ (EH _ _) h fun K' h'=>by unfold vz;simp only[*]<;>first|exact h'|simp
theorem EI (T:Tab)(H:List (Nat×aD))(t:TypeId)(x:AV)(f:Nat):iW (mI T H t x f):=by
 intro K h;unfold mI at h;repeat' split at h
 all_goals first
  |exact h.elim
  |exact bM h fun K' h'=>by unfold mI;simp only[*]<;>first|exact h'|simp
theorem WV (T:Tab)(t:TypeId)(x:AV)(f:Nat):iW (LY T t x f):=by
 intro K h;unfold LY at h;repeat' split at h
 all_goals first
  |exact h.elim
  |exact bM h fun K' h'=>by unfold LY;simp only[*]<;>first|exact h'|simp
  |exact aJ (vC _ _) h fun K' h'=>by unfold LY;simp only[*]<;>first|exact h'|simp
  |exact aJ (EH _ _) h fun K' h'=>by unfold LY;simp only[*]<;>first|exact h'|simp
theorem EJ (T:Tab)(H:List (Nat×aD))(t:TypeId)(x ix:AV):iW (dP T H t x ix):=by
 intro K h;unfold dP at h;repeat' split at h
 all_goals first
  |exact h.elim
  |exact bM h fun K' h'=>by unfold dP;simp only[*]<;>first|exact h'|simp
  |exact aJ (aP fun _=>bB _) h fun K' h'=>by unfold dP;simp only[*]<;>first|exact h'|simp
  |exact aJ (aP fun _=>aP fun _=>bB _) h fun K' h'=>by unfold dP;simp only[*]<;>first|exact h'|simp
  |exact aJ (mO fun _=>aP fun _=>bB _) h fun K' h'=>by unfold dP;simp only[*]<;>first|exact h'|simp
  |exact aJ (aP fun _=>mO fun _=>aP fun _=>bB _) h fun K' h'=>by unfold dP;simp only[*]<;>first|exact h'|simp
  |exact aJ (aP fun _=>aP fun _=>aP fun _=>aP fun _=>bB _) h fun K' h'=>by unfold dP;simp only[*]<;>first|exact h'|simp
theorem PZ (T:Tab)(t:TypeId)(x ix:AV):iW (pq T t x ix):=by
 intro K h;unfold pq at h;repeat' split at h
 all_goals first
  |exact h.elim
  |exact bM h fun K' h'=>by unfold pq;simp only[*]<;>first|exact h'|simp
  |exact aJ (aP fun _=>bB _) h fun K' h'=>by unfold pq;simp only[*]<;>first|exact h'|simp
  |exact aJ (aP fun _=>aP fun _=>bB _) h fun K' h'=>by unfold pq;simp only[*]<;>first|exact h'|simp
  |exact aJ (mO fun _=>aP fun _=>bB _) h fun K' h'=>by unfold pq;simp only[*]<;>first|exact h'|simp
  |exact aJ (aP fun _=>mO fun _=>aP fun _=>bB _) h fun K' h'=>by unfold pq;simp only[*]<;>first|exact h'|simp
  |exact aJ (aP fun _=>aP fun _=>aP fun _=>aP fun _=>bB _) h fun K' h'=>by unfold pq;simp only[*]<;>first|exact h'|simp
theorem Kl (x:AV)(i:Nat):iW (rz x i):=by
 intro K h;unfold rz at h;repeat' split at h
 all_goals first
  |exact h.elim
  |exact bM h fun K' h'=>by unfold rz;simp only[*]<;>first|exact h'|simp
theorem Z7 (op:UnOp)(x:AV):iW (cUn op x):=by
 intro K h;unfold cUn at h;repeat' split at h
 all_goals first
  |exact h.elim
  |exact bM h fun K' h'=>by unfold cUn;simp only[*]<;>first|exact h'|simp
theorem TV (T:Tab)(H:List (Nat×aD))(src dst:TypeId)(x:AV):iW (u6 T H src dst x):=by
 intro K h;unfold u6 at h;repeat' split at h
 all_goals first
  |exact h.elim
  |exact bM h fun K' h'=>by unfold u6;simp only[*]<;>first|exact h'|simp
  |exact aJ (aP fun _=>bB _) h fun K' h'=>by unfold u6;simp only[*]<;>first|exact h'|simp
  |exact aJ (aP fun _=>aP fun _=>bB _) h fun K' h'=>by unfold u6;simp only[*]<;>first|exact h'|simp
  |exact aJ (mO fun _=>aP fun _=>bB _) h fun K' h'=>by unfold u6;simp only[*]<;>first|exact h'|simp
  |exact aJ (aP fun _=>mO fun _=>aP fun _=>bB _) h fun K' h'=>by unfold u6;simp only[*]<;>first|exact h'|simp
  |exact aJ (aP fun _=>aP fun _=>aP fun _=>aP fun _=>bB _) h fun K' h'=>by unfold u6;simp only[*]<;>first|exact h'|simp
theorem WX (T:Tab)(H:List (Nat×aD))(t:TypeId)(x:AV):iW (EL T H t x):=by
 intro K h;unfold EL at h;repeat' split at h
 all_goals first
  |exact h.elim
  |exact bM h fun K' h'=>by unfold EL;simp only[*]<;>first|exact h'|simp
theorem P5 (T:Tab)(t:TypeId)(lo hi mx:Option Operand)(vs:List AV):iW (o7 T t lo hi mx vs):=by
 intro K h;unfold o7 at h;repeat' split at h
 all_goals first
  |exact h.elim
  |exact bM h fun K' h'=>by unfold o7;simp only[*]<;>first|exact h'|simp
  |exact aJ (o8 (o8 (bB _))) h fun K' h'=>by unfold o7;simp only[*]<;>first|exact h'|simp
  |exact aJ (o8 (o8 (o8 (bB _)))) h fun K' h'=>by unfold o7;simp only[*]<;>first|exact h'|simp
  |exact aJ (Z5 (o8 (o8 (o8 (bB _))))) h fun K' h'=>by unfold o7;simp only[*]<;>first|exact h'|simp
  |exact aJ (aP fun _=>o8 (o8 (o8 (bB _)))) h fun K' h'=>by have e1:=h'.1;have h2:=h'.2;clear h' h;subst e1;unfold o7;simp only[*,true_and]
theorem P6 (T:Tab)(H:List (Nat×aD))(t:TypeId)(x y:AV):iW (fun (K:AV×List (Nat×aD)→Prop)=>qN T H t x y fun v ws=>K (v,ws)):=by
 intro K h;unfold qN at h;repeat' split at h
 all_goals first
  |exact h.elim
  |exact bM h fun K' h'=>by unfold qN;simp only[*]<;>first|exact h'|simp
  |exact aJ (mO fun _=>aP fun _=>Z6 _ _ _ fun row=>(.pv (.sc undef),[(_,.arr _ _ _ (List.set _ _ row))])) h fun K' h'=>by unfold qN;simp only[*]<;>first|exact h'|simp
theorem WY (T:Tab)(H:List (Nat×aD))(t:TypeId)(vs:List AV)(id:Nat):iW (fun (K:AV×List (Nat×aD)→Prop)=>uL T H t vs id fun v ws=>K (v,ws)):=by
 intro K h;unfold uL at h;simp only[dG] at h;repeat' split at h
 all_goals first
  |exact h.elim
  |exact bM h fun K' h'=>by unfold uL;simp only[dG, *]<;>first|exact h'|simp
  |exact aJ (aP fun _=>bB _) h fun K' h'=>by unfold uL;simp only[dG, *]<;>first|exact h'|simp
  |exact aJ (aP fun _=>aP fun _=>bB _) h fun K' h'=>by unfold uL;simp only[dG, *]<;>first|exact h'|simp
  |exact aJ (mO fun _=>aP fun _=>bB _) h fun K' h'=>by unfold uL;simp only[dG, *]<;>first|exact h'|simp
  |exact aJ (aP fun _=>mO fun _=>aP fun _=>bB _) h fun K' h'=>by unfold uL;simp only[dG, *]<;>first|exact h'|simp
  |exact aJ (aP fun _=>aP fun _=>aP fun _=>aP fun _=>bB _) h fun K' h'=>by unfold uL;simp only[dG, *]<;>first|exact h'|simp
theorem TW (H:List (Nat×aD))(f:Fn)(nf:Nat)(vs:List AV):iW (fun (K:AV×List (Nat×aD)→Prop)=>IB H f nf vs fun v ws=>K (v,ws)):=by
 intro K h;unfold IB at h;repeat' split at h
 all_goals first
  |exact h.elim
  |exact bM h fun K' h'=>by unfold IB;simp only[*]<;>first|exact h'|simp
theorem P7 (T:Tab)(t:TypeId)(ks:List Nat)(vs:List AV):iW (Bo T t ks vs):=by
 intro K h;unfold Bo at h;repeat' split at h
 all_goals first
  |exact h.elim
  |exact bM h fun K' h'=>by unfold Bo;simp only[*]<;>first|exact h'|simp
theorem zW (T:Tab)(H:List (Nat×aD))(t:TypeId)(len:Nat)(ks:List Nat)(vs:List AV)(id:Nat):iW (fun (K:AV×List (Nat×aD)→Prop)=>lU T H t len ks vs id fun v ws=>K (v,ws)):=by
 intro K h;unfold lU at h;simp only[dG] at h;repeat' split at h
 all_goals first
  |exact h.elim
  |exact bM h fun K' h'=>by unfold lU;simp only[dG, *]<;>first|exact h'|simp
theorem TY (T:Tab)(t:TypeId)(vs:List AV)(id:Nat):iW (fun (K:AV×List (Nat×aD)→Prop)=>uY T t vs id fun v ws=>K (v,ws)):=by
 intro K h;unfold uY at h;simp only[dG] at h;repeat' split at h
 all_goals first
  |exact h.elim
  |exact bM h fun K' h'=>by unfold uY;simp only[dG, *]<;>first|exact h'|simp
  |exact aJ (aP fun _=>bB _) h fun K' h'=>by unfold uY;simp only[dG, *]<;>first|exact h'|simp
  |exact aJ (aP fun _=>aP fun _=>bB _) h fun K' h'=>by unfold uY;simp only[dG, *]<;>first|exact h'|simp
  |exact aJ (mO fun _=>aP fun _=>bB _) h fun K' h'=>by unfold uY;simp only[dG, *]<;>first|exact h'|simp
  |exact aJ (aP fun _=>mO fun _=>aP fun _=>bB _) h fun K' h'=>by unfold uY;simp only[dG, *]<;>first|exact h'|simp
  |exact aJ (aP fun _=>aP fun _=>aP fun _=>aP fun _=>bB _) h fun K' h'=>by unfold uY;simp only[dG, *]<;>first|exact h'|simp
theorem P8 (T:Tab)(t:TypeId)(id:Nat):iW (fun (K:AV×List (Nat×aD)→Prop)=>Bp T t id fun v ws=>K (v,ws)):=by
 intro K h;unfold Bp at h;repeat' split at h
 all_goals first
  |exact h.elim
  |exact bM h fun K' h'=>by unfold Bp;simp only[*]<;>first|exact h'|simp
theorem WZ (T:Tab)(t:TypeId)(x:AV)(id:Nat):iW (fun (K:AV×List (Nat×aD)→Prop)=>TH T t x id fun v ws=>K (v,ws)):=by
 intro K h;unfold TH at h;repeat' split at h
 all_goals first
  |exact h.elim
  |exact bM h fun K' h'=>by unfold TH;simp only[*]<;>first|exact h'|simp
theorem P9 (T:Tab)(H:List (Nat×aD))(src dst:TypeId)(x:AV):iW (fun (K:AV×List (Nat×aD)→Prop)=>uZ T H src dst x fun v ws=>K (v,ws)):=by
 intro K h;unfold uZ at h;repeat' split at h
 all_goals first
  |exact h.elim
  |exact bM h fun K' h'=>by unfold uZ;simp only[*]<;>first|exact h'|simp
  |exact aJ (aP fun _=>bB _) h fun K' h'=>by unfold uZ;simp only[*]<;>first|exact h'|simp
  |exact aJ (Kk (fun v=>(v,[])) (TV T H src dst x)) h fun K' h'=>by unfold uZ;simp only[*]<;>first|exact h'|simp
theorem Ml (T:Tab)(H:List (Nat×aD))(t:TypeId)(lo hi mx:Option Operand)(vs:List AV):iW (fun (K:AV×List (Nat×aD)→Prop)=>nk T H t lo hi mx vs fun v ws=>K (v,ws)):=by
 intro K h;unfold nk at h;repeat' split at h
 all_goals first
  |exact h.elim
  |exact bM h fun K' h'=>by unfold nk;simp only[*]<;>first|exact h'|simp
  |exact aJ (Kk (fun v=>(v,_)) (P5 T t lo hi mx _)) h fun K' h'=>by unfold nk;simp only[*]<;>first|exact h'|simp
theorem W9 (tw:Bool)(rows:List (List PV))(b ver:Nat)(e:TypeId)(st:Nat)(l h:Option Int):iW (fun (K:AV×List (Nat×aD)→Prop)=>Qa tw rows b ver e st l h fun v ws=>K (v,ws)):=by
 intro K hk;unfold Qa at hk;repeat' split at hk
 all_goals first
  |exact hk.elim
  |exact bM hk fun K' h'=>by unfold Qa;exact h'
  |exact aJ (aP fun _=>aP fun _=>bB _) hk fun K' h'=>by unfold Qa;exact h'
  |exact aJ (aP fun _=>aP fun _=>aP fun _=>aP fun _=>bB _) hk fun K' h'=>by unfold Qa;exact h'
theorem Mq (T:Tab)(H:List (Nat×aD))(t:TypeId)(lo hi mx:Option Operand)(vs:List AV):iW (fun (K:AV×List (Nat×aD)→Prop)=>oq T H t lo hi mx vs fun v ws=>K (v,ws)):=by
 intro K h;unfold oq at h;repeat' split at h
 all_goals first
  |exact h.elim
  |exact aJ (Ml T H t lo hi mx _) h fun K' h'=>by unfold oq;simp only[*]<;>first|exact h'|simp
  |exact aJ (W9 _ _ _ _ _ _ _ _) h fun K' h'=>by unfold oq;simp only[*]<;>first|exact h'|simp
theorem Qb (T:Tab)(H:List (Nat×aD))(t:TypeId)(x:AV):iW (fun (K:AV×List (Nat×aD)→Prop)=>Bq T H t x fun v ws=>K (v,ws)):=by
 intro K h;unfold Bq at h;repeat' split at h
 all_goals first
  |exact h.elim
  |exact bM h fun K' h'=>by unfold Bq;simp only[*]<;>first|exact h'|simp
theorem T9 (T:Tab)(H:List (Nat×aD))(t:TypeId)(vs:List AV)(id:Nat):iW (fun (K:AV×List (Nat×aD)→Prop)=>uw T H t vs id fun v ws=>K (v,ws)):=by
 intro K h;unfold uw at h;repeat' split at h
 all_goals first
  |exact h.elim
  |exact aJ (WY T H t _ id) h fun K' h'=>by unfold uw;simp only[*]<;>first|exact h'|simp
  |exact aJ (aP fun _=>bB _) h fun K' h'=>by unfold uw;simp only[*]<;>first|exact h'|simp
theorem Ua (T:Tab)(H:List (Nat×aD))(t:TypeId)(lo hi mx:Option Operand)(b ver st l0:Nat)(r:List AV):iW (fun (K:AV×List (Nat×aD)→Prop)=>IQ T H t lo hi mx b ver st l0 r fun v ws=>K (v,ws)):=by
 intro K h;unfold IQ at h;repeat' split at h
 all_goals first
  |exact h.elim
  |exact aJ (aP fun _=>aP fun _=>aP fun _=>aP fun _=>bB _) h fun K' h'=>by unfold IQ;simp only[*]<;>first|exact h'|simp
theorem Ub (T:Tab)(H:List (Nat×aD))(t:TypeId)(lo hi mx:Option Operand)(b ver:Nat)(r:List AV):iW (fun (K:AV×List (Nat×aD)→Prop)=>IU T H t lo hi mx b ver r fun v ws=>K (v,ws)):=by
 intro K h;unfold IU at h;repeat' split at h
 all_goals first
  |exact h.elim
  |exact aJ (aP fun _=>aP fun _=>aP fun _=>aP fun _=>aP fun _=>aP fun _=>bB _) h fun K' h'=>by unfold IU;simp only[*]<;>first|exact h'|simp
theorem Mr (T:Tab)(H:List (Nat×aD))(t:TypeId)(lo hi mx:Option Operand)(vs:List AV):iW (fun (K:AV×List (Nat×aD)→Prop)=>qd T H t lo hi mx vs fun v ws=>K (v,ws)):=by
 intro K h;unfold qd at h;repeat' split at h
 all_goals first
  |exact h.elim
  |exact aJ (Mq T H t lo hi mx _) h fun K' h'=>by unfold qd;simp only[*]<;>first|exact h'|simp
  |exact aJ (Ua _ _ _ _ _ _ _ _ _ _ _) h fun K' h'=>by unfold qd;simp only[*]<;>first|exact h'|simp
  |exact aJ (Ub _ _ _ _ _ _ _ _ _) h fun K' h'=>by unfold qd;simp only[*]<;>first|exact h'|simp
theorem Z8 (mx:Bool)(vs:List AV):iW (ZN mx vs):=by
 intro K h;unfold ZN at h;repeat' split at h
 all_goals first
  |exact h.elim
  |exact bM h fun K' h'=>by unfold ZN;simp only[*]<;>first|exact h'|simp
theorem Xa (r:PV)(H:List (Nat×aD))(ids:List Nat):iW fun (K:AV×List (Nat×aD)→Prop)=>match DF r with
  |true=>K (.pv r,[])
  | false=>match J2 H ids with
    |some fs=>K (.pv r,fs)
    |none=>False:=by
 cases h:DF r with
 |true=>exact bB _
 | false=>cases h2:J2 H ids with
   |some fs=>exact bB _
   |none=>exact oK
theorem Uc (P:Program)(H:List (Nat×aD))(vs:List AV):iW fun (K:AV×List (Nat×aD)→Prop)=>IG P H vs fun v ws=>K (v,ws):=by
 intro K h;unfold IG at h;split at h
 ·split at h
  ·exact aJ (mO fun r=>aP fun _=>Xa r _ _) h fun K' h'=>by unfold IG;simp only[*]<;>first|exact h'|simp
  exact h.elim
 exact h.elim
theorem uy {m:(AV→Prop)→Prop}(h:iW m):iW fun (K:AV×List (Nat×aD)→Prop)=>m fun v=>K (v,[]):=Kk (fun v=>(v,[])) h
theorem Xb (H:List (Nat×aD))(op:UnOp)(x:AV):iW (TK H op x):=by
 cases x with
 | bn b ver i off=>
   intro K h;unfold TK at h;simp only at h;repeat' split at h
   all_goals first
    |exact h.elim
    |exact bM h fun K' h'=>by unfold TK;simp only[*]<;>first|exact h'|simp
 |_=>exact Z7 op _
theorem Qc (T:Tab)(H:List (Nat×aD))(t:TypeId)(x:AV):iW (vD T H t x):=by
 intro K h;unfold vD at h;repeat' split at h
 all_goals first
  |exact h.elim
  |exact aJ (aP fun _=>vC _ _) h fun K' h'=>by unfold vD;simp only[*]<;>first|exact h'|simp
  |exact aJ (TU T H t _) h fun K' h'=>by unfold vD;first|exact h'|(simp only[*]<;>first|exact h'|simp)|(split<;>first|exact h'|simp_all)
theorem Ms (T:Tab)(H:List (Nat×aD))(t:TypeId)(x y:AV):iW (fun (K:AV×List (Nat×aD)→Prop)=>nu T H t x y fun v ws=>K (v,ws)):=by
 intro K h;unfold nu at h;repeat' split at h
 all_goals first
  |exact h.elim
  |exact aJ (aP fun _=>bB (_,_)) h fun K' h'=>by unfold nu;simp only[*]<;>first|exact h'|simp
  |exact aJ (P6 T H t _ y) h fun K' h'=>by unfold nu;first|exact h'|(simp only[*]<;>first|exact h'|simp)|(split<;>first|exact h'|simp_all)
theorem Xc (T:Tab)(H:List (Nat×aD))(t:TypeId)(x ix:AV):iW (Mt T H t x ix):=by
 intro K h;unfold Mt at h;repeat' split at h
 all_goals first
  |exact h.elim
  |exact aJ (aP fun _=>aP fun _=>bB _) h fun K' h'=>by unfold Mt;simp only[*]<;>first|exact h'|simp
  |exact aJ (EJ T H t _ ix) h fun K' h'=>by unfold Mt;first|exact h'|(simp only[*]<;>first|exact h'|simp)|(split<;>first|exact h'|simp_all)
theorem Ud (T:Tab)(H:List (Nat×aD))(t:TypeId)(x:AV):iW (CK T H t x):=by
 intro K h;unfold CK at h;repeat' split at h
 all_goals first
  |exact h.elim
  |exact aJ (WX T H t _) h fun K' h'=>by unfold CK;first|exact h'|(simp only[*]<;>first|exact h'|simp)|(split<;>first|exact h'|simp_all)
  |exact bM h fun K' h'=>by unfold CK;simp only[*]<;>first|exact h'|simp
theorem Mv (T:Tab)(t:TypeId)(len:Nat)(ks:List Nat)(cs:List AV)(id:Nat):iW (fun (K:AV×List (Nat×aD)→Prop)=>xk T t len ks cs id fun v ws=>K (v,ws)):=by
 intro K h;unfold xk at h;simp only[dG] at h;repeat' split at h
 all_goals first
  |exact h.elim
  |exact bM h fun K' h'=>by unfold xk;simp only[dG];simp only[*]<;>first|exact h'|simp
theorem Mw (T:Tab)(H:List (Nat×aD))(t:TypeId)(len:Nat)(ks:List Nat)(vs:List AV)(id:Nat):iW (fun (K:AV×List (Nat×aD)→Prop)=>qc T H t len ks vs id fun v ws=>K (v,ws)):=by
 intro K h;unfold qc at h;split at h
 ·rename_i hp;split at h
  ·exact aJ (Mv T t len ks _ id) h fun K' h'=>by unfold qc;simp only[hp];exact h'
  rename_i vs hne;refine aJ (zW T H t len ks _ id) h fun K' h'=>?_
  unfold qc;simp only[hp];exact h'
 rename_i hp;exact aJ (zW T H t len ks _ id) h fun K' h'=>by unfold qc;simp only[hp];exact h'
theorem Ue (T:Tab)(H:List (Nat×aD))(t:TypeId)(d:AV)(k kv id:Nat):iW (fun (K:AV×List (Nat×aD)→Prop)=>CO T H t d k kv id fun v ws=>K (v,ws)):=by
 intro K h;unfold CO at h;simp only[dG] at h;repeat' split at h
 all_goals first
  |exact h.elim
  |exact aJ (aP fun _=>bB (_,_)) h fun K' h'=>by unfold CO;simp only[dG];simp only[*]<;>first|exact h'|simp
theorem EM (T:Tab)(t:TypeId)(ver:Nat)(o:Option aD)(src:Nat→Option (List (List PV)))(b:Nat):iW (fun (K:AV×List (Nat×aD)→Prop)=>yV T t ver o src b fun v ws=>K (v,ws)):=by
 intro K h;unfold yV at h;simp only[dG] at h;repeat' split at h
 all_goals first
  |exact h.elim
  |exact aJ (aP fun _=>bB (_,_)) h fun K' h'=>by unfold yV;simp only[dG];simp only[*]<;>first|exact h'|simp
theorem Uf (T:Tab)(H:List (Nat×aD))(t:TypeId)(b ver:Nat)(x:AV):iW (fun (K:AV×List (Nat×aD)→Prop)=>CP T H t b ver x fun v ws=>K (v,ws)):=by
 intro K h;unfold CP at h;split at h
 ·exact aJ (EM T t ver _ _ b) h fun K' h'=>by unfold CP;exact h'
 ·split at h
  ·exact h.elim
  rename_i hb;exact aJ (EM T t ver _ _ b) h fun K' h'=>by unfold CP;simp only[hb];exact h'
 exact h.elim
theorem Ug (T:Tab)(H:List (Nat×aD))(t:TypeId)(vs:List AV)(id:Nat):iW (fun (K:AV×List (Nat×aD)→Prop)=>yc T H t vs id fun v ws=>K (v,ws)):=by
 intro K h;unfold yc at h;repeat' split at h
 all_goals first
  |exact h.elim
  |exact aJ (Ue T H t _ _ _ id) h fun K' h'=>by unfold yc;simp only[*]<;>first|exact h'|simp
  |exact aJ (Uf T H t _ _ _) h fun K' h'=>by unfold yc;first|(simp only[*];done)|(simp only[*]<;>first|exact h'|simp)|(split<;>first|exact h'|simp_all)
  |exact aJ (T9 T H t _ id) h fun K' h'=>by unfold yc;first|exact h'|(simp only[*]<;>first|exact h'|simp)|(repeat' split)<;>first|exact h'|simp_all
theorem Qd (T:Tab)(t:TypeId)(id:Nat):iW (fun (K:AV×List (Nat×aD)→Prop)=>Br T t id fun v ws=>K (v,ws)):=by
 intro K h;unfold Br at h;split at h
 ·exact bM h fun K' h'=>by unfold Br;simp only[*]<;>first|exact h'|simp
 exact h.elim
theorem Uh (T:Tab)(H:List (Nat×aD))(t:TypeId)(x ix:AV):iW (IJ T H t x ix):=by
 intro K h;unfold IJ at h;repeat' split at h
 all_goals first
  |exact h.elim
  |exact aJ (aP fun _=>aP fun _=>bB _) h fun K' h'=>by unfold IJ;simp only[*]<;>first|exact h'|simp
theorem Mx (T:Tab)(H:List (Nat×aD))(t:TypeId)(x ix y:AV):iW (fun (K:AV×List (Nat×aD)→Prop)=>w9 T H t x ix y fun v ws=>K (v,ws)):=by
 intro K h;unfold w9 at h;repeat' split at h
 all_goals first
  |exact h.elim
  |exact aJ (aP fun _=>aP fun _=>bB (_,_)) h fun K' h'=>by unfold w9;simp only[*]<;>first|exact h'|simp
theorem Qe (T:Tab)(H:List (Nat×aD))(t:TypeId)(x:AV):iW (yM T H t x):=by
 intro K h;unfold yM at h;repeat' split at h
 all_goals first
  |exact h.elim
  |exact aJ (aP fun _=>vC _ _) h fun K' h'=>by unfold yM;simp only[*]<;>first|exact h'|simp
  |exact aJ (Qc T H t _) h fun K' h'=>by unfold yM;first|exact h'|(simp only[*]<;>first|exact h'|simp)|(split<;>first|exact h'|simp_all)
theorem MB (T:Tab)(H:List (Nat×aD))(t:TypeId)(x y:AV):iW (fun (K:AV×List (Nat×aD)→Prop)=>sM T H t x y fun v ws=>K (v,ws)):=by
 intro K h;unfold sM at h;repeat' split at h
 all_goals first
  |exact h.elim
  |exact aJ (aP fun _=>bB (_,_)) h fun K' h'=>by unfold sM;simp only[*]<;>first|exact h'|simp
  |exact aJ (Ms T H t _ y) h fun K' h'=>by unfold sM;first|exact h'|(simp only[*]<;>first|exact h'|simp)|(split<;>first|exact h'|simp_all)
theorem Xd (T:Tab)(H:List (Nat×aD))(t:TypeId)(x ix:AV):iW (Pw T H t x ix):=by
 intro K h;unfold Pw at h;repeat' split at h
 all_goals first
  |exact h.elim
  |exact aJ (aP fun _=>aP fun _=>bB _) h fun K' h'=>by unfold Pw;simp only[*]<;>first|exact h'|simp
  |exact aJ (Xc T H t _ ix) h fun K' h'=>by unfold Pw;first|exact h'|(simp only[*]<;>first|exact h'|simp)|(split<;>first|exact h'|simp_all)
theorem Ui (T:Tab)(H:List (Nat×aD))(t:TypeId)(x:AV):iW (EN T H t x):=by
 intro K h;unfold EN at h;repeat' split at h
 all_goals first
  |exact h.elim
  |exact aJ (Ud T H t _) h fun K' h'=>by unfold EN;first|exact h'|(simp only[*]<;>first|exact h'|simp)|(split<;>first|exact h'|simp_all)
  |exact bM h fun K' h'=>by unfold EN;simp only[*]<;>first|exact h'|simp
theorem Uj (T:Tab)(H:List (Nat×aD))(t:TypeId)(b ver k kv:Nat):iW (fun (K:AV×List (Nat×aD)→Prop)=>IV T H t b ver k kv fun v ws=>K (v,ws)):=by
 intro K h;unfold IV at h;simp only[dG] at h;repeat' split at h
 all_goals first
  |exact h.elim
  |exact aJ (aP fun _=>bB (_,_)) h fun K' h'=>by unfold IV;simp only[dG];simp only[*]<;>first|exact h'|simp
theorem Uk (T:Tab)(H:List (Nat×aD))(t:TypeId)(vs:List AV)(id:Nat):iW (fun (K:AV×List (Nat×aD)→Prop)=>Cz T H t vs id fun v ws=>K (v,ws)):=by
 intro K h;unfold Cz at h;repeat' split at h
 all_goals first
  |exact h.elim
  |exact aJ (Uj T H t _ _ _ _) h fun K' h'=>by unfold Cz;simp only[*]<;>first|exact h'|simp
  |exact aJ (Ug T H t _ id) h fun K' h'=>by unfold Cz;first|exact h'|(simp only[*]<;>first|exact h'|simp)|(split<;>first|exact h'|simp_all)
theorem Ul (T:Tab)(H:List (Nat×aD))(t:TypeId)(x:AV):iW (EB T H t x):=by
 intro K h;unfold EB at h;repeat' split at h
 all_goals first
  |exact h.elim
  |exact aJ (Ui T H t _) h fun K' h'=>by unfold EB;first|exact h'|(simp only[*]<;>first|exact h'|simp)|(split<;>first|exact h'|simp_all)
  |exact bM h fun K' h'=>by unfold EB;simp only[*]<;>first|exact h'|simp
theorem Qf (T:Tab)(t:TypeId)(x ix:AV):iW (yN T t x ix):=by
 intro K h;unfold yN at h;repeat' split at h
 all_goals first
  |exact h.elim
  |exact aJ (aP fun _=>vC _ _) h fun K' h'=>by unfold yN;simp only[*]<;>first|exact h'|simp
  |exact aJ (PZ T t _ ix) h fun K' h'=>by unfold yN;first|exact h'|(simp only[*]<;>first|exact h'|simp)|(split<;>first|exact h'|simp_all)
theorem Hr (T:Tab)(t:TypeId)(ks:List Nat)(vs:List AV):iW (mH T t ks vs):=by
 intro K h;unfold mH at h;split at h;rotate_left;exact h.elim
 rename_i i hi;split at h
 ·rename_i n e hd;repeat' split at h
  all_goals first
   |exact h.elim
   |exact bM h fun K' h'=>by unfold mH;simp only[*]<;>first|exact h'|simp
 rename_i hne;refine aJ (P7 T t ks vs) h fun K' h'=>?_
 unfold mH;simp only[hi];exact h'
theorem R9 (P:Program)(T:Tab)(op:Op)(vs:List AV)(H:List (Nat×aD))(id:Nat):iW fun (K:AV×List (Nat×aD)→Prop)=>cop P T op vs H id fun v ws=>K (v,ws):=by
 intro K h;unfold cop at h;repeat' split at h
 all_goals first
  |exact h.elim
  |exact bM h fun K' h'=>by unfold cop;simp only[*]<;>first|exact h'|simp
  |exact aJ (P8 T _ id) h fun K' h'=>by unfold cop;simp only[*]<;>first|exact h'|simp
  |exact aJ (WZ T _ _ id) h fun K' h'=>by unfold cop;simp only[*]<;>first|exact h'|simp
  |exact aJ (uy (Hr T _ _ _)) h fun K' h'=>by unfold cop;simp only[*]<;>first|exact h'|simp
  |exact aJ (Mw T H _ _ _ _ id) h fun K' h'=>by unfold cop;simp only[*]<;>first|exact h'|simp
  |exact aJ (uy (Qe T H _ _)) h fun K' h'=>by unfold cop;simp only[*]<;>first|exact h'|simp
  |exact aJ (MB T H _ _ _) h fun K' h'=>by unfold cop;simp only[*]<;>first|exact h'|simp
  |exact aJ (uy (TT T H _ _ _ _)) h fun K' h'=>by unfold cop;simp only[*]<;>first|exact h'|simp
  |exact aJ (uy (Xb H _ _)) h fun K' h'=>by unfold cop;simp only[*]<;>first|exact h'|simp
  |exact aJ (P9 T H _ _ _) h fun K' h'=>by unfold cop;simp only[*]<;>first|exact h'|simp
  |exact aJ (TW H _ _ _) h fun K' h'=>by unfold cop;simp only[*]<;>first|exact h'|simp
  |exact aJ (TY T _ _ id) h fun K' h'=>by unfold cop;simp only[*]<;>first|exact h'|simp
  |exact aJ (Mr T H _ _ _ _ _) h fun K' h'=>by unfold cop;simp only[*]<;>first|exact h'|simp
  |exact aJ (uy (EI T H _ _ _)) h fun K' h'=>by unfold cop;simp only[*]<;>first|exact h'|simp
  |exact aJ (uy (WV T _ _ _)) h fun K' h'=>by unfold cop;simp only[*]<;>first|exact h'|simp
  |exact aJ (uy (Xd T H _ _ _)) h fun K' h'=>by unfold cop;simp only[*]<;>first|exact h'|simp
  |exact aJ (uy (Qf T _ _ _)) h fun K' h'=>by unfold cop;simp only[*]<;>first|exact h'|simp
  |exact aJ (uy (Kl _ _)) h fun K' h'=>by unfold cop;simp only[*]<;>first|exact h'|simp
  |exact aJ (Uc P H _) h fun K' h'=>by unfold cop;simp only[*]<;>first|exact h'|simp
  |exact aJ (Uk T H _ _ id) h fun K' h'=>by unfold cop;simp only[*]<;>first|exact h'|simp
  |exact aJ (uy (Ul T H _ _)) h fun K' h'=>by unfold cop;simp only[*]<;>first|exact h'|simp
  |exact aJ (Qd T _ id) h fun K' h'=>by unfold cop;simp only[*]<;>first|exact h'|simp
  |exact aJ (uy (Uh T H _ _ _)) h fun K' h'=>by unfold cop;simp only[*]<;>first|exact h'|simp
  |exact aJ (Mx T H _ _ _ _) h fun K' h'=>by unfold cop;simp only[*]<;>first|exact h'|simp
  |exact aJ (Qb T H _ _) h fun K' h'=>by unfold cop;simp only[*]<;>first|exact h'|simp
  |exact aJ (uy (Z8 _ _)) h fun K' h'=>by unfold cop;simp only[*]<;>first|exact h'|simp
theorem oL {tm tm':List (Nat×AV)}:∀{xs:List Operand} {vs:List AV},(∀t∈tmpsOf xs,lk tm' t=lk tm t)→evs tm xs=some vs→evs tm' xs=some vs
 |[],vs,_,h=>h
 | x::xs,vs,hs,h=>by
   simp only[evs] at h ⊢;split at h
   ·rename_i v hv;have hv':jE tm' x=some v:=by
     rw[←hv];unfold jE;cases x with
     |tmp t=>exact hs t (by simp[tmpsOf])
     |const v=>rfl
     |func f=>rfl
     |«global» g=>rfl
    split at h
    ·rename_i RQ hvs;rw[hv'];simp only;rw[oL (fun t ht=>hs t (by cases x<;>simp[tmpsOf,ht])) hvs];exact h
    cases h
   cases h
theorem nI {hp hp':List (Nat×aD)}:∀{ids:List Nat} {H:List (Nat×aD)},(∀b∈ids,lk hp' b=lk hp b)→j3 hp ids=some H→j3 hp' ids=some H
 |[],H,_,h=>h
 | i::r,H,hs,h=>by
   simp only[j3] at h ⊢;rw[hs i (by simp)];split at h
   ·rename_i bx hbx;split at h
    ·rename_i t ht;rw[nI (fun b hb=>hs b (by simp[hb])) ht];exact h
    cases h
   cases h
theorem Xe {P:Program}{T:Tab}{op:Op}{vs:List AV}{hp:List (Nat×aD)}{id:Nat}{K:AV→List (Nat×aD)→List Nat→Prop}(h:zR P T op vs hp id K) :
  ∃v ws ids,K v ws ids∧∀(hp':List (Nat×aD)),(∀b∈ids,lk hp' b=lk hp b)→∀K':AV→List (Nat×aD)→List Nat→Prop,K' v ws ids→zR P T op vs hp' id K':=by
 unfold zR at h;simp only at h;split at h;rotate_left;exact h.elim
 rename_i H hH;obtain⟨⟨v,ws⟩,h1,h2⟩:=R9 P T op vs H id (fun x=>K x.1 x.2 (GU op vs)) h;refine⟨v,ws,GU op vs,h1,fun hp' hb K' qh=>?_⟩;unfold zR;simp only;rw[nI hb hH];exact h2 (fun x=>K' x.1 x.2 (GU op vs)) qh
theorem Um {P:Program}{T:Tab}{op:Op}{vs:List AV}{hp:List (Nat×aD)}{id:Nat}{K:AV→List (Nat×aD)→List Nat→Prop}(h:zR P T op vs hp id K) :
  ∃v ws ids,K v ws ids∧ids=GU op vs∧∀(hp':List (Nat×aD)),(∀b∈ids,lk hp' b=lk hp b)→∀K':AV→List (Nat×aD)→List Nat→Prop,K' v ws ids→zR P T op vs hp' id K':=by
 unfold zR at h;simp only at h;split at h;rotate_left;exact h.elim
 rename_i H hH;obtain⟨⟨v,ws⟩,h1,h2⟩:=R9 P T op vs H id (fun x=>K x.1 x.2 (GU op vs)) h;refine⟨v,ws,GU op vs,h1,rfl,fun hp' hb K' qh=>?_⟩;unfold zR;simp only;rw[nI hb hH];exact h2 (fun x=>K' x.1 x.2 (GU op vs)) qh
theorem EO {x y:Nat}:∀{l:List Nat},x∈snoc l y↔x∈l∨x=y
 |[]=>by simp[snoc]
 |z::l=>by simp[snoc,EO (l:=l),or_assoc]
theorem EP {hp:List (Nat×aD)}:∀{n:Nat} {todo seen:List Nat},∀b∈seen,b∈zX hp n todo seen
 |0,_,_,b,h=>h
 |_+1,[],_,b,h=>h
 | n+1,x::todo,seen,b,h=>by
   simp only[zX];split
   ·exact EP b h
   split<;>exact EP b (EO.2 (.inl h))
theorem pu {hp hp':List (Nat×aD)}:∀{n:Nat} {todo seen:List Nat},(∀b∈zX hp n todo seen,lk hp' b=lk hp b)→zX hp' n todo seen=zX hp n todo seen
 |0,_,_,_=>rfl
 |_+1,[],_,_=>rfl
 | n+1,x::todo,seen,h=>by
   simp only[zX] at h ⊢;cases hm:EF x seen with
   | true=>
     simp only[hm] at h ⊢;exact pu h
   | false=>
     simp only[hm] at h ⊢;have hx:lk hp' x=lk hp x:=by
      refine h x ?_;split<;>exact EP x (EO.2 (.inr rfl))
     rw[hx];cases hl:lk hp x with
     |none=>simp only[hl] at h ⊢;exact pu h
     |some bx=>cases bx<;>simp only[hl] at h ⊢ <;> exact pu h
theorem yg {hp hp':List (Nat×aD)}:∀{l:List Nat},(∀b∈l,lk hp' b=lk hp b)→sQ hp' l=sQ hp l
 |[],_=>rfl
 | x::r,h=>by
   simp only[sQ];rw[h x (by simp),yg fun b hb=>h b (by simp[hb])]
theorem Xf {P:Program}{vs:List AV}{hp:List (Nat×aD)}{id:Nat}{K:AV→List (Nat×aD)→List Nat→Prop}(h:gC P hp id vs K) :
  ∃v ws ids,K v ws ids∧∀(hp':List (Nat×aD)),(∀b∈ids,lk hp' b=lk hp b)→∀K':AV→List (Nat×aD)→List Nat→Prop,K' v ws ids→gC P hp' id vs K':=by
 unfold gC at h;split at h;rotate_left;exact h.elim
 rename_i fv args;split at h;rotate_left;exact h.elim
 rename_i f first aR hfn
 simp only at h;split at h;rotate_left;exact h.elim
 rename_i H hH;obtain⟨r,h1,Pm,h⟩:=h;split at h;rotate_left;exact h.elim
 rename_i hok;have h0:=h;rw[zY,zZ] at h;have h:=kJ _ _ _ h;refine⟨_,_,_,h,fun hp' hb K' qh=>?_⟩;have hb1:=fun b hb'=>hb b (List.mem_append_left _ hb')
 have hb2:=fun b hb'=>hb b (List.mem_append_right _ hb')
 unfold gC;simp only[hfn];rw[pu hb1,nI hb1 hH];simp only;refine⟨r,h1,Pm,?_⟩;have:gOk (lD 1 H) (jI 1 H) id hp' h1=gOk (lD 1 H) (jI 1 H) id hp h1:=by
  unfold gOk;rw[yg hb2]
 rw[this,hok];simp only;rw[zY,zZ] at h0 ⊢;exact iX _ _ _ h0 qh
theorem adn {P:Program}{vs:List AV}{hp:List (Nat×aD)}{id:Nat}{K:AV→List (Nat×aD)→List Nat→Prop}(h:gV P hp id vs K) :
  ∃v ws ids,K v ws ids∧∀(hp':List (Nat×aD)),(∀b∈ids,lk hp' b=lk hp b)→∀K':AV→List (Nat×aD)→List Nat→Prop,K' v ws ids→gV P hp' id vs K':=by
 obtain⟨v,ws,ids,h1,h2⟩:=Xf h;refine⟨v,[],ids,(yP h1).1,fun hp' hb K' qh=>?_⟩;exact h2 hp' hb _ (CQ hb h1 qh)
theorem ado {P:Program}{vs:List AV}{hp:List (Nat×aD)}{K:AV→List (Nat×aD)→List Nat→Prop}(h:dC P hp vs K) :
  ∃v ws ids,K v ws ids∧(∀b∈dY vs,b∈ids)∧∀(hp':List (Nat×aD)),(∀b∈ids,lk hp' b=lk hp b)→∀K':AV→List (Nat×aD)→List Nat→Prop,K' v ws ids→dC P hp' vs K':=by
 unfold dC at h;simp only at h;split at h;rotate_left;exact h.elim
 rename_i H hH;split at h;rotate_left;exact h.elim
 rename_i f first aR ps hm
 obtain⟨r,hpc,h⟩:=h;split at h;rotate_left;exact h.elim
 rename_i hs;refine⟨_,_,_,h,fun b hb=>List.mem_append_left _ hb,fun hp' hb K' qh=>?_⟩;have hb1:=fun b hb'=>hb b (List.mem_append_right _ hb')
 unfold dC;simp only;rw[pu hb1,nI hb1 hH];simp only[hm];refine⟨r,hpc,?_⟩;rw[hs];exact qh
theorem EQ {hp hp':List (Nat×aD)}:∀{ids:List Nat},(∀b∈ids,lk hp' b=lk hp b)→j3 hp' ids=j3 hp ids
 |[],_=>rfl
 | i::r,h=>by
   simp only[j3];rw[h i (by simp),EQ fun b hb=>h b (by simp[hb])]
theorem CR {hp hp':List (Nat×aD)}{vs:List AV}(h:∀b∈dY vs,lk hp' b=lk hp b):RP hp' vs=RP hp vs:=by
 unfold RP;split
 ·rename_i p args;rw[EQ fun b hb=>h b (by simp only[dY,refs,List.nil_append];exact hb)]
 rfl
theorem adp {P:Program}{T:Tab}{op:Op}(hc:mJ op=true){vs:List AV}{hp:List (Nat×aD)}{id:Nat}{K:AV→List (Nat×aD)→List Nat→Prop}(h:lC P T op vs hp id K) :
  ∃v ws ids,K v ws ids∧∀(hp':List (Nat×aD)),(∀b∈ids,lk hp' b=lk hp b)→∀K':AV→List (Nat×aD)→List Nat→Prop,K' v ws ids→lC P T op vs hp' id K':=by
 unfold lC at h;split at h
 ·rename_i hd;obtain⟨v,ws,ids,h1,h2,h3⟩:=ado h;refine⟨v,ws,ids,h1,fun hp' hb K' qh=>?_⟩;unfold lC;rw[CR fun b hb'=>hb b (h2 b hb'),hd];exact h3 hp' hb K' qh
 rename_i hd;have hn:GU op vs=dY vs:=by
  cases op<;>simp only[mJ] at hc<;>first|rfl|(cases hc;done)
 obtain⟨v,ws,ids,h1,h2,h3⟩:=Um h;rw[hn] at h2;subst h2;refine⟨v,ws,_,h1,fun hp' hb K' qh=>?_⟩;unfold lC;rw[CR hb,hd];exact h3 hp' hb K' qh
theorem adq {P:Program}{vs:List AV}{hp:List (Nat×aD)}{K:AV→List (Nat×aD)→List Nat→Prop}(h:yC P hp vs K) :
  ∃v ws ids,K v ws ids∧∀(hp':List (Nat×aD)),(∀b∈ids,lk hp' b=lk hp b)→∀K':AV→List (Nat×aD)→List Nat→Prop,K' v ws ids→yC P hp' vs K':=by
 unfold yC at h;split at h;rotate_left;exact h.elim
 split at h;rotate_left;exact h.elim
 rename_i y ver rest st h9;split at h;rotate_left;exact h.elim
 split at h;rotate_left;exact h.elim
 split at h;rotate_left;exact h.elim
 rename_i ps hps;obtain⟨e,x,r,e2,hle,hK⟩:=h;refine⟨_,_,_,hK,fun hp' hb K' qh=>?_⟩;unfold yC;simp only[hb 999 (by simp),h9,hps];exact⟨e,x,r,e2,hle,qh⟩
theorem Z9 {P:Program}{T:Tab}(hg:gen T=false){o:Oper}{tm:List (Nat×AV)}{hp:List (Nat×aD)}{id:Nat}{K:AV→List (Nat×aD)→List Nat→Prop}(h:Ws P T o tm hp id K) :
  ∃v ws ids,K v ws ids∧∀(tm':List (Nat×AV)) (hp':List (Nat×aD)),(∀t∈tmpsOf (kI o.op),lk tm' t=lk tm t)→(∀b∈ids,lk hp' b=lk hp b) →
   ∀K':AV→List (Nat×aD)→List Nat→Prop,K' v ws ids→Ws P T o tm' hp' id K':=by
 unfold Ws at h;split at h;rotate_left;exact h.elim
 rename_i vs hvs;split at h
 ·rename_i hc;split at h
  ·rename_i hy;obtain⟨v,ws,ids,h1,h2⟩:=adq h;refine⟨v,ws,ids,h1,fun tm' hp' ht hb K' qh=>?_⟩;unfold Ws;rw[oL ht hvs];simp only[hc,hy];exact h2 hp' hb K' qh
  rename_i hy;rw[hg] at h;rcases h with (h|h)|h
  rotate_left 2
  ·obtain⟨v,ws,ids,h1,h2⟩:=adn h;refine⟨v,ws,ids,h1,fun tm' hp' ht hb K' qh=>?_⟩;unfold Ws;rw[oL ht hvs,hg];simp only[hc,hy];exact .inr (h2 hp' hb K' qh)
  ·obtain⟨v,ws,ids,h1,h2⟩:=adp hc h;refine⟨v,ws,ids,h1,fun tm' hp' ht hb K' qh=>?_⟩;unfold Ws;rw[oL ht hvs];simp only[hc,hy];exact .inl (.inl (h2 hp' hb K' qh))
  obtain⟨v,ws,ids,h1,h2⟩:=Xf h;refine⟨v,ws,ids,h1,fun tm' hp' ht hb K' qh=>?_⟩;unfold Ws;rw[oL ht hvs];simp only[hc,hy];exact .inl (.inr (h2 hp' hb K' qh))
 rename_i hc;obtain⟨v,ws,ids,h1,h2⟩:=Xe h;refine⟨v,ws,ids,h1,fun tm' hp' ht hb K' qh=>?_⟩;unfold Ws;rw[oL ht hvs];simp only[hc];exact h2 hp' hb K' qh
section
variable {α:Type}
def acc (S:Nat→Bool):List (List (Nat×α))→Nat→List (Nat×α)→List (Nat×α)
 |[],_,s=>s
 |ws::r,i,s=>acc S r (i+1) (if S i then ws++s else s)
theorem jK {ws s:List (Nat×α)}{t:Nat}(h:t∉keys ws):lk (ws++s) t=lk s t:=by
 induction ws with
 |nil=>rfl
 | cons x ws ih=>
   obtain⟨k,v⟩:=x;simp only[keys,List.mem_cons,not_or] at h;rw[List.cons_append,aB,if_neg (Ne.symm h.1),ih h.2]
theorem vE {ws s s':List (Nat×α)}{t:Nat}(h:t∈keys ws):lk (ws++s) t=lk (ws++s') t:=by
 induction ws with
 |nil=>simp[keys] at h
 | cons x ws ih=>
   obtain⟨k,v⟩:=x;simp only[keys,List.mem_cons] at h;rw[List.cons_append,List.cons_append,aB,aB];split
   ·rfl
   rename_i hk;exact ih (h.resolve_left (Ne.symm hk))
theorem nS {ws s s':List (Nat×α)}{t:Nat}(h:lk s t=lk s' t):lk (ws++s) t=lk (ws++s') t:=by
 by_cases hk:t∈keys ws
 ·exact vE hk
 rw[jK hk,jK hk,h]
theorem oM:∀(l:List (List (Nat×α))) (i:Nat) (s:List (Nat×α)),acc (fun _=>false) l i s=s
 |[],_,_=>rfl
 |ws::r,i,s=>by simp only[acc,Bool.false_eq_true,if_false,oM r]
theorem lI {S S':Nat→Bool}(t:Nat):∀(l:List (List (Nat×α))) (i:Nat) (s s':List (Nat×α)),lk s t=lk s' t →
  (∀k ws,l[k]? = some ws→t∈keys ws→S (i+k)=S' (i+k))→lk (acc S l i s) t=lk (acc S' l i s') t
 |[],_,_,_,h,_=>h
 | ws::r,i,s,s',h,hS=>by
   simp only[acc];refine lI t r (i+1) _ _ ?_ fun k uN hk ht=>by
    have:=hS (k+1) uN (by simpa using hk) ht;rwa [show i+(k+1)=i+1+k from by omega] at this
   by_cases hk:t∈keys ws
   ·have:=hS 0 ws rfl hk;simp only[Nat.add_zero] at this;rw[this];split
    ·exact nS h
    exact h
   have h1:lk (ws++s) t=lk s t:=jK hk;have h2:lk (ws++s') t=lk s' t:=jK hk;split<;>split<;>simp[h1,h2,h]
theorem MC {S:Nat→Bool}(t:Nat):∀(l:List (List (Nat×α))) (i:Nat) (s:List (Nat×α)) (j:Nat) (ws:List (Nat×α)),l[j]? = some ws→t∈keys ws→S (i+j)=true →
  (∀k uN,l[k]? = some uN→t∈keys uN→S (i+k)=true→k≤j)→∀s',lk (acc S l i s) t=lk (ws++s') t
 |[],_,_,j,_,h,_,_,_,_=>by simp at h
 | w0::r,i,s,0,ws,h,ht,hS,hk,s'=>by
   simp only[List.getElem?_cons_zero,Option.some.injEq] at h;subst h;simp only[Nat.add_zero] at hS;simp only[acc,hS,if_true];rw[lI (S':=fun _=>false) t r (i+1) _ (w0++s) rfl ?_,oM]
   ·exact vE ht
   intro k uN hk' ht';cases hb:S (i+1+k) with
   |false=>rfl
   | true=>
     have:=hk (k+1) uN (by simpa using hk') ht' (by rw[show i+(k+1)=i+1+k from by omega];exact hb);omega
 | w0::r,i,s,j+1,ws,h,ht,hS,hk,s'=>by
   simp only[acc];refine MC t r (i+1) _ j ws (by simpa using h) ht (by rw[show i+1+j=i+(j+1) from by omega];exact hS) (fun k uN hk' ht' hS'=>?_) s';have:=hk (k+1) uN (by simpa using hk') ht' (by rw[show i+(k+1)=i+1+k from by omega];exact hS');omega
theorem Sb {S S':Nat→Bool}{l:List (List (Nat×α))}{s:List (Nat×α)}{j:Nat}{ws:List (Nat×α)}(hj:l[j]? = some ws)(hS:∀k,S' k=(S k||Nat.beq k j))(t:Nat)
  (hw:∀k uN,l[k]? = some uN→t∈keys ws→t∈keys uN→S k=true→k<j):lk (acc S' l 0 s) t=lk (ws++acc S l 0 s) t:=by
 by_cases ht:t∈keys ws
 ·refine MC t l 0 s j ws hj ht (by rw[hS];simp) (fun k uN hk ht' Qh=>?_) _;rw[Nat.zero_add,hS,Bool.or_eq_true] at Qh;rcases Qh with h|h
  ·exact Nat.le_of_lt (hw k uN hk ht ht' h)
  exact Nat.le_of_eq (Nat.eq_of_beq_eq_true h)
 rw[jK ht];refine lI t l 0 s s rfl fun k uN hk ht'=>?_
 rw[Nat.zero_add,hS];cases hb:Nat.beq k j with
 |false=>simp
 | true=>
   have:=Nat.eq_of_beq_eq_true hb;subst this;rw[hj] at hk;cases hk;exact absurd ht' ht
theorem rC {S:Nat→Bool}:∀(l:List (List (Nat×α))) (i:Nat) (s:List (Nat×α)),acc S l (i+1) s=acc (fun k=>S (k+1)) l i s
 |[],_,_=>rfl
 |ws::r,i,s=>by simp only[acc];rw[rC r]
end
def Ht (d:Option Nat)(v:AV):List (Nat×AV):=
 match d with
 |some d=>[(d,v)]
 |none=>[]
theorem z8 (tm:List (Nat×AV))(d:Option Nat)(v:AV):ac6 tm d v=Ht d v++tm:=by cases d<;>rfl
section
variable {P:Program}{T:Tab}{c:Ctx}
def Un (P:Program)(c:Ctx)(ops:Array Oper)(base:Nat)(o:Oper)(i:Nat)(v:AV)(ws:List (Nat×aD))(e:vk)(tm:List (Nat×AV))(hp:List (Nat×aD)):Prop:=
 ∀(R:Real) (tm':List (Nat×AV)) (hp':List (Nat×aD)) (nx:Nat) (a:Act) (w:World),(∀t∈e.look,lk tm' t=lk tm t)→(∀b∈e.rd,lk hp' b=lk hp b)→base+i<nx →
  (∀t,o.dst=some t→t<c.n)→bD c R ⟨tm',nx,hp'⟩ a w→∀(ro:Option Nat) (Q:Exit→Act→World→Prop),
   if Region.wanted o (yielded ops a.tmps) then o.wpIn (W1 ro) 0 P a w (fun a' w'=>∃R',bD c R' ⟨Ht o.dst v++tm',nx,ws++hp'⟩ a' w') Q
   else ∃R',bD c R' ⟨Ht o.dst v++tm',nx,ws++hp'⟩ (a.put o.dst undef) w
theorem Un.congr {ops:Array Oper}{base:Nat}{o:Oper}{i:Nat}{v:AV}{ws:List (Nat×aD)}{e:vk}{tm tm2:List (Nat×AV)}{hp hp2:List (Nat×aD)}
  (h:Un P c ops base o i v ws e tm hp) (ht:∀t,lk tm2 t=lk tm t) (hh:∀b,lk hp2 b=lk hp b):Un P c ops base o i v ws e tm2 hp2:=by
 intro R tm' hp' nx a w h1 h2 h3 h4 g ro Q;exact h R tm' hp' nx a w (fun t htl=>(h1 t htl).trans (ht t)) (fun b hb=>(h2 b hb).trans (hh b)) h3 h4 g ro Q
theorem Sc (hgen:gen T=false){ops:List Oper}{base:Nat}{o:Oper}{i:Nat}{tm:List (Nat×AV)}{hp:List (Nat×aD)}{tr:List vk}{kn:List (Nat×Bool)}{K:RC}
  (h:vex P T ops base o i tm hp tr kn K):∃v ws e,K (Ht o.dst v++tm) (ws++hp) (e::tr) kn∧e.dst=o.dst∧e.wr=keys ws∧(∀d∈yQ ops o,d∈e.look) ∧
   ∀tm' hp' q8,(∀t∈e.look,lk tm' t=lk tm t)→(∀b∈e.rd,lk hp' b=lk hp b)→∀K':RC,K' (Ht o.dst v++tm') (ws++hp') (e::q8) kn→vex P T ops base o i tm' hp' q8 kn K':=by
 unfold vex at h;split at h
 ·exact h.elim
 rename_i hn;obtain⟨v,ws,ids,h1,h2⟩:=Z9 hgen h;simp only[xh,D8,z8] at h1;refine⟨v,ws,_,h1,rfl,rfl,fun d hd=>List.mem_append_left _ hd,fun tm' hp' q8 ht hb K' qh=>?_⟩;unfold vex;rw[hb (base+i) (by simp),hn];simp only;refine h2 tm' hp' (fun t hx=>ht t (List.mem_append_right _ hx)) (fun b hx=>hb b (List.mem_cons_of_mem _ hx)) _ ?_;simp only[xh,D8,z8];exact qh
theorem IX {ops:List Oper}{o:Oper}{tm:List (Nat×AV)}{hp:List (Nat×aD)}{tr:List vk}{kn:List (Nat×Bool)}{K:RC}
  (h:CF ops o tm hp tr kn K):∃v ws e,K (Ht o.dst v++tm) (ws++hp) (e::tr) kn∧e.dst=o.dst∧e.wr=keys ws∧(∀d∈yQ ops o,d∈e.look) ∧
   ∀tm' hp' q8,(∀t∈e.look,lk tm' t=lk tm t)→(∀b∈e.rd,lk hp' b=lk hp b)→∀K':RC,K' (Ht o.dst v++tm') (ws++hp') (e::q8) kn→CF ops o tm' hp' q8 kn K':=by
 unfold CF at h;simp only[xh,z8] at h;refine⟨_,[],_,h,rfl,rfl,fun d hd=>hd,fun tm' hp' q8 ht hb K' qh=>?_⟩;unfold CF;simp only[xh,z8];exact qh
theorem Ea (hgen:gen T=false){ops:List Oper}{base:Nat}{o:Oper}{i:Nat}{wt:Bool}{tm:List (Nat×AV)}{hp:List (Nat×aD)}{tr:List vk}{kn:List (Nat×Bool)}{K:RC}
  (h:vgo P T ops base o i wt tm hp tr kn K):∃v ws e,K (Ht o.dst v++tm) (ws++hp) (e::tr) kn∧e.dst=o.dst∧e.wr=keys ws∧(∀d∈yQ ops o,d∈e.look) ∧
   ∀tm' hp' q8,(∀t∈e.look,lk tm' t=lk tm t)→(∀b∈e.rd,lk hp' b=lk hp b)→∀K':RC,K' (Ht o.dst v++tm') (ws++hp') (e::q8) kn→vgo P T ops base o i wt tm' hp' q8 kn K':=by
 cases wt with
 |true=>exact Sc hgen h
 |false=>exact IX h
theorem Uo (hgen:gen T=false){ops:List Oper}{base:Nat}{o:Oper}{i:Nat}{tm:List (Nat×AV)}{hp:List (Nat×aD)}{tr:List vk}{kn:List (Nat×Bool)}{K:RC}
  (h:rA P T ops base o i tm hp tr kn K):∃v ws e He tm1,(∀t,lk tm1 t=lk tm t)∧K (Ht o.dst v++tm1) (ws++hp) (e::tr) He∧e.dst=o.dst∧e.wr=keys ws ∧
   ∀tm' hp' q8,(∀t∈e.look,lk tm' t=lk tm t)→(∀b∈e.rd,lk hp' b=lk hp b)→∀K':RC,(∀adr,(∀t,lk adr t=lk tm' t)→K' (Ht o.dst v++adr) (ws++hp') (e::q8) He) →
    rA P T ops base o i tm' hp' q8 kn K':=by
 unfold rA at h;split at h
 ·rename_i hg;obtain⟨v,ws,e,h1,h2,h3,h4,h5⟩:=Sc hgen h;refine⟨v,ws,e,kn,tm,fun _=>rfl,h1,h2,h3,fun tm' hp' q8 ht hb K' qh=>?_⟩;unfold rA;rw[hg];exact h5 tm' hp' q8 ht hb K' (qh tm' fun _=>rfl)
 rename_i j want hg;split at h
 ·exact h.elim
 rename_i d hd;have hmem:d∈yQ ops o:=by simp[yQ,hd]
 split at h;rotate_left;exact h.elim
 rename_i vv hv;split at h
 ·rename_i b;split at h
  ·rename_i kb hkn;cases b with
   | true=>
     obtain⟨v,ws,e,h1,h2,h3,h4,h5⟩:=Ea hgen h;refine⟨v,ws,e,kn,tm,fun _=>rfl,h1,h2,h3,fun tm' hp' q8 ht hb K' qh=>?_⟩;unfold rA;simp only[hg,hd,ht d (h4 d hmem),hv,hkn];exact h5 tm' hp' q8 ht hb K' (qh tm' fun _=>rfl)
   | false=>
     obtain⟨v,ws,e,h1,h2,h3,h4,h5⟩:=Ea hgen h;refine⟨v,ws,e,kn,tm,fun _=>rfl,h1,h2,h3,fun tm' hp' q8 ht hb K' qh=>?_⟩;unfold rA;simp only[hg,hd,ht d (h4 d hmem),hv,hkn];exact h5 tm' hp' q8 ht hb K' (qh tm' fun _=>rfl)
  rename_i hkn;have same:∀(b':Bool) (tm':List (Nat×AV)),lk tm' d=some (.pv (.sc (.bool b')))→∀t,lk ((d,AV.pv (.sc (.bool b')))::tm') t=lk tm' t:=by
   intro b' tm' hb' t;rw[aB];split
   ·rename_i e;rw[←e,hb']
   rfl
  cases b with
  | true=>
    obtain⟨v,ws,e,h1,h2,h3,h4,h5⟩:=Ea hgen (h.1 rfl);refine⟨v,ws,e,_,_,same true tm hv,h1,h2,h3,fun tm' hp' q8 ht hb K' qh=>?_⟩;have hv':lk tm' d=some (.pv (.sc (.bool true))):=(ht d (h4 d hmem)).trans hv;unfold rA;simp only[hg,hd,hv',hkn];refine⟨fun _=>h5 _ hp' q8 (fun t hx=>?_) hb K' (qh _ (same true tm' hv')),fun h=>(by cases h)⟩;rw[same true tm' hv',same true tm hv];exact ht t hx
  | false=>
    obtain⟨v,ws,e,h1,h2,h3,h4,h5⟩:=Ea hgen (h.2 rfl);refine⟨v,ws,e,_,_,same false tm hv,h1,h2,h3,fun tm' hp' q8 ht hb K' qh=>?_⟩;have hv':lk tm' d=some (.pv (.sc (.bool false))):=(ht d (h4 d hmem)).trans hv;unfold rA;simp only[hg,hd,hv',hkn];refine⟨fun h=>(by cases h),fun _=>h5 _ hp' q8 (fun t hx=>?_) hb K' (qh _ (same false tm' hv'))⟩;rw[same false tm' hv',same false tm hv];exact ht t hx
 ·obtain⟨v,ws,e,h1,h2,h3,h4,h5⟩:=IX h;refine⟨v,ws,e,kn,tm,fun _=>rfl,h1,h2,h3,fun tm' hp' q8 ht hb K' qh=>?_⟩;unfold rA;simp only[hg,hd,ht d (h4 d hmem),hv];exact h5 tm' hp' q8 ht hb K' (qh tm' fun _=>rfl)
 exact h.elim
theorem Xg (hT:bP P T)(hgen:gen T=false){ops:Array Oper}{base:Nat}{o:Oper}{i:Nat}{tm:List (Nat×AV)}{hp:List (Nat×aD)}{tr:List vk}{kn:List (Nat×Bool)}{K:RC}
  (h:rA P T ops.toList base o i tm hp tr kn K):∃v ws e He tm1,(∀t,lk tm1 t=lk tm t)∧K (Ht o.dst v++tm1) (ws++hp) (e::tr) He∧e.dst=o.dst∧e.wr=keys ws ∧
   Un P c ops base o i v ws e tm hp:=by
 obtain⟨v,ws,e,He,tm1,h1,h2,h3,h4,h5⟩:=Uo hgen h;refine⟨v,ws,e,He,tm1,h1,h2,h3,h4,fun R tm' hp' nx a w ht hb hn hd g ro Q=>?_⟩;have hv:=h5 tm' hp' [] ht hb (fun tm2 hp2 _ _=>(∀t,lk tm2 t=lk (Ht o.dst v++tm') t)∧hp2=ws++hp') fun adr ht'=>⟨fun t=>nS (ht' t),rfl⟩
 have hs:=CG (s:=⟨tm',nx,hp'⟩) g hT (ops:=ops) hn hd hv ro Q;split
 ·rename_i hw;rw[if_pos hw] at hs;refine Oper.wpIn_mono ?_ hs;rintro a' w' ⟨R',tm2,hp2,q8,kn2,⟨hk,rfl⟩,g'⟩
  exact⟨R',g'.congr (fun t=>(hk t).symm) fun _=>rfl⟩
 rename_i hw;rw[if_neg hw] at hs;obtain⟨tm2,hp2,q8,kn2,⟨hk,rfl⟩,g'⟩:=hs;exact⟨R,g'.congr (fun t=>(hk t).symm) fun _=>rfl⟩
end
theorem ME {x:Nat}:∀{l:List Nat},EF x l=true↔x∈l
 |[]=>by simp[EF]
 | y::r=>by
   simp only[EF,List.mem_cons];split
   ·rename_i h;simp[Nat.eq_of_beq_eq_true h]
   rename_i h;have:=Nat.ne_of_beq_eq_false h;simp[this,ME]
theorem sU {x:Nat}:∀{l l':List Nat},x∈l→x∈l'→meet l l'=true
 |[],_,h,_=>by simp at h
 | y::r,l',h,h'=>by
   simp only[meet];split
   ·rfl
   rename_i hm;rcases List.mem_cons.1 h with rfl|h
   ·rw[ME.2 h'] at hm;cases hm
   exact sU h h'
theorem MF (d:Option Nat)(v:AV):keys (Ht d v)=dl d:=by cases d<;>rfl
section
variable {P:Program}{T:Tab}{c:Ctx}
theorem MG (hT:bP P T)(hg:gen T=false){ops:Array Oper}{base:Nat}{K:RK}:∀(l:List Oper) (i:Nat) {tm:List (Nat×AV)} {hp:List (Nat×aD)} {tr:List vk} {kn:List (Nat×Bool)},
  PI P T ops.toList base l i tm hp tr kn K→∃(wT:List (List (Nat×AV))) (wH:List (List (Nat×aD))) (es:List vk) (tmf:List (Nat×AV)) (Pd:List (Nat×aD)),
   wT.length=l.length∧wH.length=l.length∧es.length=l.length∧K tmf Pd (es.reverse++tr)∧(∀t,lk tmf t=lk (acc (fun _=>true) wT 0 tm) t)∧(∀b,lk Pd b=lk (acc (fun _=>true) wH 0 hp) b) ∧
   ∀k o,l[k]? = some o→∃v ws e,wT[k]? = some (Ht o.dst v)∧wH[k]? = some ws∧es[k]? = some e∧e.dst=o.dst∧e.wr=keys ws ∧
    Un P c ops base o (i+k) v ws e (acc (fun x=>Nat.blt x k) wT 0 tm) (acc (fun x=>Nat.blt x k) wH 0 hp)
 |[],i,tm,hp,tr,kn,h=>⟨[],[],[],tm,hp,rfl,rfl,rfl,h,fun _=>rfl,fun _=>rfl,fun k o hk=>by simp at hk⟩
 | o::r,i,tm,hp,tr,kn,h=>by
   simp only[PI] at h;obtain⟨v,ws,e,He,tm1,h1,h2,h3,h4,h5⟩:=Xg (c:=c) hT hg h;obtain⟨wT,wH,es,tmf,Pd,l1,l2,l3,hK,hf,hf',hall⟩:=MG hT hg r (i+1) h2;have e0:(fun x=>Nat.blt x 0)=fun _=>false:=by
    funext x
    cases hb:Nat.blt x 0 with
    |false=>rfl
    |true=>rw[Nat.blt_eq] at hb;omega
   have e1:∀k,(fun x=>Nat.blt (x+1) (k+1))=fun x=>Nat.blt x k:=by
    intro k;funext x
    rw[Bool.eq_iff_iff,Nat.blt_eq,Nat.blt_eq];omega
   have e2:∀k,Nat.blt 0 (k+1)=true:=by intro k;rw[Nat.blt_eq];omega
   have hst:∀(S:Nat→Bool) t,lk (acc S wT 0 (Ht o.dst v++tm1)) t=lk (acc S wT 0 (Ht o.dst v++tm)) t:=fun S t=>lI t wT 0 _ _ (nS (h1 t)) fun _ _ _ _=>rfl
   refine⟨Ht o.dst v::wT,ws::wH,e::es,tmf,Pd,by simp[l1],by simp[l2],by simp[l3],?_,?_,?_,?_⟩
   ·simpa using hK
   ·intro t;rw[hf t,hst];simp only[acc,if_true,rC]
   ·intro b;rw[hf' b];simp only[acc,if_true,rC]
   intro k o' hk;cases k with
   | zero=>
     simp only[List.getElem?_cons_zero,Option.some.injEq] at hk;subst hk;refine⟨v,ws,e,rfl,rfl,rfl,h3,h4,?_⟩;rw[e0,oM,oM];exact h5
   | succ k=>
     obtain⟨v',uN,e',a1,a2,a3,a4,a5,a6⟩:=hall k o' (by simpa using hk);refine⟨v',uN,e',by simpa using a1,by simpa using a2,by simpa using a3,a4,a5,?_⟩;rw[show i+(k+1)=i+1+k from by omega];refine a6.congr (fun t=>?_) fun b=>?_
     ·simp only[acc,e2,if_true,rC,e1];exact (hst _ t).symm
     simp only[acc,e2,if_true,rC,e1]
theorem Hu {α:Type}{l l':List α}{k:Nat}(h:k<l.length):nth (l++l') k=nth l k:=by
 rw[vo,vo,List.getElem?_append_left h]
def Closed (ops:List Oper)(S:Nat→Bool):Prop:=∀k o,ops[k]? = some o→S k=true→∀e∈o.after.toList,Region.binds .any e=true→S e.on=true
theorem vF {S:Nat→Bool}{Hf:List Nat}(Uq:∀k m,nth Hf k=some m→S k=true→∀x,m.testBit x=true→S x=true):∀(es:List Edge),
  (∀e∈es,Region.binds .any e=true→S e.on=true)→∀x,(Md Hf es).testBit x=true→S x=true
 |[],_,x,h=>by simp[Md] at h
 | e::r,hS,x,h=>by
   simp only[Md] at h;split at h
   ·rename_i hb;have V5:=hS e (by simp) hb;rw[Nat.testBit_or,Nat.testBit_or,Bool.or_eq_true,Bool.or_eq_true] at h;rcases h with (h|h)|h
    ·rw[Nat.testBit_two_pow] at h;simp only[decide_eq_true_eq] at h;rw[←h];exact V5
    ·split at h
     ·rename_i m hm;exact Uq e.on m hm V5 x h
     simp at h
    exact vF Uq r (fun e' Hw=>hS e' (by simp[Hw])) x h
   exact vF Uq r (fun e' Hw=>hS e' (by simp[Hw])) x h
theorem sV {i:Nat}:∀{es:List Edge},zT i es=true→∀e∈es,Region.binds .any e=true→e.on<i
 |[],_,e,he,_=>by simp at he
 | x::r,h,e,he,hb=>by
   simp only[zT] at h;split at h
   ·rw[Bool.and_eq_true] at h;rcases List.mem_cons.1 he with rfl|he
    ·have:=h.1;rwa [Nat.blt_eq] at this
    exact sV h.2 e he hb
   rename_i hx;rcases List.mem_cons.1 he with rfl|he
   ·rw[hb] at hx;cases hx
   exact sV h e he hb
theorem Aa {e:vk}{m:Nat}:∀{l:List vk} {k0:Nat},D9 e m l k0=true→∀k x,l[k]? = some x→nH x e=true→m.testBit (k0+k)=true
 |[],_,_,k,x,hk,_=>by simp at hk
 | y::r,k0,h,k,x,hk,hc=>by
   simp only[D9,Bool.and_eq_true,Bool.or_eq_true,Bool.not_eq_true'] at h;cases k with
   | zero=>
     simp only[List.getElem?_cons_zero,Option.some.injEq] at hk;subst hk;exact h.1.resolve_left (by simp[hc])
   | succ k=>
     have:=Aa h.2 k x (by simpa using hk) hc;rwa [show k0+1+k=k0+(k+1) from by omega] at this
def Sep (ops:List Oper)(es:List vk)(S:Nat→Bool)(i:Nat)(o:Oper)(e:vk):Prop:=
 (∀ed∈o.after.toList,Region.binds .any ed=true→ed.on<i) ∧
 ((∀ed∈o.after.toList,Region.binds .any ed=true→S ed.on=true)→∀k x,k<i→es[k]? = some x→nH x e=true→S k=true)
theorem Bw {ops:List Oper}{all:List vk}{S:Nat→Bool}(hS:Closed ops S):∀(r:List Oper) (es:List vk) (i:Nat) (Hf:List Nat),ZY all r es i Hf=true →
  ops.drop i=r→all.drop i=es→Hf.length=i→(∀k m,nth Hf k=some m→S k=true→∀x,m.testBit x=true→S x=true) →
  ∀k o,r[k]? = some o→∃e,es[k]? = some e∧Sep ops all S (i+k) o e
 |[],es,i,Hf,_,_,_,_,_,k,o,hk=>by simp at hk
 | o0::r,es,i,Hf,h,hops,hes,hlen,Uq,k,o,hk=>by
   simp only[ZY] at h;cases es with
   |nil=>simp at h
   | cons e0 es=>
     simp only[Bool.and_eq_true] at h;obtain⟨h1,h2,h3⟩:=h;have ho0:ops[i]? = some o0:=by
      have:=congrArg (fun l=>l[0]?) hops;simpa using this
     have afF:(∀e∈o0.after.toList,Region.binds .any e=true→S e.on=true)→∀x,(Md Hf o0.after.toList).testBit x=true→S x=true:=fun he=>vF Uq _ he
     cases k with
     | zero=>
       simp only[List.getElem?_cons_zero,Option.some.injEq] at hk;subst hk;refine⟨e0,rfl,fun ed Pe hb=>sV h1 ed Pe hb,fun he k x hki hx hc=>?_⟩;have:=Aa h2 k x (by rw[List.getElem?_take];simp only[Nat.add_zero] at hki;rw[if_pos hki];exact hx) hc;rw[Nat.zero_add] at this;exact afF he k this
     | succ k=>
       obtain⟨e,he,hsep⟩:=Bw hS r es (i+1) (Hf++[Md Hf o0.after.toList]) h3 (by rw[←List.drop_drop,hops];rfl) (by rw[←List.drop_drop,hes];rfl) (by simp[hlen])
        (fun k' m hk' Qh x hx=>by
         rcases Nat.lt_or_ge k' Hf.length with hlt|hge
         ·rw[Hu hlt] at hk';exact Uq k' m hk' Qh x hx
         rw[vo,List.getElem?_append_right hge] at hk';have:k' - Hf.length=0:=by
          rcases Nat.eq_zero_or_pos (k' - Hf.length) with h|h
          ·exact h
          rw[List.getElem?_eq_none (by simp;omega)] at hk';cases hk'
         rw[this] at hk';simp only[List.getElem?_cons_zero,Option.some.injEq] at hk';subst hk';have hki:k'=i:=by omega
         subst hki;exact afF (fun ed Pe hb=>hS _ o0 ho0 Qh ed Pe hb) x hx)
        k o (by simpa using hk)
       refine⟨e,by simpa using he,?_⟩;rw[show i+(k+1)=i+1+k from by omega];exact hsep
end
section
variable {P:Program}{T:Tab}{c:Ctx}
theorem ES {n:Nat}:∀{l:List Oper},qg n l=true→∀(k:Nat) (o:Oper),l[k]? = some o→∀t,o.dst=some t→t<n
 |[],_,k,o,hk,_,_=>by simp at hk
 | x::r,h,k,o,hk,t,ht=>by
   simp only[qg] at h;cases k with
   | zero=>
     simp only[List.getElem?_cons_zero,Option.some.injEq] at hk;subst hk;rw[ht] at h;simp only at h;split at h
     ·rename_i hb;rwa [Nat.blt_eq] at hb
     cases h
   | succ k=>
     refine ES (l:=r) ?_ k o (by simpa using hk) t ht;split at h
     ·split at h
      ·exact h
      cases h
     exact h
theorem ET {x y:vk}{t:Nat}(h:t∈dl x.dst)(h':t∈y.look):nH x y=true∧nH y x=true:=by
 constructor<;>simp[nH,sU h h']
theorem IY {x y:vk}{t:Nat}(h:t∈dl x.dst)(h':t∈dl y.dst):nH x y=true∧nH y x=true:=by
 constructor<;>simp[nH,sU h h',sU h' h]
theorem MH {x y:vk}{t:Nat}(h:t∈x.wr)(h':t∈y.rd):nH x y=true∧nH y x=true:=by
 constructor<;>simp[nH,sU h h']
theorem MI {x y:vk}{t:Nat}(h:t∈x.wr)(h':t∈y.wr):nH x y=true∧nH y x=true:=by
 constructor<;>simp[nH,sU h h',sU h' h]
theorem any_ok {ops:Array Oper}{base nx:Nat}{tm:List (Nat×AV)}{hp:List (Nat×aD)}{wT:List (List (Nat×AV))}{wH:List (List (Nat×aD))}{es:List vk}{Q:Exit→Act→World→Prop}
  (hall:∀k o,ops.toList[k]? = some o→∃v ws e,wT[k]? = some (Ht o.dst v)∧wH[k]? = some ws∧es[k]? = some e∧e.dst=o.dst∧e.wr=keys ws ∧
    Un P c ops base o k v ws e (acc (fun x=>Nat.blt x k) wT 0 tm) (acc (fun x=>Nat.blt x k) wH 0 hp))
  (hlT:wT.length=ops.size) (hlH:wH.length=ops.size) (hfp:aft ops.toList es=true) (hn:base+ops.size≤nx) (hd:qg c.n ops.toList=true)
  (ro:Option Nat) (hfin:∀R a w,bD c R ⟨acc (fun _=>true) wT 0 tm,nx,acc (fun _=>true) wH 0 hp⟩ a w→Q .normal a w) :
  ∀(fuel:Nat) (listed:Array Bool) (R:Real) (a:Act) (w:World),listed.size=ops.size→Closed ops.toList (fun k=>listed.getD k false)→listed.toList.count false≤fuel →
   bD c R ⟨acc (fun k=>listed.getD k false) wT 0 tm,nx,acc (fun k=>listed.getD k false) wH 0 hp⟩ a w→wpAnyIn (W1 ro) 0 P .any ops Q fuel listed a w:=by
 have afG:∀k o,ops[k]? = some o→∀ed∈o.after.toList,Region.binds .any ed=true→ed.on<k:=by
  intro k o ho;obtain⟨e,_,hs⟩:=Bw (S:=fun _=>true) (fun _ _ _ _ _ _ _=>rfl) ops.toList es 0 [] hfp rfl rfl rfl (fun _ m h=>by simp[nth] at h) k o (by rw[Array.getElem?_toList];exact ho);have:=hs.1;rwa [Nat.zero_add] at this
 have hdone:∀listed:Array Bool,listed.size=ops.size→Region.ready .any ops listed=[]→∀k,k<ops.size→listed.getD k false=true:=by
  intro listed hsz hr k;induction k using Nat.strongRecOn with
  | ind k ih=>
    intro hk;cases hb:listed.getD k false with
    |true=>rfl
    | false=>
      exfalso;have:k∈Region.ready .any ops listed:=by
       rw[mem_ready];refine⟨?_,ops[k],by simp[hk],fun ed Pe hbd=>?_⟩
       ·have hk':k<listed.size:=by omega
        simp[hk'] at hb ⊢;exact hb
       have hlt:=afG k ops[k] (by simp[hk]) ed (by simpa using Pe) hbd;exact ih ed.on hlt (by omega)
      rw[hr] at this;simp at this
 have hend:∀(listed:Array Bool) (R:Real) (a:Act) (w:World),listed.size=ops.size→Region.ready .any ops listed=[] →
   bD c R ⟨acc (fun k=>listed.getD k false) wT 0 tm,nx,acc (fun k=>listed.getD k false) wH 0 hp⟩ a w→Q .normal a w:=by
  intro listed R a w hsz hr g;refine hfin R a w (g.congr (fun t=>lI t wT 0 _ _ rfl fun k ws hk _=>?_) fun b=>lI b wH 0 _ _ rfl fun k ws hk _=>?_)
  ·rw[Nat.zero_add];exact (hdone listed hsz hr k (by rw[←hlT];exact (List.getElem?_eq_some_iff.1 hk).1)).symm
  rw[Nat.zero_add];exact (hdone listed hsz hr k (by rw[←hlH];exact (List.getElem?_eq_some_iff.1 hk).1)).symm
 intro fuel;induction fuel with
 | zero=>
   intro listed R a w hsz hcl hc g;have hr:Region.ready .any ops listed=[]:=by
    cases hr:Region.ready .any ops listed with
    |nil=>rfl
    | cons j r=>
      exfalso;have hj:j∈Region.ready .any ops listed:=by rw[hr];simp
      rw[mem_ready] at hj;obtain⟨h0,o,ho,_⟩:=hj;have hjl:j<listed.size:=by rw[hsz];exact (Array.getElem?_eq_some_iff.1 ho).1
      have:false∈listed.toList:=by
       have:listed[j]=false:=by simpa[hjl] using h0
       rw[←this];simp
      have:=List.count_pos_iff.2 this;omega
   exact⟨hr,hend listed R a w hsz hr g⟩
 | succ fuel ih=>
   intro listed R a w hsz hcl hc g;refine⟨fun hr=>hend listed R a w hsz hr g,fun i hi=>?_⟩;rw[mem_ready] at hi;obtain⟨h0,o,ho,hpre⟩:=hi;have hio:i<ops.size:=(Array.getElem?_eq_some_iff.1 ho).1;have hil:i<listed.size:=by omega
   have hif:listed.getD i false=false:=by simpa[hil] using h0
   have hol:ops.toList[i]? = some o:=by rw[Array.getElem?_toList];exact ho
   obtain⟨v,ws,e,a1,a2,a3,a4,a5,a6⟩:=hall i o hol;have hsep:∀k o',ops.toList[k]? = some o'→∃e,es[k]? = some e∧Sep ops.toList es (fun k=>listed.getD k false) k o' e:=by
    intro k o' hk;have:=Bw hcl ops.toList es 0 [] hfp rfl rfl rfl (fun _ m h=>by simp[nth] at h) k o' hk;rwa [Nat.zero_add] at this
   have hS:∀k x,es[k]? = some x→k<ops.size→nH x e=true→nH e x=true→listed.getD k false=Nat.blt k i:=by
    intro k x hx hk hc1 hc2;rcases Nat.lt_trichotomy k i with hlt|heq|hgt
    ·obtain⟨e',Hw,hs⟩:=hsep i o hol;rw[a3] at Hw;cases Hw;have hk1:listed.getD k false=true:=hs.2 (fun ed Pe hb=>hpre ed (by simpa using Pe) hb) k x hlt hx hc1;have hk2:Nat.blt k i=true:=by rw[Nat.blt_eq];exact hlt
     rw[hk1,hk2]
    ·subst heq;rw[hif];cases hb:Nat.blt k k with
     |false=>rfl
     |true=>rw[Nat.blt_eq] at hb;omega
    have hb':Nat.blt k i=false:=by
     cases hb:Nat.blt k i with
     |false=>rfl
     |true=>rw[Nat.blt_eq] at hb;omega
    rw[hb'];cases hb:listed.getD k false with
    |false=>rfl
    | true=>
      exfalso;have hok:ops.toList[k]? = some ops[k]:=by simp[hk]
      obtain⟨e',Hw,hs⟩:=hsep k ops[k] hok;rw[hx] at Hw;cases Hw;have:=hs.2 (fun ed Pe hbd=>hcl k ops[k] hok hb ed Pe hbd) i e hgt a3 hc2;simp only at this;rw[hif] at this;cases this
   have ack:∀k,k<ops.size→∃o' v' uN e',ops[k]? = some o'∧wT[k]? = some (Ht o'.dst v')∧wH[k]? = some uN∧es[k]? = some e'∧e'.dst=o'.dst∧e'.wr=keys uN:=by
    intro k hk;obtain⟨v',uN,e',b1,b2,b3,b4,b5,_⟩:=hall k ops[k] (by simp[hk]);exact⟨ops[k],v',uN,e',by simp[hk],b1,b2,b3,b4,b5⟩
   have hTk:∀k uN,wT[k]? = some uN→∃e',es[k]? = some e'∧k<ops.size∧keys uN=dl e'.dst:=by
    intro k uN hk;have hkn:k<ops.size:=by rw[←hlT];exact (List.getElem?_eq_some_iff.1 hk).1
    obtain⟨o',v',w',e',_,b1,_,b3,b4,_⟩:=ack k hkn;rw[hk] at b1;simp only[Option.some.injEq] at b1;exact⟨e',b3,hkn,by rw[b1,MF,b4]⟩
   have hHk:∀k uN,wH[k]? = some uN→∃e',es[k]? = some e'∧k<ops.size∧keys uN=e'.wr:=by
    intro k uN hk;have hkn:k<ops.size:=by rw[←hlH];exact (List.getElem?_eq_some_iff.1 hk).1
    obtain⟨o',v',w',e',_,_,b2,b3,_,b5⟩:=ack k hkn;rw[hk] at b2;simp only[Option.some.injEq] at b2;exact⟨e',b3,hkn,by rw[b2,b5]⟩
   have hop:=a6 R _ _ nx a w (fun t ht=>lI (S:=fun k=>listed.getD k false) t wT 0 tm tm rfl fun k uN hk htk=>by
     obtain⟨e',Hw,hkn,hke⟩:=hTk k uN hk;rw[Nat.zero_add];rw[hke] at htk;exact hS k e' Hw hkn (ET htk ht).1 (ET htk ht).2)
    (fun b hb=>lI (S:=fun k=>listed.getD k false) b wH 0 hp hp rfl fun k uN hk htk=>by
     obtain⟨e',Hw,hkn,hke⟩:=hHk k uN hk;rw[Nat.zero_add];rw[hke] at htk;exact hS k e' Hw hkn (MH htk hb).1 (MH htk hb).2)
    (by omega) (fun t ht=>ES hd i o hol t ht) g ro Q
   have hS':∀k,(listed.setIfInBounds i true).getD k false=(listed.getD k false||Nat.beq k i):=by
    intro k;by_cases hki:k=i
    ·subst hki;simp[hil]
    rw[getD_set_ne false (Ne.symm hki)];cases hb:Nat.beq k i with
    |false=>simp
    |true=>exact absurd (Nat.eq_of_beq_eq_true hb) hki
   have hnext:∀R' a' w',bD c R' ⟨Ht o.dst v++acc (fun k=>listed.getD k false) wT 0 tm,nx,ws++acc (fun k=>listed.getD k false) wH 0 hp⟩ a' w' →
     wpAnyIn (W1 ro) 0 P .any ops Q fuel (listed.setIfInBounds i true) a' w':=by
    intro R' a' w' g';refine ih _ R' a' w' (by simp[hsz]) ?_ ?_ (g'.congr (fun t=>?_) fun b=>?_)
    ·intro k o' hk Qh ed Pe hb;simp only at Qh ⊢;rw[hS',Bool.or_eq_true] at Qh ⊢;rcases Qh with h|h
     ·exact .inl (hcl k o' hk h ed Pe hb)
     have:=Nat.eq_of_beq_eq_true h;subst this;rw[hol] at hk;cases hk;exact .inl (hpre ed (by simpa using Pe) hb)
    ·rw[Array.toList_setIfInBounds,List.count_set (by simpa using hil)];have:listed.toList[i]'(by simpa using hil)=false:=by simpa[hil] using h0
     have hm:false∈listed.toList:=by rw[←this];simp
     have hp:=List.count_pos_iff.2 hm;rw[this];show listed.toList.count false-1+0≤fuel
     omega
    ·refine Sb a1 hS' t fun k uN hk ht ht' Qh=>?_
     obtain⟨e',Hw,hkn,hke⟩:=hTk k uN hk;rw[hke] at ht';rw[MF,←a4] at ht;rw[hS k e' Hw hkn (IY ht' ht).1 (IY ht' ht).2] at Qh;rwa [Nat.blt_eq] at Qh
    refine Sb a2 hS' b fun k uN hk ht ht' Qh=>?_
    obtain⟨e',Hw,hkn,hke⟩:=hHk k uN hk;rw[hke] at ht';rw[←a5] at ht;rw[hS k e' Hw hkn (MI ht' ht).1 (MI ht' ht).2] at Qh;rwa [Nat.blt_eq] at Qh
   unfold wpOpIn;rw[ho];simp only;split
   ·rename_i hw;rw[if_pos hw] at hop;exact Oper.wpIn_mono (fun a' w' ⟨R',g'⟩=>hnext R' a' w' g') hop
   rename_i hw;rw[if_neg hw] at hop;obtain⟨R',g'⟩:=hop;exact⟨fun _ _=>trivial,hnext R' _ w g'⟩
theorem bD.drawn {R:Real}{s:AS}{a:Act}{w:World}(g:bD c R s a w)(n:Nat):bD c R s a { w with drawn:=n }:=by
 have hN:∀r,r<w.heap.size→aU c R s.hp r→aU c R s.hp r:=fun r _ h=>h
 have hw:∀r,r<w.heap.size→¬aU c R s.hp r→({ w with drawn:=n }:World).heap[r]? = w.heap[r]? :=fun _ _ _=>rfl
 have h1:∀b off v,aX R b off v (lk s.hp b)→aX R b off v (lk s.hp b):=fun b off v h=>h
 have h2:∀b ver v,aT R b ver v (lk s.hp b)→aT R b ver v (lk s.hp b):=fun b ver v h=>h
 have h3:∀b ver i off v,aZ R b ver i off v (lk s.hp b)→aZ R b ver i off v (lk s.hp b):=fun b ver i off v h=>h
 refine⟨fun t v hv=>?_,g.size,g.lo,g.marks.imp fun Ds hm=>hm.kept (fun _ _ _=>rfl) (fun _ _ h=>h),g.fixed.kept (fun _ _ _=>rfl) (fun _ _ h=>h),fun b box hb=>?_,g.inj,g.free,⟨g.jE.size,g.jE.keep,g.jE.os,g.jE.tape,g.jE.output⟩,g.iN,fun v x h=>bX hN hw h1 h2 h3 v x (g.kept v x h)⟩
 ·obtain⟨x,hx,hr⟩:=g.slots t v hv;exact⟨x,hx,bX hN hw h1 h2 h3 v x hr⟩
 have hr:=g.boxes b box hb;cases box with
 | var cells=>
   simp only[eG] at hr ⊢;obtain⟨cur,e,ha,hb⟩:=hr;exact⟨cur,e,ha,bK hN hw h1 h2 h3 cells _ hb⟩
 | sF cells=>
   simp only[eG] at hr ⊢;obtain⟨cur,e,fr,ha,hn,hb⟩:=hr;exact⟨cur,e,fr,ha,hn,bV hN hw cells _ hb⟩
 | arr e ver st rows=>
   simp only[eG] at hr ⊢;obtain⟨xs,ha,hb⟩:=hr;exact⟨xs,ha,aW hN hw st rows xs hb⟩
 | kG ver st rows=>
   simp only[eG] at hr ⊢;exact dA hN hw _ _ hr
 | tr y ver rest st=>
   obtain⟨k0,kh,k1,k2,k3,k4⟩:=hr;exact⟨k0,kh,k1,⟨k2.size,k2.keep,k2.os,k2.tape,k2.output⟩,k3,k4⟩
 |fK e' ver st j ed sd pre row post=>exact jJ hN hw rfl rfl rfl (fun k _=>rfl) rfl (fun vs h=>bK hN hw h1 h2 h3 _ _ h) hr
 |mp kk kv es=>exact hr
 | dM e' ver st pre row post=>
   obtain⟨xs,h8,h9,h10,h11,h12⟩:=hr;exact⟨xs,h8,aW hN hw _ _ _ h9,h10,bK hN hw h1 h2 h3 _ _ h11,aW hN hw _ _ _ h12⟩
theorem Ab (hm:P.follows .mixedOrders=true)(hT:bP P T)(hg:gen T=false:=by rfl):∀(c:Ctx) (R:Real) (s:AS) (a:Act) (w:World) (id:Nat) (ops:Array Oper) (K:Exit→AS→Prop) (ro:Option Nat),bD c R s a w→qg c.n ops.toList=true →
  VC P T (.region id ops true) s K→(Code.region id ops true).wpIn (W1 ro) 0 P (fun e a' w'=>∃R' s',K e s'∧bD c R' s' a' w') a w:=by
 intro c R s a w id ops K ro g hd h;simp only[VC] at h;obtain⟨tm,nx,hp⟩:=s;simp only at h;split at h;rotate_left;exact h.elim
 rename_i hb;have hb:=Nat.le_of_ble_eq_true hb;obtain⟨wT,wH,es,tmf,Pd,l1,l2,l3,⟨hfp,hK⟩,hf,hf',hall⟩:=MG (c:=c) hT hg ops.toList 0 h;simp only[List.append_nil,List.reverse_reverse] at hfp;have g0:bD c R ⟨tm,nx,hp⟩ a { w with drawn:=w.drawn+1 }:=g.drawn _;have hfalse:(fun k=>(Array.replicate ops.size false).getD k false)=fun _=>false:=by
  funext k
  simp only[Array.getD_eq_getD_getElem?,Array.getElem?_replicate];split<;>rfl
 refine wpIn_region_any hm (any_ok (hall:=fun k o hk=>by
  have:=hall k o hk;rwa [Nat.zero_add] at this) (by simpa using l1) (by simpa using l2) hfp (by simpa using hb) hd ro ?_ ops.size _ R a _ (by simp) ?_ ?_ ?_)
 ·intro R' a' w' g';exact⟨R',_,hK,g'.congr hf hf'⟩
 ·intro k o hk hS;have:=congrFun hfalse k;rw[hfalse] at hS;cases hS
 ·simp
 rw[hfalse,oM,oM];exact g0
end
section
variable {P:Program}{T:Tab}
theorem PC.mono {f:FuncId}{args:List PV}{Q Q':PV→Prop}(h:PC P f args Q)(hq:∀r,Q r→Q' r):PC P f args Q':=
 ⟨h.1,fun F w dw hF ha=>(h.2 F w dw hF ha).mono fun e w' ⟨v,r,a,b,c,d⟩=>⟨v,r,a,hq r b,c,d⟩⟩
theorem PC.le {f:FuncId}{args:List PV}{r:PV}(h:PC P f args fun x=>Sg x r):bE P f args r:=
 ⟨h.1,fun F w dw hF ha=>(h.2 F w dw hF ha).mono fun e w' ⟨v,x,a,b,c,d⟩=>⟨v,r,a,rfl,oP (fun _ h=>h) _ _ _ b c,d⟩⟩
theorem nA {f:FuncId}{args CX:List PV}{r:PV}(h:bE P f CX r)(e:BA args CX):bE P f args r:=
 ⟨h.1,fun F w dw hF ha=>h.2 F w dw hF (qf (fun _ h=>h) _ _ _ e ha)⟩
def afN (args:List AV)(hp:List (Nat×aD))(CX:List AV)(nT:List (Nat×aD)):Prop:=
 match Ql hp with
 | ρ0=>match mt hp nT 1000 ρ0 (kK hp nT ρ0 (pairs args CX [])) with
   | some ρ=>match EX ρ hp nT with
     |true=>HV ρ hp nT (Hz ρ args CX)
     |false=>False
   |none=>False
theorem cB {f:FuncId}{args CX:List AV}{hp nT:List (Nat×aD)}{r:AV}{hp':List (Nat×aD)}(h:dR P f CX nT r hp')(e:afN args hp CX nT):dR P f args hp r hp':=by
 refine⟨h.1,fun c R w dw hh ha=>?_⟩;simp only[afN] at e;split at e
 ·rename_i ρ _;split at e
  ·rename_i hf;have H:=Kr hf e;exact h.2 c (ou ρ R) w dw (hh.weaken H) (pF H _ _ _ (vJ e) ha)
  exact e.elim
 exact e.elim
theorem Xo {N:Nat→Prop}{w:World}{st:Nat}{rows:List (List PV)}{v:Value}(h:bG N w (.sl false st rows) v) :
  bG N w (.sl true st rows) v∨(rows=[]∧bG N w (.sc (.slice none 0 0)) v):=by
 simp only[bG] at h ⊢;obtain⟨p,len,cap,rfl,h2,h3,h4,h5⟩:=h;cases p with
 | none=>
   obtain⟨_,h6⟩:=h4 rfl;subst h6;have:len=0:=by omega
   subst this;exact .inr ⟨List.eq_nil_of_length_eq_zero h2.symm,rfl⟩
 |some a=>exact .inl ⟨some a,len,cap,rfl,h2,h3,fun h=>(by cases h),h5⟩
theorem Sm {N:Nat→Prop}{w:World}{st:Nat}{rows:List (List PV)}{b:List PV}:∀{a:List PV} {vs:List Value},eu N w (a ++ .sl false st rows::b) vs →
  eu N w (a ++ .sl true st rows::b) vs∨(rows=[]∧eu N w (a ++ .sc (.slice none 0 0)::b) vs)
 | [],vs,h=>by
   simp only[List.nil_append,eu] at h ⊢;obtain⟨v,r,e,h1,h2⟩:=h;rcases Xo h1 with h1|⟨h0,h1⟩
   ·exact .inl ⟨v,r,e,h1,h2⟩
   exact .inr ⟨h0,v,r,e,h1,h2⟩
 | x::a,vs,h=>by
   simp only[List.cons_append,eu] at h ⊢;obtain⟨v,r,e,h1,h2⟩:=h;rcases Sm h2 with h2|⟨h0,h2⟩
   ·exact .inl ⟨v,r,e,h1,h2⟩
   exact .inr ⟨h0,v,r,e,h1,h2⟩
theorem Sn {f:FuncId}(a:List PV){b:List PV}{st:Nat}{rows:List (List PV)}{Q:PV→Prop}(h1:PC P f (a ++ .sl true st rows::b) Q)
  (h2:rows=[]→PC P f (a ++ .sc (.slice none 0 0)::b) Q):PC P f (a ++ .sl false st rows::b) Q:=
 ⟨h1.1,fun F w dw hF ha=>by
  rcases Sm ha with h|⟨h0,h⟩
  ·exact h1.2 F w dw hF h
  exact (h2 h0).2 F w dw hF h⟩
theorem MU {N:Nat→Prop}{w:World}{hp:List (Nat×aD)}{R:Real}{st:Nat}{rows:List (List PV)}{b:List AV}:∀{a:List AV} {vs:List Value},bQ N w hp R (a ++ .pv (.sl false st rows)::b) vs →
  bQ N w hp R (a ++ .pv (.sl true st rows)::b) vs∨(rows=[]∧bQ N w hp R (a ++ .pv (.sc (.slice none 0 0))::b) vs)
 | [],vs,h=>by
   simp only[List.nil_append,bQ] at h ⊢;obtain⟨v,r,e,h1,h2⟩:=h;simp only[aj] at h1 ⊢;rcases Xo h1 with h1|⟨h0,h1⟩
   ·exact .inl ⟨v,r,e,h1,h2⟩
   exact .inr ⟨h0,v,r,e,h1,h2⟩
 | x::a,vs,h=>by
   simp only[List.cons_append,bQ] at h ⊢;obtain⟨v,r,e,h1,h2⟩:=h;rcases MU h2 with h2|⟨h0,h2⟩
   ·exact .inl ⟨v,r,e,h1,h2⟩
   exact .inr ⟨h0,v,r,e,h1,h2⟩
theorem MV {f:FuncId}(a:List AV){b:List AV}{hp:List (Nat×aD)}{st:Nat}{rows:List (List PV)}{Q:AV→List (Nat×aD)→Prop}(h1:GC P f (a ++ .pv (.sl true st rows)::b) hp Q)
  (h2:rows=[]→GC P f (a ++ .pv (.sc (.slice none 0 0))::b) hp Q):GC P f (a ++ .pv (.sl false st rows)::b) hp Q:=
 ⟨h1.1,fun c R w dw hh ha=>by
  rcases MU ha with h|⟨h0,h⟩
  ·exact h1.2 c R w dw hh h
  exact (h2 h0).2 c R w dw hh h⟩
mutual
def y7:PV→Prop
 |.sl _ _ rows=>rows.length≤9223372036854775807
 |.agg cs=>DR cs
 |_=>True
def DR:List PV→Prop
 |[]=>True
 |p::r=>y7 p∧DR r
end
mutual
theorem Xp {N:Nat→Prop}{w:World}:∀(p:PV) (v:Value),bG N w p v→y7 p
 | .sl _ _ rows,v,h=>by
   simp only[bG] at h;obtain⟨p,len,cap,_,h2,h3,_⟩:=h;simp only[y7];omega
 | .agg cs,v,h=>by
   simp only[bG] at h;obtain⟨vs,_,h⟩:=h;simp only[y7];exact Xq cs _ h
 |.sc _,_,_=>by simp only[y7]
 |.dn _,_,_=>by simp only[y7]
 |.bU _ _,_,_=>by simp only[y7]
 |.fn _ _ _,_,_=>by simp only[y7]
 |.junk,_,_=>by simp only[y7]
 |.Pj _ _,_,_=>by simp only[y7]
theorem Xq {N:Nat→Prop}{w:World}:∀(ps:List PV) (vs:List Value),iU N w ps vs→DR ps
 |[],_,_=>trivial
 | p::ps,vs,h=>by
   simp only[iU] at h;obtain⟨v,r,_,_,h1,h2⟩:=h;exact⟨Xp p v h1,Xq ps r h2⟩
end
theorem Xr {N:Nat→Prop}{w:World}:∀(ps:List PV) (vs:List Value),eu N w ps vs→DR ps
 |[],_,_=>trivial
 | p::ps,vs,h=>by
   simp only[eu] at h;obtain⟨v,r,_,h1,h2⟩:=h;exact⟨Xp p v h1,Xr ps r h2⟩
theorem Mg.enters {f:FuncId}{fn:Func}(h:Mg P f fn):Enters P f:=⟨fn,h.func,h.body,h.name⟩
theorem kL {f:FuncId}{fn:Func}(he:Mg P f fn){args:List PV}{Q:PV→Prop}(h:DR args→PC P f args Q):PC P f args Q:=
 ⟨he.enters,fun F w dw hF ha=>(h (Xr args _ ha)).2 F w dw hF ha⟩
theorem cu {α:Type}(f:α→List PV)(l:List α)(k:Nat)(h:k<l.length):(l.map f)[((k:Nat):Int).toNat]? = some (f l[k]):=by
 simp[h]
theorem MW {α:Type}(f:α→List PV)(l:List α){i:Int}{k:Nat}(e:i=(k:Int))(h:k<l.length):(l.map f)[i.toNat]? = some (f l[k]):=by
 subst e;simp[h]
theorem dec_lt {k n:Nat}(h:k<n):n-(k+1)<n-k:=by omega
theorem vN {n:Int}(h0:0≤n)(h:n≤18446744073709551615):IntKind.u64.wrap n=n:=by
 simp[IntKind.wrap,IntKind.bits,IntKind.signed];omega
theorem aO {n:Int}(h0 : -9223372036854775808≤n)(h:n≤9223372036854775807):IntKind.i64.wrap n=n:=by
 simp[IntKind.wrap,IntKind.bits,IntKind.signed];omega
end
theorem fk {b:Bool}{p q:Prop}(h:b=true→p)(k:b=false→q):(b=true→p)∧(b=false→q):=⟨h,k⟩
theorem lr (l:List (List PV)):jh l l:=ah l
theorem aK {P:Program}{T:Tab}{c:Code}{s:AS}{K:Exit→AS→Prop}{X:Prop}(h:VC P T c s K):VC P T c s K∨X:=Or.inl h
theorem uQ {P:Program}{T:Tab}{i:Nat}{o:Array Oper}{d:Bool}{s:AS}{K:Exit→AS→Prop}{X:Prop}(h:VC P T (Code.region i o d) s K):VC P T (Code.region i o d) s K∨X:=Or.inl h
theorem GL {P:Program}{T:Tab}{a:Operand}{b c:Code}{s:AS}{K:Exit→AS→Prop}{X:Prop}(h:VC P T (Code.cond a b c) s K):VC P T (Code.cond a b c) s K∨X:=Or.inl h
theorem GN {P:Program}{T:Tab}{b c:Code}{s:AS}{K:Exit→AS→Prop}{X:Prop}(h:VC P T (Code.seq b c) s K):VC P T (Code.seq b c) s K∨X:=Or.inl h
theorem aC {a b c:Prop}(h:a):(a∨b)∨c:=.inl (.inl h)
theorem fq {a b c:Prop}(h:b):(a∨b)∨c:=.inl (.inr h)
theorem znb {m n:Nat}(h:Nat.ble m n=true):m≤n:=Nat.le_of_ble_eq_true h
theorem zlc {α:Type}{a:α}{l:List α}:(a::l).length=l.length+1:=rfl
theorem zln {α:Type}:([]:List α).length=0:=rfl
theorem zlm {α β:Type}{f:α→β}{l:List α}:(l.map f).length=l.length:=List.length_map ..
theorem zla {α:Type}{a b:List α}:(a++b).length=a.length+b.length:=List.length_append
theorem kC {p:Prop}[Decidable p]:(decide p=true)=p:=decide_eq_true_eq
theorem tq {p:Prop}[Decidable p]:(decide p=false)=¬p:=propext decide_eq_false_iff_not
theorem aL {p:Prop}(h:p:=by (repeat' first|(with_reducible first|exact⟨⟩|exact rfl|exact lr _)|((conv=>whnf);with_reducible first|apply And.intro|exact⟨⟩)|exact rfl|exact fun h=>h|exact lr _)<;>fail):p:=h
theorem qi {p:Prop}(h:p:=by (repeat' first|(with_reducible first|exact⟨⟩|exact rfl|exact lr _)|((conv=>whnf);with_reducible first|apply And.intro|exact⟨⟩)|exact rfl|exact fun h=>h|assumption|exact lr _)<;>fail):p:=h
theorem aM {p:Prop}(h:False:=by first|exact absurd hc (by decide)|(simp only[*,reduceCtorEq] at hc<;>fail)):p:=h.elim
theorem iK {p:Prop}(h:False:=by first|exact absurd hc (by decide)|(simp only[*,reduceCtorEq,Bool.not_true,Bool.not_false] at hc<;>fail)):p:=h.elim
theorem aG {p:Prop}(h:p:=by first|rfl|exact znb rfl|omega|(simp only[zlc,zln,zlm,zla];omega)):p:=h
theorem mg {p:Prop}(h:p:=by focus (simp only[List.length_map];omega)):p:=h
theorem gq {p:Prop}(h:p:=by simp only[List.length_set,BK,Array.size_setIfInBounds,size_swp];omega):p:=h
theorem bZ {P:Program}{f:FuncId}{fn:Func}(h:P.funcs[f]? = some fn)(k:(fn.body.isSome&&(!(fn.name == "runtime.NumGoroutine")&&codeOk fn.ntmps (codeOf fn)))=true:=by kernel_rfl):Mg P f fn:=by
 simp only[Bool.and_eq_true,Bool.not_eq_true'] at k;exact⟨h,k.1,k.2.1,k.2.2⟩
end Go.AX
end
section
universe u
variable {α:Type}
namespace Go.AX
abbrev uu (n:Int):PV:=.sc (.int .u64 n)
abbrev ii (n:Int):PV:=.sc (.int .i64 n)
abbrev bl (b:Bool):PV:=.sc (.bool b)
abbrev adJ:PV:=.sc (.slice none 0 0)
abbrev unit:PV:=.dn []
structure Pl where
 node:Int
 dB:Int
deriving DecidableEq,Inhabited
def Pl.c (x:Pl):List PV:=[ii x.node,uu x.dB]
def vP (l:List Pl):PV:=.sl false 2 (l.map Pl.c)
structure Fr where
 first:Int
 aI:List Pl
deriving DecidableEq,Inhabited
def Fr.c (f:Fr):List PV:=[uu f.first,vP f.aI]
def p8 (l:List Fr):PV:=.sl false 2 (l.map Fr.c)
structure Lg where
 id:Int
 w:Int
 a:Int
 aA:List Fr
 closed:Int
 last:Int
deriving DecidableEq,Inhabited
def Lg.c (l:Lg):List PV:=[uu l.id,ii l.w,ii l.a,p8 l.aA,ii l.closed,uu l.last]
def bys (l:List UInt8):PV:=.sl false 1 (l.map wZ)
structure Ft where
 bA:Int
 n:Int
 set:List Pl
 at_:Int
 since:Int
 tag:Int
 done:Int
 body:List UInt8
deriving DecidableEq,Inhabited
def Ft.c (f:Ft):List PV:=[uu f.bA,uu f.n,vP f.set,ii f.at_,uu f.since,uu f.tag,ii f.done,bys f.body]
structure Rq where
 to:Pl
 kind:Int
 bA:Int
 n:Int
 aY:Int
 sure:Int
 copy:Int
 body:List UInt8
 keep:List Int
deriving DecidableEq,Inhabited
def dh (n:Int):List PV:=[uu n]
def p9 (l:List Int):PV:=.sl false 1 (l.map dh)
def Rq.c (r:Rq):List PV:=[ii r.to.node,uu r.to.dB,ii r.kind,uu r.bA,uu r.n,uu r.aY,uu r.sure,ii r.copy,bys r.body,p9 r.keep]
structure Rs where
 from_:Pl
 kind:Int
 code:Int
 bA:Int
 n:Int
 aY:Int
 sure:Int
 body:List UInt8
deriving DecidableEq,Inhabited
def Rs.c (r:Rs):List PV:=[ii r.from_.node,uu r.from_.dB,ii r.kind,ii r.code,uu r.bA,uu r.n,uu r.aY,uu r.sure,bys r.body]
def qo {α:Type}(p:α→Bool):List α→Int
 |[]=>-1
 | x::r=>match p x with
   |true=>0
   | false=>match qo p r with
     |.ofNat n=>n+1
     |.negSucc _=>-1
theorem iP {α:Type}(p:α→Bool):∀{l:List α},(∀x∈l,p x=false)→qo p l = -1
 |[],_=>rfl
 | x::r,h=>by
   have e:=iP p (l:=r) fun y hy=>h y (by simp[hy])
   simp only[qo,h x (by simp),e];rfl
theorem nU {α:Type}(p:α→Bool):∀{l:List α} {k:Nat} (hk:k<l.length),(∀j (hj:j<l.length),j<k→p l[j]=false)→p l[k]=true→qo p l=k
 |[],k,hk,_,_=>by simp at hk
 | x::r,0,_,_,h=>by
   simp only[List.getElem_cons_zero] at h;simp[qo,h]
 | x::r,k+1,hk,h,h'=>by
   have h0:=h 0 (by simp) (by omega);simp only[List.getElem_cons_zero] at h0;simp only[List.getElem_cons_succ] at h';have:=nU p (l:=r) (k:=k) (by simpa using hk) (fun j hj hlt=>by
    have:=h (j+1) (by simpa using hj) (by omega);simpa using this) h'
   simp only[qo,h0,this];show ((k:Int)+1=_)
   omega
theorem nK {α:Type}(p:α→Bool):∀(l:List α),(qo p l = -1∧∀x∈l,p x=false)∨∃k,∃hk:k<l.length,qo p l=(k:Nat)∧p l[k]=true∧∀j (hj:j<l.length),j<k→p l[j]=false
 |[]=>.inl ⟨rfl,by simp⟩
 | x::r=>by
   cases hx:p x with
   | true=>
     refine .inr ⟨0,by simp,?_,by simpa using hx,by simp⟩;simp[qo,hx]
   | false=>
     rcases nK p r with ⟨h1,h2⟩|⟨k,hk,h1,h2,h3⟩
     ·refine .inl ⟨?_,?_⟩
      ·simp only[qo,hx,h1];rfl
      intro y hy;rcases List.mem_cons.1 hy with rfl|hy
      ·exact hx
      exact h2 y hy
     refine .inr ⟨k+1,by simpa using hk,?_,by simpa using h2,?_⟩
     ·simp only[qo,hx,h1];show ((k:Int)+1=_)
      omega
     intro j hj hlt;cases j with
     |zero=>simpa using hx
     |succ j=>simpa using h3 j (by simpa using hj) (by omega)
theorem tF {α:Type}(p:α→Bool)(l:List α):decide (qo p l≥0)=l.any p:=by
 rw[Bool.eq_iff_iff];simp only[decide_eq_true_eq,List.any_eq_true];rcases nK p l with ⟨h1,h2⟩|⟨k,hk,h1,h2,h3⟩
 ·rw[h1];constructor
  ·intro h;omega
  rintro⟨x,hx,hp⟩;rw[h2 x hx] at hp;cases hp
 rw[h1];exact⟨fun _=>⟨l[k],List.getElem_mem hk,h2⟩,fun _=>by omega⟩
theorem Sy {α:Type}(p:α→Bool){l:List α}(h:0≤qo p l):∃hk:(qo p l).toNat<l.length,p l[(qo p l).toNat]=true:=by
 rcases nK p l with ⟨h1,_⟩|⟨k,hk,h1,h2,h3⟩
 ·omega
 have e:(qo p l).toNat=k:=by omega
 exact⟨by omega,by simpa[e] using h2⟩
theorem Pl.beq (x y:Pl):((x.node==y.node)&&(x.dB==y.dB))=(x==y):=by
 rw[Bool.eq_iff_iff];simp only[Bool.and_eq_true,beq_iff_eq];cases x;cases y;simp
theorem Pl.afW (x:Pl)(a b:Int):((a==x.node)&&(b==x.dB))=(x==⟨a,b⟩):=by
 rw[Bool.eq_iff_iff];simp only[Bool.and_eq_true,beq_iff_eq];cases x;simp;omega
theorem dS {k:Nat}{l:List α}{q:(j:Nat)→j<l.length→Prop}(h:∀j (hj:j<l.length),j<k→q j hj)(hk:∀(hj:k<l.length),q k hj):∀j (hj:j<l.length),j<k+1→q j hj:=by
 intro j hj hjk;rcases Nat.lt_succ_iff_lt_or_eq.1 hjk with hj'|rfl
 ·exact h j hj hj'
 exact hk hj
theorem tH {l:List α}{q:α→Prop}(h:∀j (hj:j<l.length),j<l.length→q l[j]):∀x∈l,q x:=by
 intro x hx;obtain⟨j,hj,rfl⟩:=List.getElem_of_mem hx;exact h j hj hj
end Go.AX
end
section
namespace Go.AX
theorem XF {c:Ctx}{R:Real}{hp hp':List (Nat×aD)}{w:World}(hh:∀b,lk hp' b=lk hp b)(g:GK c R hp w) :
  GK c R hp' w∧∀v x,aj (aU c R hp) w hp R v x→aj (aU c R hp') w hp' R v x:=by
 have ho:∀r,owned R hp' r↔owned R hp r:=fun r=>by simp only[owned,hh]
 have hN:∀r,r<w.heap.size→aU c R hp' r→aU c R hp r:=fun r _ h=>h.imp id (ho r).1
 have hw:∀r,r<w.heap.size→¬aU c R hp r→w.heap[r]? = w.heap[r]? :=fun _ _ _=>rfl
 have h1:∀b off v,aX R b off v (lk hp b)→aX R b off v (lk hp' b):=fun b off v h=>by rw[hh];exact h
 have h2:∀b ver v,aT R b ver v (lk hp b)→aT R b ver v (lk hp' b):=fun b ver v h=>by rw[hh];exact h
 have h3:∀b ver i off v,aZ R b ver i off v (lk hp b)→aZ R b ver i off v (lk hp' b):=fun b ver i off v h=>by rw[hh];exact h
 have hr:=bX hN hw h1 h2 h3;obtain⟨a,ha1,ha2⟩:∃a:Act,a.tmps.size=c.n∧a.defers=[]:=⟨{ tmps:=Array.replicate c.n undef,defers:=[] },by simp,rfl⟩;have gm:=g.WL (tm:=[]) (nx:=0) (a:=a) (fun t v h=>by simp[lk] at h) ha1 (by rw[ha2];exact⟨[],Marks.nil⟩);exact⟨(gm.congr (tm':=[]) (hp':=hp') (fun _=>rfl) hh).hap,hr⟩
section
variable {P:Program}{T:Tab}
end
def aaQ (H:List (Nat×aD))(b ver:Nat):AV:=
 match lk H b with
 | some (.kG v st rows)=>match Nat.beq ver v with
   |true=>.pv (.sl false st rows)
   |false=>.aF b ver
 |_=>.aF b ver
def thC (H:List (Nat×aD)):List AV→List AV
 |[]=>[]
 |.aF b ver::r=>aaQ H b ver::thC H r
 |x::r=>x::thC H r
def thA (H:List (Nat×aD)):AV→AV
 |.agg cs=>.agg (thC H cs)
 |.aF b ver=>aaQ H b ver
 |x=>x
section
variable {P:Program}{c:Ctx}{R:Real}{s:AS}{a:Act}{w:World}
theorem FJ (g:bD c R s a w){b ver:Nat}{u:Value}(h:aj (aU c R s.hp) w s.hp R (.aF b ver) u):aj (aU c R s.hp) w s.hp R (aaQ s.hp b ver) u:=by
 unfold aaQ;split
 ·rename_i v st rows hb;split
  ·rename_i hv;simp only[aj] at h ⊢;exact pG (N':=aU c R s.hp) g (b:=b) (ver:=ver) (by rw[hb];simp[uK,hv]) (fun r h=>h) (fun r ho=>by rw[hb] at ho;exact ho.elim) h
  exact h
 exact h
theorem rV (g:bD c R s a w):∀{cs:List AV} {us:List Value},FC (aj (aU c R s.hp) w s.hp R) cs us→FC (aj (aU c R s.hp) w s.hp R) (thC s.hp cs) us
 |[],us,h=>h
 | x::r,us,h=>by
   obtain⟨v,t,e,h1,h2,h3⟩:=h;cases x with
   |aF b ver=>exact⟨v,t,e,h1,FJ g h2,rV g h3⟩
   |_=>exact⟨v,t,e,h1,h2,rV g h3⟩
theorem UY (g:bD c R s a w){x:AV}{u:Value}(h:aj (aU c R s.hp) w s.hp R x u):aj (aU c R s.hp) w s.hp R (thA s.hp x) u:=by
 cases x with
 | agg cs=>
   simp only[thA,aj] at h ⊢;obtain⟨vs,e,h⟩:=h;rw[bI] at h;exact⟨vs,e,by rw[bI];exact rV g h⟩
 |aF b ver=>exact FJ g h
 |_=>exact h
end
theorem SX (H:List (Nat×aD)):∀(cs:List AV),(thC H cs).length=cs.length
 |[]=>rfl
 |x::r=>by cases x<;>simp[thC,SX H r]
def thB (H:List (Nat×aD))(box:aD):aD:=
 match box with
 |.var cells=>.var (thC H cells)
 |.sF cells=>.sF cells
 |.arr e v st rows=>.arr e v st rows
 |.kG v st rows=>.kG v st rows
 |.tr y v rest st=>.tr y v rest st
 |.dM e v st pre row post=>.dM e v st pre (thC H row) post
 |.mp kk kv es=>.mp kk kv es
 |.fK e v st j ed sd pre row post=>.fK e v st j ed sd pre row post
def QN (H:List (Nat×aD)):List (Nat×aD)→List (Nat×aD)
 |[]=>[]
 |(k,box)::r=>(k,thB H box)::QN H r
theorem X7 (H:List (Nat×aD)):∀(hp:List (Nat×aD)) (x:Nat),lk (QN H hp) x=(lk hp x).map (thB H)
 |[],x=>rfl
 | (y,box)::r,x=>by
   simp only[QN,aB];split
   ·rfl
   exact X7 H r x
section
variable {P:Program}{c:Ctx}{R:Real}{s:AS}{a:Act}{w:World}
theorem JG (g:bD c R s a w):bD c R ⟨s.tm,s.nx,QN s.hp s.hp⟩ a w∧∀v x,aj (aU c R s.hp) w s.hp R v x→aj (aU c R (QN s.hp s.hp)) w (QN s.hp s.hp) R v x:=by
 have hk:∀b,lk (QN s.hp s.hp) b=(lk s.hp b).map (thB s.hp):=X7 s.hp s.hp;have ZH:∀b r,aN R b r (lk (QN s.hp s.hp) b)↔aN R b r (lk s.hp b):=fun b r=>by
  rw[hk];cases lk s.hp b with
  |none=>exact Iff.rfl
  |some box=>cases box<;>exact Iff.rfl
 have ho:∀r,owned R (QN s.hp s.hp) r↔owned R s.hp r:=fun r=>by simp only[owned,ZH]
 have hN:∀r,r<w.heap.size→aU c R (QN s.hp s.hp) r→aU c R s.hp r:=fun r _ h=>h.imp id (ho r).1
 have hw:∀r,r<w.heap.size→¬aU c R s.hp r→w.heap[r]? = w.heap[r]? :=fun _ _ _=>rfl
 have h1:∀b off v,aX R b off v (lk s.hp b)→aX R b off v (lk (QN s.hp s.hp) b):=fun b off v h=>by
  rw[hk];cases hb:lk s.hp b with
  |none=>rw[hb] at h;exact h.elim
  |some box=>rw[hb] at h;cases box<;>exact h
 have h2:∀b ver v,aT R b ver v (lk s.hp b)→aT R b ver v (lk (QN s.hp s.hp) b):=fun b ver v h=>by
  rw[hk];cases hb:lk s.hp b with
  |none=>rw[hb] at h;exact h.elim
  |some box=>rw[hb] at h;cases box<;>exact h
 have h3:∀b ver i off v,aZ R b ver i off v (lk s.hp b)→aZ R b ver i off v (lk (QN s.hp s.hp) b):=fun b ver i off v h=>by
  rw[hk];cases hb:lk s.hp b with
  |none=>rw[hb] at h;exact h.elim
  |some box=>rw[hb] at h;cases box<;>exact h
 have hr:=bX hN hw h1 h2 h3;refine⟨⟨fun t v hv=>?_,g.size,g.lo,g.marks.imp fun Ds hm=>hm.kept (fun _ _ _=>rfl) (fun r _ h=>(ho r).1 h),g.fixed.kept (fun _ _ _=>rfl) (fun r _ h=>(ho r).1 h),fun b box hb=>?_,fun b b' r hb hb'=>?_,fun r hr=>g.free r ((ho r).1 hr),g.jE,fun r hr=>g.iN r ((ho r).1 hr),fun v x h=>hr v x (g.kept v x h)⟩,hr⟩
 ·obtain⟨x,hx,h⟩:=g.slots t v hv;exact⟨x,hx,hr v x h⟩
 ·rw[hk] at hb;cases hl:lk s.hp b with
  |none=>rw[hl] at hb;cases hb
  | some bx=>
    rw[hl] at hb;simp only[Option.map_some,Option.some.injEq] at hb;subst hb;have hx:=g.boxes b bx hl;cases bx with
    | var cells=>
      simp only[eG] at hx;obtain⟨cur,e,ha,hc⟩:=hx;rw[bI] at hc;refine⟨cur,e,ha,bK hN hw h1 h2 h3 _ _ ?_⟩;rw[bI];exact rV g hc
    | sF cells=>
      simp only[thB,eG] at hx ⊢;obtain⟨cur,e,fr,ha,hn,hb⟩:=hx;exact⟨cur,e,fr,ha,fun h=>hn (h.imp id (ho _).1),bV hN hw cells _ hb⟩
    | arr e ver st rows=>
      simp only[thB,eG] at hx ⊢;obtain⟨xs,ha,hb⟩:=hx;exact⟨xs,ha,aW hN hw st rows xs hb⟩
    | kG ver st rows=>
      simp only[thB,eG] at hx ⊢;exact dA hN hw _ _ hx
    | tr y ver rest st=>
      obtain⟨k0,kh,k1,k2,k3,k4⟩:=hx;exact⟨k0,kh,k1,k2,k3,fun r hr=>k4 r (hr.imp id (ho r).1)⟩
    |mp kk kv es=>exact hx
    |fK e v st j ed sd pre row post=>exact jJ hN hw rfl rfl rfl (fun _ _=>rfl) rfl (fun vs h=>bK hN hw h1 h2 h3 _ _ h) hx
    | dM e v st pre row post=>
      obtain⟨xs,a1,a2,a3,a4,a5⟩:=hx;rw[bI] at a4;refine⟨xs,a1,aW hN hw _ _ _ a2,by rw[SX];exact a3,bK hN hw h1 h2 h3 _ _ ?_,aW hN hw _ _ _ a5⟩;rw[bI];exact rV g a4
 exact g.inj b b' r ((ZH b r).1 hb) ((ZH b' r).1 hb')
theorem iq {f:FuncId}{args:List AV}{hp:List (Nat×aD)}{r:AV}{hp':List (Nat×aD)}(h:dR P f args hp r hp')(ids:List Nat){r2:AV}{hp2:List (Nat×aD)}
  (e:match J2 hp' ids with|some fs=>PU (QN (fs++hp') (fs++hp')) r (fun x h=>x=r2∧h=hp2)|none=>False):dR P f args hp r2 hp2:=by
 refine⟨h.1,fun c R w dw hh ha=>(h.2 c R w dw hh ha).mono ?_⟩;rintro ex w' ⟨v,r0,nT,R',rfl,⟨e1,e2⟩,O9,hr⟩
 rw[e1,e2] at hr;rw[e2] at O9;split at e
 ·rename_i fs hfs;have g:bD c R' ⟨[],0,hp'⟩ { tmps:=Array.replicate c.n undef,defers:=[] } w':=
   O9.WL (fun t v h=>by simp[lk] at h) (by simp) ⟨[],⟨fun d h=>by simp at h,rfl,by simp,fun d h=>by simp at h,fun d h=>by simp at h⟩⟩
  obtain⟨g1,m1,_⟩:=jQ g (fun _ _ h=>h) _ _ hfs;obtain⟨g2,m2⟩:=JG g1;obtain⟨r',HZ,R'',hQ,h1,h2⟩:=mM e g2.hap (m2 _ _ (m1 _ _ hr));exact⟨v,r',HZ,R'',rfl,hQ,h1,h2⟩
 exact e.elim
end
open Go.Sort
def uA (A:Array Int):List (List PV):=A.toList.map dh
theorem BK (A:Array Int):(uA A).length=A.size:=by simp[uA]
theorem XG (A:Array Int)(i:Nat)(h:i<A.size):(uA A)[i]? = some (dh A[i]!):=by
 simp[uA,getElem!_pos A i h,h]
theorem Qv (A:Array Int){n:Int}(i:Nat)(e:n=(i:Int))(h:i<A.size):(uA A)[n.toNat]? = some (dh A[i]!):=by
 subst e;exact XG A i h
theorem adM (A:Array Int){n:Int}(i:Nat)(v:Int)(e:n=(i:Int)):(uA A).set n.toNat (dh v)=uA (A.setIfInBounds i v):=by
 subst e;rw[Int.toNat_natCast];simp[uA,List.map_set]
theorem adN (A:Array Int)(i j:Nat):((uA A).set i (dh A[j]!)).set j (dh A[i]!)=uA (swp A i j):=by
 simp[uA,List.map_set,swp]
theorem dx (A:Array Int)(k:Nat)(h:k<A.size):(uA A)[((k:Nat):Int).toNat]? = some (dh A[k]!):=Qv A k rfl h
theorem dz (A:Array Int)(k:Nat)(v:Int):(uA A).set ((k:Nat):Int).toNat [uu v]=uA (A.setIfInBounds k v):=adM A k v rfl
theorem Aq (x y:Int):ltInt x y=decide (x<y):=rfl
theorem nC (p:Int→Bool)(d:Array Int)(j:Nat):∀(n i:Nat),j+2-i≤n→i≤j+2→scanUp p d j i≤j+2
 | 0,i,h,h2=>by
   rw[scanUp,if_neg (by simp;omega)];exact h2
 | n+1,i,h,h2=>by
   rw[scanUp];split
   ·rename_i hc;simp only[Bool.and_eq_true,decide_eq_true_eq] at hc;exact nC p d j n (i+1) (by omega) (by omega)
   exact h2
theorem kT (p:Int→Bool)(d:Array Int)(i a:Nat)(h:a<i):∀j,a≤j→a≤scanDown p d i j
 |0,hj=>hj
 | j+1,hj=>by
   rw[scanDown];split
   ·rename_i hc;simp only[Bool.and_eq_true,decide_eq_true_eq] at hc;exact kT p d i a h j (by omega)
   exact hj
theorem qU {p:Int→Bool}{d:Array Int}{j i:Nat}(h:i≤j)(h2:p d[i]! = true):scanUp p d j i=scanUp p d j (i+1):=by
 rw[scanUp,if_pos (by simp[h,h2])]
theorem jq {p:Int→Bool}{d:Array Int}{j i:Nat}(h:¬i≤j∨p d[i]! = false):scanUp p d j i=i:=by
 rw[scanUp,if_neg (by rcases h with h|h<;>simp[h])]
theorem nW {p:Int→Bool}{d:Array Int}{j i:Nat}(h:i≤j+1)(h2:p d[j+1]! = true):scanDown p d i (j+1)=scanDown p d i j:=by
 rw[scanDown,if_pos (by simp[h,h2])]
theorem ic {p:Int→Bool}{d:Array Int}{j i:Nat}(h:¬i≤j∨p d[j]! = false):scanDown p d i j=j:=by
 cases j with
 |zero=>rfl
 |succ j=>rw[scanDown,if_neg (by rcases h with h|h<;>simp[h])]
theorem rP (lt:Int→Int→Bool)(d:Array Int)(b:Nat):∀(n i:Nat),b-i≤n→i≤b→i≤scanSorted lt d b i∧scanSorted lt d b i≤b
 | 0,i,h,h2=>by
   rw[scanSorted,if_neg (by simp;omega)];omega
 | n+1,i,h,h2=>by
   rw[scanSorted];split
   ·rename_i hc;simp only[Bool.and_eq_true,decide_eq_true_eq] at hc;have:=rP lt d b n (i+1) (by omega) (by omega);omega
   omega
theorem qw (lt:Int→Int→Bool):∀(j:Nat) (d:Array Int),(shiftDown lt j d).size=d.size
 |0,d=>rfl
 | j+1,d=>by
   rw[shiftDown];split
   ·rfl
   rw[qw lt j,size_swp]
theorem uD (lt:Int→Int→Bool)(b:Nat):∀(n j:Nat) (d:Array Int),b-j≤n→(shiftUp lt b j d).size=d.size
 |0,j,d,h=>by rw[shiftUp,if_neg (by omega)]
 | n+1,j,d,h=>by
   rw[shiftUp];split
   ·split
    ·rfl
    rw[uD lt b n (j+1) _ (by omega),size_swp]
   rfl
theorem C9 (lt:Int→Int→Bool)(hi F:Nat):∀(n root:Nat) (d:Array Int),hi-root≤n→(siftDown lt hi F root d).size=d.size:=by
 intro n;induction n with
 |zero=>intro root d h;rw[siftDown,dif_pos (by omega)]
 | succ n ih=>
   intro root d h;rw[siftDown];split
   ·rfl
   split
   ·split
    ·rfl
    split
    ·rw[ih _ _ (by omega),size_swp]
    rfl
   split
   ·rfl
   rw[ih _ _ (by omega),size_swp]
def N0:Nat→Prop:=fun _=>False
def Rd (P:Program)(w:World)(t:TypeId)(n:Nat)(Q:List PV→Prop):Prop:=
 P.cellsOf t=n∧∀(H:Type) (enc:TypeId×Value→H) (base:Nat) (spare:Nat→Bool) (held:Bool) (fuel:Nat) (cs:List Value) (x:DataW H×List MemPlace),
  DataW.trod enc P w base spare held fuel t cs=some x→∃row,row.length=n∧iU N0 w row cs∧Q row
section
variable {P:Program}{w:World}{t e:TypeId}{n:Nat}{Q Q':List PV→Prop}
theorem Rd.imp (h:Rd P w t n Q)(hq:∀row,row.length=n→Q row→Q' row):Rd P w t n Q':=
 ⟨h.1,fun H enc base spare held fuel cs x hx=>by
  obtain⟨row,h1,h2,h3⟩:=h.2 H enc base spare held fuel cs x hx;exact⟨row,h1,h2,hq row h1 h3⟩⟩
theorem Xt {k:IntKind}(hu:P.underlying t=some (.int k))(hc:P.cellsOf t=1):Rd P w t 1 (fun row=>∃i,row=[.sc (.int k i)]∧(Lit.int k i).wf=true):=
 ⟨hc,fun H enc base spare held fuel cs x hx=>by
  obtain⟨i,rfl,_,hw⟩:=DataW.trod_int hu hx;exact⟨[.sc (.int k i)],rfl,⟨_,_,rfl,rfl,by simp only[bG],by simp only[iU]⟩,i,rfl,hw⟩⟩
theorem Ku {N:Nat→Prop}{st:Nat}:∀{rows:List (List PV)} {vs:List Value},(∀i (h:i<rows.length),rows[i].length=st∧fP N w rows[i] (vs.drop (i*st)))→bL N w st rows vs
 |[],vs,_=>by simp only[bL]
 | r::rows,vs,h=>by
   have h0:=h 0 (by simp);simp only[List.getElem_cons_zero,Nat.zero_mul,List.drop_zero] at h0;refine⟨h0.1,h0.2,Ku fun i hi=>?_⟩;have:=h (i+1) (by simpa using hi);simp only[List.getElem_cons_succ] at this;rw[List.drop_drop,show st+i*st=(i+1)*st from by rw[Nat.add_mul];omega];exact this
theorem Ag (hu:P.underlying t=some (.slice e))(hc:P.cellsOf t=1)(hn:0<n)(he:Rd P w e n Q):Rd P w t 1 (fun row=>∃rows,row=[.sl false n rows]∧∀r∈rows,r.length=n∧Q r):=
 ⟨hc,fun H enc base spare held fuel cs x hx=>by
  rcases Deep.open_slice hu hx with ⟨rfl,_⟩|⟨a,len,cap,m,fu,D,Pl,rfl,hb,hl,hm,hmm,_,hel⟩
  ·refine⟨[.sl false n []],rfl,⟨_,_,rfl,rfl,?_,by simp only[iU]⟩,[],rfl,by simp⟩;simp only[bG];exact⟨none,0,0,rfl,rfl,⟨Nat.le_refl _,by omega⟩,fun _=>(by simp),fun a ha=>(by cases ha)⟩
  have hlm:len≤m:=by rw[hmm];split<;>omega
  have ex:∀i,i<len→∃row:List PV,row.length=n∧Q row∧∃Ec,Ec.length=n∧(∀j,j<n→w.cell? ((a.add (i*n)).add j)=Ec[j]?)∧iU N0 w row Ec:=by
   intro i hi;obtain⟨Ec,h1,h2⟩:=hel i (by omega);rw[he.1] at h1;obtain⟨row,q1,q2,q3⟩:=he.2 H enc base spare held _ _ _ h2;obtain⟨_,h3,h4⟩:=World.cells?_some h1;exact⟨row,q1,q3,Ec,h3,h4,q2⟩
  have ⟨f,hf⟩:∃f:Nat→List PV,∀i,i<len→(f i).length=n∧Q (f i)∧∃Ec,Ec.length=n∧(∀j,j<n→w.cell? ((a.add (i*n)).add j)=Ec[j]?)∧iU N0 w (f i) Ec:=by
   refine⟨fun i=>if h:i<len then (ex i h).choose else [],fun i hi=>?_⟩;simp only[hi,dif_pos];exact (ex i hi).choose_spec
  refine⟨[.sl false n ((List.range len).map f)],rfl,⟨_,_,rfl,rfl,?_,by simp only[iU]⟩,_,rfl,?_⟩
  ·simp only[bG];refine⟨some a,len,cap,rfl,by simp,⟨hl,by unfold maxLen at hm;omega⟩,fun h=>(by cases h),fun a' ha=>?_⟩;simp only[Option.some.injEq] at ha;subst ha;by_cases h0:len=0
   ·subst h0;exact .inl rfl
   right
   have ady:=(hf 0 (by omega)).2.2;obtain⟨Ec,h1,h2,_⟩:=ady;have h2:=h2 0 hn;simp only[Nat.zero_mul] at h2;have hcell:(w.cell? ((a.add 0).add 0)).isSome=true:=by rw[h2];simp;omega
   have e0:(a.add 0).add 0=a:=by simp[Addr.add]
   rw[e0] at hcell;obtain⟨blk,off,spot⟩:=a;unfold World.cell? at hcell;simp only at hcell;split at hcell
   ·rename_i cur ty fr hg;have hs:spot=none:=by
     cases spot with
     |none=>rfl
     |some _=>simp at hcell
    subst hs;refine⟨rfl,id,cur,ty,fr,hg,Ku fun i hi=>?_⟩;simp only[List.length_map,List.length_range] at hi;simp only[List.getElem_map,List.getElem_range];obtain⟨q1,q2,Ec,q3,q4,q5⟩:=hf i hi;refine⟨q1,?_⟩;rw[gG] at q5;rw[cZ];have e1:Ec=((cur.toList.drop off).drop (i*n)).take n:=by
     apply List.ext_getElem?;intro j;by_cases hj:j<n
     ·rw[←q4 j hj,addr_add,addr_add];simp only[World.cell?,hg,List.getElem?_take,hj,if_true,List.getElem?_drop,Option.isSome_none,Bool.false_eq_true,if_false];rw[←Nat.add_assoc,Array.getElem?_toList]
     rw[List.getElem?_eq_none (by omega),List.getElem?_eq_none (by simp;omega)]
    have:=q5.fp.app (((cur.toList.drop off).drop (i*n)).drop n);rw[e1,List.take_append_drop] at this;exact this
   simp at hcell
  intro r hr;obtain⟨i,hi,rfl⟩:=List.mem_map.1 hr;simp only[List.mem_range] at hi;exact⟨(hf i hi).1,(hf i hi).2.1⟩⟩
def QF:List (Nat×(List PV→Prop))→List PV→Prop
 |[],row=>row=[]
 |(n,Q)::r,row=>∃a b,row=a++b∧a.length=n∧Q a∧QF r b
def szF:List (Nat×(List PV→Prop))→Nat
 |[]=>0
 |(n,_)::r=>n+szF r
def RdF (P:Program)(w:World):Nat→List Field→List (Nat×(List PV→Prop))→Prop
 |_,[],[]=>True
 |off,f::fs,(n,Q)::r=>f.offset=off∧Rd P w f.type n Q∧RdF P w (off+n) fs r
 |_,_,_=>False
theorem Xu {α:Type}{R:α→Value→Prop}:∀{l l':List α} {m m':List Value},FC R l m→FC R l' m'→FC R (l++l') (m++m')
 |[],l',m,m',h,h'=>by simp only[FC] at h;subst h;exact h'
 |p::ps,l',m,m',h,h'=>by obtain⟨v,r,rfl,h1,h2,h3⟩:=h;exact⟨v,r++m',rfl,h1,h2,Xu h3 h'⟩
theorem Jg {H:Type}{enc:TypeId×Value→H}{base:Nat}{spare:Nat→Bool}{held:Bool}{fu:Nat}{cs:List Value}:∀{fs:List Field} {sp:List (Nat×(List PV→Prop))} {off:Nat},
  RdF P w off fs sp→(∀f∈fs,∃y,DataW.trod enc P w base spare held fu f.type ((cs.drop f.offset).take (P.cellsOf f.type))=some y)→cs.length=off+szF sp →
  ∃row,row.length=szF sp∧iU N0 w row (cs.drop off)∧QF sp row
 | [],[],off,_,_,hl=>by
   refine⟨[],rfl,?_,rfl⟩;simp only[iU];exact List.drop_eq_nil_of_le (by simp only[szF] at hl;omega)
 |[],_::_,_,h,_,_=>h.elim
 |_::_,[],_,h,_,_=>h.elim
 | f::fs,(n,Q)::r,off,h,hx,hl=>by
   obtain⟨rfl,h1,h2⟩:=h;obtain⟨y,hy⟩:=hx f (by simp);obtain⟨a,a1,a2,a3⟩:=h1.2 H enc base spare held _ _ _ hy;rw[h1.1] at a2;obtain⟨b,b1,b2,b3⟩:=Jg h2 (fun g hg=>hx g (by simp[hg])) (by simp only[szF] at hl;omega);refine⟨a++b,by simp only[List.length_append,szF];omega,?_,a,b,rfl,a1,a3,b3⟩;rw[gG] at a2 b2 ⊢;have:=Xu a2 b2;rw[show cs.drop (f.offset+n)=(cs.drop f.offset).drop n from by rw[List.drop_drop],List.take_append_drop] at this;exact this
theorem xB {fs:Array Field}{sp:List (Nat×(List PV→Prop))}(hu:P.underlying t=some (.struct fs))(hc:P.cellsOf t=szF sp)(hf:RdF P w 0 fs.toList sp):Rd P w t (szF sp) (QF sp):=
 ⟨hc,fun H enc base spare held fuel cs x hx=>by
  obtain⟨xs,fu,rfl,_,hl,hlen,hel⟩:=DataW.trod_struct hu hx;have:=Jg (H:=H) (enc:=enc) (base:=base) (spare:=spare) (held:=held) (fu:=fu) (cs:=cs) hf (fun f hf=>by
   obtain⟨i,hi,rfl⟩:=List.getElem_of_mem hf;simp only[Array.length_toList] at hi;refine⟨xs[i]'(by omega),?_⟩;rw[hel i _ (by simp[hi])];simp) (by omega)
  simpa using this⟩
theorem dK {H:Reach}{base:Nat}{v:Value}(hu:(match P.underlying t with|some (.struct _)=>false|some (.array _ _)=>false|some .bool=>true|some (.int _)=>true|some .string=>true|some (.slice _)=>true|_=>false)=true)
  (h:Value.okWide P w H base t v):∀cs,v ≠ .agg cs:=by
 rintro cs rfl
 unfold Value.okWide at h;split at h
 ·rename_i e;rw[e] at hu;simp at hu
 ·rename_i e;rw[e] at hu;simp at hu
 unfold Cell.okWide at h;split at h<;>simp_all [Cell.ok]
theorem kS {H:Type}{enc:TypeId×Value→H}{base:Nat}{spare:Nat→Bool}{held:Bool}{v:Value}{d:DataW H}{ps:List MemPlace}(hr:Rd P w t 1 Q)(hv:∀cs,v ≠ .agg cs)
  (h:DataW.Trod enc P w base spare held t v d ps):∃p,Q [p]∧bG N0 w p v:=by
 obtain⟨fuel,h⟩:=h;have e:v.cells = #[v]:=by cases v<;>first|rfl|exact absurd rfl (hv _)
 rw[e] at h;obtain⟨row,h1,h2,h3⟩:=hr.2 _ _ _ _ _ _ _ _ h;match row,h1 with
 | [p],_=>
   obtain⟨x,r,hx,_,hp,_⟩:=h2;simp only[List.cons.injEq] at hx;obtain⟨rfl,_⟩:=hx;exact⟨p,h3,hp⟩
theorem Ah {H:Type}{enc:TypeId×Value→H}{base afO:Nat}{r:Reach}{spare:Nat→Bool}{held:Bool}{v:Value}{d:DataW H}{ps:List MemPlace}{fs:Array Field}(hu:P.underlying t=some (.struct fs))(hr:Rd P w t n Q)
  (hv:Value.okWide P w r afO t v) (h:DataW.Trod enc P w base spare held t v d ps):∃row,Q row∧bG N0 w (.agg row) v:=by
 obtain⟨fuel,h⟩:=h;have ⟨cs,e⟩:∃cs,v=.agg cs:=by
  unfold Value.okWide at hv;rw[hu] at hv;obtain⟨cs,e,_⟩:=hv;exact⟨cs,e⟩
 subst e;obtain⟨row,h1,h2,h3⟩:=hr.2 _ _ _ _ _ _ _ _ h;exact⟨row,h3,by simp only[bG];exact⟨cs,rfl,h2⟩⟩
end
end Go.AX
end
