/-
  Conditions: none. A framework for walks: abstract values, memory, and conditions that suffice; the chapters in plain terms.
-/
import Derived.Test.YtiagceoepkaeoaaGreatAd
import Derived.Deep.LoopGhost
import Derived.Sort.Walk13a
import Derived.Sort.AssemblyPlain
import Derived.Sort.LotD4
import Derived.Sort.LotD5
import Derived.Deep.Slices
import Derived.Carry
set_option linter.unusedSectionVars false
set_option linter.unusedVariables false
set_option linter.unusedSimpArgs false
section
namespace Go.AX
def SS:List Oper→Bool
 |[]=>true
 | o::r=>match o.guard with
   |none=>SS r
   |some _=>false
def aef:Code→Bool
 | .region _ ops draw=>match draw with
   |true=>false
   |false=>SS ops.toList
 |.skip=>true
 |_=>false
def aja (ι:Type)(st:ι→AS)(K:Exit→AS→Prop)(e:Exit)(s:AS):Prop:=
 match e with
 |.normal=>∃i,qM s (st i)
 |e=>K e s
def aaO (X:AS→Prop)(K:Exit→AS→Prop)(e:Exit)(s:AS):Prop:=
 match e with
 |.normal=>X s
 |e=>K e s
def agB (id:Nat)(K:Exit→AS→Prop)(e:Exit)(s:AS):Prop:=
 match e with
 | .exit i=>match Nat.beq i id with
   |true=>K .normal s
   |false=>K e s
 |e=>K e s
def meet:List Nat→List Nat→Bool
 |[],_=>false
 | x::r,l=>match EM x l with
   |true=>true
   |false=>meet r l
def dl (d:Option Nat):List Nat:=
 match d with
 |some d=>[d]
 |none=>[]
def nJ (x y:vo):Bool:=meet (dl x.dst) y.look||(meet (dl y.dst) x.look||(meet (dl x.dst) (dl y.dst)||(meet x.wr y.rd||(meet y.wr x.rd||meet x.wr y.wr))))
def MN (H8:List Nat):List Edge→Nat
 |[]=>0
 | e::r=>match Region.binds .any e with
   | true=>((2 ^ e.on ||| (match nth H8 e.on with
     |some m=>m
     |none=>0)) ||| MN H8 r)
   |false=>MN H8 r
def zT (i:Nat):List Edge→Bool
 |[]=>true
 | e::r=>match Region.binds .any e with
   |true=>Nat.blt e.on i&&zT i r
   |false=>zT i r
def Eh (e:vo)(m:Nat):List vo→Nat→Bool
 |[],_=>true
 |x::r,k=>(!(nJ x e)||m.testBit k)&&Eh e m r (k+1)
def aaP (all:List vo):List Oper→List vo→Nat→List Nat→Bool
 |[],_,_,_=>true
 | o::r,es,i,H8=>match es with
   |[]=>false
   | e::es=>match MN H8 o.after.toList with
     |m=>zT i o.after.toList&&(Eh e m (all.take i) 0&&aaP all r es (i+1) (H8++[m]))
def agC (ops:List Oper)(tr:List vo):Bool:=aaP tr ops tr 0 []
def aeg (ps:List Nat)(x:List PV)(tm:List (Nat×AV))(K:List (Nat×AV)→Prop):Prop:=
 match Xo ps x tm with
 |some tm=>K tm
 |none=>False
def ajb (X:AS→Prop)(e:Exit)(s:AS):Prop:=
 match e with
 |.normal=>X s
 |_=>False
def VC (P:Program)(T:Tab):Code→AS→(Exit→AS→Prop)→Prop
 |.skip,s,K=>K .normal s
 | .seq a b,s,K=>match aef a with
   |true=>VC P T a s (aaO (fun s=>VC P T b s K) K)
   |false=>VC P T a s (aaO (fun s=>VC P T b s K) K)∨∃(ι:Type) (st:ι→AS),VC P T a s (aja ι st K)∧∀i,VC P T b (st i) K
 | .cond c x y,s,K=>match jE s.tm c with
   | some (.pv (.sc v))=>match v with
     |.bool b=>(b=true→VC P T x s K)∧(b=false→VC P T y s K)
     |_=>False
   | some (.bn b ver _ off)=>match s with
     | ⟨tm,nx,hp⟩=>match lk hp b with
       | some (.tr y' v rest st)=>match st with
         | none=>match Nat.beq ver v with
           | true=>match off with
             |0=>VC P T x ⟨tm,nx,(b,.tr y' v rest (some false))::hp⟩ K∧VC P T y ⟨tm,nx,(b,.tr y' v rest (some true))::hp⟩ K
             |1=>VC P T x ⟨tm,nx,(b,.tr y' v rest (some true))::hp⟩ K∧VC P T y ⟨tm,nx,(b,.tr y' v rest (some false))::hp⟩ K
             |_=>False
           |false=>False
         |some _=>False
       |_=>False
   |_=>False
 | .rangeFunc go ps PU MO,s,K=>∃(f:FuncId) (aM:List PV) (xs:List (List PV)),Qr P f aM xs∧∃(ι:Type) (ok:Nat→ι→Prop) (st:Nat→ι→AS),(∃i,qM s (st 0 i)) ∧
   (∀i,jE (st 0 i).tm go=some (.pv (.fn (.func f) [] aM)))∧(∀k i,Jb (st k i).tm=true) ∧
   (∀k x i,xs[k]? = some x→aeg ps.toList x (st k i).tm fun tm=>(k≠0→ok k i)→VC P T PU ⟨tm,(st k i).nx,(st k i).hp⟩ (ajb fun s1=>VC P T MO s1 (rfK (st k i).tm (fun s2=>∃j,ok (k+1) j∧qM s2 (st (k+1) j)) K))) ∧
   ∀i,(xs.length≠0→ok xs.length i)→K .normal (st xs.length i)
 |.block id c,s,K=>VC P T c s (agB id K)
 |.exit id,s,K=>K (.exit id) s
 |.ret,s,K=>K .ret s
 |.loop c,s,K=>∃(ι:Type) (st:ι→AS) (μ:ι→Nat),(∃i,qM s (st i))∧∀i,VC P T c (st i) (aaO (fun s'=>∃j,μ j<μ i∧qM s' (st j)) K)
 | .region id ops draw,s,K=>match s with
   | ⟨tm,nx,hp⟩=>match Nat.ble ((id+2)*1000+ops.toList.length) nx with
     | true=>match draw with
       |false=>Qo P (mk3 T) ops.toList ((id+2)*1000) ops.toList 0 tm hp [] [] fun tm hp tr=>K .normal ⟨tm,nx,hp⟩
       |true=>Qo P T ops.toList ((id+2)*1000) ops.toList 0 tm hp [] [] fun tm hp tr=>agC ops.toList tr.reverse=true∧K .normal ⟨tm,nx,hp⟩
     |false=>False
 |_,_,_=>False
def codeOk (n:Nat):Code→Bool
 |.seq a b=>codeOk n a&&codeOk n b
 |.cond _ a b=>codeOk n a&&codeOk n b
 |.block _ a=>codeOk n a
 |.loop a=>codeOk n a
 |.region _ ops _=>oU n ops.toList
 |.rangeFunc _ ps a b=>ps.toList.all (fun t=>Nat.blt t n)&&(codeOk n a&&codeOk n b)
 |_=>true
section
variable {P:Program}{T:Tab}
theorem wpIn_loop_ghost {F:Fence}{n:Nat}{P:Program}{Q:Exit→Act→World→Prop}{a:Act}{w:World}{c:Code}(I:Nat→Act→World→Prop)(n₀:Nat)(h₀:I n₀ a w)
  (round:∀m a w,I m a w→c.wpIn F n P (Exit.then (fun a' w'=>∃n',n'<m∧I n' a' w') Q) a w):(Code.loop c).wpIn F n P Q a w:=by
 refine wpIn_loop (fun a w=>∃n,I n a w) (fun a w=>leastOf (fun n=>I n a w)) ⟨n₀,h₀⟩ ?_;intro a w hI;refine Go.wpIn_mono (round _ a w (leastOf_spec hI).1) ?_;intro e a' w' hq;cases e with
 | normal=>
   obtain⟨n',hlt,hI'⟩:=hq;exact show (∃n,I n a' w')∧leastOf (fun n=>I n a' w')<leastOf (fun n=>I n a w) from ⟨⟨n',hI'⟩,Nat.lt_of_le_of_lt ((leastOf_spec ⟨n',hI'⟩).2 n' hI') hlt⟩
 |exit id=>exact hq
 |goto l=>exact hq
 |ret=>exact hq
 |panic ch=>exact hq
 |outgrown=>exact hq
def aaQ (s:AS):AS:=⟨s.tm,s.nx,[(0,.arr 0 0 1 [[]])]⟩
theorem Xp {c:Ctx}{R:Real}{s:AS}{a:Act}{w:World}(g:bB c R (aaQ s) a w):False:=by
 obtain⟨xs,_,h⟩:=g.boxes 0 (.arr 0 0 1 [[]]) rfl;simp only[bK] at h;exact absurd h.1 (by decide)
open Classical in
noncomputable def stB {ι:Type} (ok:Nat→ι→Prop) (st:Nat→ι→AS) (k:Nat) (i:ι):AS:=if k≠0→ok k i then st k i else aaQ (st k i)
theorem KE {ι:Type}{ok:Nat→ι→Prop}{st:Nat→ι→AS}{k:Nat}{i:ι}(h:k≠0→ok k i):stB ok st k i=st k i:=if_pos h
theorem SV {ι:Type}{ok:Nat→ι→Prop}{st:Nat→ι→AS}{k:Nat}{i:ι}(h:¬(k≠0→ok k i)):stB ok st k i=aaQ (st k i):=if_neg h
theorem EN {ι:Type}{ok:Nat→ι→Prop}{st:Nat→ι→AS}{k:Nat}{i:ι}:(stB ok st k i).tm=(st k i).tm:=by
 unfold stB;split<;>rfl
theorem gu (hT:bO P T)(kH:∀(c:Ctx) (R:Real) (s:AS) (a:Act) (w:World) (id:Nat) (ops:Array Oper) (K:Exit→AS→Prop) (ro:Option Nat),bB c R s a w→oU c.n ops.toList=true →
  VC P T (.region id ops true) s K→(Code.region id ops true).wpIn (W1 ro) 0 P (fun e a' w'=>∃R' s',K e s'∧bB c R' s' a' w') a w) :
  ∀(code:Code) {c:Ctx} {R:Real} {s:AS} {a:Act} {w:World} {K:Exit→AS→Prop} {ro:Option Nat},Qs c ro→bB c R s a w→codeOk c.n code=true→VC P T code s K →
   code.wpIn (W1 ro) 0 P (fun e a' w'=>∃R' s',K e s'∧bB c R' s' a' w') a w
 |.skip,c,R,s,a,w,K,ro,hro,g,hok,h=>wpIn_skip ⟨R,s,h,g⟩
 | .seq x y,c,R,s,a,w,K,ro,hro,g,hok,h=>by
   simp only[codeOk,Bool.and_eq_true] at hok;have direct:VC P T x s (aaO (fun s=>VC P T y s K) K)→(Code.seq x y).wpIn (W1 ro) 0 P (fun e a' w'=>∃R' s',K e s'∧bB c R' s' a' w') a w:=by
    intro h;refine wpIn_seq (Go.wpIn_mono (gu hT kH x hro g hok.1 h) ?_);rintro e a' w' ⟨R',s',hK,g'⟩
    cases e with
    |normal=>exact gu hT kH y hro g' hok.2 hK
    |exit i=>exact⟨R',s',hK,g'⟩
    |goto l=>exact⟨R',s',hK,g'⟩
    |ret=>exact⟨R',s',hK,g'⟩
    |panic ch=>exact⟨R',s',hK,g'⟩
    |outgrown=>exact⟨R',s',hK,g'⟩
   simp only[VC] at h;split at h
   ·exact direct h
   rcases h with h|⟨ι,st,h,h2⟩
   ·exact direct h
   refine wpIn_seq (Go.wpIn_mono (gu hT kH x hro g hok.1 h) ?_);rintro e a' w' ⟨R',s',hK,g'⟩
   cases e with
   | normal=>
     obtain⟨i,hi⟩:=hK;obtain⟨R2,g2⟩:=hi c R' a' w' g';exact gu hT kH y hro g2 hok.2 (h2 i)
   |exit i=>exact⟨R',s',hK,g'⟩
   |goto l=>exact⟨R',s',hK,g'⟩
   |ret=>exact⟨R',s',hK,g'⟩
   |panic ch=>exact⟨R',s',hK,g'⟩
   |outgrown=>exact⟨R',s',hK,g'⟩
 | .cond cc x y,c,R,s,a,w,K,ro,hro,g,hok,h=>by
   simp only[codeOk,Bool.and_eq_true] at hok;simp only[VC] at h;split at h
   ·rename_i v hv;have hr:=wZ g hv;simp only[ai,bE] at hr;split at h;rotate_left;cases h
    rename_i b;refine wpIn_cond hr ?_;cases b with
    |true=>exact gu hT kH x hro g hok.1 (h.1 rfl)
    |false=>exact gu hT kH y hro g hok.2 (h.2 rfl)
   ·rename_i b ver i off hv;have hr:=wZ g hv;obtain⟨tm,nx,hp⟩:=s;simp only at h;split at h;rotate_left;cases h
    rename_i y' v rest st hb;split at h;rotate_left;cases h
    split at h;rotate_left;cases h
    rename_i gy;have gy:=Nat.eq_of_beq_eq_true gy;simp only[ai,hb,aZ] at hr;have hval:=hr.2.2 gy (by trivial);have e01:Nat.beq 0 1=false:=rfl;have e11:Nat.beq 1 1=true:=rfl;have hres:∀(q:Bool),R.nil b=(!q)→bB c R ⟨tm,nx,(b,.tr y' v rest (some q))::hp⟩ a w:=by
     intro q hq;have hbx:=g.boxes b _ hb;refine g.upd (s:=⟨tm,nx,hp⟩) (R':=R) (w':=w) (b:=b) (bD:=.tr y' v rest (some q)) (nx':=nx) (fun _ _=>⟨rfl,rfl,rfl⟩) (fun off v h=>?_) (fun ver v h=>?_) (fun ver i off v h=>?_) (fun r h=>.inl ?_) (nI.refl _ _) ?_
     ·simp only[hb,aX] at h
     ·simp only[hb,aS] at h
     ·simp only[hb,aZ] at h ⊢;exact⟨h.1,h.2.1,fun _ e=>by cases e⟩
     ·simp only[hb];exact h
     obtain⟨k0,kh,k1,k2,k3,k4⟩:=hbx;refine⟨k0,kh,?_,k2,k3,fun r hn=>k4 r ?_⟩
     ·simp only[Option.getD_none,hq,Bool.not_not] at k1;exact k1
     rcases hn with hn|⟨b2,ho⟩
     ·exact .inl hn
     refine .inr ⟨b2,?_⟩;by_cases e:b2=b
     ·subst e;rw[ax,if_pos rfl] at ho;simp only[hb];exact ho
     rw[ax,if_neg (fun e'=>e e'.symm)] at ho;exact ho
    split at h
    ·refine wpIn_cond hval ?_;cases hn:R.nil b with
     |true=>simpa[hn,e01,e11] using gu hT kH x hro (hres false (by simp[hn])) hok.1 h.1
     |false=>simpa[hn,e01,e11] using gu hT kH y hro (hres true (by simp[hn])) hok.2 h.2
    ·refine wpIn_cond hval ?_;cases hn:R.nil b with
     |true=>simpa[hn,e01,e11] using gu hT kH y hro (hres false (by simp[hn])) hok.2 h.2
     |false=>simpa[hn,e01,e11] using gu hT kH x hro (hres true (by simp[hn])) hok.1 h.1
    exact h.elim
   exact h.elim
 | .block id x,c,R,s,a,w,K,ro,hro,g,hok,h=>by
   simp only[codeOk] at hok;simp only[VC] at h;refine wpIn_block (Go.wpIn_mono (gu hT kH x hro g hok h) ?_);rintro e a' w' ⟨R',s',hK,g'⟩
   cases e with
   | exit i=>
     simp only[Exit.inBlock];simp only[agB] at hK;split at hK
     ·rename_i hb;rw[if_pos (Nat.eq_of_beq_eq_true hb)];exact⟨R',s',hK,g'⟩
     rename_i hb;rw[if_neg (Nat.ne_of_beq_eq_false hb)];exact⟨R',s',hK,g'⟩
   |normal=>exact⟨R',s',hK,g'⟩
   |goto l=>exact⟨R',s',hK,g'⟩
   |ret=>exact⟨R',s',hK,g'⟩
   |panic ch=>exact⟨R',s',hK,g'⟩
   |outgrown=>exact⟨R',s',hK,g'⟩
 |.exit id,c,R,s,a,w,K,ro,hro,g,hok,h=>wpIn_exit ⟨R,s,h,g⟩
 |.ret,c,R,s,a,w,K,ro,hro,g,hok,h=>wpIn_ret ⟨R,s,h,g⟩
 | .loop x,c,R,s,a,w,K,ro,hro,g,hok,h=>by
   simp only[codeOk] at hok;simp only[VC] at h;obtain⟨ι,st,μ,⟨i0,h0⟩,hr⟩:=h;obtain⟨R0,g0⟩:=h0 c R a w g;refine wpIn_loop_ghost (fun n a w=>∃i R,μ i=n∧bB c R (st i) a w) (μ i0) ⟨i0,R0,rfl,g0⟩ ?_;rintro n a' w' ⟨i,R1,rfl,g1⟩
   refine Go.wpIn_mono (gu hT kH x hro g1 hok (hr i)) ?_;rintro e a2 w2 ⟨R2,s2,hK,g2⟩
   cases e with
   | normal=>
     obtain⟨j,hj,he⟩:=hK;obtain⟨R3,g3⟩:=he c R2 a2 w2 g2;exact⟨μ j,hj,j,R3,rfl,g3⟩
   |exit i=>exact⟨R2,s2,hK,g2⟩
   |goto l=>exact⟨R2,s2,hK,g2⟩
   |ret=>exact⟨R2,s2,hK,g2⟩
   |panic ch=>exact⟨R2,s2,hK,g2⟩
   |outgrown=>exact⟨R2,s2,hK,g2⟩
 | .region id ops draw,c,R,s,a,w,K,ro,hro,g,hok,h=>by
   simp only[codeOk] at hok;cases draw with
   |true=>exact kH c R s a w id ops K ro g hok h
   | false=>
     simp only[VC] at h;obtain⟨tm,nx,hp⟩:=s;simp only at h;split at h;rotate_left;cases h
     rename_i hb;refine wpIn_region_list (yY ro hT.mk3 ops.toList 0 (s:=⟨tm,nx,hp⟩) g (by simp only[Nat.add_zero];exact Nat.le_of_ble_eq_true hb) hok h ?_);intro R' tm' hp' qY a' w' hK g';exact⟨R',_,hK,g'⟩
 | .rangeFunc go ps PU MO,c,R,s,a,w,K,ro,hro,g,hok,h=>by
   simp only[codeOk,Bool.and_eq_true] at hok;obtain⟨hps,hok1,hok2⟩:=hok;simp only[VC] at h;obtain⟨f,aM,xs,hs,ι,ok,st,h0,hgo,hlow,KD,hend⟩:=h;refine Go.wpIn_mono (Xq (ps:=ps) (PU:=PU) (MO:=MO) (st:=stB ok st) (K:=fun e s=>K e s∨∃s0,s=aaQ s0)
    (A:=fun k i x s1=>(k≠0→ok k i)∧VC P T MO s1 (rfK (st k i).tm (fun s2=>∃j,ok (k+1) j∧qM s2 (st (k+1) j)) K)) g hro hs (fun t ht=>?_) (fun i=>by rw[EN];exact hgo i) (by rw[show stB ok st 0=st 0 from funext fun i=>KE fun h=>absurd rfl h];exact h0)
    (fun k i=>by rw[EN];exact hlow k i) (fun l c' k i x tm R a w hn aeh hx SX g'=>?_) (fun l c' k i x s1 R a w hn aeh hx hA g'=>?_) (fun k i x hx=>?_) (fun i=>?_)) ?_
   ·have:=List.all_eq_true.1 hps t ht;rwa [Nat.blt_eq] at this
   ·by_cases hv:k≠0→ok k i
    ·rw[EN] at SX;rw[KE hv] at g';have h1:=KD k x i hx;simp only[aeg,SX] at h1;refine Go.wpIn_mono (gu hT kH PU aeh g' (by rw[hn];exact hok1) (h1 hv)) ?_;rintro e a' w' ⟨R',s',hK,g2⟩
     cases e with
     |normal=>exact⟨R',s',⟨hv,hK⟩,g2⟩
     |exit i=>exact hK.elim
     |goto l=>exact hK.elim
     |ret=>exact hK.elim
     |panic ch=>exact hK.elim
     |outgrown=>exact hK.elim
    rw[SV hv] at g';exact (Xp (s:=⟨tm,_,[]⟩) g').elim
   ·refine Go.wpIn_mono (gu hT kH MO aeh g' (by rw[hn];exact hok2) hA.2) ?_;rintro e a' w' ⟨R',s',hK,g2⟩
    refine⟨R',s',?_,g2⟩;rw[EN];revert hK;unfold rfK;split
    ·rintro⟨j,hj,he⟩
     exact⟨j,by rw[KE fun _=>hj];exact he⟩
    ·exact .inl
    ·exact .inl
    exact id
   ·rw[EN];have h1:=KD k x i hx;unfold aeg at h1;split at h1
    ·rename_i tm SX;exact⟨tm,SX⟩
    exact h1.elim
   ·by_cases hv:xs.length≠0→ok xs.length i
    ·rw[KE hv];exact .inl (hend i hv)
    rw[SV hv];exact .inr ⟨_,rfl⟩
   rintro e a' w' ⟨R',s',hK,g2⟩
   rcases hK with hK|⟨s0,rfl⟩
   ·exact⟨R',s',hK,g2⟩
   exact (Xp g2).elim
 |.scope _,c,R,s,a,w,K,ro,hro,g,hok,h=>by simp[VC] at h
 |.label _,c,R,s,a,w,K,ro,hro,g,hok,h=>by simp[VC] at h
 |.goto _,c,R,s,a,w,K,ro,hro,g,hok,h=>by simp[VC] at h
 |.refuse _,c,R,s,a,w,K,ro,hro,g,hok,h=>by simp[VC] at h
def lits:List Nat:=[0,1,2,3,4,5,6,7,8,9,10,11,12,13,14,15]
def Qt:List Nat→List PV→Option (List (Nat×AV))
 |_,[]=>some []
 |[],_::_=>none
 | k::ks,p::r=>match Qt ks r with
   |some t=>some ((k,.pv p)::t)
   |none=>none
def aei (args:List PV)(K:AS→Prop):Prop:=
 match Qt lits args with
 |some tm=>K ⟨tm,1000000000,[]⟩
 |none=>False
def H9 (T:Tab)(s:AS):List ResultVar→(List AV→Prop)→Prop
 |[],K=>K []
 | rv::r,K=>match rv with
   | .tmp t=>match lk s.tm t with
     |some v=>H9 T s r fun vs=>K (v::vs)
     |none=>False
   | .cell x t=>match lk s.tm x with
     | some v=>match MP v with
       |true=>vB T s.hp t v fun u=>H9 T s r fun vs=>K (u::vs)
       |false=>False
     |none=>False
def Xr (hp:List (Nat×aA))(vs:List AV)(Q:PV→Prop):Prop:=
 match vs with
 | [v]=>match vw hp v with
   |some p=>Q p
   |none=>False
 | _=>match I6 hp vs with
   |some ps=>Q (.dn ps)
   |none=>False
def fnK (T:Tab)(rs:List ResultVar)(Q:PV→Prop)(e:Exit)(s:AS):Prop:=
 match e with
 |.normal=>H9 T s rs fun vs=>Xr s.hp vs Q
 |.ret=>H9 T s rs fun vs=>Xr s.hp vs Q
 |_=>False
def KF (P:Program)(tmps:Array Value):ResultVar→Sem Value
 |.tmp t=>pure (tmps.getD t undef)
 |.cell a t=>do loadVar t (←asAddr (tmps.getD a undef))
theorem sN {c:Ctx}{R:Real}{s:AS}{a:Act}{w:World}(g:bB c R s a w)(hT:bO P T):∀(rs:List ResultVar) {K:List AV→Prop},H9 T s rs K →
  ∃vs us,(rs.mapM (KF P a.tmps)).run P w=.ok us w∧K vs∧FL (ai (aT c R s.hp) w s.hp R) vs us
 |[],K,h=>⟨[],[],by simp,h,rfl⟩
 | rv::r,K,h=>by
   simp only[H9] at h;split at h
   ·rename_i t;split at h;rotate_left;cases h
    rename_i v hv;obtain⟨vs,us,h1,h2,h3⟩:=sN g hT r h;obtain⟨x,hx,hr⟩:=g.slots t v hv;refine⟨v::vs,x::us,?_,h2,⟨x,us,rfl,hr,h3⟩⟩;simp[List.mapM_cons,KF,h1,hx]
   rename_i x t;split at h;rotate_left;cases h
   rename_i v hv;split at h;rotate_left;cases h
   rename_i hp';obtain⟨xv,hx,hr⟩:=g.slots x v hv;obtain⟨y,z,h1,h2,h3⟩:=vC g hT (fun b box hb=>hb) h hr;obtain⟨vs,us,h4,h5,h6⟩:=sN g hT r h2;obtain⟨ad,rfl⟩:=zS hp' hr;refine⟨z::vs,y::us,?_,h5,⟨y,us,rfl,h3,h6⟩⟩;have h7:(loadVar t ad).run P w=.ok y w:=by simpa[Instr.loadAt,Instr.sureAddr] using h1
   simp[List.mapM_cons,KF,hx,asAddr,h7,h4]
theorem Qu {c:Ctx}{R:Real}{s:AS}{a:Act}{w:World}(g:bB c R s a w){vs:List AV}{us:List Value}{Q:PV→Prop}(h:Xr s.hp vs Q)
  (hv:FL (ai (aT c R s.hp) w s.hp R) vs us):∃r v,(if hu:us.toArray.size=1 then us.toArray[0] else .tuple us.toArray)=v∧Q r∧bE c.F w r v:=by
 have hN:∀r,c.F r→aT c R s.hp r:=fun r h=>.inl h
 have h2:∀b,∀r,aI R b r (lk s.hp b)→¬c.F r:=fun b r ho=>g.free r ⟨b,ho⟩
 have hl:=hv.length;unfold Xr at h;split at h
 ·rename_i v;obtain⟨u,r,rfl,hu,hr⟩:=hv;simp only[FL] at hr;subst hr;split at h
  ·rename_i p hp;refine⟨p,u,by simp,h,rf g (fun b box hb=>hb) hN v p u (fun b _=>h2 b) hp hu⟩
  exact h.elim
 rename_i hne;split at h;rotate_left;cases h
 rename_i ps hps;have hsz:us.toArray.size≠1:=by
  intro e;simp only[List.size_toArray] at e;rw[e] at hl;match vs with
  |[v]=>exact hne v rfl
  |[]=>simp at hl
  |_::_::_=>simp at hl
 refine⟨.dn ps,.tuple us.toArray,by rw[dif_neg hsz],h,?_⟩;simp only[bE];refine⟨us.toArray,rfl,?_⟩;exact iF g (fun b box hb=>hb) hN vs ps _ (fun b _=>h2 b) hps (by rw[eO];exact hv)
theorem KG:∀(ks:List Nat) (k:Nat) (args:List PV) (tm:List (Nat×AV)) (t:Nat) (v:AV),(∀i x,ks[i]? = some x→x=k+i)→Qt ks args=some tm→lk tm t=some v →
  k≤t∧∃p,args[t-k]? = some p∧v=.pv p
 |ks,k,[],tm,t,v,_,hn,h=>by cases ks<;>simp only[Qt,Option.some.injEq] at hn<;>subst hn<;>simp[lk] at h
 |[],k,p::r,tm,t,v,_,hn,h=>by simp[Qt] at hn
 | k'::ks,k,p::r,tm,t,v,hk,hn,h=>by
   simp only[Qt] at hn;split at hn
   ·rename_i tm' SX;simp only[Option.some.injEq] at hn;subst hn;have hk0:k'=k:=by simpa using hk 0 k' rfl
    subst hk0;rw[ax] at h;split at h
    ·rename_i e;simp only[Option.some.injEq] at h;subst e;subst h;exact⟨Nat.le_refl _,p,by simp,rfl⟩
    rename_i e;obtain⟨h1,q,h2,h3⟩:=KG ks (k'+1) r tm' t v (fun i x hx=>by have:=hk (i+1) x (by simpa using hx);omega) SX h;refine⟨by omega,q,?_,h3⟩;rw[show t-k'=(t-(k'+1))+1 from by omega,List.getElem?_cons_succ];exact h2
   cases hn
theorem KH:∀i x,lits[i]? = some x→x=0+i:=by
 intro i x h;rcases i with _|_|_|_|_|_|_|_|_|_|_|_|_|_|_|_|i<;>simp[lits] at h<;>omega
def codeOf (fn:Func):Code:=
 match fn.body with
 |some c=>c
 |none=>.skip
structure aQ (P:Program)(f:FuncId)(fn:Func):Prop where
 func:P.funcs[f]? = some fn
 body:fn.body.isSome=true
 name:(fn.name == "runtime.NumGoroutine")=false
 ok:codeOk fn.ntmps (codeOf fn)=true
theorem sO {c:Ctx}{R:Real}{s:AS}(hwl:c.w.heap.size≤c.lo)(Xt:∀r o,c.fix r=some o→r<c.lo){fn:Func}{Rr:Ending→World→Prop}:∀(Ds:List Nat) (a:Act) (w:World),bB c R s a w→Marks c.lo (owned R s.hp) w a.defers Ds →
  ∃w',w.heap.size≤w'.heap.size∧bB c R s { a with defers:=[] } w'∧(LeavesIn Fence.wide 0 P fn a.tmps Rr [] .returning w'→LeavesInM Fence.wide 0 P fn a.tmps Rr a.defers .returning w)
 | [],a,w,g,mk=>by
   have e:a.defers=[]:=by simpa using mk.eq
   have ea:({ a with defers:=[] }:Act)=a:=by cases a;simp only at e;subst e;rfl
   refine⟨w,Nat.le_refl _,by rw[ea];exact g,fun h=>by rw[e];exact h⟩
 | D::Ds,a,w,g,mk=>by
   have e:a.defers=mark D::Ds.map mark:=by simpa using mk.eq
   have hD:=mk.obj D (by simp);have amj:=mk.low D (by simp);have hDf:=mk.free D (by simp);have hnd:=List.nodup_cons.1 mk.nodup;let a1:Act:={ a with defers:=Ds.map mark }
   have mk1:Marks c.lo (owned R s.hp) (w.putObj D (.deferred none)) a1.defers Ds:=by
    refine⟨fun d hd=>mk.low d (by simp[hd]),rfl,hnd.2,fun d hd=>?_,fun d hd=>mk.free d (by simp[hd])⟩;rw[World.putObj_heap_other (fun (e:d=D)=>hnd.1 (by rw[←e];exact hd))];exact mk.obj d (by simp[hd])
   have g1:bB c R s a1 (w.putObj D (.deferred none)):=by
    refine g.sP (c2:=c) rfl rfl (fun v y h=>g.kept v y h) (fun r _ h=>h) (fun r o ho hc _=>?_) (by simp) ⟨rfl,rfl,rfl⟩ g.free ?_ ?_ g.iL ⟨rfl,g.lo.2.1,by rw[World.putObj_size];exact g.lo.2.2⟩ ⟨Ds,mk1⟩
    ·rw[World.putObj_heap_other]
     ·exact ho
     rintro rfl
     rcases hc with h|h|h
     ·have:=g.lo.2.1;omega
     ·rw[hD] at ho;simp only[Option.some.injEq] at ho;rw[←ho] at h;cases h
     exact hDf h
    ·refine⟨fun r o h=>?_,g.fixed.free,g.fixed.nc⟩;have:=Xt r o h;rw[World.putObj_heap_other (by omega)];exact g.fixed.obj r o h
    exact g.jE.trans (O':=fun r=>r=D) ⟨by simp,fun r _ hn=>World.putObj_heap_other hn,rfl,rfl,rfl⟩ fun r hr h=>by omega
   obtain⟨w2,hsz,g2,hl⟩:=sO hwl Xt Ds a1 _ g1 mk1;refine⟨w2,Nat.le_trans (by simp) hsz,g2,fun h=>?_⟩;rw[e];refine⟨by simp,.inl ⟨D,_,rfl,run_takeDeferred hD,hl h⟩⟩
theorem Xu (hT:bO P T)(kH:∀(c:Ctx) (R:Real) (s:AS) (a:Act) (w:World) (id:Nat) (ops:Array Oper) (K:Exit→AS→Prop) (ro:Option Nat),bB c R s a w→oU c.n ops.toList=true →
  VC P T (.region id ops true) s K→(Code.region id ops true).wpIn (W1 ro) 0 P (fun e a' w'=>∃R' s',K e s'∧bB c R' s' a' w') a w)
  {f:FuncId} {fn:Func} (hf:aQ P f fn) {args:List PV} (hl:Nat.ble args.length fn.ntmps=true) {Q:PV→Prop}
  (h:aei args fun s=>VC P T (codeOf fn) s (fnK T fn.results.toList Q)):PC P f args Q:=by
 unfold aei at h;split at h
 case h_2=>exact h.elim
 rename_i tm0 Xv;refine⟨⟨fn,hf.func,hf.body,hf.name⟩,fun F w dm hF hargs=>?_⟩;have hbody:fn.body=some (codeOf fn):=by
  have:=hf.body;unfold codeOf;cases hb:fn.body with
  |none=>rw[hb] at this;cases this
  |some c=>rfl
 have hl:=Nat.le_of_ble_eq_true hl;rw[jf] at hargs;have hcl:dm.size=args.length:=by have:=hargs.length;simpa using this
 let c:Ctx:={ F:=F,O:=fun _=>False,w:=w,n:=fn.ntmps,hF:=hF,K:=fun _ _=>False,hK:=fun _ _ h=>h.elim,fix:=fun _=>none,n0:=(0,fun _ _ _ _ _=>False),lo:=w.heap.size }
 let R:Real:=⟨fun _=>0,fun _=>true,fun _=>(0,[]),⟨fun _=>False,fun _=>False,w,(0,fun _ _ _ _ _=>False)⟩⟩
 have hno:∀r,¬owned R [] r:=by rintro r ⟨b,hb⟩;exact hb
 have hNF:∀r,aT c R [] r→F r:=fun r h=>h.resolve_right (hno r)
 refine callsIn_wide.1 (callsIn_of_wp_marks (n:=0) hf.func hbody trivial ?_);have g:bB c R ⟨tm0,1000000000,[]⟩ { tmps:=dm++Array.replicate (fn.ntmps-dm.size) undef,defers:=[] } w:=by
  refine⟨?_,?_,⟨rfl,Nat.zero_le _,Nat.le_refl _⟩,⟨[],Marks.nil⟩,uz.none,?_,?_,?_,nI.refl _ _,?_,fun _ _ h=>h.elim⟩
  ·intro t v hv;obtain⟨_,p,hp,rfl⟩:=KG lits 0 args tm0 t v KH Xv hv;obtain⟨x,hx,hr⟩:=hargs.get hp;have hx':dm[t]? = some x:=by simpa using hx
   refine⟨x,?_,?_⟩
   ·have:=size_of_getElem? hx';simp only;rw[Array.getElem?_append_left this];exact hx'
   simp only[ai];exact dw (fun r _ h=>hNF r h) (fun _ _ _=>rfl) _ _ hr
  ·show (dm++Array.replicate (fn.ntmps-dm.size) undef).size=fn.ntmps
   simp;omega
  ·intro b box hb;simp[lk] at hb
  ·intro b b' r hb;exact hb.elim
  ·rintro r ⟨b,hb⟩;exact hb.elim
  rintro r ⟨b,hb⟩;exact hb.elim
 refine Go.wpIn_mono (gu (ro:=none) hT kH (codeOf fn) ⟨fun _ h=>(by cases h),fun _ _ h=>(by cases h)⟩ g hf.ok h) ?_;rintro e a' w0' ⟨R',s',hK,g0'⟩
 obtain⟨Ds,mkD⟩:=g0'.marks;obtain⟨w',agF,g',hleave⟩:=sO (P:=P) (fn:=fn) (Rr:=fun e w'=>∃v r,e=.returned v∧Q r∧bE F w' r v∧Same w w') (Nat.le_refl _) (fun _ _ h=>(by cases h)) Ds a' w0' g0' mkD;have fin:(H9 T s' fn.results.toList fun vs=>Xr s'.hp vs Q)→LeavesInM Fence.wide 0 P fn a'.tmps (fun e w'=>∃v r,e=.returned v∧Q r∧bE F w' r v∧Same w w') a'.defers .returning w0':=by
  intro hK;refine hleave ?_;obtain⟨vs,us,h1,h2,h3⟩:=sN g' hT _ hK;obtain⟨r,v,h4,h5,h6⟩:=Qu g' h2 h3;refine⟨v,?_,v,r,rfl,h5,h6,g'.jE⟩;have hres:results fn a'.tmps=(fn.results.mapM (KF P a'.tmps) >>= fun vs=>pure (if h:vs.size=1 then vs[0] else .tuple vs)):=by
   unfold results;congr 2
  have hm:(fn.results.mapM (KF P a'.tmps)).run P w'=.ok us.toArray w':=by
   rw[Array.mapM_eq_mapM_toList,Sem.run_map,h1];rfl
  rw[hres];simp only[Sem.run_bind,hm,Result.andThen_ok,Sem.run_pure];exact congrArg (fun x=>Result.ok x w') h4
 cases e with
 |normal=>exact fin hK
 |ret=>exact fin hK
 |exit i=>exact hK.elim
 |goto l=>exact hK.elim
 |panic ch=>exact hK.elim
 |outgrown=>exact hK.elim
def Jc:List Nat→List AV→Option (List (Nat×AV))
 |_,[]=>some []
 |[],_::_=>none
 | k::ks,p::r=>match Jc ks r with
   |some t=>some ((k,p)::t)
   |none=>none
def aej (args:List AV)(hp:List (Nat×aA))(K:AS→Prop):Prop:=
 match Jc lits args with
 |some tm=>K ⟨tm,1000000000,hp⟩
 |none=>False
def adq (vs:List AV):AV:=
 match je vs with
 |some ps=>.pv (.dn ps)
 |none=>.dn vs
def Xw (hp:List (Nat×aA))(vs:List AV)(Q:AV→List (Nat×aA)→Prop):Prop:=
 match vs with
 |[v]=>Qv hp v Q
 | _=>match adq vs with
   |v=>Qv hp v Q
def fnG (T:Tab)(rs:List ResultVar)(Q:AV→List (Nat×aA)→Prop)(e:Exit)(s:AS):Prop:=
 match e with
 |.normal=>H9 T s rs fun vs=>Xw s.hp vs Q
 |.ret=>H9 T s rs fun vs=>Xw s.hp vs Q
 |_=>False
theorem MQ:∀(ks:List Nat) (k:Nat) (args:List AV) (tm:List (Nat×AV)) (t:Nat) (v:AV),(∀i x,ks[i]? = some x→x=k+i)→Jc ks args=some tm→lk tm t=some v →
  k≤t∧args[t-k]? = some v
 |ks,k,[],tm,t,v,_,hn,h=>by cases ks<;>simp only[Jc,Option.some.injEq] at hn<;>subst hn<;>simp[lk] at h
 |[],k,p::r,tm,t,v,_,hn,h=>by simp[Jc] at hn
 | k'::ks,k,p::r,tm,t,v,hk,hn,h=>by
   simp only[Jc] at hn;split at hn
   ·rename_i tm' SX;simp only[Option.some.injEq] at hn;subst hn;have hk0:k'=k:=by simpa using hk 0 k' rfl
    subst hk0;rw[ax] at h;split at h
    ·rename_i e;simp only[Option.some.injEq] at h;subst e;subst h;exact⟨Nat.le_refl _,by simp⟩
    rename_i e;obtain⟨h1,h2⟩:=MQ ks (k'+1) r tm' t v (fun i x hx=>by have:=hk (i+1) x (by simpa using hx);omega) SX h;refine⟨by omega,?_⟩;rw[show t-k'=(t-(k'+1))+1 from by omega,List.getElem?_cons_succ];exact h2
   cases hn
theorem Qw {c:Ctx}{R:Real}{hp:List (Nat×aA)}{w:World}(g:Hq c R hp w){vs:List AV}{us:List Value}{Q:AV→List (Nat×aA)→Prop}(h:Xw hp vs Q)
  (hv:FL (ai (aT c R hp) w hp R) vs us):∃r hp' R',Q r hp'∧Hq c R' hp' w∧ai (aT c R' hp') w hp' R' r (if hu:us.toArray.size=1 then us.toArray[0] else .tuple us.toArray):=by
 have hl:=hv.length;unfold Xw at h;split at h
 ·rename_i v;obtain⟨u,r,rfl,hu,hr⟩:=hv;simp only[FL] at hr;subst hr;exact mO h g (by simpa using hu)
 rename_i hne;have hsz:us.toArray.size≠1:=by
  intro e;simp only[List.size_toArray] at e;rw[e] at hl;match vs with
  |[v]=>exact hne v rfl
  |[]=>simp at hl
  |_::_::_=>simp at hl
 rw[dif_neg hsz];refine mO h g ?_;have hv':=(eO _ _ _ _ _ _).2 hv;unfold adq;split
 ·rename_i ps hps;have:=BF hps;subst this;simp only[ai,bE];exact⟨us.toArray,rfl,vk _ _ hv'⟩
 simp only[ai];exact⟨us.toArray,rfl,hv'⟩
theorem zU (hT:bO P T)(kH:∀(c:Ctx) (R:Real) (s:AS) (a:Act) (w:World) (id:Nat) (ops:Array Oper) (K:Exit→AS→Prop) (ro:Option Nat),bB c R s a w→oU c.n ops.toList=true →
  VC P T (.region id ops true) s K→(Code.region id ops true).wpIn (W1 ro) 0 P (fun e a' w'=>∃R' s',K e s'∧bB c R' s' a' w') a w)
  {f:FuncId} {fn:Func} (hf:aQ P f fn) {args:List AV} {hp:List (Nat×aA)} (hl:Nat.ble args.length fn.ntmps=true) {Q:AV→List (Nat×aA)→Prop}
  (h:aej args hp fun s=>VC P T (codeOf fn) s (fnG T fn.results.toList Q)):GC P f args hp Q:=by
 unfold aej at h;split at h
 case h_2=>exact h.elim
 rename_i tm0 Xv;refine⟨⟨fn,hf.func,hf.body,hf.name⟩,fun c R w dm hh hargs=>?_⟩;have hbody:fn.body=some (codeOf fn):=by
  have:=hf.body;unfold codeOf;cases hb:fn.body with
  |none=>rw[hb] at this;cases this
  |some c=>rfl
 have hl:=Nat.le_of_ble_eq_true hl;rw[eO] at hargs;have hcl:dm.size=args.length:=by have:=hargs.length;simpa using this
 let c':Ctx:={ c with n:=fn.ntmps,lo:=w.heap.size }
 have PW:Hq c' R hp w:=⟨hh.boxes,hh.inj,hh.free,hh.jE,hh.iL,hh.kept,hh.fixed,⟨hh.lo.1,Nat.le_trans hh.lo.2.1 hh.lo.2.2,Nat.le_refl _⟩⟩;refine callsIn_wide.1 (callsIn_of_wp_marks (n:=0) hf.func hbody trivial ?_);have g:bB c' R ⟨tm0,1000000000,hp⟩ { tmps:=dm++Array.replicate (fn.ntmps-dm.size) undef,defers:=[] } w:=by
  refine PW.Xx ?_ ?_ ⟨[],Marks.nil⟩
  ·intro t v hv;obtain⟨_,hp⟩:=MQ lits 0 args tm0 t v KH Xv hv;obtain⟨x,hx,hr⟩:=hargs.get hp;have hx':dm[t]? = some x:=by simpa using hx
   refine⟨x,?_,hr⟩;have:=size_of_getElem? hx';simp only;rw[Array.getElem?_append_left this];exact hx'
  show (dm++Array.replicate (fn.ntmps-dm.size) undef).size=fn.ntmps
  simp;omega
 refine Go.wpIn_mono (gu (c:=c') (ro:=none) hT kH (codeOf fn) ⟨fun _ h=>(by cases h),hh.fixed.nc⟩ g hf.ok h) ?_;rintro e a' w0' ⟨R',s',hK,g0'⟩
 obtain⟨Ds,mkD⟩:=g0'.marks;obtain⟨w',agF,g',hleave⟩:=sO (c:=c') (P:=P) (fn:=fn) (Rr:=fun e w'=>∃v r hp' R',e=.returned v∧Q r hp'∧Hq c R' hp' w'∧ai (aT c R' hp') w' hp' R' r v) hh.jE.size (fun r o h=>size_of_getElem? (hh.fixed.obj r o h)) Ds a' w0' g0' mkD;have fin:(H9 T s' fn.results.toList fun vs=>Xw s'.hp vs Q)→LeavesInM Fence.wide 0 P fn a'.tmps (fun e w'=>∃v r hp' R',e=.returned v∧Q r hp'∧Hq c R' hp' w'∧ai (aT c R' hp') w' hp' R' r v) a'.defers .returning w0':=by
  intro hK;refine hleave ?_;obtain⟨vs,us,h1,h2,h3⟩:=sN g' hT _ hK;obtain⟨r,hp',R2,h4,h5,h6⟩:=Qw g'.hap h2 h3;refine⟨_,?_,_,r,hp',R2,rfl,h4,⟨h5.boxes,h5.inj,h5.free,h5.jE,h5.iL,h5.kept,h5.fixed,⟨h5.lo.1,hh.lo.2.1,?_⟩⟩,h6⟩;rotate_left
  ·have h1:w.heap.size≤w'.heap.size:=h5.lo.2.2;exact Nat.le_trans hh.lo.2.2 h1
  have hres:results fn a'.tmps=(fn.results.mapM (KF P a'.tmps) >>= fun vs=>pure (if h:vs.size=1 then vs[0] else .tuple vs)):=by
   unfold results;congr 2
  have hm:(fn.results.mapM (KF P a'.tmps)).run P w'=.ok us.toArray w':=by
   rw[Array.mapM_eq_mapM_toList,Sem.run_map,h1];rfl
  rw[hres];simp only[Sem.run_bind,hm,Result.andThen_ok,Sem.run_pure]
 cases e with
 |normal=>exact fin hK
 |ret=>exact fin hK
 |exit i=>exact hK.elim
 |goto l=>exact hK.elim
 |panic ch=>exact hK.elim
 |outgrown=>exact hK.elim
def aaR (o:Option aA):Prop:=
 match o with
 | some (.tr _ _ rest st)=>match st with
   |some true=>True
   |some false=>rest=[]
   |none=>rest=[]
 |_=>False
def fnY (e:Exit)(s:AS):Prop:=
 match e with
 |.normal=>aaR (lk s.hp 999)
 |.ret=>aaR (lk s.hp 999)
 |_=>False
def agG (P:Program)(l:Nat)(aM:List PV)(xs:List (List PV))(K:AS→Prop):Prop:=
 match Qt lits (.fn (.yield l) [] []::aM) with
 |some tm=>K ⟨tm,1000000000,[(999,.tr (P,l) 0 xs (some false))]⟩
 |none=>False
theorem EO (hT:bO P T)(kH:∀(c:Ctx) (R:Real) (s:AS) (a:Act) (w:World) (id:Nat) (ops:Array Oper) (K:Exit→AS→Prop) (ro:Option Nat),bB c R s a w→oU c.n ops.toList=true →
  VC P T (.region id ops true) s K→(Code.region id ops true).wpIn (W1 ro) 0 P (fun e a' w'=>∃R' s',K e s'∧bB c R' s' a' w') a w)
  {f:FuncId} {fn:Func} (hf:aQ P f fn) {aM:List PV} {xs:List (List PV)} (hl:Nat.ble (aM.length+1) fn.ntmps=true) (agH:fn.results.toList=[])
  (h:∀l,agG P l aM xs fun s=>VC P T (codeOf fn) s fnY):Qr P f aM xs:=by
 refine⟨⟨fn,hf.func,hf.body,hf.name⟩,fun l J D w dm hY hD hJ agI=>?_⟩;have h:=h l;unfold agG at h;split at h
 case h_2=>exact h.elim
 rename_i tm0 Xv;have hbody:fn.body=some (codeOf fn):=by
  have:=hf.body;unfold codeOf;cases hb:fn.body with
  |none=>rw[hb] at this;cases this
  |some c=>rfl
 have hl:=Nat.le_of_ble_eq_true hl;have hargs:dX D w (.fn (.yield l) [] []::aM) (#[Value.func (.yield l) #[] #[]]++dm).toList:=by
  simp only[dX,bE,Array.toList_append,List.cons_append,List.nil_append];exact⟨_,_,rfl,⟨#[],#[],rfl,rfl,rfl⟩,agI⟩
 generalize hca : #[Value.func (.yield l) #[] #[]]++dm=ca at hargs;rw[jf] at hargs;have hcl:ca.size=aM.length+1:=by have:=hargs.length;simpa using this
 let c:Ctx:={ F:=fun _=>False,O:=D,w:=w,n:=fn.ntmps,hF:=fun _ h=>h.elim,K:=fun _ _=>False,hK:=fun _ _ h=>h.elim,fix:=fun _=>none,n0:=(w.heap.size,J),lo:=w.heap.size }
 let R:Real:=⟨fun _=>0,fun _=>true,fun _=>(0,[]),⟨fun _=>False,D,w,(w.heap.size,J)⟩⟩
 let l9:List (Nat×aA):=[(999,.tr (P,l) 0 xs (some false))]
 have hown:∀b r,aI R b r (lk l9 b)→b=999∧D r:=by
  intro b r h;simp only[l9,ax] at h;split at h
  ·rename_i e;exact⟨e.symm,h⟩
  exact h.elim
 have hNF:∀r,aT c R l9 r→D r:=fun r h=>h.elim (fun h=>h.elim) fun⟨b,h⟩=>(hown b r h).2
 refine callsIn_wide.1 (callsIn_of_wp_marks (n:=0) hf.func hbody trivial ?_);have g:bB c R ⟨tm0,1000000000,l9⟩ { tmps:=ca++Array.replicate (fn.ntmps-ca.size) undef,defers:=[] } w:=by
  refine⟨?_,?_,⟨rfl,Nat.le_refl _,Nat.le_refl _⟩,⟨[],Marks.nil⟩,uz.none,?_,?_,fun _ _ h=>h,nI.refl _ _,?_,fun _ _ h=>h.elim⟩
  ·intro t v hv;obtain⟨_,p,hp,rfl⟩:=KG lits 0 _ tm0 t v KH Xv hv;obtain⟨x,hx,hr⟩:=hargs.get hp;have hx':ca[t]? = some x:=by simpa using hx
   refine⟨x,?_,?_⟩
   ·have:=size_of_getElem? hx';simp only;rw[Array.getElem?_append_left this];exact hx'
   simp only[ai];exact dw (fun r _ h=>hNF r h) (fun _ _ _=>rfl) _ _ hr
  ·show (ca++Array.replicate (fn.ntmps-ca.size) undef).size=fn.ntmps
   simp;omega
  ·intro b box hb;simp only[l9,ax] at hb;split at hb
   ·rename_i e;subst e;simp only[Option.some.injEq] at hb;subst hb;exact⟨rfl,hY,hJ,DK.refl _ _ _ _,hD,fun r h=>.inl (hNF r h)⟩
   simp[lk] at hb
  ·intro b b' r h h';rw[(hown b r h).1,(hown b' r h').1]
  rintro r ⟨b,h⟩
  exact .inl (hown b r h).2
 refine Go.wpIn_mono (gu (ro:=none) hT kH (codeOf fn) ⟨fun _ h=>(by cases h),fun _ _ h=>(by cases h)⟩ g hf.ok h) ?_;rintro e a' w0' ⟨R',s',hK,g0'⟩
 obtain⟨Ds,mkD⟩:=g0'.marks;obtain⟨w',agF,g',hleave⟩:=sO (P:=P) (fn:=fn) (Rr:=fun e w'=>(∃v,e=.returned v)∧∃rest st Z D' wy,J rest st Z D' wy∧DK w.heap.size Z D' wy w'∧(st=true∨rest=[])) (Nat.le_refl _) (fun _ _ h=>(by cases h)) Ds a' w0' g0' mkD;have fin:aaR (lk s'.hp 999)→LeavesInM Fence.wide 0 P fn a'.tmps (fun e w'=>(∃v,e=.returned v)∧∃rest st Z D' wy,J rest st Z D' wy∧DK w.heap.size Z D' wy w'∧(st=true∨rest=[])) a'.defers .returning w0':=by
  intro hK;refine hleave ?_;have hres:(results fn a'.tmps).run P w'=.ok (.tuple #[]) w':=by
   have h1:results fn a'.tmps=(fn.results.mapM (KF P a'.tmps) >>= fun vs=>pure (if h:vs.size=1 then vs[0] else .tuple vs)):=by
    unfold results;congr 2
   have h2:(fn.results.mapM (KF P a'.tmps)).run P w'=.ok #[] w':=by
    rw[Array.mapM_eq_mapM_toList,Sem.run_map,agH];simp
   rw[h1];simp only[Sem.run_bind,h2,Result.andThen_ok,Sem.run_pure];simp
  refine⟨_,hres,⟨_,rfl⟩,?_⟩;unfold aaR at hK;split at hK
  ·rename_i y ver rest st hb;obtain⟨_,_,k1,k2,_,_⟩:=g'.boxes 999 _ hb;have hn:=g'.lo.1;rw[hn] at k1 k2;refine⟨rest,_,_,_,_,k1,k2,?_⟩;split at hK
   ·exact .inl rfl
   ·exact .inr hK
   exact .inr hK
  exact hK.elim
 cases e with
 |normal=>exact fin hK
 |ret=>exact fin hK
 |exit i=>exact hK.elim
 |goto l=>exact hK.elim
 |panic ch=>exact hK.elim
 |outgrown=>exact hK.elim
end
mutual
def flatK (P:Program):Nat→TypeId→Option (List EK)
 |0,_=>none
 | d+1,t=>match P.underlying t with
   |some .bool=>some [.bool]
   |some (.int k)=>some [.int k]
   |some .string=>some [.str]
   | some (.struct fs)=>match P.stoodInHeld t with
     |true=>none
     |false=>yZ P d fs.toList 0
   |_=>none
def yZ (P:Program):Nat→List Field→Nat→Option (List EK)
 |_,[],_=>some []
 |0,_::_,_=>none
 | d+1,f::fs,off=>match f.name == "_",Nat.beq f.offset off with
   | false,true=>match flatK P d f.type with
     | some a=>match Nat.beq (P.cellsOf f.type) a.length,Nat.beq a.length 0 with
       | true,false=>match yZ P d fs (off+a.length) with
         |some b=>some (a++b)
         |none=>none
       |_,_=>none
     |none=>none
   |_,_=>none
end
theorem oD {k:EK}{ks:List EK}{x y:Value}{xs ys:List Value}{b:Bool}:lK (k::ks) (x::xs) (y::ys)=some b↔∃a c,eqV k x y=some a∧lK ks xs ys=some c∧b=(a&&c):=by
 simp only[lK];cases h:eqV k x y with
 |none=>simp
 | some a=>
   simp only[Option.some.injEq];cases ks with
   | nil=>
     cases xs<;>cases ys<;>simp[lK]
     constructor
     ·rintro rfl;rfl
     rintro rfl;rfl
   | cons k2 ks=>
     simp only;cases h2:lK (k2::ks) xs ys with
     |none=>simp
     | some c=>
       simp only[Option.some.injEq];constructor
       ·rintro rfl;exact⟨a,c,rfl,rfl,rfl⟩
       rintro⟨_,_,rfl,rfl,rfl⟩;rfl
theorem MR:∀{ks:List EK} {xs ys:List Value} {b:Bool},lK ks xs ys=some b→xs.length=ks.length∧ys.length=ks.length
 |[],[],[],b,_=>⟨rfl,rfl⟩
 |[],[],_::_,b,h=>by simp[lK] at h
 |[],_::_,_,b,h=>by simp[lK] at h
 |k::ks,[],_,b,h=>by simp[lK] at h
 |k::ks,_::_,[],b,h=>by simp[lK] at h
 | k::ks,x::xs,y::ys,b,h=>by
   obtain⟨a,c,_,h2,_⟩:=oD.1 h;have:=MR h2;simp[this]
theorem MS {xs ys:List Value}{b:Bool}(h:lK [] xs ys=some b):b=true:=by
 cases xs<;>cases ys<;>simp[lK] at h
 exact h
theorem CW:∀{k1 k2:List EK} {xs ys:List Value} {b:Bool},lK (k1++k2) xs ys=some b →
  ∃a c,lK k1 (xs.take k1.length) (ys.take k1.length)=some a∧lK k2 (xs.drop k1.length) (ys.drop k1.length)=some c∧b=(a&&c)
 |[],k2,xs,ys,b,h=>⟨true,b,by simp[lK],by simpa using h,by simp⟩
 |k::k1,k2,[],ys,b,h=>by simp[lK] at h
 |k::k1,k2,x::xs,[],b,h=>by simp[lK] at h
 | k::k1,k2,x::xs,y::ys,b,h=>by
   rw[List.cons_append] at h;obtain⟨a,c,h1,h2,rfl⟩:=oD.1 h;obtain⟨a',c',h3,h4,rfl⟩:=CW h2;refine⟨a&&a',c',?_,by simpa using h4,by simp[Bool.and_assoc]⟩;simp only[List.length_cons,List.take_succ_cons];exact oD.2 ⟨a,a',h1,h3,rfl⟩
section
variable {P:Program}
def agJ (P:Program)(d:Nat):Prop:=∀(t:TypeId) (ks:List EK) (n:Nat) (w:World),flatK P d t=some ks→d≤n →
 (∀(x y:Value) (b:Bool),(match P.underlying t with|some (.struct _)=>False|_=>True)→lK ks [x] [y]=some b→(Op.equalIn n t x y).run P w=.ok b w) ∧
 (∀(xs ys:Array Value) (b:Bool),(match P.underlying t with|some (.struct _)=>True|_=>False)→lK ks xs.toList ys.toList=some b→(Op.equalIn n t (.agg xs) (.agg ys)).run P w=.ok b w)
theorem agK:∀(d:Nat),agJ P d:=by
 intro d;induction d using Nat.strongRecOn with
 | _ d ih=>
   intro t ks n w h hn;cases d with
   |zero=>simp[flatK] at h
   | succ d=>
     obtain⟨m,rfl⟩:∃m,n=m+1:=⟨n-1,by omega⟩;simp only[flatK] at h;split at h
     ·rename_i hu;simp only[Option.some.injEq] at h;subst h;refine⟨fun x y b _ hb=>?_,fun xs ys b hs=>by rw[hu] at hs;exact hs.elim⟩;obtain⟨a,c,h1,h2,rfl⟩:=oD.1 hb;simp only[lK,Option.some.injEq] at h2;subst h2;cases x<;>cases y<;>simp[eqV] at h1
      subst h1;simpa using run_equalIn_bool w m t _ _ hu
     ·rename_i k hu;simp only[Option.some.injEq] at h;subst h;refine⟨fun x y b _ hb=>?_,fun xs ys b hs=>by rw[hu] at hs;exact hs.elim⟩;obtain⟨a,c,h1,h2,rfl⟩:=oD.1 hb;simp only[lK,Option.some.injEq] at h2;subst h2;cases x<;>cases y<;>simp only[eqV] at h1<;>try (cases h1;done)
      split at h1
      ·rename_i e1 e2;have e1:=of_decide_eq_true e1;have e2:=of_decide_eq_true e2;subst e1;subst e2;simp only[Option.some.injEq] at h1;subst h1;simpa using run_equalIn_int w m t _ _ _ _ hu
      cases h1
     ·rename_i hu;simp only[Option.some.injEq] at h;subst h;refine⟨fun x y b _ hb=>?_,fun xs ys b hs=>by rw[hu] at hs;exact hs.elim⟩;obtain⟨a,c,h1,h2,rfl⟩:=oD.1 hb;simp only[lK,Option.some.injEq] at h2;subst h2;cases x<;>cases y<;>simp only[eqV] at h1<;>try (cases h1;done)
      simp only[Option.some.injEq] at h1;subst h1;simpa using run_equalIn_string w m t _ _ hu
     ·rename_i fs hu;split at h
      ·cases h
      rename_i hst;refine⟨fun x y b hs=>by rw[hu] at hs;exact hs.elim,fun xs ys b _ hb=>?_⟩;have hff:P.fieldsOf t=fs:=by simp[Program.fieldsOf,hu]
      rw[run_equalIn_struct w m t xs ys (by rw[hff];exact hu) hst,hff];have key:∀(d':Nat) (fl:List Field) (off:Nat) (ks:List EK) (b:Bool),d'≤d→yZ P d' fl off=some ks→lK ks (xs.toList.drop off) (ys.toList.drop off)=some b →
        (Op.eqFields m xs ys fl).run P w=.ok b w:=by
       intro d';induction d' with
       | zero=>
         intro fl off ks b _ h hb;cases fl with
         | nil=>
           simp only[yZ,Option.some.injEq] at h;subst h;have:=MS hb;subst this;simp[Op.eqFields]
         |cons f fl=>simp[yZ] at h
       | succ d' ih2=>
         intro fl off ks b hd' h hb;cases fl with
         | nil=>
           simp only[yZ,Option.some.injEq] at h;subst h;have:=MS hb;subst this;simp[Op.eqFields]
         | cons f fl=>
           simp only[yZ] at h;split at h
           ·rename_i hnm hoff;have hoff:=Nat.eq_of_beq_eq_true hoff;split at h
            ·rename_i ka hka;split at h
             ·rename_i hsz hk0;have hsz:=Nat.eq_of_beq_eq_true hsz;have hk0:=Nat.ne_of_beq_eq_false hk0;split at h
              ·rename_i kb hkb;simp only[Option.some.injEq] at h;subst h;obtain⟨a1,a2,q1,q2,rfl⟩:=CW hb;rw[List.drop_drop,List.drop_drop] at q2;have hrest:=ih2 fl (off+ka.length) kb a2 (by omega) hkb q2;obtain⟨e1,e2⟩:=ih d' (by omega) f.type ka m w hka (by omega);have hne:(f.name ≠ "_")=True:=by simp only[ne_eq,eq_iff_iff,iff_true];intro e;rw[e] at hnm;simp at hnm
               have hlen:=MR q1;have lx:off+ka.length≤xs.size:=by have:=hlen.1;simp at this;omega
               have ly:off+ka.length≤ys.size:=by have:=hlen.2;simp at this;omega
               obtain⟨ii,hii⟩:∃ii,P.info? f.type=some ii:=by
                cases hii:P.info? f.type with
                |some ii=>exact⟨ii,rfl⟩
                | none=>
                  have hun:P.underlying f.type=none:=by unfold Program.underlying;rw[hii]
                  cases d'<;>simp[flatK,hun] at hka
               have hsize:ii.size=ka.length:=by rw[←hsz];simp[Program.cellsOf,hii]
               have hparts:∃x y,(Go.part f.type xs f.offset).run P w=.ok x w∧(Go.part f.type ys f.offset).run P w=.ok y w∧(Op.equalIn m f.type x y).run P w=.ok a1 w:=by
                cases hud:P.underlying f.type with
                |none=>cases d'<;>simp[flatK,hud] at hka
                | some dd=>
                  have plain:(match dd with|.struct _=>False|.array _ _=>False|_=>True)→ka.length=1→∃x y,(Go.part f.type xs f.offset).run P w=.ok x w∧(Go.part f.type ys f.offset).run P w=.ok y w ∧
                    (Op.equalIn m f.type x y).run P w=.ok a1 w:=by
                   intro hpl h1;have g1:xs[off]? = some xs[off]:=Array.getElem?_eq_getElem (by omega);have g2:ys[off]? = some ys[off]:=Array.getElem?_eq_getElem (by omega);refine⟨xs[off],ys[off],?_,?_,e1 _ _ a1 (by rw[hud];cases dd<;>first|trivial|exact hpl) ?_⟩
                   ·rw[hoff];cases dd<;>first|exact hpl.elim|simp[Go.part,isAgg,run_underlying hud,g1]
                   ·rw[hoff];cases dd<;>first|exact hpl.elim|simp[Go.part,isAgg,run_underlying hud,g2]
                   rw[h1] at q1;have t1:(xs.toList.drop off).take 1=[xs[off]]:=by
                    rw[List.drop_eq_getElem_cons (by simpa using (by omega:off<xs.size))];simp
                   have t2:(ys.toList.drop off).take 1=[ys[off]]:=by
                    rw[List.drop_eq_getElem_cons (by simpa using (by omega:off<ys.size))];simp
                   rw[t1,t2] at q1;exact q1
                  cases d' with
                  |zero=>simp[flatK] at hka
                  | succ d'=>
                    simp only[flatK,hud] at hka;cases dd<;>simp only at hka<;>try (cases hka;done)
                    ·simp only[Option.some.injEq] at hka;exact plain trivial (by rw[←hka];rfl)
                    ·simp only[Option.some.injEq] at hka;exact plain trivial (by rw[←hka];rfl)
                    ·simp only[Option.some.injEq] at hka;exact plain trivial (by rw[←hka];rfl)
                    refine⟨.agg (xs.extract off (off+ii.size)),.agg (ys.extract off (off+ii.size)),?_,?_,e2 _ _ a1 (by rw[hud];trivial) ?_⟩
                    ·rw[hoff];simp[Go.part,isAgg,run_underlying hud,sizeOf,typeInfo,hii]
                    ·rw[hoff];simp[Go.part,isAgg,run_underlying hud,sizeOf,typeInfo,hii]
                    have f1:(xs.extract off (off+ii.size)).toList=(xs.toList.drop off).take ka.length:=by simp[Array.toList_extract,List.extract,hsize]
                    have f2:(ys.extract off (off+ii.size)).toList=(ys.toList.drop off).take ka.length:=by simp[Array.toList_extract,List.extract,hsize]
                    rw[f1,f2];exact q1
               obtain⟨x,y,p1,p2,p3⟩:=hparts;simp only[Op.eqFields,hne,if_true,Sem.run_bind,p1,p2,p3,Result.andThen_ok];cases a1 with
               |false=>simp
               |true=>simpa using hrest
              cases h
             cases h
            cases h
           cases h
      exact key d fs.toList 0 ks b (Nat.le_refl _) h (by simpa using hb)
     cases h
theorem jV {t:TypeId}{ks:List EK}(h:flatK P 20 t=some ks)(hs:(match P.underlying t with|some (.struct _)=>true|_=>false)=true):agM P t ks:=by
 intro w xs ys b hb;refine (agK 20 t ks 10000 w h (by omega)).2 xs ys b ?_ hb;cases hu:P.underlying t with
 |none=>rw[hu] at hs;cases hs
 |some d=>rw[hu] at hs;cases d<;>first|trivial|cases hs
end
end Go.AX
namespace Go.AX
theorem Xy {α:Type}:∀{l:List (Nat×α)} {t:Nat} {v:α},lk l t=some v→(t,v)∈l
 |[],t,v,h=>by simp[lk] at h
 | (k,u)::r,t,v,h=>by
   rw[ax] at h;split at h
   ·rename_i e;simp only[Option.some.injEq] at h;subst e;subst h;exact List.mem_cons_self
   exact List.mem_cons_of_mem _ (Xy h)
theorem Ia {P:Program}{T:Tab}(h:∀x∈T,cu P x.1 x.2):bO P T:=fun t i hl=>h (t,i) (Xy hl)
def iU {α:Type}(m:(α→Prop)→Prop):Prop:=∀K,m K→∃x,K x∧∀K',K' x→m K'
theorem bq {α:Type}(x:α):iU fun K=>K x:=fun K h=>⟨x,h,fun _ h=>h⟩
theorem oF {α:Type}:iU fun (_:α→Prop)=>False:=fun _ h=>h.elim
theorem aO {α:Type}{p:Prop}{m:(α→Prop)→Prop}(h:p→iU m):iU fun K=>p∧m K:=fun K ⟨hp,hm⟩=>
 let ⟨x,h1,h2⟩:=h hp K hm;⟨x,h1,fun K' h'=>⟨hp,h2 K' h'⟩⟩
theorem mP {α β:Type}{m:β→(α→Prop)→Prop}(h:∀b,iU (m b)):iU fun K=>∃b,m b K:=fun K ⟨b,hm⟩=>
 let ⟨x,h1,h2⟩:=h b K hm;⟨x,h1,fun K' h'=>⟨b,h2 K' h'⟩⟩
theorem KI {α β:Type}{m:(α→Prop)→Prop}(f:α→β)(h:iU m):iU fun K=>m fun x=>K (f x):=fun K hm=>
 let ⟨x,h1,h2⟩:=h _ hm;⟨f x,h1,fun K' h'=>h2 _ h'⟩
theorem aaS {α:Type}{m:(α→Prop)→Prop}{o h':Option Int}{n:Nat}(h:iU m):iU fun K=>inF o h' n (m K):=by
 intro K hm;cases o with
 | none=>
   obtain⟨x,h1,h2⟩:=h K (by simpa only[inF] using hm);exact⟨x,h1,fun K' h'=>by simpa only[inF] using h2 K' h'⟩
 | some i=>
   obtain⟨a,b,hm⟩:=(by simpa only[inF] using hm:h'=some i∧0<n∧m K);obtain⟨x,h1,h2⟩:=h K hm;exact⟨x,h1,fun K' h'=>by simpa only[inF] using ⟨a,b,h2 K' h'⟩⟩
theorem oV {α:Type}{m:(α→Prop)→Prop}{lo:Int}{o:Option Int}{hi:Int}(h:iU m):iU fun K=>PX lo o hi (m K):=by
 intro K hm;cases o with
 | none=>
   obtain⟨x,h1,h2⟩:=h K (by simpa only[PX] using hm);exact⟨x,h1,fun K' h'=>by simpa only[PX] using h2 K' h'⟩
 | some i=>
   obtain⟨a,b,hm⟩:=(by simpa only[PX] using hm:lo≤i∧i≤hi∧m K);obtain⟨x,h1,h2⟩:=h K hm;exact⟨x,h1,fun K' h'=>by simpa only[PX] using ⟨a,b,h2 K' h'⟩⟩
theorem Xz (op:BinOp)(k:IntKind)(a b:Int):iU (UD op k a b):=by
 unfold UD;cases op<;>first|exact bq _|exact oF|exact aO fun _=>bq _
theorem XA (op:BinOp)(a b:ByteArray):iU (XB op a b):=by
 unfold XB;cases op<;>first|exact bq _|exact oF|exact aO fun _=>bq _
theorem SY (op:BinOp)(b:Bool):iU (SI op b):=by
 unfold SI;cases op<;>first|exact bq _|exact oF
theorem bL {α:Type}{m:(α→Prop)→Prop}{K:α→Prop}{x:α}(h:K x)(hm:∀K',K' x→m K'):∃x,K x∧∀K',K' x→m K':=⟨x,h,hm⟩
theorem aF {α:Type}{m m':(α→Prop)→Prop}{K:α→Prop}(hd:iU m)(h:m K)(hm:∀K',m K'→m' K'):∃x,K x∧∀K',K' x→m' K':=
 let ⟨x,h1,h2⟩:=hd K h;⟨x,h1,fun K' h'=>hm K' (h2 K' h')⟩
theorem XC (i:TI)(op:BinOp)(x y:AV):iU (Qx i op x y):=by
 intro K h;unfold Qx at h;repeat' split at h
 all_goals first
  |exact h.elim
  |exact bL h fun K' h'=>by unfold Qx;simp only[*]<;>first|exact h'|simp
  |exact aF (SY _ _) h fun K' h'=>by unfold Qx;simp only[*]<;>first|exact h'|simp
theorem Qy (op:BinOp)(k:IntKind)(a b:Int):iU (BG op k a b):=by
 intro K h;unfold BG at h;split at h
 ·exact⟨_,h.2,fun K' h'=>by unfold BG;exact⟨h.1,h'⟩⟩
 ·exact⟨_,h.2,fun K' h'=>by unfold BG;exact⟨h.1,h'⟩⟩
 exact h.elim
theorem XD (T:Tab)(op:BinOp)(t:TypeId)(x y:AV):iU (Hy T op t x y):=by
 intro K h;unfold Hy at h;repeat' split at h
 all_goals first
  |exact h.elim
  |exact bL h fun K' h'=>by unfold Hy;simp only[*]<;>first|exact h'|simp
  |exact aF (Qy _ _ _ _) h fun K' h'=>by unfold Hy;simp only[*]<;>first|exact h'|simp
  |exact aF (Xz _ _ _ _) h fun K' h'=>by unfold Hy;simp only[*]<;>first|exact h'|simp
  |exact aF (XA _ _ _) h fun K' h'=>by unfold Hy;simp only[*]<;>first|exact h'|simp
  |exact aF (XC _ _ _ _) h fun K' h'=>by unfold Hy;simp only[*]<;>first|exact h'|simp
theorem UE (T:Tab)(H:List (Nat×aA))(op:BinOp)(t:TypeId)(x y:AV):iU (EH T H op t x y):=by
 intro K h;unfold EH at h;repeat' split at h
 all_goals first
  |exact h.elim
  |exact aF (SY _ _) h fun K' h'=>by unfold EH;simp only[*]<;>first|exact h'|simp
  |exact aF (XD _ _ _ _ _) h fun K' h'=>by unfold EH;simp only[*]<;>first|exact h'|simp
theorem vD (i:TI)(cs:List AV):iU (sQ i cs):=by
 intro K h;unfold sQ at h;repeat' split at h
 all_goals first
  |exact h.elim
  |exact bL h fun K' h'=>by unfold sQ;simp only[*]<;>first|exact h'|simp
theorem EP (i:TI)(cs:List PV):iU (zV i cs):=by
 intro K h;unfold zV at h;repeat' split at h
 all_goals first
  |exact h.elim
  |exact bL h fun K' h'=>by unfold zV;simp only[*]<;>first|exact h'|simp
theorem XE (off:Nat)(i:TI)(row:List PV):iU fun K=>match part off i.size row with
  |some cs=>zV i cs K
  |none=>False:=by
 cases h:part off i.size row with
 |some cs=>exact EP i cs
 |none=>exact oF
theorem aaT (off:Nat)(row cs:List PV)(F:List PV→AV×List (Nat×aA)):iU fun K=>match jU off row cs with
  |some row'=>K (F row')
  |none=>False:=by
 cases h:jU off row cs with
 |some cs=>exact bq _
 |none=>exact oF
theorem UF (T:Tab)(H:List (Nat×aA))(t:TypeId)(x:AV):iU (vB T H t x):=by
 intro K h;unfold vB at h;repeat' split at h
 all_goals first
  |exact h.elim
  |exact bL h fun K' h'=>by unfold vB;simp only[*]<;>first|exact h'|simp
  |exact aF (vD _ _) h fun K' h'=>by unfold vB;simp only[*]<;>first|exact h'|simp
  |exact aF (mP fun _=>aO fun _=>XE _ _ _) h fun K' h'=>by unfold vB;simp only[*]<;>first|exact h'|simp
  |exact aF (EP _ _) h fun K' h'=>by unfold vB;simp only[*]<;>first|exact h'|simp
theorem EQ (T:Tab)(H:List (Nat×aA))(t:TypeId)(x:AV)(f:Nat):iU (mJ T H t x f):=by
 intro K h;unfold mJ at h;repeat' split at h
 all_goals first
  |exact h.elim
  |exact bL h fun K' h'=>by unfold mJ;simp only[*]<;>first|exact h'|simp
theorem XF (T:Tab)(t:TypeId)(x:AV)(f:Nat):iU (MF T t x f):=by
 intro K h;unfold MF at h;repeat' split at h
 all_goals first
  |exact h.elim
  |exact bL h fun K' h'=>by unfold MF;simp only[*]<;>first|exact h'|simp
  |exact aF (vD _ _) h fun K' h'=>by unfold MF;simp only[*]<;>first|exact h'|simp
  |exact aF (EP _ _) h fun K' h'=>by unfold MF;simp only[*]<;>first|exact h'|simp
theorem ER (T:Tab)(H:List (Nat×aA))(t:TypeId)(x ix:AV):iU (dS T H t x ix):=by
 intro K h;unfold dS at h;repeat' split at h
 all_goals first
  |exact h.elim
  |exact bL h fun K' h'=>by unfold dS;simp only[*]<;>first|exact h'|simp
  |exact aF (aO fun _=>bq _) h fun K' h'=>by unfold dS;simp only[*]<;>first|exact h'|simp
  |exact aF (aO fun _=>aO fun _=>bq _) h fun K' h'=>by unfold dS;simp only[*]<;>first|exact h'|simp
  |exact aF (mP fun _=>aO fun _=>bq _) h fun K' h'=>by unfold dS;simp only[*]<;>first|exact h'|simp
  |exact aF (aO fun _=>mP fun _=>aO fun _=>bq _) h fun K' h'=>by unfold dS;simp only[*]<;>first|exact h'|simp
  |exact aF (aO fun _=>aO fun _=>aO fun _=>aO fun _=>bq _) h fun K' h'=>by unfold dS;simp only[*]<;>first|exact h'|simp
theorem Qz (T:Tab)(t:TypeId)(x ix:AV):iU (oW T t x ix):=by
 intro K h;unfold oW at h;repeat' split at h
 all_goals first
  |exact h.elim
  |exact bL h fun K' h'=>by unfold oW;simp only[*]<;>first|exact h'|simp
  |exact aF (aO fun _=>bq _) h fun K' h'=>by unfold oW;simp only[*]<;>first|exact h'|simp
  |exact aF (aO fun _=>aO fun _=>bq _) h fun K' h'=>by unfold oW;simp only[*]<;>first|exact h'|simp
  |exact aF (mP fun _=>aO fun _=>bq _) h fun K' h'=>by unfold oW;simp only[*]<;>first|exact h'|simp
  |exact aF (aO fun _=>mP fun _=>aO fun _=>bq _) h fun K' h'=>by unfold oW;simp only[*]<;>first|exact h'|simp
  |exact aF (aO fun _=>aO fun _=>aO fun _=>aO fun _=>bq _) h fun K' h'=>by unfold oW;simp only[*]<;>first|exact h'|simp
theorem KJ (x:AV)(i:Nat):iU (rq x i):=by
 intro K h;unfold rq at h;repeat' split at h
 all_goals first
  |exact h.elim
  |exact bL h fun K' h'=>by unfold rq;simp only[*]<;>first|exact h'|simp
theorem aaU (op:UnOp)(x:AV):iU (cUn op x):=by
 intro K h;unfold cUn at h;repeat' split at h
 all_goals first
  |exact h.elim
  |exact bL h fun K' h'=>by unfold cUn;simp only[*]<;>first|exact h'|simp
theorem UG (T:Tab)(H:List (Nat×aA))(src dst:TypeId)(x:AV):iU (u7 T H src dst x):=by
 intro K h;unfold u7 at h;repeat' split at h
 all_goals first
  |exact h.elim
  |exact bL h fun K' h'=>by unfold u7;simp only[*]<;>first|exact h'|simp
  |exact aF (aO fun _=>bq _) h fun K' h'=>by unfold u7;simp only[*]<;>first|exact h'|simp
  |exact aF (aO fun _=>aO fun _=>bq _) h fun K' h'=>by unfold u7;simp only[*]<;>first|exact h'|simp
  |exact aF (mP fun _=>aO fun _=>bq _) h fun K' h'=>by unfold u7;simp only[*]<;>first|exact h'|simp
  |exact aF (aO fun _=>mP fun _=>aO fun _=>bq _) h fun K' h'=>by unfold u7;simp only[*]<;>first|exact h'|simp
  |exact aF (aO fun _=>aO fun _=>aO fun _=>aO fun _=>bq _) h fun K' h'=>by unfold u7;simp only[*]<;>first|exact h'|simp
theorem XG (T:Tab)(H:List (Nat×aA))(t:TypeId)(x:AV):iU (ES T H t x):=by
 intro K h;unfold ES at h;repeat' split at h
 all_goals first
  |exact h.elim
  |exact bL h fun K' h'=>by unfold ES;simp only[*]<;>first|exact h'|simp
theorem QA (T:Tab)(t:TypeId)(lo hi mx:Option Operand)(vs:List AV):iU (oQ T t lo hi mx vs):=by
 intro K h;unfold oQ at h;repeat' split at h
 all_goals first
  |exact h.elim
  |exact bL h fun K' h'=>by unfold oQ;simp only[*]<;>first|exact h'|simp
  |exact aF (oV (oV (bq _))) h fun K' h'=>by unfold oQ;simp only[*]<;>first|exact h'|simp
  |exact aF (oV (oV (oV (bq _)))) h fun K' h'=>by unfold oQ;simp only[*]<;>first|exact h'|simp
  |exact aF (aaS (oV (oV (oV (bq _))))) h fun K' h'=>by unfold oQ;simp only[*]<;>first|exact h'|simp
  |exact aF (aO fun _=>oV (oV (oV (bq _)))) h fun K' h'=>by have e1:=h'.1;have h2:=h'.2;clear h' h;subst e1;unfold oQ;simp only[*,true_and]
theorem QB (T:Tab)(H:List (Nat×aA))(t:TypeId)(x y:AV):iU (fun (K:AV×List (Nat×aA)→Prop)=>qN T H t x y fun v ws=>K (v,ws)):=by
 intro K h;unfold qN at h;repeat' split at h
 all_goals first
  |exact h.elim
  |exact bL h fun K' h'=>by unfold qN;simp only[*]<;>first|exact h'|simp
  |exact aF (mP fun _=>aO fun _=>aaT _ _ _ fun row=>(.pv (.sc undef),[(_,.arr _ _ _ (List.set _ _ row))])) h fun K' h'=>by unfold qN;simp only[*]<;>first|exact h'|simp
theorem XH (T:Tab)(H:List (Nat×aA))(t:TypeId)(vs:List AV)(id:Nat):iU (fun (K:AV×List (Nat×aA)→Prop)=>uN T H t vs id fun v ws=>K (v,ws)):=by
 intro K h;unfold uN at h;simp only[dH] at h;repeat' split at h
 all_goals first
  |exact h.elim
  |exact bL h fun K' h'=>by unfold uN;simp only[dH, *]<;>first|exact h'|simp
  |exact aF (aO fun _=>bq _) h fun K' h'=>by unfold uN;simp only[dH, *]<;>first|exact h'|simp
  |exact aF (aO fun _=>aO fun _=>bq _) h fun K' h'=>by unfold uN;simp only[dH, *]<;>first|exact h'|simp
  |exact aF (mP fun _=>aO fun _=>bq _) h fun K' h'=>by unfold uN;simp only[dH, *]<;>first|exact h'|simp
  |exact aF (aO fun _=>mP fun _=>aO fun _=>bq _) h fun K' h'=>by unfold uN;simp only[dH, *]<;>first|exact h'|simp
  |exact aF (aO fun _=>aO fun _=>aO fun _=>aO fun _=>bq _) h fun K' h'=>by unfold uN;simp only[dH, *]<;>first|exact h'|simp
theorem UH (H:List (Nat×aA))(f:Fn)(nf:Nat)(vs:List AV):iU (fun (K:AV×List (Nat×aA)→Prop)=>I5 H f nf vs fun v ws=>K (v,ws)):=by
 intro K h;unfold I5 at h;repeat' split at h
 all_goals first
  |exact h.elim
  |exact bL h fun K' h'=>by unfold I5;simp only[*]<;>first|exact h'|simp
theorem QC (T:Tab)(t:TypeId)(ks:List Nat)(vs:List AV):iU (Bw T t ks vs):=by
 intro K h;unfold Bw at h;repeat' split at h
 all_goals first
  |exact h.elim
  |exact bL h fun K' h'=>by unfold Bw;simp only[*]<;>first|exact h'|simp
theorem zW (T:Tab)(H:List (Nat×aA))(t:TypeId)(len:Nat)(ks:List Nat)(vs:List AV)(id:Nat):iU (fun (K:AV×List (Nat×aA)→Prop)=>lT T H t len ks vs id fun v ws=>K (v,ws)):=by
 intro K h;unfold lT at h;simp only[dH] at h;repeat' split at h
 all_goals first
  |exact h.elim
  |exact bL h fun K' h'=>by unfold lT;simp only[dH, *]<;>first|exact h'|simp
theorem UI (T:Tab)(t:TypeId)(vs:List AV)(id:Nat):iU (fun (K:AV×List (Nat×aA)→Prop)=>uZ T t vs id fun v ws=>K (v,ws)):=by
 intro K h;unfold uZ at h;simp only[dH] at h;repeat' split at h
 all_goals first
  |exact h.elim
  |exact bL h fun K' h'=>by unfold uZ;simp only[dH, *]<;>first|exact h'|simp
  |exact aF (aO fun _=>bq _) h fun K' h'=>by unfold uZ;simp only[dH, *]<;>first|exact h'|simp
  |exact aF (aO fun _=>aO fun _=>bq _) h fun K' h'=>by unfold uZ;simp only[dH, *]<;>first|exact h'|simp
  |exact aF (mP fun _=>aO fun _=>bq _) h fun K' h'=>by unfold uZ;simp only[dH, *]<;>first|exact h'|simp
  |exact aF (aO fun _=>mP fun _=>aO fun _=>bq _) h fun K' h'=>by unfold uZ;simp only[dH, *]<;>first|exact h'|simp
  |exact aF (aO fun _=>aO fun _=>aO fun _=>aO fun _=>bq _) h fun K' h'=>by unfold uZ;simp only[dH, *]<;>first|exact h'|simp
theorem QD (T:Tab)(t:TypeId)(id:Nat):iU (fun (K:AV×List (Nat×aA)→Prop)=>Bz T t id fun v ws=>K (v,ws)):=by
 intro K h;unfold Bz at h;repeat' split at h
 all_goals first
  |exact h.elim
  |exact bL h fun K' h'=>by unfold Bz;simp only[*]<;>first|exact h'|simp
theorem XI (T:Tab)(t:TypeId)(x:AV)(id:Nat):iU (fun (K:AV×List (Nat×aA)→Prop)=>Uv T t x id fun v ws=>K (v,ws)):=by
 intro K h;unfold Uv at h;repeat' split at h
 all_goals first
  |exact h.elim
  |exact bL h fun K' h'=>by unfold Uv;simp only[*]<;>first|exact h'|simp
theorem QE (T:Tab)(H:List (Nat×aA))(src dst:TypeId)(x:AV):iU (fun (K:AV×List (Nat×aA)→Prop)=>u6 T H src dst x fun v ws=>K (v,ws)):=by
 intro K h;unfold u6 at h;repeat' split at h
 all_goals first
  |exact h.elim
  |exact bL h fun K' h'=>by unfold u6;simp only[*]<;>first|exact h'|simp
  |exact aF (aO fun _=>bq _) h fun K' h'=>by unfold u6;simp only[*]<;>first|exact h'|simp
  |exact aF (KI (fun v=>(v,[])) (UG T H src dst x)) h fun K' h'=>by unfold u6;simp only[*]<;>first|exact h'|simp
theorem MU (T:Tab)(H:List (Nat×aA))(t:TypeId)(lo hi mx:Option Operand)(vs:List AV):iU (fun (K:AV×List (Nat×aA)→Prop)=>ni T H t lo hi mx vs fun v ws=>K (v,ws)):=by
 intro K h;unfold ni at h;repeat' split at h
 all_goals first
  |exact h.elim
  |exact bL h fun K' h'=>by unfold ni;simp only[*]<;>first|exact h'|simp
  |exact aF (KI (fun v=>(v,_)) (QA T t lo hi mx _)) h fun K' h'=>by unfold ni;simp only[*]<;>first|exact h'|simp
theorem XJ (tw:Bool)(rows:List (List PV))(b ver:Nat)(e:TypeId)(st:Nat)(l h:Option Int):iU (fun (K:AV×List (Nat×aA)→Prop)=>QG tw rows b ver e st l h fun v ws=>K (v,ws)):=by
 intro K hk;unfold QG at hk;repeat' split at hk
 all_goals first
  |exact hk.elim
  |exact bL hk fun K' h'=>by unfold QG;exact h'
  |exact aF (aO fun _=>aO fun _=>bq _) hk fun K' h'=>by unfold QG;exact h'
  |exact aF (aO fun _=>aO fun _=>aO fun _=>aO fun _=>bq _) hk fun K' h'=>by unfold QG;exact h'
theorem MV (T:Tab)(H:List (Nat×aA))(t:TypeId)(lo hi mx:Option Operand)(vs:List AV):iU (fun (K:AV×List (Nat×aA)→Prop)=>og T H t lo hi mx vs fun v ws=>K (v,ws)):=by
 intro K h;unfold og at h;repeat' split at h
 all_goals first
  |exact h.elim
  |exact aF (MU T H t lo hi mx _) h fun K' h'=>by unfold og;simp only[*]<;>first|exact h'|simp
  |exact aF (XJ _ _ _ _ _ _ _ _) h fun K' h'=>by unfold og;simp only[*]<;>first|exact h'|simp
theorem QH (T:Tab)(H:List (Nat×aA))(t:TypeId)(x:AV):iU (fun (K:AV×List (Nat×aA)→Prop)=>BA T H t x fun v ws=>K (v,ws)):=by
 intro K h;unfold BA at h;repeat' split at h
 all_goals first
  |exact h.elim
  |exact bL h fun K' h'=>by unfold BA;simp only[*]<;>first|exact h'|simp
theorem UJ (T:Tab)(H:List (Nat×aA))(t:TypeId)(vs:List AV)(id:Nat):iU (fun (K:AV×List (Nat×aA)→Prop)=>uD T H t vs id fun v ws=>K (v,ws)):=by
 intro K h;unfold uD at h;repeat' split at h
 all_goals first
  |exact h.elim
  |exact aF (XH T H t _ id) h fun K' h'=>by unfold uD;simp only[*]<;>first|exact h'|simp
  |exact aF (aO fun _=>bq _) h fun K' h'=>by unfold uD;simp only[*]<;>first|exact h'|simp
theorem UK (T:Tab)(H:List (Nat×aA))(t:TypeId)(lo hi mx:Option Operand)(b ver st l0:Nat)(r:List AV):iU (fun (K:AV×List (Nat×aA)→Prop)=>Jd T H t lo hi mx b ver st l0 r fun v ws=>K (v,ws)):=by
 intro K h;unfold Jd at h;repeat' split at h
 all_goals first
  |exact h.elim
  |exact aF (aO fun _=>aO fun _=>aO fun _=>aO fun _=>bq _) h fun K' h'=>by unfold Jd;simp only[*]<;>first|exact h'|simp
theorem UL (T:Tab)(H:List (Nat×aA))(t:TypeId)(lo hi mx:Option Operand)(b ver:Nat)(r:List AV):iU (fun (K:AV×List (Nat×aA)→Prop)=>Je T H t lo hi mx b ver r fun v ws=>K (v,ws)):=by
 intro K h;unfold Je at h;repeat' split at h
 all_goals first
  |exact h.elim
  |exact aF (aO fun _=>aO fun _=>aO fun _=>aO fun _=>aO fun _=>aO fun _=>bq _) h fun K' h'=>by unfold Je;simp only[*]<;>first|exact h'|simp
theorem MW (T:Tab)(H:List (Nat×aA))(t:TypeId)(lo hi mx:Option Operand)(vs:List AV):iU (fun (K:AV×List (Nat×aA)→Prop)=>qd T H t lo hi mx vs fun v ws=>K (v,ws)):=by
 intro K h;unfold qd at h;repeat' split at h
 all_goals first
  |exact h.elim
  |exact aF (MV T H t lo hi mx _) h fun K' h'=>by unfold qd;simp only[*]<;>first|exact h'|simp
  |exact aF (UK _ _ _ _ _ _ _ _ _ _ _) h fun K' h'=>by unfold qd;simp only[*]<;>first|exact h'|simp
  |exact aF (UL _ _ _ _ _ _ _ _ _) h fun K' h'=>by unfold qd;simp only[*]<;>first|exact h'|simp
theorem aaV (mx:Bool)(vs:List AV):iU (cMM mx vs):=by
 intro K h;unfold cMM at h;repeat' split at h
 all_goals first
  |exact h.elim
  |exact bL h fun K' h'=>by unfold cMM;simp only[*]<;>first|exact h'|simp
theorem XK (r:PV)(H:List (Nat×aA))(ids:List Nat):iU fun (K:AV×List (Nat×aA)→Prop)=>match DT r with
  |true=>K (.pv r,[])
  | false=>match Km H ids with
    |some fs=>K (.pv r,fs)
    |none=>False:=by
 cases h:DT r with
 |true=>exact bq _
 | false=>cases h2:Km H ids with
   |some fs=>exact bq _
   |none=>exact oF
theorem UM (P:Program)(H:List (Nat×aA))(vs:List AV):iU fun (K:AV×List (Nat×aA)→Prop)=>I8 P H vs fun v ws=>K (v,ws):=by
 intro K h;unfold I8 at h;split at h
 ·split at h
  ·exact aF (mP fun r=>aO fun _=>XK r _ _) h fun K' h'=>by unfold I8;simp only[*]<;>first|exact h'|simp
  exact h.elim
 exact h.elim
theorem uE {m:(AV→Prop)→Prop}(h:iU m):iU fun (K:AV×List (Nat×aA)→Prop)=>m fun v=>K (v,[]):=KI (fun v=>(v,[])) h
theorem XL (H:List (Nat×aA))(op:UnOp)(x:AV):iU (Ux H op x):=by
 cases x with
 | bn b ver i off=>
   intro K h;unfold Ux at h;simp only at h;repeat' split at h
   all_goals first
    |exact h.elim
    |exact bL h fun K' h'=>by unfold Ux;simp only[*]<;>first|exact h'|simp
 |_=>exact aaU op _
theorem QI (T:Tab)(H:List (Nat×aA))(t:TypeId)(x:AV):iU (vE T H t x):=by
 intro K h;unfold vE at h;repeat' split at h
 all_goals first
  |exact h.elim
  |exact aF (aO fun _=>vD _ _) h fun K' h'=>by unfold vE;simp only[*]<;>first|exact h'|simp
  |exact aF (UF T H t _) h fun K' h'=>by unfold vE;first|exact h'|(simp only[*]<;>first|exact h'|simp)|(split<;>first|exact h'|simp_all)
theorem MX (T:Tab)(H:List (Nat×aA))(t:TypeId)(x y:AV):iU (fun (K:AV×List (Nat×aA)→Prop)=>nk T H t x y fun v ws=>K (v,ws)):=by
 intro K h;unfold nk at h;repeat' split at h
 all_goals first
  |exact h.elim
  |exact aF (aO fun _=>bq (_,_)) h fun K' h'=>by unfold nk;simp only[*]<;>first|exact h'|simp
  |exact aF (QB T H t _ y) h fun K' h'=>by unfold nk;first|exact h'|(simp only[*]<;>first|exact h'|simp)|(split<;>first|exact h'|simp_all)
theorem XM (T:Tab)(H:List (Nat×aA))(t:TypeId)(x ix:AV):iU (MZ T H t x ix):=by
 intro K h;unfold MZ at h;repeat' split at h
 all_goals first
  |exact h.elim
  |exact aF (aO fun _=>aO fun _=>bq _) h fun K' h'=>by unfold MZ;simp only[*]<;>first|exact h'|simp
  |exact aF (ER T H t _ ix) h fun K' h'=>by unfold MZ;first|exact h'|(simp only[*]<;>first|exact h'|simp)|(split<;>first|exact h'|simp_all)
theorem UN (T:Tab)(H:List (Nat×aA))(t:TypeId)(x:AV):iU (CX T H t x):=by
 intro K h;unfold CX at h;repeat' split at h
 all_goals first
  |exact h.elim
  |exact aF (XG T H t _) h fun K' h'=>by unfold CX;first|exact h'|(simp only[*]<;>first|exact h'|simp)|(split<;>first|exact h'|simp_all)
  |exact bL h fun K' h'=>by unfold CX;simp only[*]<;>first|exact h'|simp
theorem M0 (T:Tab)(t:TypeId)(len:Nat)(ks:List Nat)(cs:List AV)(id:Nat):iU (fun (K:AV×List (Nat×aA)→Prop)=>xh T t len ks cs id fun v ws=>K (v,ws)):=by
 intro K h;unfold xh at h;simp only[dH] at h;repeat' split at h
 all_goals first
  |exact h.elim
  |exact bL h fun K' h'=>by unfold xh;simp only[dH];simp only[*]<;>first|exact h'|simp
theorem M4 (T:Tab)(H:List (Nat×aA))(t:TypeId)(len:Nat)(ks:List Nat)(vs:List AV)(id:Nat):iU (fun (K:AV×List (Nat×aA)→Prop)=>qc T H t len ks vs id fun v ws=>K (v,ws)):=by
 intro K h;unfold qc at h;split at h
 ·rename_i hp;split at h
  ·exact aF (M0 T t len ks _ id) h fun K' h'=>by unfold qc;simp only[hp];exact h'
  rename_i vs hne;refine aF (zW T H t len ks _ id) h fun K' h'=>?_
  unfold qc;simp only[hp];exact h'
 rename_i hp;exact aF (zW T H t len ks _ id) h fun K' h'=>by unfold qc;simp only[hp];exact h'
theorem UO (T:Tab)(H:List (Nat×aA))(t:TypeId)(d:AV)(k kv id:Nat):iU (fun (K:AV×List (Nat×aA)→Prop)=>CY T H t d k kv id fun v ws=>K (v,ws)):=by
 intro K h;unfold CY at h;simp only[dH] at h;repeat' split at h
 all_goals first
  |exact h.elim
  |exact aF (aO fun _=>bq (_,_)) h fun K' h'=>by unfold CY;simp only[dH];simp only[*]<;>first|exact h'|simp
theorem ET (T:Tab)(t:TypeId)(ver:Nat)(o:Option aA)(src:Nat→Option (List (List PV)))(b:Nat):iU (fun (K:AV×List (Nat×aA)→Prop)=>y5 T t ver o src b fun v ws=>K (v,ws)):=by
 intro K h;unfold y5 at h;simp only[dH] at h;repeat' split at h
 all_goals first
  |exact h.elim
  |exact aF (aO fun _=>bq (_,_)) h fun K' h'=>by unfold y5;simp only[dH];simp only[*]<;>first|exact h'|simp
theorem UQ (T:Tab)(H:List (Nat×aA))(t:TypeId)(b ver:Nat)(x:AV):iU (fun (K:AV×List (Nat×aA)→Prop)=>CZ T H t b ver x fun v ws=>K (v,ws)):=by
 intro K h;unfold CZ at h;split at h
 ·exact aF (ET T t ver _ _ b) h fun K' h'=>by unfold CZ;exact h'
 ·split at h
  ·exact h.elim
  rename_i hb;exact aF (ET T t ver _ _ b) h fun K' h'=>by unfold CZ;simp only[hb];exact h'
 exact h.elim
theorem UR (T:Tab)(H:List (Nat×aA))(t:TypeId)(vs:List AV)(id:Nat):iU (fun (K:AV×List (Nat×aA)→Prop)=>yw T H t vs id fun v ws=>K (v,ws)):=by
 intro K h;unfold yw at h;repeat' split at h
 all_goals first
  |exact h.elim
  |exact aF (UO T H t _ _ _ id) h fun K' h'=>by unfold yw;simp only[*]<;>first|exact h'|simp
  |exact aF (UQ T H t _ _ _) h fun K' h'=>by unfold yw;first|(simp only[*];done)|(simp only[*]<;>first|exact h'|simp)|(split<;>first|exact h'|simp_all)
  |exact aF (UJ T H t _ id) h fun K' h'=>by unfold yw;first|exact h'|(simp only[*]<;>first|exact h'|simp)|(repeat' split)<;>first|exact h'|simp_all
theorem QJ (T:Tab)(t:TypeId)(id:Nat):iU (fun (K:AV×List (Nat×aA)→Prop)=>BB T t id fun v ws=>K (v,ws)):=by
 intro K h;unfold BB at h;split at h
 ·exact bL h fun K' h'=>by unfold BB;simp only[*]<;>first|exact h'|simp
 exact h.elim
theorem UU (T:Tab)(H:List (Nat×aA))(t:TypeId)(x ix:AV):iU (Ja T H t x ix):=by
 intro K h;unfold Ja at h;repeat' split at h
 all_goals first
  |exact h.elim
  |exact aF (aO fun _=>aO fun _=>bq _) h fun K' h'=>by unfold Ja;simp only[*]<;>first|exact h'|simp
theorem M5 (T:Tab)(H:List (Nat×aA))(t:TypeId)(x ix y:AV):iU (fun (K:AV×List (Nat×aA)→Prop)=>wY T H t x ix y fun v ws=>K (v,ws)):=by
 intro K h;unfold wY at h;repeat' split at h
 all_goals first
  |exact h.elim
  |exact aF (aO fun _=>aO fun _=>bq (_,_)) h fun K' h'=>by unfold wY;simp only[*]<;>first|exact h'|simp
theorem QK (T:Tab)(H:List (Nat×aA))(t:TypeId)(x:AV):iU (yS T H t x):=by
 intro K h;unfold yS at h;repeat' split at h
 all_goals first
  |exact h.elim
  |exact aF (aO fun _=>vD _ _) h fun K' h'=>by unfold yS;simp only[*]<;>first|exact h'|simp
  |exact aF (QI T H t _) h fun K' h'=>by unfold yS;first|exact h'|(simp only[*]<;>first|exact h'|simp)|(split<;>first|exact h'|simp_all)
theorem M6 (T:Tab)(H:List (Nat×aA))(t:TypeId)(x y:AV):iU (fun (K:AV×List (Nat×aA)→Prop)=>sM T H t x y fun v ws=>K (v,ws)):=by
 intro K h;unfold sM at h;repeat' split at h
 all_goals first
  |exact h.elim
  |exact aF (aO fun _=>bq (_,_)) h fun K' h'=>by unfold sM;simp only[*]<;>first|exact h'|simp
  |exact aF (MX T H t _ y) h fun K' h'=>by unfold sM;first|exact h'|(simp only[*]<;>first|exact h'|simp)|(split<;>first|exact h'|simp_all)
theorem XO (T:Tab)(H:List (Nat×aA))(t:TypeId)(x ix:AV):iU (Qh T H t x ix):=by
 intro K h;unfold Qh at h;repeat' split at h
 all_goals first
  |exact h.elim
  |exact aF (aO fun _=>aO fun _=>bq _) h fun K' h'=>by unfold Qh;simp only[*]<;>first|exact h'|simp
  |exact aF (XM T H t _ ix) h fun K' h'=>by unfold Qh;first|exact h'|(simp only[*]<;>first|exact h'|simp)|(split<;>first|exact h'|simp_all)
theorem UW (T:Tab)(H:List (Nat×aA))(t:TypeId)(x:AV):iU (EU T H t x):=by
 intro K h;unfold EU at h;repeat' split at h
 all_goals first
  |exact h.elim
  |exact aF (UN T H t _) h fun K' h'=>by unfold EU;first|exact h'|(simp only[*]<;>first|exact h'|simp)|(split<;>first|exact h'|simp_all)
  |exact bL h fun K' h'=>by unfold EU;simp only[*]<;>first|exact h'|simp
theorem UX (T:Tab)(H:List (Nat×aA))(t:TypeId)(b ver k kv:Nat):iU (fun (K:AV×List (Nat×aA)→Prop)=>Jf T H t b ver k kv fun v ws=>K (v,ws)):=by
 intro K h;unfold Jf at h;simp only[dH] at h;repeat' split at h
 all_goals first
  |exact h.elim
  |exact aF (aO fun _=>bq (_,_)) h fun K' h'=>by unfold Jf;simp only[dH];simp only[*]<;>first|exact h'|simp
theorem UY (T:Tab)(H:List (Nat×aA))(t:TypeId)(vs:List AV)(id:Nat):iU (fun (K:AV×List (Nat×aA)→Prop)=>CR T H t vs id fun v ws=>K (v,ws)):=by
 intro K h;unfold CR at h;repeat' split at h
 all_goals first
  |exact h.elim
  |exact aF (UX T H t _ _ _ _) h fun K' h'=>by unfold CR;simp only[*]<;>first|exact h'|simp
  |exact aF (UR T H t _ id) h fun K' h'=>by unfold CR;first|exact h'|(simp only[*]<;>first|exact h'|simp)|(split<;>first|exact h'|simp_all)
theorem UZ (T:Tab)(H:List (Nat×aA))(t:TypeId)(x:AV):iU (EI T H t x):=by
 intro K h;unfold EI at h;repeat' split at h
 all_goals first
  |exact h.elim
  |exact aF (UW T H t _) h fun K' h'=>by unfold EI;first|exact h'|(simp only[*]<;>first|exact h'|simp)|(split<;>first|exact h'|simp_all)
  |exact bL h fun K' h'=>by unfold EI;simp only[*]<;>first|exact h'|simp
theorem QL (T:Tab)(t:TypeId)(x ix:AV):iU (yT T t x ix):=by
 intro K h;unfold yT at h;repeat' split at h
 all_goals first
  |exact h.elim
  |exact aF (aO fun _=>vD _ _) h fun K' h'=>by unfold yT;simp only[*]<;>first|exact h'|simp
  |exact aF (Qz T t _ ix) h fun K' h'=>by unfold yT;first|exact h'|(simp only[*]<;>first|exact h'|simp)|(split<;>first|exact h'|simp_all)
theorem Ib (T:Tab)(t:TypeId)(ks:List Nat)(vs:List AV):iU (mI T t ks vs):=by
 intro K h;unfold mI at h;split at h;rotate_left;cases h
 rename_i i hi;split at h
 ·rename_i n e hd;repeat' split at h
  all_goals first
   |exact h.elim
   |exact bL h fun K' h'=>by unfold mI;simp only[*]<;>first|exact h'|simp
 rename_i hne;refine aF (QC T t ks vs) h fun K' h'=>?_
 unfold mI;simp only[hi];exact h'
theorem S9 (P:Program)(T:Tab)(op:Op)(vs:List AV)(H:List (Nat×aA))(id:Nat):iU fun (K:AV×List (Nat×aA)→Prop)=>cop P T op vs H id fun v ws=>K (v,ws):=by
 intro K h;unfold cop at h;repeat' split at h
 all_goals first
  |exact h.elim
  |exact bL h fun K' h'=>by unfold cop;simp only[*]<;>first|exact h'|simp
  |exact aF (QD T _ id) h fun K' h'=>by unfold cop;simp only[*]<;>first|exact h'|simp
  |exact aF (XI T _ _ id) h fun K' h'=>by unfold cop;simp only[*]<;>first|exact h'|simp
  |exact aF (uE (Ib T _ _ _)) h fun K' h'=>by unfold cop;simp only[*]<;>first|exact h'|simp
  |exact aF (M4 T H _ _ _ _ id) h fun K' h'=>by unfold cop;simp only[*]<;>first|exact h'|simp
  |exact aF (uE (QK T H _ _)) h fun K' h'=>by unfold cop;simp only[*]<;>first|exact h'|simp
  |exact aF (M6 T H _ _ _) h fun K' h'=>by unfold cop;simp only[*]<;>first|exact h'|simp
  |exact aF (uE (UE T H _ _ _ _)) h fun K' h'=>by unfold cop;simp only[*]<;>first|exact h'|simp
  |exact aF (uE (XL H _ _)) h fun K' h'=>by unfold cop;simp only[*]<;>first|exact h'|simp
  |exact aF (QE T H _ _ _) h fun K' h'=>by unfold cop;simp only[*]<;>first|exact h'|simp
  |exact aF (UH H _ _ _) h fun K' h'=>by unfold cop;simp only[*]<;>first|exact h'|simp
  |exact aF (UI T _ _ id) h fun K' h'=>by unfold cop;simp only[*]<;>first|exact h'|simp
  |exact aF (MW T H _ _ _ _ _) h fun K' h'=>by unfold cop;simp only[*]<;>first|exact h'|simp
  |exact aF (uE (EQ T H _ _ _)) h fun K' h'=>by unfold cop;simp only[*]<;>first|exact h'|simp
  |exact aF (uE (XF T _ _ _)) h fun K' h'=>by unfold cop;simp only[*]<;>first|exact h'|simp
  |exact aF (uE (XO T H _ _ _)) h fun K' h'=>by unfold cop;simp only[*]<;>first|exact h'|simp
  |exact aF (uE (QL T _ _ _)) h fun K' h'=>by unfold cop;simp only[*]<;>first|exact h'|simp
  |exact aF (uE (KJ _ _)) h fun K' h'=>by unfold cop;simp only[*]<;>first|exact h'|simp
  |exact aF (UM P H _) h fun K' h'=>by unfold cop;simp only[*]<;>first|exact h'|simp
  |exact aF (UY T H _ _ id) h fun K' h'=>by unfold cop;simp only[*]<;>first|exact h'|simp
  |exact aF (uE (UZ T H _ _)) h fun K' h'=>by unfold cop;simp only[*]<;>first|exact h'|simp
  |exact aF (QJ T _ id) h fun K' h'=>by unfold cop;simp only[*]<;>first|exact h'|simp
  |exact aF (uE (UU T H _ _ _)) h fun K' h'=>by unfold cop;simp only[*]<;>first|exact h'|simp
  |exact aF (M5 T H _ _ _ _) h fun K' h'=>by unfold cop;simp only[*]<;>first|exact h'|simp
  |exact aF (QH T H _ _) h fun K' h'=>by unfold cop;simp only[*]<;>first|exact h'|simp
  |exact aF (uE (aaV _ _)) h fun K' h'=>by unfold cop;simp only[*]<;>first|exact h'|simp
theorem oG {tm tm':List (Nat×AV)}:∀{xs:List Operand} {vs:List AV},(∀t∈tmpsOf xs,lk tm' t=lk tm t)→evs tm xs=some vs→evs tm' xs=some vs
 |[],vs,_,h=>h
 | x::xs,vs,hs,h=>by
   simp only[evs] at h ⊢;split at h
   ·rename_i v hv;have hv':jE tm' x=some v:=by
     rw[←hv];unfold jE;cases x with
     |tmp t=>exact hs t (by simp[tmpsOf])
     |const v=>rfl
     |func f=>rfl
     |«global» g=>rfl
    split at h
    ·rename_i SL hvs;rw[hv'];simp only;rw[oG (fun t ht=>hs t (by cases x<;>simp[tmpsOf,ht])) hvs];exact h
    cases h
   cases h
theorem nK {hp hp':List (Nat×aA)}:∀{ids:List Nat} {H:List (Nat×aA)},(∀b∈ids,lk hp' b=lk hp b)→j5 hp ids=some H→j5 hp' ids=some H
 |[],H,_,h=>h
 | i::r,H,hs,h=>by
   simp only[j5] at h ⊢;rw[hs i (by simp)];split at h
   ·rename_i bx hbx;split at h
    ·rename_i t ht;rw[nK (fun b hb=>hs b (by simp[hb])) ht];exact h
    cases h
   cases h
theorem XP {P:Program}{T:Tab}{op:Op}{vs:List AV}{hp:List (Nat×aA)}{id:Nat}{K:AV→List (Nat×aA)→List Nat→Prop}(h:zR P T op vs hp id K) :
  ∃v ws ids,K v ws ids∧∀(hp':List (Nat×aA)),(∀b∈ids,lk hp' b=lk hp b)→∀K':AV→List (Nat×aA)→List Nat→Prop,K' v ws ids→zR P T op vs hp' id K':=by
 unfold zR at h;simp only at h;split at h;rotate_left;cases h
 rename_i H hH;obtain⟨⟨v,ws⟩,h1,h2⟩:=S9 P T op vs H id (fun x=>K x.1 x.2 (Hw op vs)) h;refine⟨v,ws,Hw op vs,h1,fun hp' hb K' qg=>?_⟩;unfold zR;simp only;rw[nK hb hH];exact h2 (fun x=>K' x.1 x.2 (Hw op vs)) qg
theorem U0 {P:Program}{T:Tab}{op:Op}{vs:List AV}{hp:List (Nat×aA)}{id:Nat}{K:AV→List (Nat×aA)→List Nat→Prop}(h:zR P T op vs hp id K) :
  ∃v ws ids,K v ws ids∧ids=Hw op vs∧∀(hp':List (Nat×aA)),(∀b∈ids,lk hp' b=lk hp b)→∀K':AV→List (Nat×aA)→List Nat→Prop,K' v ws ids→zR P T op vs hp' id K':=by
 unfold zR at h;simp only at h;split at h;rotate_left;cases h
 rename_i H hH;obtain⟨⟨v,ws⟩,h1,h2⟩:=S9 P T op vs H id (fun x=>K x.1 x.2 (Hw op vs)) h;refine⟨v,ws,Hw op vs,h1,rfl,fun hp' hb K' qg=>?_⟩;unfold zR;simp only;rw[nK hb hH];exact h2 (fun x=>K' x.1 x.2 (Hw op vs)) qg
theorem EW {x y:Nat}:∀{l:List Nat},x∈snoc l y↔x∈l∨x=y
 |[]=>by simp[snoc]
 |z::l=>by simp[snoc,EW (l:=l),or_assoc]
theorem EX {hp:List (Nat×aA)}:∀{n:Nat} {todo seen:List Nat},∀b∈seen,b∈zX hp n todo seen
 |0,_,_,b,h=>h
 |_+1,[],_,b,h=>h
 | n+1,x::todo,seen,b,h=>by
   simp only[zX];split
   ·exact EX b h
   split<;>exact EX b (EW.2 (.inl h))
theorem oZ {hp hp':List (Nat×aA)}:∀{n:Nat} {todo seen:List Nat},(∀b∈zX hp n todo seen,lk hp' b=lk hp b)→zX hp' n todo seen=zX hp n todo seen
 |0,_,_,_=>rfl
 |_+1,[],_,_=>rfl
 | n+1,x::todo,seen,h=>by
   simp only[zX] at h ⊢;cases hm:EM x seen with
   | true=>
     simp only[hm] at h ⊢;exact oZ h
   | false=>
     simp only[hm] at h ⊢;have hx:lk hp' x=lk hp x:=by
      refine h x ?_;split<;>exact EX x (EW.2 (.inr rfl))
     rw[hx];cases hl:lk hp x with
     |none=>simp only[hl] at h ⊢;exact oZ h
     |some bx=>cases bx<;>simp only[hl] at h ⊢ <;> exact oZ h
theorem yx {hp hp':List (Nat×aA)}:∀{l:List Nat},(∀b∈l,lk hp' b=lk hp b)→sS hp' l=sS hp l
 |[],_=>rfl
 | x::r,h=>by
   simp only[sS];rw[h x (by simp),yx fun b hb=>h b (by simp[hb])]
theorem XQ {P:Program}{vs:List AV}{hp:List (Nat×aA)}{id:Nat}{K:AV→List (Nat×aA)→List Nat→Prop}(h:gC P hp id vs K) :
  ∃v ws ids,K v ws ids∧∀(hp':List (Nat×aA)),(∀b∈ids,lk hp' b=lk hp b)→∀K':AV→List (Nat×aA)→List Nat→Prop,K' v ws ids→gC P hp' id vs K':=by
 unfold gC at h;split at h;rotate_left;cases h
 rename_i fv args;split at h;rotate_left;cases h
 rename_i f first aM hfn
 simp only at h;split at h;rotate_left;cases h
 rename_i H hH;obtain⟨r,h1,Qa,h⟩:=h;split at h;rotate_left;cases h
 rename_i hok;have h0:=h;rw[zY,zZ] at h;have h:=kI _ _ _ h;refine⟨_,_,_,h,fun hp' hb K' qg=>?_⟩;have hb1:=fun b hb'=>hb b (List.mem_append_left _ hb')
 have hb2:=fun b hb'=>hb b (List.mem_append_right _ hb')
 unfold gC;simp only[hfn];rw[oZ hb1,nK hb1 hH];simp only;refine⟨r,h1,Qa,?_⟩;have:gOk (lq 1 H) (jH 1 H) id hp' h1=gOk (lq 1 H) (jH 1 H) id hp h1:=by
  unfold gOk;rw[yx hb2]
 rw[this,hok];simp only;rw[zY,zZ] at h0 ⊢;exact iV _ _ _ h0 qg
theorem aeo {P:Program}{vs:List AV}{hp:List (Nat×aA)}{id:Nat}{K:AV→List (Nat×aA)→List Nat→Prop}(h:gV P hp id vs K) :
  ∃v ws ids,K v ws ids∧∀(hp':List (Nat×aA)),(∀b∈ids,lk hp' b=lk hp b)→∀K':AV→List (Nat×aA)→List Nat→Prop,K' v ws ids→gV P hp' id vs K':=by
 obtain⟨v,ws,ids,h1,h2⟩:=XQ h;refine⟨v,[],ids,(yV h1).1,fun hp' hb K' qg=>?_⟩;exact h2 hp' hb _ (C8 hb h1 qg)
theorem aep {P:Program}{vs:List AV}{hp:List (Nat×aA)}{K:AV→List (Nat×aA)→List Nat→Prop}(h:dC P hp vs K) :
  ∃v ws ids,K v ws ids∧(∀b∈dY vs,b∈ids)∧∀(hp':List (Nat×aA)),(∀b∈ids,lk hp' b=lk hp b)→∀K':AV→List (Nat×aA)→List Nat→Prop,K' v ws ids→dC P hp' vs K':=by
 unfold dC at h;simp only at h;split at h;rotate_left;cases h
 rename_i H hH;split at h;rotate_left;cases h
 rename_i f first aM ps hm
 obtain⟨r,hpc,h⟩:=h;split at h;rotate_left;cases h
 rename_i hs;refine⟨_,_,_,h,fun b hb=>List.mem_append_left _ hb,fun hp' hb K' qg=>?_⟩;have hb1:=fun b hb'=>hb b (List.mem_append_right _ hb')
 unfold dC;simp only;rw[oZ hb1,nK hb1 hH];simp only[hm];refine⟨r,hpc,?_⟩;rw[hs];exact qg
theorem EY {hp hp':List (Nat×aA)}:∀{ids:List Nat},(∀b∈ids,lk hp' b=lk hp b)→j5 hp' ids=j5 hp ids
 |[],_=>rfl
 | i::r,h=>by
   simp only[j5];rw[h i (by simp),EY fun b hb=>h b (by simp[hb])]
theorem C9 {hp hp':List (Nat×aA)}{vs:List AV}(h:∀b∈dY vs,lk hp' b=lk hp b):SK hp' vs=SK hp vs:=by
 unfold SK;split
 ·rename_i p args;rw[EY fun b hb=>h b (by simp only[dY,refs,List.nil_append];exact hb)]
 rfl
theorem aer {P:Program}{T:Tab}{op:Op}(hc:mK op=true){vs:List AV}{hp:List (Nat×aA)}{id:Nat}{K:AV→List (Nat×aA)→List Nat→Prop}(h:lC P T op vs hp id K) :
  ∃v ws ids,K v ws ids∧∀(hp':List (Nat×aA)),(∀b∈ids,lk hp' b=lk hp b)→∀K':AV→List (Nat×aA)→List Nat→Prop,K' v ws ids→lC P T op vs hp' id K':=by
 unfold lC at h;split at h
 ·rename_i hd;obtain⟨v,ws,ids,h1,h2,h3⟩:=aep h;refine⟨v,ws,ids,h1,fun hp' hb K' qg=>?_⟩;unfold lC;rw[C9 fun b hb'=>hb b (h2 b hb'),hd];exact h3 hp' hb K' qg
 rename_i hd;have hn:Hw op vs=dY vs:=by
  cases op<;>simp only[mK] at hc<;>first|rfl|(cases hc;done)
 obtain⟨v,ws,ids,h1,h2,h3⟩:=U0 h;rw[hn] at h2;subst h2;refine⟨v,ws,_,h1,fun hp' hb K' qg=>?_⟩;unfold lC;rw[C9 hb,hd];exact h3 hp' hb K' qg
theorem aes {P:Program}{vs:List AV}{hp:List (Nat×aA)}{K:AV→List (Nat×aA)→List Nat→Prop}(h:yC P hp vs K) :
  ∃v ws ids,K v ws ids∧∀(hp':List (Nat×aA)),(∀b∈ids,lk hp' b=lk hp b)→∀K':AV→List (Nat×aA)→List Nat→Prop,K' v ws ids→yC P hp' vs K':=by
 unfold yC at h;split at h;rotate_left;cases h
 split at h;rotate_left;cases h
 rename_i y ver rest st h9;split at h;rotate_left;cases h
 split at h;rotate_left;cases h
 split at h;rotate_left;cases h
 rename_i ps hps;obtain⟨e,x,r,e2,hle,hK⟩:=h;refine⟨_,_,_,hK,fun hp' hb K' qg=>?_⟩;unfold yC;simp only[hb 999 (by simp),h9,hps];exact⟨e,x,r,e2,hle,qg⟩
theorem aaW {P:Program}{T:Tab}(hg:gen T=false){o:Oper}{tm:List (Nat×AV)}{hp:List (Nat×aA)}{id:Nat}{K:AV→List (Nat×aA)→List Nat→Prop}(h:Xe P T o tm hp id K) :
  ∃v ws ids,K v ws ids∧∀(tm':List (Nat×AV)) (hp':List (Nat×aA)),(∀t∈tmpsOf (kG o.op),lk tm' t=lk tm t)→(∀b∈ids,lk hp' b=lk hp b) →
   ∀K':AV→List (Nat×aA)→List Nat→Prop,K' v ws ids→Xe P T o tm' hp' id K':=by
 unfold Xe at h;split at h;rotate_left;cases h
 rename_i vs hvs;split at h
 ·rename_i hc;split at h
  ·rename_i hy;obtain⟨v,ws,ids,h1,h2⟩:=aes h;refine⟨v,ws,ids,h1,fun tm' hp' ht hb K' qg=>?_⟩;unfold Xe;rw[oG ht hvs];simp only[hc,hy];exact h2 hp' hb K' qg
  rename_i hy;rw[hg] at h;rcases h with (h|h)|h
  rotate_left 2
  ·obtain⟨v,ws,ids,h1,h2⟩:=aeo h;refine⟨v,ws,ids,h1,fun tm' hp' ht hb K' qg=>?_⟩;unfold Xe;rw[oG ht hvs,hg];simp only[hc,hy];exact .inr (h2 hp' hb K' qg)
  ·obtain⟨v,ws,ids,h1,h2⟩:=aer hc h;refine⟨v,ws,ids,h1,fun tm' hp' ht hb K' qg=>?_⟩;unfold Xe;rw[oG ht hvs];simp only[hc,hy];exact .inl (.inl (h2 hp' hb K' qg))
  obtain⟨v,ws,ids,h1,h2⟩:=XQ h;refine⟨v,ws,ids,h1,fun tm' hp' ht hb K' qg=>?_⟩;unfold Xe;rw[oG ht hvs];simp only[hc,hy];exact .inl (.inr (h2 hp' hb K' qg))
 rename_i hc;obtain⟨v,ws,ids,h1,h2⟩:=XP h;refine⟨v,ws,ids,h1,fun tm' hp' ht hb K' qg=>?_⟩;unfold Xe;rw[oG ht hvs];simp only[hc];exact h2 hp' hb K' qg
section
variable {α:Type}
def acc (S:Nat→Bool):List (List (Nat×α))→Nat→List (Nat×α)→List (Nat×α)
 |[],_,s=>s
 |ws::r,i,s=>acc S r (i+1) (if S i then ws++s else s)
theorem jJ {ws s:List (Nat×α)}{t:Nat}(h:t∉keys ws):lk (ws++s) t=lk s t:=by
 induction ws with
 |nil=>rfl
 | cons x ws ih=>
   obtain⟨k,v⟩:=x;simp only[keys,List.mem_cons,not_or] at h;rw[List.cons_append,ax,if_neg (Ne.symm h.1),ih h.2]
theorem vF {ws s s':List (Nat×α)}{t:Nat}(h:t∈keys ws):lk (ws++s) t=lk (ws++s') t:=by
 induction ws with
 |nil=>simp[keys] at h
 | cons x ws ih=>
   obtain⟨k,v⟩:=x;simp only[keys,List.mem_cons] at h;rw[List.cons_append,List.cons_append,ax,ax];split
   ·rfl
   rename_i hk;exact ih (h.resolve_left (Ne.symm hk))
theorem nR {ws s s':List (Nat×α)}{t:Nat}(h:lk s t=lk s' t):lk (ws++s) t=lk (ws++s') t:=by
 by_cases hk:t∈keys ws
 ·exact vF hk
 rw[jJ hk,jJ hk,h]
theorem oH:∀(l:List (List (Nat×α))) (i:Nat) (s:List (Nat×α)),acc (fun _=>false) l i s=s
 |[],_,_=>rfl
 |ws::r,i,s=>by simp only[acc,Bool.false_eq_true,if_false,oH r]
theorem lG {S S':Nat→Bool}(t:Nat):∀(l:List (List (Nat×α))) (i:Nat) (s s':List (Nat×α)),lk s t=lk s' t →
  (∀k ws,l[k]? = some ws→t∈keys ws→S (i+k)=S' (i+k))→lk (acc S l i s) t=lk (acc S' l i s') t
 |[],_,_,_,h,_=>h
 | ws::r,i,s,s',h,hS=>by
   simp only[acc];refine lG t r (i+1) _ _ ?_ fun k uO hk ht=>by
    have:=hS (k+1) uO (by simpa using hk) ht;rwa [show i+(k+1)=i+1+k from by omega] at this
   by_cases hk:t∈keys ws
   ·have:=hS 0 ws rfl hk;simp only[Nat.add_zero] at this;rw[this];split
    ·exact nR h
    exact h
   have h1:lk (ws++s) t=lk s t:=jJ hk;have h2:lk (ws++s') t=lk s' t:=jJ hk;split<;>split<;>simp[h1,h2,h]
theorem M7 {S:Nat→Bool}(t:Nat):∀(l:List (List (Nat×α))) (i:Nat) (s:List (Nat×α)) (j:Nat) (ws:List (Nat×α)),l[j]? = some ws→t∈keys ws→S (i+j)=true →
  (∀k uO,l[k]? = some uO→t∈keys uO→S (i+k)=true→k≤j)→∀s',lk (acc S l i s) t=lk (ws++s') t
 |[],_,_,j,_,h,_,_,_,_=>by simp at h
 | w0::r,i,s,0,ws,h,ht,hS,hk,s'=>by
   simp only[List.getElem?_cons_zero,Option.some.injEq] at h;subst h;simp only[Nat.add_zero] at hS;simp only[acc,hS,if_true];rw[lG (S':=fun _=>false) t r (i+1) _ (w0++s) rfl ?_,oH]
   ·exact vF ht
   intro k uO hk' ht';cases hb:S (i+1+k) with
   |false=>rfl
   | true=>
     have:=hk (k+1) uO (by simpa using hk') ht' (by rw[show i+(k+1)=i+1+k from by omega];exact hb);omega
 | w0::r,i,s,j+1,ws,h,ht,hS,hk,s'=>by
   simp only[acc];refine M7 t r (i+1) _ j ws (by simpa using h) ht (by rw[show i+1+j=i+(j+1) from by omega];exact hS) (fun k uO hk' ht' hS'=>?_) s';have:=hk (k+1) uO (by simpa using hk') ht' (by rw[show i+(k+1)=i+1+k from by omega];exact hS');omega
theorem Ta {S S':Nat→Bool}{l:List (List (Nat×α))}{s:List (Nat×α)}{j:Nat}{ws:List (Nat×α)}(hj:l[j]? = some ws)(hS:∀k,S' k=(S k||Nat.beq k j))(t:Nat)
  (hw:∀k uO,l[k]? = some uO→t∈keys ws→t∈keys uO→S k=true→k<j):lk (acc S' l 0 s) t=lk (ws++acc S l 0 s) t:=by
 by_cases ht:t∈keys ws
 ·refine M7 t l 0 s j ws hj ht (by rw[hS];simp) (fun k uO hk ht' QN=>?_) _;rw[Nat.zero_add,hS,Bool.or_eq_true] at QN;rcases QN with h|h
  ·exact Nat.le_of_lt (hw k uO hk ht ht' h)
  exact Nat.le_of_eq (Nat.eq_of_beq_eq_true h)
 rw[jJ ht];refine lG t l 0 s s rfl fun k uO hk ht'=>?_
 rw[Nat.zero_add,hS];cases hb:Nat.beq k j with
 |false=>simp
 | true=>
   have:=Nat.eq_of_beq_eq_true hb;subst this;rw[hj] at hk;cases hk;exact absurd ht' ht
theorem rz {S:Nat→Bool}:∀(l:List (List (Nat×α))) (i:Nat) (s:List (Nat×α)),acc S l (i+1) s=acc (fun k=>S (k+1)) l i s
 |[],_,_=>rfl
 |ws::r,i,s=>by simp only[acc];rw[rz r]
end
def Ic (d:Option Nat)(v:AV):List (Nat×AV):=
 match d with
 |some d=>[(d,v)]
 |none=>[]
theorem z8 (tm:List (Nat×AV))(d:Option Nat)(v:AV):aeb tm d v=Ic d v++tm:=by cases d<;>rfl
section
variable {P:Program}{T:Tab}{c:Ctx}
def U1 (P:Program)(c:Ctx)(ops:Array Oper)(base:Nat)(o:Oper)(i:Nat)(v:AV)(ws:List (Nat×aA))(e:vo)(tm:List (Nat×AV))(hp:List (Nat×aA)):Prop:=
 ∀(R:Real) (tm':List (Nat×AV)) (hp':List (Nat×aA)) (nx:Nat) (a:Act) (w:World),(∀t∈e.look,lk tm' t=lk tm t)→(∀b∈e.rd,lk hp' b=lk hp b)→base+i<nx →
  (∀t,o.dst=some t→t<c.n)→bB c R ⟨tm',nx,hp'⟩ a w→∀(ro:Option Nat) (Q:Exit→Act→World→Prop),
   if Region.wanted o (yielded ops a.tmps) then o.wpIn (W1 ro) 0 P a w (fun a' w'=>∃R',bB c R' ⟨Ic o.dst v++tm',nx,ws++hp'⟩ a' w') Q
   else ∃R',bB c R' ⟨Ic o.dst v++tm',nx,ws++hp'⟩ (a.put o.dst undef) w
theorem U1.congr {ops:Array Oper}{base:Nat}{o:Oper}{i:Nat}{v:AV}{ws:List (Nat×aA)}{e:vo}{tm tm2:List (Nat×AV)}{hp hp2:List (Nat×aA)}
  (h:U1 P c ops base o i v ws e tm hp) (ht:∀t,lk tm2 t=lk tm t) (hh:∀b,lk hp2 b=lk hp b):U1 P c ops base o i v ws e tm2 hp2:=by
 intro R tm' hp' nx a w h1 h2 h3 h4 g ro Q;exact h R tm' hp' nx a w (fun t htl=>(h1 t htl).trans (ht t)) (fun b hb=>(h2 b hb).trans (hh b)) h3 h4 g ro Q
theorem Tc (hgen:gen T=false){ops:List Oper}{base:Nat}{o:Oper}{i:Nat}{tm:List (Nat×AV)}{hp:List (Nat×aA)}{tr:List vo}{kn:List (Nat×Bool)}{K:RC}
  (h:vex P T ops base o i tm hp tr kn K):∃v ws e,K (Ic o.dst v++tm) (ws++hp) (e::tr) kn∧e.dst=o.dst∧e.wr=keys ws∧(∀d∈yX ops o,d∈e.look) ∧
   ∀tm' hp' qY,(∀t∈e.look,lk tm' t=lk tm t)→(∀b∈e.rd,lk hp' b=lk hp b)→∀K':RC,K' (Ic o.dst v++tm') (ws++hp') (e::qY) kn→vex P T ops base o i tm' hp' qY kn K':=by
 unfold vex at h;split at h
 ·exact h.elim
 rename_i hn;obtain⟨v,ws,ids,h1,h2⟩:=aaW hgen h;simp only[xg,Eg,z8] at h1;refine⟨v,ws,_,h1,rfl,rfl,fun d hd=>List.mem_append_left _ hd,fun tm' hp' qY ht hb K' qg=>?_⟩;unfold vex;rw[hb (base+i) (by simp),hn];simp only;refine h2 tm' hp' (fun t hx=>ht t (List.mem_append_right _ hx)) (fun b hx=>hb b (List.mem_cons_of_mem _ hx)) _ ?_;simp only[xg,Eg,z8];exact qg
theorem Jg {ops:List Oper}{o:Oper}{tm:List (Nat×AV)}{hp:List (Nat×aA)}{tr:List vo}{kn:List (Nat×Bool)}{K:RC}
  (h:CU ops o tm hp tr kn K):∃v ws e,K (Ic o.dst v++tm) (ws++hp) (e::tr) kn∧e.dst=o.dst∧e.wr=keys ws∧(∀d∈yX ops o,d∈e.look) ∧
   ∀tm' hp' qY,(∀t∈e.look,lk tm' t=lk tm t)→(∀b∈e.rd,lk hp' b=lk hp b)→∀K':RC,K' (Ic o.dst v++tm') (ws++hp') (e::qY) kn→CU ops o tm' hp' qY kn K':=by
 unfold CU at h;simp only[xg,z8] at h;refine⟨_,[],_,h,rfl,rfl,fun d hd=>hd,fun tm' hp' qY ht hb K' qg=>?_⟩;unfold CU;simp only[xg,z8];exact qg
theorem Ei (hgen:gen T=false){ops:List Oper}{base:Nat}{o:Oper}{i:Nat}{wt:Bool}{tm:List (Nat×AV)}{hp:List (Nat×aA)}{tr:List vo}{kn:List (Nat×Bool)}{K:RC}
  (h:vgo P T ops base o i wt tm hp tr kn K):∃v ws e,K (Ic o.dst v++tm) (ws++hp) (e::tr) kn∧e.dst=o.dst∧e.wr=keys ws∧(∀d∈yX ops o,d∈e.look) ∧
   ∀tm' hp' qY,(∀t∈e.look,lk tm' t=lk tm t)→(∀b∈e.rd,lk hp' b=lk hp b)→∀K':RC,K' (Ic o.dst v++tm') (ws++hp') (e::qY) kn→vgo P T ops base o i wt tm' hp' qY kn K':=by
 cases wt with
 |true=>exact Tc hgen h
 |false=>exact Jg h
theorem U2 (hgen:gen T=false){ops:List Oper}{base:Nat}{o:Oper}{i:Nat}{tm:List (Nat×AV)}{hp:List (Nat×aA)}{tr:List vo}{kn:List (Nat×Bool)}{K:RC}
  (h:ru P T ops base o i tm hp tr kn K):∃v ws e H7 tm1,(∀t,lk tm1 t=lk tm t)∧K (Ic o.dst v++tm1) (ws++hp) (e::tr) H7∧e.dst=o.dst∧e.wr=keys ws ∧
   ∀tm' hp' qY,(∀t∈e.look,lk tm' t=lk tm t)→(∀b∈e.rd,lk hp' b=lk hp b)→∀K':RC,(∀aeu,(∀t,lk aeu t=lk tm' t)→K' (Ic o.dst v++aeu) (ws++hp') (e::qY) H7) →
    ru P T ops base o i tm' hp' qY kn K':=by
 unfold ru at h;split at h
 ·rename_i hg;obtain⟨v,ws,e,h1,h2,h3,h4,h5⟩:=Tc hgen h;refine⟨v,ws,e,kn,tm,fun _=>rfl,h1,h2,h3,fun tm' hp' qY ht hb K' qg=>?_⟩;unfold ru;rw[hg];exact h5 tm' hp' qY ht hb K' (qg tm' fun _=>rfl)
 rename_i j want hg;split at h
 ·exact h.elim
 rename_i d hd;have hmem:d∈yX ops o:=by simp[yX,hd]
 split at h;rotate_left;cases h
 rename_i vv hv;split at h
 ·rename_i b;split at h
  ·rename_i kb hkn;cases b with
   | true=>
     obtain⟨v,ws,e,h1,h2,h3,h4,h5⟩:=Ei hgen h;refine⟨v,ws,e,kn,tm,fun _=>rfl,h1,h2,h3,fun tm' hp' qY ht hb K' qg=>?_⟩;unfold ru;simp only[hg,hd,ht d (h4 d hmem),hv,hkn];exact h5 tm' hp' qY ht hb K' (qg tm' fun _=>rfl)
   | false=>
     obtain⟨v,ws,e,h1,h2,h3,h4,h5⟩:=Ei hgen h;refine⟨v,ws,e,kn,tm,fun _=>rfl,h1,h2,h3,fun tm' hp' qY ht hb K' qg=>?_⟩;unfold ru;simp only[hg,hd,ht d (h4 d hmem),hv,hkn];exact h5 tm' hp' qY ht hb K' (qg tm' fun _=>rfl)
  rename_i hkn;have same:∀(b':Bool) (tm':List (Nat×AV)),lk tm' d=some (.pv (.sc (.bool b')))→∀t,lk ((d,AV.pv (.sc (.bool b')))::tm') t=lk tm' t:=by
   intro b' tm' hb' t;rw[ax];split
   ·rename_i e;rw[←e,hb']
   rfl
  cases b with
  | true=>
    obtain⟨v,ws,e,h1,h2,h3,h4,h5⟩:=Ei hgen (h.1 rfl);refine⟨v,ws,e,_,_,same true tm hv,h1,h2,h3,fun tm' hp' qY ht hb K' qg=>?_⟩;have hv':lk tm' d=some (.pv (.sc (.bool true))):=(ht d (h4 d hmem)).trans hv;unfold ru;simp only[hg,hd,hv',hkn];refine⟨fun _=>h5 _ hp' qY (fun t hx=>?_) hb K' (qg _ (same true tm' hv')),fun h=>(by cases h)⟩;rw[same true tm' hv',same true tm hv];exact ht t hx
  | false=>
    obtain⟨v,ws,e,h1,h2,h3,h4,h5⟩:=Ei hgen (h.2 rfl);refine⟨v,ws,e,_,_,same false tm hv,h1,h2,h3,fun tm' hp' qY ht hb K' qg=>?_⟩;have hv':lk tm' d=some (.pv (.sc (.bool false))):=(ht d (h4 d hmem)).trans hv;unfold ru;simp only[hg,hd,hv',hkn];refine⟨fun h=>(by cases h),fun _=>h5 _ hp' qY (fun t hx=>?_) hb K' (qg _ (same false tm' hv'))⟩;rw[same false tm' hv',same false tm hv];exact ht t hx
 ·obtain⟨v,ws,e,h1,h2,h3,h4,h5⟩:=Jg h;refine⟨v,ws,e,kn,tm,fun _=>rfl,h1,h2,h3,fun tm' hp' qY ht hb K' qg=>?_⟩;unfold ru;simp only[hg,hd,ht d (h4 d hmem),hv];exact h5 tm' hp' qY ht hb K' (qg tm' fun _=>rfl)
 exact h.elim
theorem XR (hT:bO P T)(hgen:gen T=false){ops:Array Oper}{base:Nat}{o:Oper}{i:Nat}{tm:List (Nat×AV)}{hp:List (Nat×aA)}{tr:List vo}{kn:List (Nat×Bool)}{K:RC}
  (h:ru P T ops.toList base o i tm hp tr kn K):∃v ws e H7 tm1,(∀t,lk tm1 t=lk tm t)∧K (Ic o.dst v++tm1) (ws++hp) (e::tr) H7∧e.dst=o.dst∧e.wr=keys ws ∧
   U1 P c ops base o i v ws e tm hp:=by
 obtain⟨v,ws,e,H7,tm1,h1,h2,h3,h4,h5⟩:=U2 hgen h;refine⟨v,ws,e,H7,tm1,h1,h2,h3,h4,fun R tm' hp' nx a w ht hb hn hd g ro Q=>?_⟩;have hv:=h5 tm' hp' [] ht hb (fun tm2 hp2 _ _=>(∀t,lk tm2 t=lk (Ic o.dst v++tm') t)∧hp2=ws++hp') fun aeu ht'=>⟨fun t=>nR (ht' t),rfl⟩
 have hs:=CV (s:=⟨tm',nx,hp'⟩) g hT (ops:=ops) hn hd hv ro Q;split
 ·rename_i hw;rw[if_pos hw] at hs;refine Oper.wpIn_mono ?_ hs;rintro a' w' ⟨R',tm2,hp2,qY,kn2,⟨hk,rfl⟩,g'⟩
  exact⟨R',g'.congr (fun t=>(hk t).symm) fun _=>rfl⟩
 rename_i hw;rw[if_neg hw] at hs;obtain⟨tm2,hp2,qY,kn2,⟨hk,rfl⟩,g'⟩:=hs;exact⟨R,g'.congr (fun t=>(hk t).symm) fun _=>rfl⟩
end
theorem M8 {x:Nat}:∀{l:List Nat},EM x l=true↔x∈l
 |[]=>by simp[EM]
 | y::r=>by
   simp only[EM,List.mem_cons];split
   ·rename_i h;simp[Nat.eq_of_beq_eq_true h]
   rename_i h;have:=Nat.ne_of_beq_eq_false h;simp[this,M8]
theorem sV {x:Nat}:∀{l l':List Nat},x∈l→x∈l'→meet l l'=true
 |[],_,h,_=>by simp at h
 | y::r,l',h,h'=>by
   simp only[meet];split
   ·rfl
   rename_i hm;rcases List.mem_cons.1 h with rfl|h
   ·rw[M8.2 h'] at hm;cases hm
   exact sV h h'
theorem M9 (d:Option Nat)(v:AV):keys (Ic d v)=dl d:=by cases d<;>rfl
section
variable {P:Program}{T:Tab}{c:Ctx}
theorem Na (hT:bO P T)(hg:gen T=false){ops:Array Oper}{base:Nat}{K:RK}:∀(l:List Oper) (i:Nat) {tm:List (Nat×AV)} {hp:List (Nat×aA)} {tr:List vo} {kn:List (Nat×Bool)},
  Qo P T ops.toList base l i tm hp tr kn K→∃(wT:List (List (Nat×AV))) (wH:List (List (Nat×aA))) (es:List vo) (tmf:List (Nat×AV)) (PY:List (Nat×aA)),
   wT.length=l.length∧wH.length=l.length∧es.length=l.length∧K tmf PY (es.reverse++tr)∧(∀t,lk tmf t=lk (acc (fun _=>true) wT 0 tm) t)∧(∀b,lk PY b=lk (acc (fun _=>true) wH 0 hp) b) ∧
   ∀k o,l[k]? = some o→∃v ws e,wT[k]? = some (Ic o.dst v)∧wH[k]? = some ws∧es[k]? = some e∧e.dst=o.dst∧e.wr=keys ws ∧
    U1 P c ops base o (i+k) v ws e (acc (fun x=>Nat.blt x k) wT 0 tm) (acc (fun x=>Nat.blt x k) wH 0 hp)
 |[],i,tm,hp,tr,kn,h=>⟨[],[],[],tm,hp,rfl,rfl,rfl,h,fun _=>rfl,fun _=>rfl,fun k o hk=>by simp at hk⟩
 | o::r,i,tm,hp,tr,kn,h=>by
   simp only[Qo] at h;obtain⟨v,ws,e,H7,tm1,h1,h2,h3,h4,h5⟩:=XR (c:=c) hT hg h;obtain⟨wT,wH,es,tmf,PY,l1,l2,l3,hK,hf,hf',hall⟩:=Na hT hg r (i+1) h2;have e0:(fun x=>Nat.blt x 0)=fun _=>false:=by
    funext x
    cases hb:Nat.blt x 0 with
    |false=>rfl
    |true=>rw[Nat.blt_eq] at hb;omega
   have e1:∀k,(fun x=>Nat.blt (x+1) (k+1))=fun x=>Nat.blt x k:=by
    intro k;funext x
    rw[Bool.eq_iff_iff,Nat.blt_eq,Nat.blt_eq];omega
   have e2:∀k,Nat.blt 0 (k+1)=true:=by intro k;rw[Nat.blt_eq];omega
   have hst:∀(S:Nat→Bool) t,lk (acc S wT 0 (Ic o.dst v++tm1)) t=lk (acc S wT 0 (Ic o.dst v++tm)) t:=fun S t=>lG t wT 0 _ _ (nR (h1 t)) fun _ _ _ _=>rfl
   refine⟨Ic o.dst v::wT,ws::wH,e::es,tmf,PY,by simp[l1],by simp[l2],by simp[l3],?_,?_,?_,?_⟩
   ·simpa using hK
   ·intro t;rw[hf t,hst];simp only[acc,if_true,rz]
   ·intro b;rw[hf' b];simp only[acc,if_true,rz]
   intro k o' hk;cases k with
   | zero=>
     simp only[List.getElem?_cons_zero,Option.some.injEq] at hk;subst hk;refine⟨v,ws,e,rfl,rfl,rfl,h3,h4,?_⟩;rw[e0,oH,oH];exact h5
   | succ k=>
     obtain⟨v',uO,e',a1,a2,a3,a4,a5,a6⟩:=hall k o' (by simpa using hk);refine⟨v',uO,e',by simpa using a1,by simpa using a2,by simpa using a3,a4,a5,?_⟩;rw[show i+(k+1)=i+1+k from by omega];refine a6.congr (fun t=>?_) fun b=>?_
     ·simp only[acc,e2,if_true,rz,e1];exact (hst _ t).symm
     simp only[acc,e2,if_true,rz,e1]
theorem Ie {α:Type}{l l':List α}{k:Nat}(h:k<l.length):nth (l++l') k=nth l k:=by
 rw[vz,vz,List.getElem?_append_left h]
def Closed (ops:List Oper)(S:Nat→Bool):Prop:=∀k o,ops[k]? = some o→S k=true→∀e∈o.after.toList,Region.binds .any e=true→S e.on=true
theorem vG {S:Nat→Bool}{H8:List Nat}(U3:∀k m,nth H8 k=some m→S k=true→∀x,m.testBit x=true→S x=true):∀(es:List Edge),
  (∀e∈es,Region.binds .any e=true→S e.on=true)→∀x,(MN H8 es).testBit x=true→S x=true
 |[],_,x,h=>by simp[MN] at h
 | e::r,hS,x,h=>by
   simp only[MN] at h;split at h
   ·rename_i hb;have hon:=hS e (by simp) hb;rw[Nat.testBit_or,Nat.testBit_or,Bool.or_eq_true,Bool.or_eq_true] at h;rcases h with (h|h)|h
    ·rw[Nat.testBit_two_pow] at h;simp only[decide_eq_true_eq] at h;rw[←h];exact hon
    ·split at h
     ·rename_i m hm;exact U3 e.on m hm hon x h
     simp at h
    exact vG U3 r (fun e' Ig=>hS e' (by simp[Ig])) x h
   exact vG U3 r (fun e' Ig=>hS e' (by simp[Ig])) x h
theorem sW {i:Nat}:∀{es:List Edge},zT i es=true→∀e∈es,Region.binds .any e=true→e.on<i
 |[],_,e,he,_=>by simp at he
 | x::r,h,e,he,hb=>by
   simp only[zT] at h;split at h
   ·rw[Bool.and_eq_true] at h;rcases List.mem_cons.1 he with rfl|he
    ·have:=h.1;rwa [Nat.blt_eq] at this
    exact sW h.2 e he hb
   rename_i hx;rcases List.mem_cons.1 he with rfl|he
   ·rw[hb] at hx;cases hx
   exact sW h e he hb
theorem Aa {e:vo}{m:Nat}:∀{l:List vo} {k0:Nat},Eh e m l k0=true→∀k x,l[k]? = some x→nJ x e=true→m.testBit (k0+k)=true
 |[],_,_,k,x,hk,_=>by simp at hk
 | y::r,k0,h,k,x,hk,hc=>by
   simp only[Eh,Bool.and_eq_true,Bool.or_eq_true,Bool.not_eq_true'] at h;cases k with
   | zero=>
     simp only[List.getElem?_cons_zero,Option.some.injEq] at hk;subst hk;exact h.1.resolve_left (by simp[hc])
   | succ k=>
     have:=Aa h.2 k x (by simpa using hk) hc;rwa [show k0+1+k=k0+(k+1) from by omega] at this
def Sep (ops:List Oper)(es:List vo)(S:Nat→Bool)(i:Nat)(o:Oper)(e:vo):Prop:=
 (∀ed∈o.after.toList,Region.binds .any ed=true→ed.on<i) ∧
 ((∀ed∈o.after.toList,Region.binds .any ed=true→S ed.on=true)→∀k x,k<i→es[k]? = some x→nJ x e=true→S k=true)
theorem BH {ops:List Oper}{all:List vo}{S:Nat→Bool}(hS:Closed ops S):∀(r:List Oper) (es:List vo) (i:Nat) (H8:List Nat),aaP all r es i H8=true →
  ops.drop i=r→all.drop i=es→H8.length=i→(∀k m,nth H8 k=some m→S k=true→∀x,m.testBit x=true→S x=true) →
  ∀k o,r[k]? = some o→∃e,es[k]? = some e∧Sep ops all S (i+k) o e
 |[],es,i,H8,_,_,_,_,_,k,o,hk=>by simp at hk
 | o0::r,es,i,H8,h,hops,hes,hlen,U3,k,o,hk=>by
   simp only[aaP] at h;cases es with
   |nil=>simp at h
   | cons e0 es=>
     simp only[Bool.and_eq_true] at h;obtain⟨h1,h2,h3⟩:=h;have ho0:ops[i]? = some o0:=by
      have:=congrArg (fun l=>l[0]?) hops;simpa using this
     have agQ:(∀e∈o0.after.toList,Region.binds .any e=true→S e.on=true)→∀x,(MN H8 o0.after.toList).testBit x=true→S x=true:=fun he=>vG U3 _ he
     cases k with
     | zero=>
       simp only[List.getElem?_cons_zero,Option.some.injEq] at hk;subst hk;refine⟨e0,rfl,fun ed PZ hb=>sW h1 ed PZ hb,fun he k x hki hx hc=>?_⟩;have:=Aa h2 k x (by rw[List.getElem?_take];simp only[Nat.add_zero] at hki;rw[if_pos hki];exact hx) hc;rw[Nat.zero_add] at this;exact agQ he k this
     | succ k=>
       obtain⟨e,he,hsep⟩:=BH hS r es (i+1) (H8++[MN H8 o0.after.toList]) h3 (by rw[←List.drop_drop,hops];rfl) (by rw[←List.drop_drop,hes];rfl) (by simp[hlen])
        (fun k' m hk' QN x hx=>by
         rcases Nat.lt_or_ge k' H8.length with hlt|hge
         ·rw[Ie hlt] at hk';exact U3 k' m hk' QN x hx
         rw[vz,List.getElem?_append_right hge] at hk';have:k' - H8.length=0:=by
          rcases Nat.eq_zero_or_pos (k' - H8.length) with h|h
          ·exact h
          rw[List.getElem?_eq_none (by simp;omega)] at hk';cases hk'
         rw[this] at hk';simp only[List.getElem?_cons_zero,Option.some.injEq] at hk';subst hk';have hki:k'=i:=by omega
         subst hki;exact agQ (fun ed PZ hb=>hS _ o0 ho0 QN ed PZ hb) x hx)
        k o (by simpa using hk)
       refine⟨e,by simpa using he,?_⟩;rw[show i+(k+1)=i+1+k from by omega];exact hsep
end
section
variable {P:Program}{T:Tab}{c:Ctx}
theorem E5 {n:Nat}:∀{l:List Oper},oU n l=true→∀(k:Nat) (o:Oper),l[k]? = some o→∀t,o.dst=some t→t<n
 |[],_,k,o,hk,_,_=>by simp at hk
 | x::r,h,k,o,hk,t,ht=>by
   simp only[oU] at h;cases k with
   | zero=>
     simp only[List.getElem?_cons_zero,Option.some.injEq] at hk;subst hk;rw[ht] at h;simp only at h;split at h
     ·rename_i hb;rwa [Nat.blt_eq] at hb
     cases h
   | succ k=>
     refine E5 (l:=r) ?_ k o (by simpa using hk) t ht;split at h
     ·split at h
      ·exact h
      cases h
     exact h
theorem E8 {x y:vo}{t:Nat}(h:t∈dl x.dst)(h':t∈y.look):nJ x y=true∧nJ y x=true:=by
 constructor<;>simp[nJ,sV h h']
theorem Jh {x y:vo}{t:Nat}(h:t∈dl x.dst)(h':t∈dl y.dst):nJ x y=true∧nJ y x=true:=by
 constructor<;>simp[nJ,sV h h',sV h' h]
theorem Nb {x y:vo}{t:Nat}(h:t∈x.wr)(h':t∈y.rd):nJ x y=true∧nJ y x=true:=by
 constructor<;>simp[nJ,sV h h']
theorem Nc {x y:vo}{t:Nat}(h:t∈x.wr)(h':t∈y.wr):nJ x y=true∧nJ y x=true:=by
 constructor<;>simp[nJ,sV h h',sV h' h]
theorem any_ok {ops:Array Oper}{base nx:Nat}{tm:List (Nat×AV)}{hp:List (Nat×aA)}{wT:List (List (Nat×AV))}{wH:List (List (Nat×aA))}{es:List vo}{Q:Exit→Act→World→Prop}
  (hall:∀k o,ops.toList[k]? = some o→∃v ws e,wT[k]? = some (Ic o.dst v)∧wH[k]? = some ws∧es[k]? = some e∧e.dst=o.dst∧e.wr=keys ws ∧
    U1 P c ops base o k v ws e (acc (fun x=>Nat.blt x k) wT 0 tm) (acc (fun x=>Nat.blt x k) wH 0 hp))
  (hlT:wT.length=ops.size) (hlH:wH.length=ops.size) (hfp:agC ops.toList es=true) (hn:base+ops.size≤nx) (hd:oU c.n ops.toList=true)
  (ro:Option Nat) (hfin:∀R a w,bB c R ⟨acc (fun _=>true) wT 0 tm,nx,acc (fun _=>true) wH 0 hp⟩ a w→Q .normal a w) :
  ∀(fuel:Nat) (listed:Array Bool) (R:Real) (a:Act) (w:World),listed.size=ops.size→Closed ops.toList (fun k=>listed.getD k false)→listed.toList.count false≤fuel →
   bB c R ⟨acc (fun k=>listed.getD k false) wT 0 tm,nx,acc (fun k=>listed.getD k false) wH 0 hp⟩ a w→wpAnyIn (W1 ro) 0 P .any ops Q fuel listed a w:=by
 have agR:∀k o,ops[k]? = some o→∀ed∈o.after.toList,Region.binds .any ed=true→ed.on<k:=by
  intro k o ho;obtain⟨e,_,hs⟩:=BH (S:=fun _=>true) (fun _ _ _ _ _ _ _=>rfl) ops.toList es 0 [] hfp rfl rfl rfl (fun _ m h=>by simp[nth] at h) k o (by rw[Array.getElem?_toList];exact ho);have:=hs.1;rwa [Nat.zero_add] at this
 have hdone:∀listed:Array Bool,listed.size=ops.size→Region.ready .any ops listed=[]→∀k,k<ops.size→listed.getD k false=true:=by
  intro listed hsz hr k;induction k using Nat.strongRecOn with
  | ind k ih=>
    intro hk;cases hb:listed.getD k false with
    |true=>rfl
    | false=>
      exfalso;have:k∈Region.ready .any ops listed:=by
       rw[mem_ready];refine⟨?_,ops[k],by simp[hk],fun ed PZ hbd=>?_⟩
       ·have hk':k<listed.size:=by omega
        simp[hk'] at hb ⊢;exact hb
       have hlt:=agR k ops[k] (by simp[hk]) ed (by simpa using PZ) hbd;exact ih ed.on hlt (by omega)
      rw[hr] at this;simp at this
 have hend:∀(listed:Array Bool) (R:Real) (a:Act) (w:World),listed.size=ops.size→Region.ready .any ops listed=[] →
   bB c R ⟨acc (fun k=>listed.getD k false) wT 0 tm,nx,acc (fun k=>listed.getD k false) wH 0 hp⟩ a w→Q .normal a w:=by
  intro listed R a w hsz hr g;refine hfin R a w (g.congr (fun t=>lG t wT 0 _ _ rfl fun k ws hk _=>?_) fun b=>lG b wH 0 _ _ rfl fun k ws hk _=>?_)
  ·rw[Nat.zero_add];exact (hdone listed hsz hr k (by rw[←hlT];exact (List.getElem?_eq_some_iff.1 hk).1)).symm
  rw[Nat.zero_add];exact (hdone listed hsz hr k (by rw[←hlH];exact (List.getElem?_eq_some_iff.1 hk).1)).symm
 intro fuel;induction fuel with
 | zero=>
   intro listed R a w hsz hcl hc g;have hr:Region.ready .any ops listed=[]:=by
    cases hr:Region.ready .any ops listed with
    |nil=>rfl
    | cons j r=>
      exfalso;have hj:j∈Region.ready .any ops listed:=by rw[hr];simp
      rw[mem_ready] at hj;obtain⟨h0,o,ho,_⟩:=hj;have hjl:j<listed.size:=by rw[hsz];exact (Array.getElem?_eq_some_iff.1 ho).1
      have:false∈listed.toList:=by
       have:listed[j]=false:=by simpa[hjl] using h0
       rw[←this];simp
      have:=List.count_pos_iff.2 this;omega
   exact⟨hr,hend listed R a w hsz hr g⟩
 | succ fuel ih=>
   intro listed R a w hsz hcl hc g;refine⟨fun hr=>hend listed R a w hsz hr g,fun i hi=>?_⟩;rw[mem_ready] at hi;obtain⟨h0,o,ho,hpre⟩:=hi;have hio:i<ops.size:=(Array.getElem?_eq_some_iff.1 ho).1;have hil:i<listed.size:=by omega
   have hif:listed.getD i false=false:=by simpa[hil] using h0
   have hol:ops.toList[i]? = some o:=by rw[Array.getElem?_toList];exact ho
   obtain⟨v,ws,e,a1,a2,a3,a4,a5,a6⟩:=hall i o hol;have hsep:∀k o',ops.toList[k]? = some o'→∃e,es[k]? = some e∧Sep ops.toList es (fun k=>listed.getD k false) k o' e:=by
    intro k o' hk;have:=BH hcl ops.toList es 0 [] hfp rfl rfl rfl (fun _ m h=>by simp[nth] at h) k o' hk;rwa [Nat.zero_add] at this
   have hS:∀k x,es[k]? = some x→k<ops.size→nJ x e=true→nJ e x=true→listed.getD k false=Nat.blt k i:=by
    intro k x hx hk hc1 hc2;rcases Nat.lt_trichotomy k i with hlt|heq|hgt
    ·obtain⟨e',Ig,hs⟩:=hsep i o hol;rw[a3] at Ig;cases Ig;have hk1:listed.getD k false=true:=hs.2 (fun ed PZ hb=>hpre ed (by simpa using PZ) hb) k x hlt hx hc1;have hk2:Nat.blt k i=true:=by rw[Nat.blt_eq];exact hlt
     rw[hk1,hk2]
    ·subst heq;rw[hif];cases hb:Nat.blt k k with
     |false=>rfl
     |true=>rw[Nat.blt_eq] at hb;omega
    have hb':Nat.blt k i=false:=by
     cases hb:Nat.blt k i with
     |false=>rfl
     |true=>rw[Nat.blt_eq] at hb;omega
    rw[hb'];cases hb:listed.getD k false with
    |false=>rfl
    | true=>
      exfalso;have hok:ops.toList[k]? = some ops[k]:=by simp[hk]
      obtain⟨e',Ig,hs⟩:=hsep k ops[k] hok;rw[hx] at Ig;cases Ig;have:=hs.2 (fun ed PZ hbd=>hcl k ops[k] hok hb ed PZ hbd) i e hgt a3 hc2;simp only at this;rw[hif] at this;cases this
   have adu:∀k,k<ops.size→∃o' v' uO e',ops[k]? = some o'∧wT[k]? = some (Ic o'.dst v')∧wH[k]? = some uO∧es[k]? = some e'∧e'.dst=o'.dst∧e'.wr=keys uO:=by
    intro k hk;obtain⟨v',uO,e',b1,b2,b3,b4,b5,_⟩:=hall k ops[k] (by simp[hk]);exact⟨ops[k],v',uO,e',by simp[hk],b1,b2,b3,b4,b5⟩
   have hTk:∀k uO,wT[k]? = some uO→∃e',es[k]? = some e'∧k<ops.size∧keys uO=dl e'.dst:=by
    intro k uO hk;have hkn:k<ops.size:=by rw[←hlT];exact (List.getElem?_eq_some_iff.1 hk).1
    obtain⟨o',v',w',e',_,b1,_,b3,b4,_⟩:=adu k hkn;rw[hk] at b1;simp only[Option.some.injEq] at b1;exact⟨e',b3,hkn,by rw[b1,M9,b4]⟩
   have hHk:∀k uO,wH[k]? = some uO→∃e',es[k]? = some e'∧k<ops.size∧keys uO=e'.wr:=by
    intro k uO hk;have hkn:k<ops.size:=by rw[←hlH];exact (List.getElem?_eq_some_iff.1 hk).1
    obtain⟨o',v',w',e',_,_,b2,b3,_,b5⟩:=adu k hkn;rw[hk] at b2;simp only[Option.some.injEq] at b2;exact⟨e',b3,hkn,by rw[b2,b5]⟩
   have hop:=a6 R _ _ nx a w (fun t ht=>lG (S:=fun k=>listed.getD k false) t wT 0 tm tm rfl fun k uO hk htk=>by
     obtain⟨e',Ig,hkn,hke⟩:=hTk k uO hk;rw[Nat.zero_add];rw[hke] at htk;exact hS k e' Ig hkn (E8 htk ht).1 (E8 htk ht).2)
    (fun b hb=>lG (S:=fun k=>listed.getD k false) b wH 0 hp hp rfl fun k uO hk htk=>by
     obtain⟨e',Ig,hkn,hke⟩:=hHk k uO hk;rw[Nat.zero_add];rw[hke] at htk;exact hS k e' Ig hkn (Nb htk hb).1 (Nb htk hb).2)
    (by omega) (fun t ht=>E5 hd i o hol t ht) g ro Q
   have hS':∀k,(listed.setIfInBounds i true).getD k false=(listed.getD k false||Nat.beq k i):=by
    intro k;by_cases hki:k=i
    ·subst hki;simp[hil]
    rw[getD_set_ne false (Ne.symm hki)];cases hb:Nat.beq k i with
    |false=>simp
    |true=>exact absurd (Nat.eq_of_beq_eq_true hb) hki
   have hnext:∀R' a' w',bB c R' ⟨Ic o.dst v++acc (fun k=>listed.getD k false) wT 0 tm,nx,ws++acc (fun k=>listed.getD k false) wH 0 hp⟩ a' w' →
     wpAnyIn (W1 ro) 0 P .any ops Q fuel (listed.setIfInBounds i true) a' w':=by
    intro R' a' w' g';refine ih _ R' a' w' (by simp[hsz]) ?_ ?_ (g'.congr (fun t=>?_) fun b=>?_)
    ·intro k o' hk QN ed PZ hb;simp only at QN ⊢;rw[hS',Bool.or_eq_true] at QN ⊢;rcases QN with h|h
     ·exact .inl (hcl k o' hk h ed PZ hb)
     have:=Nat.eq_of_beq_eq_true h;subst this;rw[hol] at hk;cases hk;exact .inl (hpre ed (by simpa using PZ) hb)
    ·rw[Array.toList_setIfInBounds,List.count_set (by simpa using hil)];have:listed.toList[i]'(by simpa using hil)=false:=by simpa[hil] using h0
     have hm:false∈listed.toList:=by rw[←this];simp
     have hp:=List.count_pos_iff.2 hm;rw[this];show listed.toList.count false-1+0≤fuel
     omega
    ·refine Ta a1 hS' t fun k uO hk ht ht' QN=>?_
     obtain⟨e',Ig,hkn,hke⟩:=hTk k uO hk;rw[hke] at ht';rw[M9,←a4] at ht;rw[hS k e' Ig hkn (Jh ht' ht).1 (Jh ht' ht).2] at QN;rwa [Nat.blt_eq] at QN
    refine Ta a2 hS' b fun k uO hk ht ht' QN=>?_
    obtain⟨e',Ig,hkn,hke⟩:=hHk k uO hk;rw[hke] at ht';rw[←a5] at ht;rw[hS k e' Ig hkn (Nc ht' ht).1 (Nc ht' ht).2] at QN;rwa [Nat.blt_eq] at QN
   unfold wpOpIn;rw[ho];simp only;split
   ·rename_i hw;rw[if_pos hw] at hop;exact Oper.wpIn_mono (fun a' w' ⟨R',g'⟩=>hnext R' a' w' g') hop
   rename_i hw;rw[if_neg hw] at hop;obtain⟨R',g'⟩:=hop;exact⟨fun _ _=>trivial,hnext R' _ w g'⟩
theorem bB.drawn {R:Real}{s:AS}{a:Act}{w:World}(g:bB c R s a w)(n:Nat):bB c R s a { w with drawn:=n }:=by
 have hN:∀r,r<w.heap.size→aT c R s.hp r→aT c R s.hp r:=fun r _ h=>h
 have hw:∀r,r<w.heap.size→¬aT c R s.hp r→({ w with drawn:=n }:World).heap[r]? = w.heap[r]? :=fun _ _ _=>rfl
 have h1:∀b off v,aX R b off v (lk s.hp b)→aX R b off v (lk s.hp b):=fun b off v h=>h
 have h2:∀b ver v,aS R b ver v (lk s.hp b)→aS R b ver v (lk s.hp b):=fun b ver v h=>h
 have h3:∀b ver i off v,aZ R b ver i off v (lk s.hp b)→aZ R b ver i off v (lk s.hp b):=fun b ver i off v h=>h
 refine⟨fun t v hv=>?_,g.size,g.lo,g.marks.imp fun Ds hm=>hm.kept (fun _ _ _=>rfl) (fun _ _ h=>h),g.fixed.kept (fun _ _ _=>rfl) (fun _ _ h=>h),fun b box hb=>?_,g.inj,g.free,⟨g.jE.size,g.jE.keep,g.jE.os,g.jE.tape,g.jE.output⟩,g.iL,fun v x h=>bZ hN hw h1 h2 h3 v x (g.kept v x h)⟩
 ·obtain⟨x,hx,hr⟩:=g.slots t v hv;exact⟨x,hx,bZ hN hw h1 h2 h3 v x hr⟩
 have hr:=g.boxes b box hb;cases box with
 | var cells=>
   simp only[eB] at hr ⊢;obtain⟨cur,e,ha,hb⟩:=hr;exact⟨cur,e,ha,bI hN hw h1 h2 h3 cells _ hb⟩
 | sD cells=>
   simp only[eB] at hr ⊢;obtain⟨cur,e,fr,ha,hn,hb⟩:=hr;exact⟨cur,e,fr,ha,hn,bX hN hw cells _ hb⟩
 | arr e ver st rows=>
   simp only[eB] at hr ⊢;obtain⟨xs,ha,hb⟩:=hr;exact⟨xs,ha,aV hN hw st rows xs hb⟩
 | kE ver st rows=>
   simp only[eB] at hr ⊢;exact dw hN hw _ _ hr
 | tr y ver rest st=>
   obtain⟨k0,kh,k1,k2,k3,k4⟩:=hr;exact⟨k0,kh,k1,⟨k2.size,k2.keep,k2.os,k2.tape,k2.output⟩,k3,k4⟩
 |fP e' ver st j ed sd pre row post=>exact jI hN hw rfl rfl rfl (fun k _=>rfl) rfl (fun vs h=>bI hN hw h1 h2 h3 _ _ h) hr
 |mp kk kv es=>exact hr
 | dN e' ver st pre row post=>
   obtain⟨xs,h8,h9,h10,h11,h12⟩:=hr;exact⟨xs,h8,aV hN hw _ _ _ h9,h10,bI hN hw h1 h2 h3 _ _ h11,aV hN hw _ _ _ h12⟩
theorem sZ (hm:P.follows .mixedOrders=true)(hT:bO P T)(hg:gen T=false:=by rfl):∀(c:Ctx) (R:Real) (s:AS) (a:Act) (w:World) (id:Nat) (ops:Array Oper) (K:Exit→AS→Prop) (ro:Option Nat),bB c R s a w→oU c.n ops.toList=true →
  VC P T (.region id ops true) s K→(Code.region id ops true).wpIn (W1 ro) 0 P (fun e a' w'=>∃R' s',K e s'∧bB c R' s' a' w') a w:=by
 intro c R s a w id ops K ro g hd h;simp only[VC] at h;obtain⟨tm,nx,hp⟩:=s;simp only at h;split at h;rotate_left;cases h
 rename_i hb;have hb:=Nat.le_of_ble_eq_true hb;obtain⟨wT,wH,es,tmf,PY,l1,l2,l3,⟨hfp,hK⟩,hf,hf',hall⟩:=Na (c:=c) hT hg ops.toList 0 h;simp only[List.append_nil,List.reverse_reverse] at hfp;have g0:bB c R ⟨tm,nx,hp⟩ a { w with drawn:=w.drawn+1 }:=g.drawn _;have hfalse:(fun k=>(Array.replicate ops.size false).getD k false)=fun _=>false:=by
  funext k
  simp only[Array.getD_eq_getD_getElem?,Array.getElem?_replicate];split<;>rfl
 refine wpIn_region_any hm (any_ok (hall:=fun k o hk=>by
  have:=hall k o hk;rwa [Nat.zero_add] at this) (by simpa using l1) (by simpa using l2) hfp (by simpa using hb) hd ro ?_ ops.size _ R a _ (by simp) ?_ ?_ ?_)
 ·intro R' a' w' g';exact⟨R',_,hK,g'.congr hf hf'⟩
 ·intro k o hk hS;have:=congrFun hfalse k;rw[hfalse] at hS;cases hS
 ·simp
 rw[hfalse,oH,oH];exact g0
end
section
variable {P:Program}{T:Tab}
theorem PC.mono {f:FuncId}{args:List PV}{Q Q':PV→Prop}(h:PC P f args Q)(hq:∀r,Q r→Q' r):PC P f args Q':=
 ⟨h.1,fun F w dm hF ha=>(h.2 F w dm hF ha).mono fun e w' ⟨v,r,a,b,c,d⟩=>⟨v,r,a,hq r b,c,d⟩⟩
theorem PC.le {f:FuncId}{args:List PV}{r:PV}(h:PC P f args fun x=>Te x r):bC P f args r:=
 ⟨h.1,fun F w dm hF ha=>(h.2 F w dm hF ha).mono fun e w' ⟨v,x,a,b,c,d⟩=>⟨v,r,a,rfl,oJ (fun _ h=>h) _ _ _ b c,d⟩⟩
theorem tC {f:FuncId}{args Dg:List PV}{r:PV}(h:bC P f Dg r)(e:BJ args Dg):bC P f args r:=
 ⟨h.1,fun F w dm hF ha=>h.2 F w dm hF (qf (fun _ h=>h) _ _ _ e ha)⟩
def agY (args:List AV)(hp:List (Nat×aA))(Dg:List AV)(l9:List (Nat×aA)):Prop:=
 match QT hp with
 | ρ0=>match mt hp l9 1000 ρ0 (kJ hp l9 ρ0 (pairs args Dg [])) with
   | some ρ=>match Fb ρ hp l9 with
     |true=>Ii ρ hp l9 (Ih ρ args Dg)
     |false=>False
   |none=>False
theorem cZ {f:FuncId}{args Dg:List AV}{hp l9:List (Nat×aA)}{r:AV}{hp':List (Nat×aA)}(h:dU P f Dg l9 r hp')(e:agY args hp Dg l9):dU P f args hp r hp':=by
 refine⟨h.1,fun c R w dm hh ha=>?_⟩;simp only[agY] at e;split at e
 ·rename_i ρ _;split at e
  ·rename_i hf;have H:=KP hf e;exact h.2 c (oh ρ R) w dm (hh.weaken H) (o8 H _ _ _ (vK e) ha)
  exact e.elim
 exact e.elim
theorem X3 {N:Nat→Prop}{w:World}{st:Nat}{rows:List (List PV)}{v:Value}(h:bE N w (.sl false st rows) v) :
  bE N w (.sl true st rows) v∨(rows=[]∧bE N w (.sc (.slice none 0 0)) v):=by
 simp only[bE] at h ⊢;obtain⟨p,len,cap,rfl,h2,h3,h4,h5⟩:=h;cases p with
 | none=>
   obtain⟨_,h6⟩:=h4 rfl;subst h6;have:len=0:=by omega
   subst this;exact .inr ⟨List.eq_nil_of_length_eq_zero h2.symm,rfl⟩
 |some a=>exact .inl ⟨some a,len,cap,rfl,h2,h3,fun h=>(by cases h),h5⟩
theorem Tk {N:Nat→Prop}{w:World}{st:Nat}{rows:List (List PV)}{b:List PV}:∀{a:List PV} {vs:List Value},dX N w (a ++ .sl false st rows::b) vs →
  dX N w (a ++ .sl true st rows::b) vs∨(rows=[]∧dX N w (a ++ .sc (.slice none 0 0)::b) vs)
 | [],vs,h=>by
   simp only[List.nil_append,dX] at h ⊢;obtain⟨v,r,e,h1,h2⟩:=h;rcases X3 h1 with h1|⟨h0,h1⟩
   ·exact .inl ⟨v,r,e,h1,h2⟩
   exact .inr ⟨h0,v,r,e,h1,h2⟩
 | x::a,vs,h=>by
   simp only[List.cons_append,dX] at h ⊢;obtain⟨v,r,e,h1,h2⟩:=h;rcases Tk h2 with h2|⟨h0,h2⟩
   ·exact .inl ⟨v,r,e,h1,h2⟩
   exact .inr ⟨h0,v,r,e,h1,h2⟩
theorem Tm {f:FuncId}(a:List PV){b:List PV}{st:Nat}{rows:List (List PV)}{Q:PV→Prop}(h1:PC P f (a ++ .sl true st rows::b) Q)
  (h2:rows=[]→PC P f (a ++ .sc (.slice none 0 0)::b) Q):PC P f (a ++ .sl false st rows::b) Q:=
 ⟨h1.1,fun F w dm hF ha=>by
  rcases Tk ha with h|⟨h0,h⟩
  ·exact h1.2 F w dm hF h
  exact (h2 h0).2 F w dm hF h⟩
theorem Nq {N:Nat→Prop}{w:World}{hp:List (Nat×aA)}{R:Real}{st:Nat}{rows:List (List PV)}{b:List AV}:∀{a:List AV} {vs:List Value},bT N w hp R (a ++ .pv (.sl false st rows)::b) vs →
  bT N w hp R (a ++ .pv (.sl true st rows)::b) vs∨(rows=[]∧bT N w hp R (a ++ .pv (.sc (.slice none 0 0))::b) vs)
 | [],vs,h=>by
   simp only[List.nil_append,bT] at h ⊢;obtain⟨v,r,e,h1,h2⟩:=h;simp only[ai] at h1 ⊢;rcases X3 h1 with h1|⟨h0,h1⟩
   ·exact .inl ⟨v,r,e,h1,h2⟩
   exact .inr ⟨h0,v,r,e,h1,h2⟩
 | x::a,vs,h=>by
   simp only[List.cons_append,bT] at h ⊢;obtain⟨v,r,e,h1,h2⟩:=h;rcases Nq h2 with h2|⟨h0,h2⟩
   ·exact .inl ⟨v,r,e,h1,h2⟩
   exact .inr ⟨h0,v,r,e,h1,h2⟩
theorem Nr {f:FuncId}(a:List AV){b:List AV}{hp:List (Nat×aA)}{st:Nat}{rows:List (List PV)}{Q:AV→List (Nat×aA)→Prop}(h1:GC P f (a ++ .pv (.sl true st rows)::b) hp Q)
  (h2:rows=[]→GC P f (a ++ .pv (.sc (.slice none 0 0))::b) hp Q):GC P f (a ++ .pv (.sl false st rows)::b) hp Q:=
 ⟨h1.1,fun c R w dm hh ha=>by
  rcases Nq ha with h|⟨h0,h⟩
  ·exact h1.2 c R w dm hh h
  exact (h2 h0).2 c R w dm hh h⟩
mutual
def xY:PV→Prop
 |.sl _ _ rows=>rows.length≤9223372036854775807
 |.agg cs=>DX cs
 |_=>True
def DX:List PV→Prop
 |[]=>True
 |p::r=>xY p∧DX r
end
mutual
theorem X4 {N:Nat→Prop}{w:World}:∀(p:PV) (v:Value),bE N w p v→xY p
 | .sl _ _ rows,v,h=>by
   simp only[bE] at h;obtain⟨p,len,cap,_,h2,h3,_⟩:=h;simp only[xY];omega
 | .agg cs,v,h=>by
   simp only[bE] at h;obtain⟨vs,_,h⟩:=h;simp only[xY];exact X5 cs _ h
 |.sc _,_,_=>by simp only[xY]
 |.dn _,_,_=>by simp only[xY]
 |.bJ _ _,_,_=>by simp only[xY]
 |.fn _ _ _,_,_=>by simp only[xY]
 |.junk,_,_=>by simp only[xY]
 |.P8 _ _,_,_=>by simp only[xY]
theorem X5 {N:Nat→Prop}{w:World}:∀(ps:List PV) (vs:List Value),iR N w ps vs→DX ps
 |[],_,_=>trivial
 | p::ps,vs,h=>by
   simp only[iR] at h;obtain⟨v,r,_,_,h1,h2⟩:=h;exact⟨X4 p v h1,X5 ps r h2⟩
end
theorem X6 {N:Nat→Prop}{w:World}:∀(ps:List PV) (vs:List Value),dX N w ps vs→DX ps
 |[],_,_=>trivial
 | p::ps,vs,h=>by
   simp only[dX] at h;obtain⟨v,r,_,h1,h2⟩:=h;exact⟨X4 p v h1,X6 ps r h2⟩
theorem aQ.enters {f:FuncId}{fn:Func}(h:aQ P f fn):Enters P f:=⟨fn,h.func,h.body,h.name⟩
theorem jK {f:FuncId}{fn:Func}(he:aQ P f fn){args:List PV}{Q:PV→Prop}(h:DX args→PC P f args Q):PC P f args Q:=
 ⟨he.enters,fun F w dm hF ha=>(h (X6 args _ ha)).2 F w dm hF ha⟩
theorem dx {α:Type}(f:α→List PV)(l:List α)(k:Nat)(h:k<l.length):(l.map f)[((k:Nat):Int).toNat]? = some (f l[k]):=by
 simp[h]
theorem Ns {α:Type}(f:α→List PV)(l:List α){i:Int}{k:Nat}(e:i=(k:Int))(h:k<l.length):(l.map f)[i.toNat]? = some (f l[k]):=by
 subst e;simp[h]
theorem dec_lt {k n:Nat}(h:k<n):n-(k+1)<n-k:=by omega
theorem vO {n:Int}(h0:0≤n)(h:n≤18446744073709551615):IntKind.u64.wrap n=n:=by
 simp[IntKind.wrap,IntKind.bits,IntKind.signed];omega
theorem aJ {n:Int}(h0 : -9223372036854775808≤n)(h:n≤9223372036854775807):IntKind.i64.wrap n=n:=by
 simp[IntKind.wrap,IntKind.bits,IntKind.signed];omega
end
theorem fk {b:Bool}{p q:Prop}(h:b=true→p)(k:b=false→q):(b=true→p)∧(b=false→q):=⟨h,k⟩
theorem lr (l:List (List PV)):jh l l:=bP l
theorem aG {P:Program}{T:Tab}{c:Code}{s:AS}{K:Exit→AS→Prop}{X:Prop}(h:VC P T c s K):VC P T c s K∨X:=Or.inl h
theorem rF {P:Program}{T:Tab}{i:Nat}{o:Array Oper}{d:Bool}{s:AS}{K:Exit→AS→Prop}{X:Prop}(h:VC P T (Code.region i o d) s K):VC P T (Code.region i o d) s K∨X:=Or.inl h
theorem Fs {P:Program}{T:Tab}{a:Operand}{b c:Code}{s:AS}{K:Exit→AS→Prop}{X:Prop}(h:VC P T (Code.cond a b c) s K):VC P T (Code.cond a b c) s K∨X:=Or.inl h
theorem Fu {P:Program}{T:Tab}{b c:Code}{s:AS}{K:Exit→AS→Prop}{X:Prop}(h:VC P T (Code.seq b c) s K):VC P T (Code.seq b c) s K∨X:=Or.inl h
theorem aH {a b c:Prop}(h:a):(a∨b)∨c:=.inl (.inl h)
theorem fB {a b c:Prop}(h:b):(a∨b)∨c:=.inl (.inr h)
theorem znb {m n:Nat}(h:Nat.ble m n=true):m≤n:=Nat.le_of_ble_eq_true h
theorem uF {α:Type}{a:α}{l:List α}:(a::l).length=l.length+1:=rfl
theorem xA {α:Type}:([]:List α).length=0:=rfl
theorem jS {α β:Type}{f:α→β}{l:List α}:(l.map f).length=l.length:=List.length_map ..
theorem Bu {α:Type}{a b:List α}:(a++b).length=a.length+b.length:=List.length_append
theorem gQ {p:Prop}[Decidable p]:(decide p=true)=p:=decide_eq_true_eq
theorem kQ {p:Prop}[Decidable p]:(decide p=false)=¬p:=propext decide_eq_false_iff_not
theorem ay {p:Prop}(h:p:=by (repeat' first|(with_reducible first|exact⟨⟩|exact rfl|exact lr _)|((conv=>whnf);with_reducible first|apply And.intro|exact⟨⟩)|exact rfl|exact fun h=>h|exact lr _)<;>fail):p:=h
theorem rG {p:Prop}(h:p:=by (repeat' first|(with_reducible first|exact⟨⟩|exact rfl|exact lr _)|((conv=>whnf);with_reducible first|apply And.intro|exact⟨⟩)|exact rfl|exact fun h=>h|assumption|exact lr _)<;>fail):p:=h
theorem aK {p:Prop}(h:False:=by first|exact absurd hc (by decide)|(simp only[*,reduceCtorEq] at hc<;>fail)):p:=h.elim
theorem fO {p:Prop}(h:False:=by first|exact absurd hc (by decide)|(simp only[*,reduceCtorEq,Bool.not_true,Bool.not_false] at hc<;>fail)):p:=h.elim
theorem zx5 {p:Prop}(h:p:=by first|rfl|exact znb rfl|omega|(simp only[uF,xA,jS,Bu];omega)):p:=h
theorem zx7 {p:Prop}(h:p:=by focus (simp only[List.length_map];omega)):p:=h
theorem aC {p q:Prop}(h:q)(k:p:=by first|rfl|exact znb rfl|omega|(simp only[uF,xA,jS,Bu];omega)):p∧q:=⟨k,h⟩
theorem sF {p q:Prop}(h:q)(k:p:=by (simp only[List.length_map];omega)):p∧q:=⟨k,h⟩
theorem dR {α β:Type}{f:α→β}{a:α}{l:List α}:(a::l).map f=f a::l.map f:=rfl
theorem fq {α β:Type}{f:α→β}:([]:List α).map f=[]:=rfl
theorem fI {α:Type}{a:α}{l m:List α}:(a::l)++m=a::(l++m):=rfl
theorem fJ {α:Type}{l:List α}:[]++l=l:=rfl
theorem pq {α β:Type}{f:α→β}{a b:List α}:(a++b).map f=a.map f++b.map f:=List.map_append
theorem gG {p:Prop}(h:p:=by simp only[List.length_set,BR,Array.size_setIfInBounds,size_swp];omega):p:=h
theorem bU {P:Program}{f:FuncId}{fn:Func}(h:P.funcs[f]? = some fn)(k:(fn.body.isSome&&(!(fn.name == "runtime.NumGoroutine")&&codeOk fn.ntmps (codeOf fn)))=true:=by kernel_rfl):aQ P f fn:=by
 simp only[Bool.and_eq_true,Bool.not_eq_true'] at k;exact⟨h,k.1,k.2.1,k.2.2⟩
end Go.AX
end
section
universe u
variable {α:Type}
namespace Go.AX
abbrev uu (n:Int):PV:=.sc (.int .u64 n)
abbrev ii (n:Int):PV:=.sc (.int .i64 n)
abbrev bl (b:Bool):PV:=.sc (.bool b)
abbrev Im:PV:=.sc (.slice none 0 0)
abbrev unit:PV:=.dn []
structure Pl where
 node:Int
 dB:Int
deriving DecidableEq,Inhabited
def Pl.c (x:Pl):List PV:=[ii x.node,uu x.dB]
def xD (l:List Pl):PV:=.sl false 2 (l.map Pl.c)
structure Fr where
 first:Int
 aN:List Pl
deriving DecidableEq,Inhabited
def Fr.c (f:Fr):List PV:=[uu f.first,xD f.aN]
def uR (l:List Fr):PV:=.sl false 2 (l.map Fr.c)
structure Lg where
 id:Int
 w:Int
 a:Int
 av:List Fr
 closed:Int
 last:Int
deriving DecidableEq,Inhabited
def Lg.c (l:Lg):List PV:=[uu l.id,ii l.w,ii l.a,uR l.av,ii l.closed,uu l.last]
def bys (l:List UInt8):PV:=.sl false 1 (l.map wX)
structure Ft where
 aY:Int
 n:Int
 set:List Pl
 at_:Int
 since:Int
 tag:Int
 done:Int
 body:List UInt8
deriving DecidableEq,Inhabited
def Ft.c (f:Ft):List PV:=[uu f.aY,uu f.n,xD f.set,ii f.at_,uu f.since,uu f.tag,ii f.done,bys f.body]
structure Rq where
 to:Pl
 kind:Int
 aY:Int
 n:Int
 aU:Int
 sure:Int
 copy:Int
 body:List UInt8
 keep:List Int
deriving DecidableEq,Inhabited
def bR (n:Int):List PV:=[uu n]
def l8 (l:List Int):PV:=.sl false 1 (l.map bR)
def Rq.c (r:Rq):List PV:=[ii r.to.node,uu r.to.dB,ii r.kind,uu r.aY,uu r.n,uu r.aU,uu r.sure,ii r.copy,bys r.body,l8 r.keep]
structure Rs where
 from_:Pl
 kind:Int
 code:Int
 aY:Int
 n:Int
 aU:Int
 sure:Int
 body:List UInt8
deriving DecidableEq,Inhabited
def Rs.c (r:Rs):List PV:=[ii r.from_.node,uu r.from_.dB,ii r.kind,ii r.code,uu r.aY,uu r.n,uu r.aU,uu r.sure,bys r.body]
def ql {α:Type}(p:α→Bool):List α→Int
 |[]=>-1
 | x::r=>match p x with
   |true=>0
   | false=>match ql p r with
     |.ofNat n=>n+1
     |.negSucc _=>-1
theorem iN {α:Type}(p:α→Bool):∀{l:List α},(∀x∈l,p x=false)→ql p l = -1
 |[],_=>rfl
 | x::r,h=>by
   have e:=iN p (l:=r) fun y hy=>h y (by simp[hy])
   simp only[ql,h x (by simp),e];rfl
theorem nS {α:Type}(p:α→Bool):∀{l:List α} {k:Nat} (hk:k<l.length),(∀j (hj:j<l.length),j<k→p l[j]=false)→p l[k]=true→ql p l=k
 |[],k,hk,_,_=>by simp at hk
 | x::r,0,_,_,h=>by
   simp only[List.getElem_cons_zero] at h;simp[ql,h]
 | x::r,k+1,hk,h,h'=>by
   have h0:=h 0 (by simp) (by omega);simp only[List.getElem_cons_zero] at h0;simp only[List.getElem_cons_succ] at h';have:=nS p (l:=r) (k:=k) (by simpa using hk) (fun j hj hlt=>by
    have:=h (j+1) (by simpa using hj) (by omega);simpa using this) h'
   simp only[ql,h0,this];show ((k:Int)+1=_)
   omega
theorem nM {α:Type}(p:α→Bool):∀(l:List α),(ql p l = -1∧∀x∈l,p x=false)∨∃k,∃hk:k<l.length,ql p l=(k:Nat)∧p l[k]=true∧∀j (hj:j<l.length),j<k→p l[j]=false
 |[]=>.inl ⟨rfl,by simp⟩
 | x::r=>by
   cases hx:p x with
   | true=>
     refine .inr ⟨0,by simp,?_,by simpa using hx,by simp⟩;simp[ql,hx]
   | false=>
     rcases nM p r with ⟨h1,h2⟩|⟨k,hk,h1,h2,h3⟩
     ·refine .inl ⟨?_,?_⟩
      ·simp only[ql,hx,h1];rfl
      intro y hy;rcases List.mem_cons.1 hy with rfl|hy
      ·exact hx
      exact h2 y hy
     refine .inr ⟨k+1,by simpa using hk,?_,by simpa using h2,?_⟩
     ·simp only[ql,hx,h1];show ((k:Int)+1=_)
      omega
     intro j hj hlt;cases j with
     |zero=>simpa using hx
     |succ j=>simpa using h3 j (by simpa using hj) (by omega)
theorem tJ {α:Type}(p:α→Bool)(l:List α):decide (ql p l≥0)=l.any p:=by
 rw[Bool.eq_iff_iff];simp only[decide_eq_true_eq,List.any_eq_true];rcases nM p l with ⟨h1,h2⟩|⟨k,hk,h1,h2,h3⟩
 ·rw[h1];constructor
  ·intro h;omega
  rintro⟨x,hx,hp⟩;rw[h2 x hx] at hp;cases hp
 rw[h1];exact⟨fun _=>⟨l[k],List.getElem_mem hk,h2⟩,fun _=>by omega⟩
theorem Tv {α:Type}(p:α→Bool){l:List α}(h:0≤ql p l):∃hk:(ql p l).toNat<l.length,p l[(ql p l).toNat]=true:=by
 rcases nM p l with ⟨h1,_⟩|⟨k,hk,h1,h2,h3⟩
 ·omega
 have e:(ql p l).toNat=k:=by omega
 exact⟨by omega,by simpa[e] using h2⟩
theorem Pl.beq (x y:Pl):((x.node==y.node)&&(x.dB==y.dB))=(x==y):=by
 rw[Bool.eq_iff_iff];simp only[Bool.and_eq_true,beq_iff_eq];cases x;cases y;simp
theorem Pl.ag6 (x:Pl)(a b:Int):((a==x.node)&&(b==x.dB))=(x==⟨a,b⟩):=by
 rw[Bool.eq_iff_iff];simp only[Bool.and_eq_true,beq_iff_eq];cases x;simp;omega
theorem gH {k:Nat}{l:List α}{q:(j:Nat)→j<l.length→Prop}(h:∀j (hj:j<l.length),j<k→q j hj)(hk:∀(hj:k<l.length),q k hj):∀j (hj:j<l.length),j<k+1→q j hj:=by
 intro j hj hjk;rcases Nat.lt_succ_iff_lt_or_eq.1 hjk with hj'|rfl
 ·exact h j hj hj'
 exact hk hj
theorem tK {l:List α}{q:α→Prop}(h:∀j (hj:j<l.length),j<l.length→q l[j]):∀x∈l,q x:=by
 intro x hx;obtain⟨j,hj,rfl⟩:=List.getElem_of_mem hx;exact h j hj hj
end Go.AX
end
section
namespace Go.AX
theorem Yj {c:Ctx}{R:Real}{hp hp':List (Nat×aA)}{w:World}(hh:∀b,lk hp' b=lk hp b)(g:Hq c R hp w) :
  Hq c R hp' w∧∀v x,ai (aT c R hp) w hp R v x→ai (aT c R hp') w hp' R v x:=by
 have ho:∀r,owned R hp' r↔owned R hp r:=fun r=>by simp only[owned,hh]
 have hN:∀r,r<w.heap.size→aT c R hp' r→aT c R hp r:=fun r _ h=>h.imp id (ho r).1
 have hw:∀r,r<w.heap.size→¬aT c R hp r→w.heap[r]? = w.heap[r]? :=fun _ _ _=>rfl
 have h1:∀b off v,aX R b off v (lk hp b)→aX R b off v (lk hp' b):=fun b off v h=>by rw[hh];exact h
 have h2:∀b ver v,aS R b ver v (lk hp b)→aS R b ver v (lk hp' b):=fun b ver v h=>by rw[hh];exact h
 have h3:∀b ver i off v,aZ R b ver i off v (lk hp b)→aZ R b ver i off v (lk hp' b):=fun b ver i off v h=>by rw[hh];exact h
 have hr:=bZ hN hw h1 h2 h3;obtain⟨a,ha1,ha2⟩:∃a:Act,a.tmps.size=c.n∧a.defers=[]:=⟨{ tmps:=Array.replicate c.n undef,defers:=[] },by simp,rfl⟩;have gm:=g.Xx (tm:=[]) (nx:=0) (a:=a) (fun t v h=>by simp[lk] at h) ha1 (by rw[ha2];exact⟨[],Marks.nil⟩);exact⟨(gm.congr (tm':=[]) (hp':=hp') (fun _=>rfl) hh).hap,hr⟩
section
variable {P:Program}{T:Tab}
end
def abO (H:List (Nat×aA))(b ver:Nat):AV:=
 match lk H b with
 | some (.kE v st rows)=>match Nat.beq ver v with
   |true=>.pv (.sl false st rows)
   |false=>.aB b ver
 |_=>.aB b ver
def thC (H:List (Nat×aA)):List AV→List AV
 |[]=>[]
 |.aB b ver::r=>abO H b ver::thC H r
 |x::r=>x::thC H r
def thA (H:List (Nat×aA)):AV→AV
 |.agg cs=>.agg (thC H cs)
 |.aB b ver=>abO H b ver
 |x=>x
section
variable {P:Program}{c:Ctx}{R:Real}{s:AS}{a:Act}{w:World}
theorem F8 (g:bB c R s a w){b ver:Nat}{u:Value}(h:ai (aT c R s.hp) w s.hp R (.aB b ver) u):ai (aT c R s.hp) w s.hp R (abO s.hp b ver) u:=by
 unfold abO;split
 ·rename_i v st rows hb;split
  ·rename_i hv;simp only[ai] at h ⊢;exact pu (N':=aT c R s.hp) g (b:=b) (ver:=ver) (by rw[hb];simp[uM,hv]) (fun r h=>h) (fun r ho=>by rw[hb] at ho;exact ho.elim) h
  exact h
 exact h
theorem rV (g:bB c R s a w):∀{cs:List AV} {us:List Value},FC (ai (aT c R s.hp) w s.hp R) cs us→FC (ai (aT c R s.hp) w s.hp R) (thC s.hp cs) us
 |[],us,h=>h
 | x::r,us,h=>by
   obtain⟨v,t,e,h1,h2,h3⟩:=h;cases x with
   |aB b ver=>exact⟨v,t,e,h1,F8 g h2,rV g h3⟩
   |_=>exact⟨v,t,e,h1,h2,rV g h3⟩
theorem Vw (g:bB c R s a w){x:AV}{u:Value}(h:ai (aT c R s.hp) w s.hp R x u):ai (aT c R s.hp) w s.hp R (thA s.hp x) u:=by
 cases x with
 | agg cs=>
   simp only[thA,ai] at h ⊢;obtain⟨vs,e,h⟩:=h;rw[bF] at h;exact⟨vs,e,by rw[bF];exact rV g h⟩
 |aB b ver=>exact F8 g h
 |_=>exact h
end
theorem TS (H:List (Nat×aA)):∀(cs:List AV),(thC H cs).length=cs.length
 |[]=>rfl
 |x::r=>by cases x<;>simp[thC,TS H r]
def thB (H:List (Nat×aA))(box:aA):aA:=
 match box with
 |.var cells=>.var (thC H cells)
 |.sD cells=>.sD cells
 |.arr e v st rows=>.arr e v st rows
 |.kE v st rows=>.kE v st rows
 |.tr y v rest st=>.tr y v rest st
 |.dN e v st pre row post=>.dN e v st pre (thC H row) post
 |.mp kk kv es=>.mp kk kv es
 |.fP e v st j ed sd pre row post=>.fP e v st j ed sd pre row post
def Ry (H:List (Nat×aA)):List (Nat×aA)→List (Nat×aA)
 |[]=>[]
 |(k,box)::r=>(k,thB H box)::Ry H r
theorem YM (H:List (Nat×aA)):∀(hp:List (Nat×aA)) (x:Nat),lk (Ry H hp) x=(lk hp x).map (thB H)
 |[],x=>rfl
 | (y,box)::r,x=>by
   simp only[Ry,ax];split
   ·rfl
   exact YM H r x
section
variable {P:Program}{c:Ctx}{R:Real}{s:AS}{a:Act}{w:World}
theorem JZ (g:bB c R s a w):bB c R ⟨s.tm,s.nx,Ry s.hp s.hp⟩ a w∧∀v x,ai (aT c R s.hp) w s.hp R v x→ai (aT c R (Ry s.hp s.hp)) w (Ry s.hp s.hp) R v x:=by
 have hk:∀b,lk (Ry s.hp s.hp) b=(lk s.hp b).map (thB s.hp):=YM s.hp s.hp;have Ml:∀b r,aI R b r (lk (Ry s.hp s.hp) b)↔aI R b r (lk s.hp b):=fun b r=>by
  rw[hk];cases lk s.hp b with
  |none=>exact Iff.rfl
  |some box=>cases box<;>exact Iff.rfl
 have ho:∀r,owned R (Ry s.hp s.hp) r↔owned R s.hp r:=fun r=>by simp only[owned,Ml]
 have hN:∀r,r<w.heap.size→aT c R (Ry s.hp s.hp) r→aT c R s.hp r:=fun r _ h=>h.imp id (ho r).1
 have hw:∀r,r<w.heap.size→¬aT c R s.hp r→w.heap[r]? = w.heap[r]? :=fun _ _ _=>rfl
 have h1:∀b off v,aX R b off v (lk s.hp b)→aX R b off v (lk (Ry s.hp s.hp) b):=fun b off v h=>by
  rw[hk];cases hb:lk s.hp b with
  |none=>rw[hb] at h;exact h.elim
  |some box=>rw[hb] at h;cases box<;>exact h
 have h2:∀b ver v,aS R b ver v (lk s.hp b)→aS R b ver v (lk (Ry s.hp s.hp) b):=fun b ver v h=>by
  rw[hk];cases hb:lk s.hp b with
  |none=>rw[hb] at h;exact h.elim
  |some box=>rw[hb] at h;cases box<;>exact h
 have h3:∀b ver i off v,aZ R b ver i off v (lk s.hp b)→aZ R b ver i off v (lk (Ry s.hp s.hp) b):=fun b ver i off v h=>by
  rw[hk];cases hb:lk s.hp b with
  |none=>rw[hb] at h;exact h.elim
  |some box=>rw[hb] at h;cases box<;>exact h
 have hr:=bZ hN hw h1 h2 h3;refine⟨⟨fun t v hv=>?_,g.size,g.lo,g.marks.imp fun Ds hm=>hm.kept (fun _ _ _=>rfl) (fun r _ h=>(ho r).1 h),g.fixed.kept (fun _ _ _=>rfl) (fun r _ h=>(ho r).1 h),fun b box hb=>?_,fun b b' r hb hb'=>?_,fun r hr=>g.free r ((ho r).1 hr),g.jE,fun r hr=>g.iL r ((ho r).1 hr),fun v x h=>hr v x (g.kept v x h)⟩,hr⟩
 ·obtain⟨x,hx,h⟩:=g.slots t v hv;exact⟨x,hx,hr v x h⟩
 ·rw[hk] at hb;cases hl:lk s.hp b with
  |none=>rw[hl] at hb;cases hb
  | some bx=>
    rw[hl] at hb;simp only[Option.map_some,Option.some.injEq] at hb;subst hb;have hx:=g.boxes b bx hl;cases bx with
    | var cells=>
      simp only[eB] at hx;obtain⟨cur,e,ha,hc⟩:=hx;rw[bF] at hc;refine⟨cur,e,ha,bI hN hw h1 h2 h3 _ _ ?_⟩;rw[bF];exact rV g hc
    | sD cells=>
      simp only[thB,eB] at hx ⊢;obtain⟨cur,e,fr,ha,hn,hb⟩:=hx;exact⟨cur,e,fr,ha,fun h=>hn (h.imp id (ho _).1),bX hN hw cells _ hb⟩
    | arr e ver st rows=>
      simp only[thB,eB] at hx ⊢;obtain⟨xs,ha,hb⟩:=hx;exact⟨xs,ha,aV hN hw st rows xs hb⟩
    | kE ver st rows=>
      simp only[thB,eB] at hx ⊢;exact dw hN hw _ _ hx
    | tr y ver rest st=>
      obtain⟨k0,kh,k1,k2,k3,k4⟩:=hx;exact⟨k0,kh,k1,k2,k3,fun r hr=>k4 r (hr.imp id (ho r).1)⟩
    |mp kk kv es=>exact hx
    |fP e v st j ed sd pre row post=>exact jI hN hw rfl rfl rfl (fun _ _=>rfl) rfl (fun vs h=>bI hN hw h1 h2 h3 _ _ h) hx
    | dN e v st pre row post=>
      obtain⟨xs,a1,a2,a3,a4,a5⟩:=hx;rw[bF] at a4;refine⟨xs,a1,aV hN hw _ _ _ a2,by rw[TS];exact a3,bI hN hw h1 h2 h3 _ _ ?_,aV hN hw _ _ _ a5⟩;rw[bF];exact rV g a4
 exact g.inj b b' r ((Ml b r).1 hb) ((Ml b' r).1 hb')
theorem iw {f:FuncId}{args:List AV}{hp:List (Nat×aA)}{r:AV}{hp':List (Nat×aA)}(h:dU P f args hp r hp')(ids:List Nat){r2:AV}{hp2:List (Nat×aA)}
  (e:match Km hp' ids with|some fs=>Qv (Ry (fs++hp') (fs++hp')) r (fun x h=>x=r2∧h=hp2)|none=>False):dU P f args hp r2 hp2:=by
 refine⟨h.1,fun c R w dm hh ha=>(h.2 c R w dm hh ha).mono ?_⟩;rintro ex w' ⟨v,r0,l9,R',rfl,⟨e1,e2⟩,PW,hr⟩
 rw[e1,e2] at hr;rw[e2] at PW;split at e
 ·rename_i fs hfs;have g:bB c R' ⟨[],0,hp'⟩ { tmps:=Array.replicate c.n undef,defers:=[] } w':=
   PW.Xx (fun t v h=>by simp[lk] at h) (by simp) ⟨[],⟨fun d h=>by simp at h,rfl,by simp,fun d h=>by simp at h,fun d h=>by simp at h⟩⟩
  obtain⟨g1,m1,_⟩:=jT g (fun _ _ h=>h) _ _ hfs;obtain⟨g2,m2⟩:=JZ g1;obtain⟨r',Ik,R'',hQ,h1,h2⟩:=mO e g2.hap (m2 _ _ (m1 _ _ hr));exact⟨v,r',Ik,R'',rfl,hQ,h1,h2⟩
 exact e.elim
end
open Go.Sort
def uA (A:Array Int):List (List PV):=A.toList.map bR
theorem BR (A:Array Int):(uA A).length=A.size:=by simp[uA]
theorem Ym (A:Array Int)(i:Nat)(h:i<A.size):(uA A)[i]? = some (bR A[i]!):=by
 simp[uA,getElem!_pos A i h,h]
theorem Q8 (A:Array Int){n:Int}(i:Nat)(e:n=(i:Int))(h:i<A.size):(uA A)[n.toNat]? = some (bR A[i]!):=by
 subst e;exact Ym A i h
theorem aeO (A:Array Int){n:Int}(i:Nat)(v:Int)(e:n=(i:Int)):(uA A).set n.toNat (bR v)=uA (A.setIfInBounds i v):=by
 subst e;rw[Int.toNat_natCast];simp[uA,List.map_set]
theorem aeP (A:Array Int)(i j:Nat):((uA A).set i (bR A[j]!)).set j (bR A[i]!)=uA (swp A i j):=by
 simp[uA,List.map_set,swp]
theorem dz (A:Array Int)(k:Nat)(h:k<A.size):(uA A)[((k:Nat):Int).toNat]? = some (bR A[k]!):=Q8 A k rfl h
theorem dA (A:Array Int)(k:Nat)(v:Int):(uA A).set ((k:Nat):Int).toNat [uu v]=uA (A.setIfInBounds k v):=aeO A k v rfl
theorem Aq (x y:Int):ltInt x y=decide (x<y):=rfl
theorem nA (p:Int→Bool)(d:Array Int)(j:Nat):∀(n i:Nat),j+2-i≤n→i≤j+2→scanUp p d j i≤j+2
 | 0,i,h,h2=>by
   rw[scanUp,if_neg (by simp;omega)];exact h2
 | n+1,i,h,h2=>by
   rw[scanUp];split
   ·rename_i hc;simp only[Bool.and_eq_true,decide_eq_true_eq] at hc;exact nA p d j n (i+1) (by omega) (by omega)
   exact h2
theorem kR (p:Int→Bool)(d:Array Int)(i a:Nat)(h:a<i):∀j,a≤j→a≤scanDown p d i j
 |0,hj=>hj
 | j+1,hj=>by
   rw[scanDown];split
   ·rename_i hc;simp only[Bool.and_eq_true,decide_eq_true_eq] at hc;exact kR p d i a h j (by omega)
   exact hj
theorem qQ {p:Int→Bool}{d:Array Int}{j i:Nat}(h:i≤j)(h2:p d[i]! = true):scanUp p d j i=scanUp p d j (i+1):=by
 rw[scanUp,if_pos (by simp[h,h2])]
theorem jq {p:Int→Bool}{d:Array Int}{j i:Nat}(h:¬i≤j∨p d[i]! = false):scanUp p d j i=i:=by
 rw[scanUp,if_neg (by rcases h with h|h<;>simp[h])]
theorem nV {p:Int→Bool}{d:Array Int}{j i:Nat}(h:i≤j+1)(h2:p d[j+1]! = true):scanDown p d i (j+1)=scanDown p d i j:=by
 rw[scanDown,if_pos (by simp[h,h2])]
theorem iq {p:Int→Bool}{d:Array Int}{j i:Nat}(h:¬i≤j∨p d[j]! = false):scanDown p d i j=j:=by
 cases j with
 |zero=>rfl
 |succ j=>rw[scanDown,if_neg (by rcases h with h|h<;>simp[h])]
theorem rQ (lt:Int→Int→Bool)(d:Array Int)(b:Nat):∀(n i:Nat),b-i≤n→i≤b→i≤scanSorted lt d b i∧scanSorted lt d b i≤b
 | 0,i,h,h2=>by
   rw[scanSorted,if_neg (by simp;omega)];omega
 | n+1,i,h,h2=>by
   rw[scanSorted];split
   ·rename_i hc;simp only[Bool.and_eq_true,decide_eq_true_eq] at hc;have:=rQ lt d b n (i+1) (by omega) (by omega);omega
   omega
theorem qp (lt:Int→Int→Bool):∀(j:Nat) (d:Array Int),(shiftDown lt j d).size=d.size
 |0,d=>rfl
 | j+1,d=>by
   rw[shiftDown];split
   ·rfl
   rw[qp lt j,size_swp]
theorem uH (lt:Int→Int→Bool)(b:Nat):∀(n j:Nat) (d:Array Int),b-j≤n→(shiftUp lt b j d).size=d.size
 |0,j,d,h=>by rw[shiftUp,if_neg (by omega)]
 | n+1,j,d,h=>by
   rw[shiftUp];split
   ·split
    ·rfl
    rw[uH lt b n (j+1) _ (by omega),size_swp]
   rfl
theorem Dk (lt:Int→Int→Bool)(hi F:Nat):∀(n root:Nat) (d:Array Int),hi-root≤n→(siftDown lt hi F root d).size=d.size:=by
 intro n;induction n with
 |zero=>intro root d h;rw[siftDown,dif_pos (by omega)]
 | succ n ih=>
   intro root d h;rw[siftDown];split
   ·rfl
   split
   ·split
    ·rfl
    split
    ·rw[ih _ _ (by omega),size_swp]
    rfl
   split
   ·rfl
   rw[ih _ _ (by omega),size_swp]
def N0:Nat→Prop:=fun _=>False
def Rd (P:Program)(w:World)(t:TypeId)(n:Nat)(Q:List PV→Prop):Prop:=
 P.cellsOf t=n∧∀(H:Type) (enc:TypeId×Value→H) (base:Nat) (spare:Nat→Bool) (held:Bool) (fuel:Nat) (cs:List Value) (x:DataW H×List MemPlace),
  DataW.trod enc P w base spare held fuel t cs=some x→∃row,row.length=n∧iR N0 w row cs∧Q row
section
variable {P:Program}{w:World}{t e:TypeId}{n:Nat}{Q Q':List PV→Prop}
theorem Rd.imp (h:Rd P w t n Q)(hq:∀row,row.length=n→Q row→Q' row):Rd P w t n Q':=
 ⟨h.1,fun H enc base spare held fuel cs x hx=>by
  obtain⟨row,h1,h2,h3⟩:=h.2 H enc base spare held fuel cs x hx;exact⟨row,h1,h2,hq row h1 h3⟩⟩
theorem X7 {k:IntKind}(hu:P.underlying t=some (.int k))(hc:P.cellsOf t=1):Rd P w t 1 (fun row=>∃i,row=[.sc (.int k i)]∧(Lit.int k i).wf=true):=
 ⟨hc,fun H enc base spare held fuel cs x hx=>by
  obtain⟨i,rfl,_,hw⟩:=DataW.trod_int hu hx;exact⟨[.sc (.int k i)],rfl,⟨_,_,rfl,rfl,by simp only[bE],by simp only[iR]⟩,i,rfl,hw⟩⟩
theorem KR {N:Nat→Prop}{st:Nat}:∀{rows:List (List PV)} {vs:List Value},(∀i (h:i<rows.length),rows[i].length=st∧gq N w rows[i] (vs.drop (i*st)))→bK N w st rows vs
 |[],vs,_=>by simp only[bK]
 | r::rows,vs,h=>by
   have h0:=h 0 (by simp);simp only[List.getElem_cons_zero,Nat.zero_mul,List.drop_zero] at h0;refine⟨h0.1,h0.2,KR fun i hi=>?_⟩;have:=h (i+1) (by simpa using hi);simp only[List.getElem_cons_succ] at this;rw[List.drop_drop,show st+i*st=(i+1)*st from by rw[Nat.add_mul];omega];exact this
theorem Af (hu:P.underlying t=some (.slice e))(hc:P.cellsOf t=1)(hn:0<n)(he:Rd P w e n Q):Rd P w t 1 (fun row=>∃rows,row=[.sl false n rows]∧∀r∈rows,r.length=n∧Q r):=
 ⟨hc,fun H enc base spare held fuel cs x hx=>by
  rcases Deep.open_slice hu hx with ⟨rfl,_⟩|⟨a,len,cap,m,fu,D,Pl,rfl,hb,hl,hm,hmm,_,hel⟩
  ·refine⟨[.sl false n []],rfl,⟨_,_,rfl,rfl,?_,by simp only[iR]⟩,[],rfl,by simp⟩;simp only[bE];exact⟨none,0,0,rfl,rfl,⟨Nat.le_refl _,by omega⟩,fun _=>(by simp),fun a ha=>(by cases ha)⟩
  have hlm:len≤m:=by rw[hmm];split<;>omega
  have ex:∀i,i<len→∃row:List PV,row.length=n∧Q row∧∃El,El.length=n∧(∀j,j<n→w.cell? ((a.add (i*n)).add j)=El[j]?)∧iR N0 w row El:=by
   intro i hi;obtain⟨El,h1,h2⟩:=hel i (by omega);rw[he.1] at h1;obtain⟨row,q1,q2,q3⟩:=he.2 H enc base spare held _ _ _ h2;obtain⟨_,h3,h4⟩:=World.cells?_some h1;exact⟨row,q1,q3,El,h3,h4,q2⟩
  have ⟨f,hf⟩:∃f:Nat→List PV,∀i,i<len→(f i).length=n∧Q (f i)∧∃El,El.length=n∧(∀j,j<n→w.cell? ((a.add (i*n)).add j)=El[j]?)∧iR N0 w (f i) El:=by
   refine⟨fun i=>if h:i<len then (ex i h).choose else [],fun i hi=>?_⟩;simp only[hi,dif_pos];exact (ex i hi).choose_spec
  refine⟨[.sl false n ((List.range len).map f)],rfl,⟨_,_,rfl,rfl,?_,by simp only[iR]⟩,_,rfl,?_⟩
  ·simp only[bE];refine⟨some a,len,cap,rfl,by simp,⟨hl,by unfold maxLen at hm;omega⟩,fun h=>(by cases h),fun a' ha=>?_⟩;simp only[Option.some.injEq] at ha;subst ha;by_cases h0:len=0
   ·subst h0;exact .inl rfl
   right
   have aeB:=(hf 0 (by omega)).2.2;obtain⟨El,h1,h2,_⟩:=aeB;have h2:=h2 0 hn;simp only[Nat.zero_mul] at h2;have hcell:(w.cell? ((a.add 0).add 0)).isSome=true:=by rw[h2];simp;omega
   have e0:(a.add 0).add 0=a:=by simp[Addr.add]
   rw[e0] at hcell;obtain⟨blk,off,spot⟩:=a;unfold World.cell? at hcell;simp only at hcell;split at hcell
   ·rename_i cur ty fr hg;have hs:spot=none:=by
     cases spot with
     |none=>rfl
     |some _=>simp at hcell
    subst hs;refine⟨rfl,id,cur,ty,fr,hg,KR fun i hi=>?_⟩;simp only[List.length_map,List.length_range] at hi;simp only[List.getElem_map,List.getElem_range];obtain⟨q1,q2,El,q3,q4,q5⟩:=hf i hi;refine⟨q1,?_⟩;rw[gM] at q5;rw[dh];have e1:El=((cur.toList.drop off).drop (i*n)).take n:=by
     apply List.ext_getElem?;intro j;by_cases hj:j<n
     ·rw[←q4 j hj,addr_add,addr_add];simp only[World.cell?,hg,List.getElem?_take,hj,if_true,List.getElem?_drop,Option.isSome_none,Bool.false_eq_true,if_false];rw[←Nat.add_assoc,Array.getElem?_toList]
     rw[List.getElem?_eq_none (by omega),List.getElem?_eq_none (by simp;omega)]
    have:=q5.fp.app (((cur.toList.drop off).drop (i*n)).drop n);rw[e1,List.take_append_drop] at this;exact this
   simp at hcell
  intro r hr;obtain⟨i,hi,rfl⟩:=List.mem_map.1 hr;simp only[List.mem_range] at hi;exact⟨(hf i hi).1,(hf i hi).2.1⟩⟩
def QF:List (Nat×(List PV→Prop))→List PV→Prop
 |[],row=>row=[]
 |(n,Q)::r,row=>∃a b,row=a++b∧a.length=n∧Q a∧QF r b
def szF:List (Nat×(List PV→Prop))→Nat
 |[]=>0
 |(n,_)::r=>n+szF r
def RdF (P:Program)(w:World):Nat→List Field→List (Nat×(List PV→Prop))→Prop
 |_,[],[]=>True
 |off,f::fs,(n,Q)::r=>f.offset=off∧Rd P w f.type n Q∧RdF P w (off+n) fs r
 |_,_,_=>False
theorem X8 {α:Type}{R:α→Value→Prop}:∀{l l':List α} {m m':List Value},FC R l m→FC R l' m'→FC R (l++l') (m++m')
 |[],l',m,m',h,h'=>by simp only[FC] at h;subst h;exact h'
 |p::ps,l',m,m',h,h'=>by obtain⟨v,r,rfl,h1,h2,h3⟩:=h;exact⟨v,r++m',rfl,h1,h2,X8 h3 h'⟩
theorem Jw {H:Type}{enc:TypeId×Value→H}{base:Nat}{spare:Nat→Bool}{held:Bool}{fu:Nat}{cs:List Value}:∀{fs:List Field} {sp:List (Nat×(List PV→Prop))} {off:Nat},
  RdF P w off fs sp→(∀f∈fs,∃y,DataW.trod enc P w base spare held fu f.type ((cs.drop f.offset).take (P.cellsOf f.type))=some y)→cs.length=off+szF sp →
  ∃row,row.length=szF sp∧iR N0 w row (cs.drop off)∧QF sp row
 | [],[],off,_,_,hl=>by
   refine⟨[],rfl,?_,rfl⟩;simp only[iR];exact List.drop_eq_nil_of_le (by simp only[szF] at hl;omega)
 |[],_::_,_,h,_,_=>h.elim
 |_::_,[],_,h,_,_=>h.elim
 | f::fs,(n,Q)::r,off,h,hx,hl=>by
   obtain⟨rfl,h1,h2⟩:=h;obtain⟨y,hy⟩:=hx f (by simp);obtain⟨a,a1,a2,a3⟩:=h1.2 H enc base spare held _ _ _ hy;rw[h1.1] at a2;obtain⟨b,b1,b2,b3⟩:=Jw h2 (fun g hg=>hx g (by simp[hg])) (by simp only[szF] at hl;omega);refine⟨a++b,by simp only[List.length_append,szF];omega,?_,a,b,rfl,a1,a3,b3⟩;rw[gM] at a2 b2 ⊢;have:=X8 a2 b2;rw[show cs.drop (f.offset+n)=(cs.drop f.offset).drop n from by rw[List.drop_drop],List.take_append_drop] at this;exact this
theorem xB {fs:Array Field}{sp:List (Nat×(List PV→Prop))}(hu:P.underlying t=some (.struct fs))(hc:P.cellsOf t=szF sp)(hf:RdF P w 0 fs.toList sp):Rd P w t (szF sp) (QF sp):=
 ⟨hc,fun H enc base spare held fuel cs x hx=>by
  obtain⟨xs,fu,rfl,_,hl,hlen,hel⟩:=DataW.trod_struct hu hx;have:=Jw (H:=H) (enc:=enc) (base:=base) (spare:=spare) (held:=held) (fu:=fu) (cs:=cs) hf (fun f hf=>by
   obtain⟨i,hi,rfl⟩:=List.getElem_of_mem hf;simp only[Array.length_toList] at hi;refine⟨xs[i]'(by omega),?_⟩;rw[hel i _ (by simp[hi])];simp) (by omega)
  simpa using this⟩
theorem fw {H:Reach}{base:Nat}{v:Value}(hu:(match P.underlying t with|some (.struct _)=>false|some (.array _ _)=>false|some .bool=>true|some (.int _)=>true|some .string=>true|some (.slice _)=>true|_=>false)=true)
  (h:Value.okWide P w H base t v):∀cs,v ≠ .agg cs:=by
 rintro cs rfl
 unfold Value.okWide at h;split at h
 ·rename_i e;rw[e] at hu;simp at hu
 ·rename_i e;rw[e] at hu;simp at hu
 unfold Cell.okWide at h;split at h<;>simp_all [Cell.ok]
theorem nu {H:Type}{enc:TypeId×Value→H}{base:Nat}{spare:Nat→Bool}{held:Bool}{v:Value}{d:DataW H}{ps:List MemPlace}(hr:Rd P w t 1 Q)(hv:∀cs,v ≠ .agg cs)
  (h:DataW.Trod enc P w base spare held t v d ps):∃p,Q [p]∧bE N0 w p v:=by
 obtain⟨fuel,h⟩:=h;have e:v.cells = #[v]:=by cases v<;>first|rfl|exact absurd rfl (hv _)
 rw[e] at h;obtain⟨row,h1,h2,h3⟩:=hr.2 _ _ _ _ _ _ _ _ h;match row,h1 with
 | [p],_=>
   obtain⟨x,r,hx,_,hp,_⟩:=h2;simp only[List.cons.injEq] at hx;obtain⟨rfl,_⟩:=hx;exact⟨p,h3,hp⟩
end
end Go.AX
end
