/-
  Conditions: none. A framework for walks: abstract values, memory, and conditions that suffice; the chapters in plain terms.
-/
import Derived.Test.YtfoiekbkkbnpkaaGreatAd
import Derived.Deep.LoopGhost
import Derived.Deep.Slices
import Derived.Carry
set_option linter.unusedSectionVars false
set_option linter.unusedVariables false
set_option linter.unusedSimpArgs false
section
namespace Go.AX
theorem Q0 {P:Program}{c:Ctx}{R:Real}{s:AS}{a:Act}{w:World}{ro:Option Nat}(g:aS c R s a w)(hro:Kr c ro)
  {go:Operand} {ps:Array Tmp} {J2 Hy:Code} {f:FuncId} {aT:List PV} {xs:List (List PV)}  (hs:Z8 P f aT xs)
  (hps:∀t∈ps.toList,t<c.n) {ι:Type} {st:Nat→ι→AS} (hgo:∀i,iE (st 0 i).tm go=some (.pv (.fn (.func f) [] aT))) (h0:∃i,rG s (st 0 i)) (hlow:∀k i,Eb (st k i).tm=true) {K:Exit→AS→Prop} {A:Nat→ι→List PV→AS→Prop}
  (YO:∀(l:Nat) (c':Ctx) (k:Nat) (i:ι) (x:List PV) (tm:List (Nat×AV)) (R:Real) (a:Act) (w:World),c'.n=c.n→Kr c' (some l)→xs[k]? = some x→QY ps.toList x (st k i).tm=some tm →
   aS c' R ⟨tm,(st k i).nx,(st k i).hp⟩ a w→J2.wpIn (W1 (some l)) 0 P (Exit.then (fun a1 w1=>∃R1 s1,A k i x s1∧aS c' R1 s1 a1 w1) (fun _ _ _=>False)) a w)
  (YP:∀(l:Nat) (c':Ctx) (k:Nat) (i:ι) (x:List PV) (s1:AS) (R:Real) (a:Act) (w:World),c'.n=c.n→Kr c' (some l)→xs[k]? = some x→A k i x s1 →
   aS c' R s1 a w→Hy.wpIn (W1 (some l)) 0 P (fun e a' w'=>∃R' s',Z9 (st k i).tm (fun s''=>∃j,rG s'' (st (k+1) j)) K e s'∧aS c' R' s' a' w') a w)
  (YQ:∀k i x,xs[k]? = some x→∃tm,QY ps.toList x (st k i).tm=some tm) (hend:∀i,K .normal (st xs.length i)) :
  (Code.rangeFunc go ps J2 Hy).wpIn (W1 ro) 0 P (fun e a' w'=>∃R' s',K e s'∧aS c R' s' a' w') a w:=by
 obtain⟨i0,h0⟩:=h0;obtain⟨R0,g0⟩:=h0 c R a w g;have Oh:=tF g0 (hgo i0);obtain⟨Ds,YX⟩:=g0.marks;refine wpIn_rangeFunc fun fn _=>?_
 have hent:∃(l YN:Nat) (Dm:List Nat) (V4:World),(Instr.enterLoop fn a.tmps ps J2 Hy ro).run P w=.ok (l,Dm.map mark) V4 ∧
   (∀r,r<w.heap.size→V4.heap[r]? = w.heap[r]?)∧w.heap.size≤V4.heap.size∧(V4.os=w.os∧V4.tape=w.tape∧V4.output=w.output)∧w.heap.size≤l∧l<V4.heap.size ∧
   V4.heap[l]? = some (.loop { state:=.ready,pending:=none,fn:=fn,tmps:=a.tmps,params:=ps,assign:=J2,body:=Hy,defers:=YN })∧Dm.Nodup ∧
   (∀d∈Dm,w.heap.size≤d∧V4.heap[d]? = some (.deferred (some []))∧d≠l):=by
  cases hr:ro with
  | none=>
    refine⟨w.heap.size+1,w.heap.size,[w.heap.size],_,run_enterLoop_outer _ _ _ _ _,fun r hr=>?_,by simp;omega,⟨rfl,rfl,rfl⟩,by omega,by simp,?_,by simp,?_⟩
    ·rw[Go.RowKit.Below.heap_alloc _ _ _ (by simp;omega),Go.RowKit.Below.heap_alloc _ _ _ hr]
    ·have:=World.alloc_heap_new (w.alloc (.deferred (some []))) (.loop { state:=.ready,pending:=none,fn:=fn,tmps:=a.tmps,params:=ps,assign:=J2,body:=Hy,defers:=w.heap.size });rwa [World.size_alloc] at this
    intro d hd;simp only[List.mem_singleton] at hd;subst hd;exact⟨Nat.le_refl _,(Go.RowKit.Below.heap_alloc _ _ _ (by simp)).trans (World.alloc_heap_new w _),by omega⟩
  | some l0=>
    obtain⟨r0,hr0⟩:=hro.lp l0 hr;have hl0:=g.fixed.obj l0 _ hr0;refine⟨w.heap.size,r0.defers,[],_,run_enterLoop_inner hl0 _ _ _ _ _,fun r hr=>Go.RowKit.Below.heap_alloc _ _ _ hr,by simp,⟨rfl,rfl,rfl⟩,Nat.le_refl _,by simp,World.alloc_heap_new w _,by simp,by simp⟩
 obtain⟨l,YN,Dm,W,hrun,hold,hsz,hos,hlw,YT,abj,adS,Lx⟩:=hent;let Ph:LoopState→Option Code→Loop:=fun s p=>{ state:=s,pending:=p,fn:=fn,tmps:=a.tmps,params:=ps,assign:=J2,body:=Hy,defers:=YN }
 simp only[ai,aU] at Oh;obtain⟨fs,cs,hval,hfs,hcs⟩:=Oh;simp only[dI] at hfs;have hfs:fs = #[]:=by simpa using hfs
 subst hfs;let ao:Act:={ a with defers:=Dm.map mark++a.defers }
 have hcw:c.w.heap.size≤w.heap.size:=g.iE.size;have Tc:∀r o,c.fix r=some o→r<w.heap.size:=fun r o h=>size_of_getElem? (g.fixed.obj r o h)
 have iH:c.fix l=none:=by
  cases h:c.fix l with
  |none=>rfl
  |some o=>have:=Tc l o h;omega
 have ZF:∀d∈Ds,d<w.heap.size:=fun d hd=>size_of_getElem? (YX.obj d hd)
 have hlD:l∉Dm++Ds:=by
  intro h;rcases List.mem_append.1 h with h|h
  ·exact (Lx l h).2.2 rfl
  have:=ZF l h;omega
 have Gl:∀r,owned R0 (st 0 i0).hp r→r<w.heap.size:=fun r ⟨b,h⟩=>g0.jb h
 have jb:∀r,owned R s.hp r→r<w.heap.size:=fun r ⟨b,h⟩=>g.jb h
 have hE:kK (fun _=>False) w W:=⟨hsz,fun r hr _=>hold r hr,hos.1,hos.2.1,hos.2.2⟩;have mkW:Marks c.lo (owned R0 (st 0 i0).hp) W ao.defers (Dm++Ds):=by
  refine⟨fun d hd=>?_,?_,?_,fun d hd=>?_,fun d hd=>?_⟩
  ·rcases List.mem_append.1 hd with h|h
   ·exact Nat.le_trans g.lo.2.2 (Lx d h).1
   exact YX.low d h
  ·simp only[ao,List.map_append,YX.eq]
  ·rw[List.nodup_append];refine⟨adS,YX.nodup,fun x hx y hy e=>?_⟩;have h1:=(Lx x hx).1;have h2:=ZF y hy;omega
  ·rcases List.mem_append.1 hd with h|h
   ·exact (Lx d h).2.1
   rw[hold d (ZF d h)];exact YX.obj d h
  rcases List.mem_append.1 hd with h|h
  ·exact fun ho=>by have:=Gl d ho;have:=(Lx d h).1;omega
  exact YX.free d h
 have hF0:∀r,r<w.heap.size→U5 c (fun _=>False) l W r→c.F r:=by
  rintro r hr ⟨h,_⟩
  rcases h with h|h|h
  ·exact h
  ·exact h.elim
  omega
 have GW:aS (cb c (fun _=>False) l W) R0 (st 0 i0) ao W:=by
  refine g0.qc (c2:=cb c (fun _=>False) l W) rfl rfl (fun v y h=>g0.kept v y h) hF0 (fun r o ho _ _=>by rw[hold r (size_of_getElem? ho)];exact ho) hsz hos
   (fun r ho hf=>g0.free r ho (hF0 r (Gl r ho) hf)) (g0.fixed.kept (fun r hr _=>hold r hr) (fun _ _ h=>h)) (kK.refl _ _) (fun r ho=>.inl ?_) ⟨rfl,g.lo.2.1,Nat.le_trans g.lo.2.2 hsz⟩ ⟨_,mkW⟩
  exact g0.fG r ho
 let D0:Nat→Prop:=Dst c l (Dm++Ds) R0 (st 0 i0).hp
 have hD0:∀r,D0 r→r<W.heap.size:=by
  rintro r (h|h|⟨o,h⟩|h|h)
  ·have:=Gl r h;omega
  ·omega
  ·have:=Tc r o h;omega
  ·rcases List.mem_append.1 h with h|h
   ·exact size_of_getElem? (Lx r h).2.1
   have:=ZF r h;omega
  have:=c.hF r h;omega
 have hJ0:∃R s,RJ c ao l W.heap.size (Dm++Ds) Ph xs st K R s xs false (fun _=>False) D0 W:=
  ⟨R0,st 0 i0,fun r h=>h.elim,Nat.le_refl _,g.iE.trans hE fun _ _ h=>h.elim,fun r=>Iff.rfl,hD0,GW,mkW,fun _=>⟨0,i0,rfl,by simp,Nat.zero_le _,abj⟩,fun h=>by cases h⟩
 have hY:YH (P,l) W.heap.size fun rest Pg Z D wy=>∃R s,RJ c ao l W.heap.size (Dm++Ds) Ph xs st K R s rest Pg Z D wy:=
  Jg (fn:=fn) (YN:=YN) (fun _ _=>rfl) (by omega) (by omega) hlD iH YT (by have:=g.lo.2.1;have:=g.lo.2.2;omega) g.lo.2.1 (by have:=g.lo.2.2;omega) hro.nc hps hlow
   (fun c' k i x tm R a w h1 h2 h3 h4 h5=>YO l c' k i x tm R a w h1 h2 h3 h4 h5) (fun c' k i x s1 R a w h1 h2 h3 h4 h5=>YP l c' k i x s1 R a w h1 h2 h3 h4 h5) YQ
 have hcs':dI D0 W aT cs.toList:=by
  refine mQ (N:=aG c R0 (st 0 i0).hp) (w:=w) (fun r cur e fr h hd=>?_) (fun r cur e fr h _=>by rw[hold r (size_of_getElem? h)];exact h) _ _ hcs;have hr:=size_of_getElem? h;rcases hd with hd|hd|⟨o,hd⟩|hd|hd
  ·exact .inr hd
  ·omega
  ·have h1:=g.fixed.obj r o hd;rw[h] at h1;simp only[Option.some.injEq] at h1;have:=hro.nc r o hd;rw[←h1] at this;cases this
  ·rcases List.mem_append.1 hd with hd|hd
   ·have:=(Lx r hd).1;omega
   have h1:=YX.obj r hd;rw[h] at h1;cases h1
  exact .inl hd
 obtain⟨V5,hcall⟩:=hs;obtain⟨fnf,XO,hfb,adT⟩:=V5;have hbn:fnf.body.isNone=false:=by cases vM:fnf.body<;>simp[vM] at hfb ⊢
 have hC:=hcall l _ D0 W cs hY hD0 hJ0 hcs';refine⟨l,Dm.map mark,W,{ target:=.fn (.func f) cs,args:=#[.func (.yield l) #[] #[]] },W,f,#[.func (.yield l) #[] #[]]++cs,W,hrun,?_,fun _ _=>trivial,?_,fun e=>(by cases e),?_⟩
 ·simp only[resolve,hval];simp[Deferred.ofValue,Act.eval]
 ·simp only[invoke,callFunc,run_program,Sem.run_bind,Result.andThen_ok,XO,adT,hbn];simp
 refine Co (hC.mono ?_);rintro e w3 ⟨⟨v,rfl⟩,rest,Pg,Z,D,wy,⟨R5,s5,J⟩,V6,hdone⟩
 have Ag:D l:=(J.dd l).2 (.inr (.inl rfl));have YU:∀r,D r→¬Z r:=fun r hd hz=>(J.zz r hz).2.2 hd
 have adU:c.w.heap.size≤wy.heap.size:=J.iE.size;have hn1:c.w.heap.size≤W.heap.size:=by omega
 have fin:∀(o o':Obj),wy.heap[l]? = some o→o.isCells=false→w3.heap[l]? = some o∧aS c R5 s5 ao (w3.putObj l o'):=by
  intro o o' ho hoc;have hl3:=V6.keep l o ho (YU l Ag) (.inr (.inr Ag));refine⟨hl3,?_⟩;have hsz5:wy.heap.size≤(w3.putObj l o').heap.size:=by rw[World.putObj_size];exact V6.size
  have hFc:∀r,r<wy.heap.size→c.F r→U5 c Z l wy r:=fun r hr h=>⟨.inl h,hr⟩
  have hkeep:∀r o,wy.heap[r]? = some o→(r<W.heap.size∨o.isCells=true∨D r)→¬Z r→r≠l→(w3.putObj l o').heap[r]? = some o:=by
   intro r o hr hc hz hne;rw[World.putObj_heap_other hne];exact V6.keep r o hr hz hc
  refine J.g.qc (c2:=c) rfl rfl (fun v y h=>J.g.kept v y h) hFc ?_ hsz5 ⟨V6.os,V6.tape,V6.output⟩ (fun r h hf=>J.g.free r h (hFc r (J.dlt r ((J.dd r).2 (.inl h))) hf)) ?_ ?_ ?_ ⟨rfl,g.lo.2.1,?_⟩ ⟨Dm++Ds,?_⟩
  ·intro r o hr hc hf;refine hkeep r o hr (hc.imp (fun h=>?_) fun h=>h.imp id fun h=>(J.dd r).2 (.inl h)) (fun hz=>hf ⟨.inr (.inl hz),size_of_getElem? hr⟩) fun e=>hf ⟨.inr (.inr e),size_of_getElem? hr⟩
   have h:r<c.n0.1:=h;have:=g.lo.2.1;have:=g.lo.2.2;omega
  ·refine⟨fun r o h=>?_,fun r o h=>J.g.fixed.free r o h,hro.nc⟩;have hD:=(J.dd r).2 (.inr (.inr (.inl ⟨o,h⟩)));exact hkeep r o (J.g.fixed.obj r o h) (.inr (.inr hD)) (YU r hD) fun e=>by rw[e,iH] at h;cases h
  ·refine⟨Nat.le_trans J.iE.size hsz5,fun r hr hn=>?_,V6.os.trans J.iE.os,V6.tape.trans J.iE.tape,V6.output.trans J.iE.output⟩;have h1:=J.iE.keep r hr hn;have hx:c.w.heap[r]? = some c.w.heap[r]:=by simp[hr]
   rw[hx] at h1 ⊢;exact hkeep r _ h1 (.inl (by omega)) (fun hz=>by have:=(J.zz r hz).1;omega) (by omega)
  ·intro r h;rcases J.g.fG r h with h|h
   ·exact h
   exact .inr (Nat.le_trans adU h)
  ·have:=g.lo.2.2;have:=J.n1;omega
  refine⟨J.SX.low,J.SX.eq,J.SX.nodup,fun d hd=>?_,J.SX.free⟩;have hD:=(J.dd d).2 (.inr (.inr (.inr (.inl hd))));exact hkeep d _ (J.SX.obj d hd) (.inr (.inr hD)) (YU d hD) fun e=>hlD (e▸hd)
 cases Pg with
 | false=>
   obtain⟨k,i,rfl,hrest,hkl,hlr⟩:=J.run rfl;have hrn:rest=[]:=hdone.resolve_left (by simp);have hk:k=xs.length:=by
    have:=congrArg List.length hrest;rw[hrn] at this;simp at this;omega
   subst hk;obtain⟨hl3,G⟩:=fin _ (.loop { Ph .ready none with state:=.exhausted }) hlr rfl;refine⟨none,_,run_endLoop (P:=P) hl3 (by simp[Ph]),?_⟩;exact⟨R5,_,hend i,G⟩
 | true=>
   obtain⟨e,code,hj,hK,hlr⟩:=J.out rfl;obtain⟨hl3,G⟩:=fin _ (.loop { Ph .done (some code) with state:=.exhausted }) hlr rfl;refine⟨some code,_,run_endLoop (P:=P) hl3 (by simp[Ph]),?_⟩;cases e with
   | ret=>
     simp only[Gj,Option.some.injEq] at hj;subst hj;exact wpIn_ret ⟨R5,_,hK,G⟩
   | exit id=>
     simp only[Gj,Option.some.injEq] at hj;subst hj;exact wpIn_exit ⟨R5,_,hK,G⟩
   |normal=>cases hj
   |goto t=>cases hj
   |panic ch=>cases hj
   |outgrown=>cases hj
def MK:List Oper→Bool
 |[]=>true
 | o::r=>match o.guard with
   |none=>MK r
   |some _=>false
def X0:Code→Bool
 | .region _ ops draw=>match draw with
   |true=>false
   |false=>MK ops.toList
 |.skip=>true
 |_=>false
def ac7 (ι:Type)(st:ι→AS)(K:Exit→AS→Prop)(e:Exit)(s:AS):Prop:=
 match e with
 |.normal=>∃i,rG s (st i)
 |e=>K e s
def Vm (X:AS→Prop)(K:Exit→AS→Prop)(e:Exit)(s:AS):Prop:=
 match e with
 |.normal=>X s
 |e=>K e s
def Z6 (id:Nat)(K:Exit→AS→Prop)(e:Exit)(s:AS):Prop:=
 match e with
 | .exit i=>match Nat.beq i id with
   |true=>K .normal s
   |false=>K e s
 |e=>K e s
def meet:List Nat→List Nat→Bool
 |[],_=>false
 | x::r,l=>match Be x l with
   |true=>true
   |false=>meet r l
def dl (d:Option Nat):List Nat:=
 match d with
 |some d=>[d]
 |none=>[]
def kP (x y:rE):Bool:=meet (dl x.dst) y.look||(meet (dl y.dst) x.look||(meet (dl x.dst) (dl y.dst)||(meet x.wr y.rd||(meet y.wr x.rd||meet x.wr y.wr))))
def Hw (Dt:List Nat):List Edge→Nat
 |[]=>0
 | e::r=>match Region.binds .any e with
   | true=>((2 ^ e.on ||| (match nth Dt e.on with
     |some m=>m
     |none=>0)) ||| Hw Dt r)
   |false=>Hw Dt r
def vY (i:Nat):List Edge→Bool
 |[]=>true
 | e::r=>match Region.binds .any e with
   |true=>Nat.blt e.on i&&vY i r
   |false=>vY i r
def Am (e:rE)(m:Nat):List rE→Nat→Bool
 |[],_=>true
 |x::r,k=>(!(kP x e)||m.testBit k)&&Am e m r (k+1)
def Vn (all:List rE):List Oper→List rE→Nat→List Nat→Bool
 |[],_,_,_=>true
 | o::r,es,i,Dt=>match es with
   |[]=>false
   | e::es=>match Hw Dt o.after.toList with
     |m=>vY i o.after.toList&&(Am e m (all.take i) 0&&Vn all r es (i+1) (Dt++[m]))
def Z7 (ops:List Oper)(tr:List rE):Bool:=Vn tr ops tr 0 []
def X3 (ps:List Nat)(x:List PV)(tm:List (Nat×AV))(K:List (Nat×AV)→Prop):Prop:=
 match QY ps x tm with
 |some tm=>K tm
 |none=>False
def ac8 (X:AS→Prop)(e:Exit)(s:AS):Prop:=
 match e with
 |.normal=>X s
 |_=>False
def VC (P:Program)(T:Tab):Code→AS→(Exit→AS→Prop)→Prop
 |.skip,s,K=>K .normal s
 | .seq a b,s,K=>match X0 a with
   |true=>VC P T a s (Vm (fun s=>VC P T b s K) K)
   |false=>VC P T a s (Vm (fun s=>VC P T b s K) K)∨∃(ι:Type) (st:ι→AS),VC P T a s (ac7 ι st K)∧∀i,VC P T b (st i) K
 | .cond c x y,s,K=>match iE s.tm c with
   | some (.pv (.sc v))=>match v with
     |.bool b=>(b=true→VC P T x s K)∧(b=false→VC P T y s K)
     |_=>False
   | some (.bU b ver _ off)=>match s with
     | ⟨tm,nx,hp⟩=>match lk hp b with
       | some (.tr y' v rest st)=>match st with
         | none=>match Nat.beq ver v with
           | true=>match off with
             |0=>VC P T x ⟨tm,nx,(b,.tr y' v rest (some false))::hp⟩ K∧VC P T y ⟨tm,nx,(b,.tr y' v rest (some true))::hp⟩ K
             |1=>VC P T x ⟨tm,nx,(b,.tr y' v rest (some true))::hp⟩ K∧VC P T y ⟨tm,nx,(b,.tr y' v rest (some false))::hp⟩ K
             |_=>False
           |false=>False
         |some _=>False
       |_=>False
   |_=>False
 | .rangeFunc go ps J2 Hy,s,K=>∃(f:FuncId) (aT:List PV) (xs:List (List PV)),Z8 P f aT xs∧∃(ι:Type) (ok:Nat→ι→Prop) (st:Nat→ι→AS),(∃i,rG s (st 0 i)) ∧
   (∀i,iE (st 0 i).tm go=some (.pv (.fn (.func f) [] aT)))∧(∀k i,Eb (st k i).tm=true) ∧
   (∀k x i,xs[k]? = some x→X3 ps.toList x (st k i).tm fun tm=>(k≠0→ok k i)→VC P T J2 ⟨tm,(st k i).nx,(st k i).hp⟩ (ac8 fun s1=>VC P T Hy s1 (Z9 (st k i).tm (fun s2=>∃j,ok (k+1) j∧rG s2 (st (k+1) j)) K))) ∧
   ∀i,(xs.length≠0→ok xs.length i)→K .normal (st xs.length i)
 |.block id c,s,K=>VC P T c s (Z6 id K)
 |.exit id,s,K=>K (.exit id) s
 |.ret,s,K=>K .ret s
 |.loop c,s,K=>∃(ι:Type) (st:ι→AS) (μ:ι→Nat),(∃i,rG s (st i))∧∀i,VC P T c (st i) (Vm (fun s'=>∃j,μ j<μ i∧rG s' (st j)) K)
 | .region id ops draw,s,K=>match s with
   | ⟨tm,nx,hp⟩=>match Nat.ble ((id+2)*1000+ops.toList.length) nx with
     | true=>match draw with
       |false=>Kn P (Zp T) ops.toList ((id+2)*1000) ops.toList 0 tm hp [] [] fun tm hp tr=>K .normal ⟨tm,nx,hp⟩
       |true=>Kn P T ops.toList ((id+2)*1000) ops.toList 0 tm hp [] [] fun tm hp tr=>Z7 ops.toList tr.reverse=true∧K .normal ⟨tm,nx,hp⟩
     |false=>False
 |_,_,_=>False
def codeOk (n:Nat):Code→Bool
 |.seq a b=>codeOk n a&&codeOk n b
 |.cond _ a b=>codeOk n a&&codeOk n b
 |.block _ a=>codeOk n a
 |.loop a=>codeOk n a
 |.region _ ops _=>mg n ops.toList
 |.rangeFunc _ ps a b=>ps.toList.all (fun t=>Nat.blt t n)&&(codeOk n a&&codeOk n b)
 |_=>true
section
variable {P:Program}{T:Tab}
theorem wpIn_loop_ghost {F:Fence}{n:Nat}{P:Program}{Q:Exit→Act→World→Prop}{a:Act}{w:World}{c:Code}(I:Nat→Act→World→Prop)(n₀:Nat)(h₀:I n₀ a w)
  (round:∀m a w,I m a w→c.wpIn F n P (Exit.then (fun a' w'=>∃n',n'<m∧I n' a' w') Q) a w):(Code.loop c).wpIn F n P Q a w:=by
 refine wpIn_loop (fun a w=>∃n,I n a w) (fun a w=>leastOf (fun n=>I n a w)) ⟨n₀,h₀⟩ ?_;intro a w hI;refine Go.wpIn_mono (round _ a w (leastOf_spec hI).1) ?_;intro e a' w' hq;cases e with
 | normal=>
   obtain⟨n',hlt,hI'⟩:=hq;exact show (∃n,I n a' w')∧leastOf (fun n=>I n a' w')<leastOf (fun n=>I n a w) from ⟨⟨n',hI'⟩,Nat.lt_of_le_of_lt ((leastOf_spec ⟨n',hI'⟩).2 n' hI') hlt⟩
 |exit id=>exact hq
 |goto l=>exact hq
 |ret=>exact hq
 |panic ch=>exact hq
 |outgrown=>exact hq
def Vo (s:AS):AS:=⟨s.tm,s.nx,[(0,.arr 0 0 1 [[]])]⟩
theorem QZ {c:Ctx}{R:Real}{s:AS}{a:Act}{w:World}(g:aS c R (Vo s) a w):False:=by
 obtain⟨xs,_,h⟩:=g.boxes 0 (.arr 0 0 1 [[]]) rfl;simp only[bB] at h;exact absurd h.1 (by decide)
open Classical in
noncomputable def Vp {ι:Type} (ok:Nat→ι→Prop) (st:Nat→ι→AS) (k:Nat) (i:ι):AS:=if k≠0→ok k i then st k i else Vo (st k i)
theorem FR {ι:Type}{ok:Nat→ι→Prop}{st:Nat→ι→AS}{k:Nat}{i:ι}(h:k≠0→ok k i):Vp ok st k i=st k i:=if_pos h
theorem ML {ι:Type}{ok:Nat→ι→Prop}{st:Nat→ι→AS}{k:Nat}{i:ι}(h:¬(k≠0→ok k i)):Vp ok st k i=Vo (st k i):=if_neg h
theorem Bf {ι:Type}{ok:Nat→ι→Prop}{st:Nat→ι→AS}{k:Nat}{i:ι}:(Vp ok st k i).tm=(st k i).tm:=by
 unfold Vp;split<;>rfl
theorem dY (hT:bA P T)(jg:∀(c:Ctx) (R:Real) (s:AS) (a:Act) (w:World) (id:Nat) (ops:Array Oper) (K:Exit→AS→Prop) (ro:Option Nat),aS c R s a w→mg c.n ops.toList=true →
  VC P T (.region id ops true) s K→(Code.region id ops true).wpIn (W1 ro) 0 P (fun e a' w'=>∃R' s',K e s'∧aS c R' s' a' w') a w) :
  ∀(code:Code) {c:Ctx} {R:Real} {s:AS} {a:Act} {w:World} {K:Exit→AS→Prop} {ro:Option Nat},Kr c ro→aS c R s a w→codeOk c.n code=true→VC P T code s K →
   code.wpIn (W1 ro) 0 P (fun e a' w'=>∃R' s',K e s'∧aS c R' s' a' w') a w
 |.skip,c,R,s,a,w,K,ro,hro,g,hok,h=>wpIn_skip ⟨R,s,h,g⟩
 | .seq x y,c,R,s,a,w,K,ro,hro,g,hok,h=>by
   simp only[codeOk,Bool.and_eq_true] at hok;have direct:VC P T x s (Vm (fun s=>VC P T y s K) K)→(Code.seq x y).wpIn (W1 ro) 0 P (fun e a' w'=>∃R' s',K e s'∧aS c R' s' a' w') a w:=by
    intro h;refine wpIn_seq (Go.wpIn_mono (dY hT jg x hro g hok.1 h) ?_);rintro e a' w' ⟨R',s',hK,g'⟩
    cases e with
    |normal=>exact dY hT jg y hro g' hok.2 hK
    |exit i=>exact⟨R',s',hK,g'⟩
    |goto l=>exact⟨R',s',hK,g'⟩
    |ret=>exact⟨R',s',hK,g'⟩
    |panic ch=>exact⟨R',s',hK,g'⟩
    |outgrown=>exact⟨R',s',hK,g'⟩
   simp only[VC] at h;split at h
   ·exact direct h
   rcases h with h|⟨ι,st,h,h2⟩
   ·exact direct h
   refine wpIn_seq (Go.wpIn_mono (dY hT jg x hro g hok.1 h) ?_);rintro e a' w' ⟨R',s',hK,g'⟩
   cases e with
   | normal=>
     obtain⟨i,hi⟩:=hK;obtain⟨R2,g2⟩:=hi c R' a' w' g';exact dY hT jg y hro g2 hok.2 (h2 i)
   |exit i=>exact⟨R',s',hK,g'⟩
   |goto l=>exact⟨R',s',hK,g'⟩
   |ret=>exact⟨R',s',hK,g'⟩
   |panic ch=>exact⟨R',s',hK,g'⟩
   |outgrown=>exact⟨R',s',hK,g'⟩
 | .cond cc x y,c,R,s,a,w,K,ro,hro,g,hok,h=>by
   simp only[codeOk,Bool.and_eq_true] at hok;simp only[VC] at h;split at h
   ·rename_i v hv;have hr:=tF g hv;simp only[ai,aU] at hr;split at h;rotate_left;cases h
    rename_i b;refine wpIn_cond hr ?_;cases b with
    |true=>exact dY hT jg x hro g hok.1 (h.1 rfl)
    |false=>exact dY hT jg y hro g hok.2 (h.2 rfl)
   ·rename_i b ver i off hv;have hr:=tF g hv;obtain⟨tm,nx,hp⟩:=s;simp only at h;split at h;rotate_left;cases h
    rename_i y' v rest st hb;split at h;rotate_left;cases h
    split at h;rotate_left;cases h
    rename_i dN;have dN:=Nat.eq_of_beq_eq_true dN;simp only[ai,hb,aJ] at hr;have hval:=hr.2.2 dN (by trivial);have e01:Nat.beq 0 1=false:=rfl;have e11:Nat.beq 1 1=true:=rfl;have hres:∀(q:Bool),R.nil b=(!q)→aS c R ⟨tm,nx,(b,.tr y' v rest (some q))::hp⟩ a w:=by
     intro q hq;have hbx:=g.boxes b _ hb;refine g.upd (s:=⟨tm,nx,hp⟩) (R':=R) (w':=w) (b:=b) (aV:=.tr y' v rest (some q)) (nx':=nx) (fun _ _=>⟨rfl,rfl,rfl⟩) (fun off v h=>?_) (fun ver v h=>?_) (fun ver i off v h=>?_) (fun r h=>.inl ?_) (kK.refl _ _) ?_
     ·simp only[hb,aH] at h
     ·simp only[hb,aD] at h
     ·simp only[hb,aJ] at h ⊢;exact⟨h.1,h.2.1,fun _ e=>by cases e⟩
     ·simp only[hb];exact h
     obtain⟨k0,kh,k1,k2,k3,k4⟩:=hbx;refine⟨k0,kh,?_,k2,k3,fun r hn=>k4 r ?_⟩
     ·simp only[Option.getD_none,hq,Bool.not_not] at k1;exact k1
     rcases hn with hn|⟨b2,ho⟩
     ·exact .inl hn
     refine .inr ⟨b2,?_⟩;by_cases e:b2=b
     ·subst e;rw[ak,if_pos rfl] at ho;simp only[hb];exact ho
     rw[ak,if_neg (fun e'=>e e'.symm)] at ho;exact ho
    split at h
    ·refine wpIn_cond hval ?_;cases hn:R.nil b with
     |true=>simpa[hn,e01,e11] using dY hT jg x hro (hres false (by simp[hn])) hok.1 h.1
     |false=>simpa[hn,e01,e11] using dY hT jg y hro (hres true (by simp[hn])) hok.2 h.2
    ·refine wpIn_cond hval ?_;cases hn:R.nil b with
     |true=>simpa[hn,e01,e11] using dY hT jg y hro (hres false (by simp[hn])) hok.2 h.2
     |false=>simpa[hn,e01,e11] using dY hT jg x hro (hres true (by simp[hn])) hok.1 h.1
    exact h.elim
   exact h.elim
 | .block id x,c,R,s,a,w,K,ro,hro,g,hok,h=>by
   simp only[codeOk] at hok;simp only[VC] at h;refine wpIn_block (Go.wpIn_mono (dY hT jg x hro g hok h) ?_);rintro e a' w' ⟨R',s',hK,g'⟩
   cases e with
   | exit i=>
     simp only[Exit.inBlock];simp only[Z6] at hK;split at hK
     ·rename_i hb;rw[if_pos (Nat.eq_of_beq_eq_true hb)];exact⟨R',s',hK,g'⟩
     rename_i hb;rw[if_neg (Nat.ne_of_beq_eq_false hb)];exact⟨R',s',hK,g'⟩
   |normal=>exact⟨R',s',hK,g'⟩
   |goto l=>exact⟨R',s',hK,g'⟩
   |ret=>exact⟨R',s',hK,g'⟩
   |panic ch=>exact⟨R',s',hK,g'⟩
   |outgrown=>exact⟨R',s',hK,g'⟩
 |.exit id,c,R,s,a,w,K,ro,hro,g,hok,h=>wpIn_exit ⟨R,s,h,g⟩
 |.ret,c,R,s,a,w,K,ro,hro,g,hok,h=>wpIn_ret ⟨R,s,h,g⟩
 | .loop x,c,R,s,a,w,K,ro,hro,g,hok,h=>by
   simp only[codeOk] at hok;simp only[VC] at h;obtain⟨ι,st,μ,⟨i0,h0⟩,hr⟩:=h;obtain⟨R0,g0⟩:=h0 c R a w g;refine wpIn_loop_ghost (fun n a w=>∃i R,μ i=n∧aS c R (st i) a w) (μ i0) ⟨i0,R0,rfl,g0⟩ ?_;rintro n a' w' ⟨i,R1,rfl,g1⟩
   refine Go.wpIn_mono (dY hT jg x hro g1 hok (hr i)) ?_;rintro e a2 w2 ⟨R2,s2,hK,g2⟩
   cases e with
   | normal=>
     obtain⟨j,hj,he⟩:=hK;obtain⟨R3,g3⟩:=he c R2 a2 w2 g2;exact⟨μ j,hj,j,R3,rfl,g3⟩
   |exit i=>exact⟨R2,s2,hK,g2⟩
   |goto l=>exact⟨R2,s2,hK,g2⟩
   |ret=>exact⟨R2,s2,hK,g2⟩
   |panic ch=>exact⟨R2,s2,hK,g2⟩
   |outgrown=>exact⟨R2,s2,hK,g2⟩
 | .region id ops draw,c,R,s,a,w,K,ro,hro,g,hok,h=>by
   simp only[codeOk] at hok;cases draw with
   |true=>exact jg c R s a w id ops K ro g hok h
   | false=>
     simp only[VC] at h;obtain⟨tm,nx,hp⟩:=s;simp only at h;split at h;rotate_left;cases h
     rename_i hb;refine wpIn_region_list (uU ro hT.Zp ops.toList 0 (s:=⟨tm,nx,hp⟩) g (by simp only[Nat.add_zero];exact Nat.le_of_ble_eq_true hb) hok h ?_);intro R' tm' hp' oD a' w' hK g';exact⟨R',_,hK,g'⟩
 | .rangeFunc go ps J2 Hy,c,R,s,a,w,K,ro,hro,g,hok,h=>by
   simp only[codeOk,Bool.and_eq_true] at hok;obtain⟨hps,hok1,hok2⟩:=hok;simp only[VC] at h;obtain⟨f,aT,xs,hs,ι,ok,st,h0,hgo,hlow,xX,hend⟩:=h;refine Go.wpIn_mono (Q0 (ps:=ps) (J2:=J2) (Hy:=Hy) (st:=Vp ok st) (K:=fun e s=>K e s∨∃s0,s=Vo s0)
    (A:=fun k i x s1=>(k≠0→ok k i)∧VC P T Hy s1 (Z9 (st k i).tm (fun s2=>∃j,ok (k+1) j∧rG s2 (st (k+1) j)) K)) g hro hs (fun t ht=>?_) (fun i=>by rw[Bf];exact hgo i) (by rw[show Vp ok st 0=st 0 from funext fun i=>FR fun h=>absurd rfl h];exact h0)
    (fun k i=>by rw[Bf];exact hlow k i) (fun l c' k i x tm R a w hn X4 hx Ol g'=>?_) (fun l c' k i x s1 R a w hn X4 hx hA g'=>?_) (fun k i x hx=>?_) (fun i=>?_)) ?_
   ·have:=List.all_eq_true.1 hps t ht;rwa [Nat.blt_eq] at this
   ·by_cases hv:k≠0→ok k i
    ·rw[Bf] at Ol;rw[FR hv] at g';have h1:=xX k x i hx;simp only[X3,Ol] at h1;refine Go.wpIn_mono (dY hT jg J2 X4 g' (by rw[hn];exact hok1) (h1 hv)) ?_;rintro e a' w' ⟨R',s',hK,g2⟩
     cases e with
     |normal=>exact⟨R',s',⟨hv,hK⟩,g2⟩
     |exit i=>exact hK.elim
     |goto l=>exact hK.elim
     |ret=>exact hK.elim
     |panic ch=>exact hK.elim
     |outgrown=>exact hK.elim
    rw[ML hv] at g';exact (QZ (s:=⟨tm,_,[]⟩) g').elim
   ·refine Go.wpIn_mono (dY hT jg Hy X4 g' (by rw[hn];exact hok2) hA.2) ?_;rintro e a' w' ⟨R',s',hK,g2⟩
    refine⟨R',s',?_,g2⟩;rw[Bf];revert hK;unfold Z9;split
    ·rintro⟨j,hj,he⟩
     exact⟨j,by rw[FR fun _=>hj];exact he⟩
    ·exact .inl
    ·exact .inl
    exact id
   ·rw[Bf];have h1:=xX k x i hx;unfold X3 at h1;split at h1
    ·rename_i tm Ol;exact⟨tm,Ol⟩
    exact h1.elim
   ·by_cases hv:xs.length≠0→ok xs.length i
    ·rw[FR hv];exact .inl (hend i hv)
    rw[ML hv];exact .inr ⟨_,rfl⟩
   rintro e a' w' ⟨R',s',hK,g2⟩
   rcases hK with hK|⟨s0,rfl⟩
   ·exact⟨R',s',hK,g2⟩
   exact (QZ g2).elim
 |.scope _,c,R,s,a,w,K,ro,hro,g,hok,h=>by simp[VC] at h
 |.label _,c,R,s,a,w,K,ro,hro,g,hok,h=>by simp[VC] at h
 |.goto _,c,R,s,a,w,K,ro,hro,g,hok,h=>by simp[VC] at h
 |.refuse _,c,R,s,a,w,K,ro,hro,g,hok,h=>by simp[VC] at h
def lits:List Nat:=[0,1,2,3,4,5,6,7,8,9,10,11,12,13,14,15]
def Om:List Nat→List PV→Option (List (Nat×AV))
 |_,[]=>some []
 |[],_::_=>none
 | k::ks,p::r=>match Om ks r with
   |some t=>some ((k,.pv p)::t)
   |none=>none
def X5 (args:List PV)(K:AS→Prop):Prop:=
 match Om lits args with
 |some tm=>K ⟨tm,1000000000,[]⟩
 |none=>False
def xY (T:Tab)(s:AS):List ResultVar→(List AV→Prop)→Prop
 |[],K=>K []
 | rv::r,K=>match rv with
   | .tmp t=>match lk s.tm t with
     |some v=>xY T s r fun vs=>K (v::vs)
     |none=>False
   | .cell x t=>match lk s.tm x with
     | some v=>match Hz v with
       |true=>rH T s.hp t v fun u=>xY T s r fun vs=>K (u::vs)
       |false=>False
     |none=>False
def Q5 (hp:List (Nat×au))(vs:List AV)(Q:PV→Prop):Prop:=
 match vs with
 | [v]=>match vw hp v with
   |some p=>Q p
   |none=>False
 | _=>match D6 hp vs with
   |some ps=>Q (.fM ps)
   |none=>False
def fnK (T:Tab)(rs:List ResultVar)(Q:PV→Prop)(e:Exit)(s:AS):Prop:=
 match e with
 |.normal=>xY T s rs fun vs=>Q5 s.hp vs Q
 |.ret=>xY T s rs fun vs=>Q5 s.hp vs Q
 |_=>False
def FT (P:Program)(tmps:Array Value):ResultVar→Sem Value
 |.tmp t=>pure (tmps.getD t undef)
 |.cell a t=>do loadVar t (←asAddr (tmps.getD a undef))
theorem mh {c:Ctx}{R:Real}{s:AS}{a:Act}{w:World}(g:aS c R s a w)(hT:bA P T):∀(rs:List ResultVar) {K:List AV→Prop},xY T s rs K →
  ∃vs us,(rs.mapM (FT P a.tmps)).run P w=.ok us w∧K vs∧FL (ai (aG c R s.hp) w s.hp R) vs us
 |[],K,h=>⟨[],[],by simp,h,rfl⟩
 | rv::r,K,h=>by
   simp only[xY] at h;split at h
   ·rename_i t;split at h;rotate_left;cases h
    rename_i v hv;obtain⟨vs,us,h1,h2,h3⟩:=mh g hT r h;obtain⟨x,hx,hr⟩:=g.slots t v hv;refine⟨v::vs,x::us,?_,h2,⟨x,us,rfl,hr,h3⟩⟩;simp[List.mapM_cons,FT,h1,hx]
   rename_i x t;split at h;rotate_left;cases h
   rename_i v hv;split at h;rotate_left;cases h
   rename_i hp';obtain⟨xv,hx,hr⟩:=g.slots x v hv;obtain⟨y,z,h1,h2,h3⟩:=rJ g hT (fun b box hb=>hb) h hr;obtain⟨vs,us,h4,h5,h6⟩:=mh g hT r h2;obtain⟨ad,rfl⟩:=vX hp' hr;refine⟨z::vs,y::us,?_,h5,⟨y,us,rfl,h3,h6⟩⟩;have h7:(loadVar t ad).run P w=.ok y w:=by simpa[Instr.loadAt,Instr.sureAddr] using h1
   simp[List.mapM_cons,FT,hx,asAddr,h7,h4]
theorem Kt {c:Ctx}{R:Real}{s:AS}{a:Act}{w:World}(g:aS c R s a w){vs:List AV}{us:List Value}{Q:PV→Prop}(h:Q5 s.hp vs Q)
  (hv:FL (ai (aG c R s.hp) w s.hp R) vs us):∃r v,(if hu:us.toArray.size=1 then us.toArray[0] else .tuple us.toArray)=v∧Q r∧aU c.F w r v:=by
 have hN:∀r,c.F r→aG c R s.hp r:=fun r h=>.inl h
 have h2:∀b,∀r,ax R b r (lk s.hp b)→¬c.F r:=fun b r ho=>g.free r ⟨b,ho⟩
 have hl:=hv.length;unfold Q5 at h;split at h
 ·rename_i v;obtain⟨u,r,rfl,hu,hr⟩:=hv;simp only[FL] at hr;subst hr;split at h
  ·rename_i p hp;refine⟨p,u,by simp,h,oJ g (fun b box hb=>hb) hN v p u (fun b _=>h2 b) hp hu⟩
  exact h.elim
 rename_i hne;split at h;rotate_left;cases h
 rename_i ps hps;have hsz:us.toArray.size≠1:=by
  intro e;simp only[List.size_toArray] at e;rw[e] at hl;match vs with
  |[v]=>exact hne v rfl
  |[]=>simp at hl
  |_::_::_=>simp at hl
 refine⟨.fM ps,.tuple us.toArray,by rw[dif_neg hsz],h,?_⟩;simp only[aU];refine⟨us.toArray,rfl,?_⟩;exact fO g (fun b box hb=>hb) hN vs ps _ (fun b _=>h2 b) hps (by rw[dn];exact hv)
theorem MN:∀(ks:List Nat) (k:Nat) (args:List PV) (tm:List (Nat×AV)) (t:Nat) (v:AV),(∀i x,ks[i]? = some x→x=k+i)→Om ks args=some tm→lk tm t=some v →
  k≤t∧∃p,args[t-k]? = some p∧v=.pv p
 |ks,k,[],tm,t,v,_,hn,h=>by cases ks<;>simp only[Om,Option.some.injEq] at hn<;>subst hn<;>simp[lk] at h
 |[],k,p::r,tm,t,v,_,hn,h=>by simp[Om] at hn
 | k'::ks,k,p::r,tm,t,v,hk,hn,h=>by
   simp only[Om] at hn;split at hn
   ·rename_i tm' Ol;simp only[Option.some.injEq] at hn;subst hn;have hk0:k'=k:=by simpa using hk 0 k' rfl
    subst hk0;rw[ak] at h;split at h
    ·rename_i e;simp only[Option.some.injEq] at h;subst e;subst h;exact⟨Nat.le_refl _,p,by simp,rfl⟩
    rename_i e;obtain⟨h1,q,h2,h3⟩:=MN ks (k'+1) r tm' t v (fun i x hx=>by have:=hk (i+1) x (by simpa using hx);omega) Ol h;refine⟨by omega,q,?_,h3⟩;rw[show t-k'=(t-(k'+1))+1 from by omega,List.getElem?_cons_succ];exact h2
   cases hn
theorem FU:∀i x,lits[i]? = some x→x=0+i:=by
 intro i x h;rcases i with _|_|_|_|_|_|_|_|_|_|_|_|_|_|_|_|i<;>simp[lits] at h<;>omega
def codeOf (fn:Func):Code:=
 match fn.body with
 |some c=>c
 |none=>.skip
structure bG (P:Program)(f:FuncId)(fn:Func):Prop where
 func:P.funcs[f]? = some fn
 body:fn.body.isSome=true
 name:(fn.name == "runtime.NumGoroutine")=false
 ok:codeOk fn.ntmps (codeOf fn)=true
theorem qb {c:Ctx}{R:Real}{s:AS}(hwl:c.w.heap.size≤c.lo)(X6:∀r o,c.fix r=some o→r<c.lo){fn:Func}{Rr:Ending→World→Prop}:∀(Ds:List Nat) (a:Act) (w:World),aS c R s a w→Marks c.lo (owned R s.hp) w a.defers Ds →
  ∃w',w.heap.size≤w'.heap.size∧aS c R s { a with defers:=[] } w'∧(LeavesIn Fence.wide 0 P fn a.tmps Rr [] .returning w'→LeavesInM Fence.wide 0 P fn a.tmps Rr a.defers .returning w)
 | [],a,w,g,mk=>by
   have e:a.defers=[]:=by simpa using mk.eq
   have ea:({ a with defers:=[] }:Act)=a:=by cases a;simp only at e;subst e;rfl
   refine⟨w,Nat.le_refl _,by rw[ea];exact g,fun h=>by rw[e];exact h⟩
 | D::Ds,a,w,g,mk=>by
   have e:a.defers=mark D::Ds.map mark:=by simpa using mk.eq
   have hD:=mk.obj D (by simp);have af9:=mk.low D (by simp);have hDf:=mk.free D (by simp);have hnd:=List.nodup_cons.1 mk.nodup;let a1:Act:={ a with defers:=Ds.map mark }
   have mk1:Marks c.lo (owned R s.hp) (w.putObj D (.deferred none)) a1.defers Ds:=by
    refine⟨fun d hd=>mk.low d (by simp[hd]),rfl,hnd.2,fun d hd=>?_,fun d hd=>mk.free d (by simp[hd])⟩;rw[World.putObj_heap_other (fun (e:d=D)=>hnd.1 (by rw[←e];exact hd))];exact mk.obj d (by simp[hd])
   have g1:aS c R s a1 (w.putObj D (.deferred none)):=by
    refine g.qc (c2:=c) rfl rfl (fun v y h=>g.kept v y h) (fun r _ h=>h) (fun r o ho hc _=>?_) (by simp) ⟨rfl,rfl,rfl⟩ g.free ?_ ?_ g.fG ⟨rfl,g.lo.2.1,by rw[World.putObj_size];exact g.lo.2.2⟩ ⟨Ds,mk1⟩
    ·rw[World.putObj_heap_other]
     ·exact ho
     rintro rfl
     rcases hc with h|h|h
     ·have:=g.lo.2.1;omega
     ·rw[hD] at ho;simp only[Option.some.injEq] at ho;rw[←ho] at h;cases h
     exact hDf h
    ·refine⟨fun r o h=>?_,g.fixed.free,g.fixed.nc⟩;have:=X6 r o h;rw[World.putObj_heap_other (by omega)];exact g.fixed.obj r o h
    exact g.iE.trans (O':=fun r=>r=D) ⟨by simp,fun r _ hn=>World.putObj_heap_other hn,rfl,rfl,rfl⟩ fun r hr h=>by omega
   obtain⟨w2,hsz,g2,hl⟩:=qb hwl X6 Ds a1 _ g1 mk1;refine⟨w2,Nat.le_trans (by simp) hsz,g2,fun h=>?_⟩;rw[e];refine⟨by simp,.inl ⟨D,_,rfl,run_takeDeferred hD,hl h⟩⟩
theorem Q6 (hT:bA P T)(jg:∀(c:Ctx) (R:Real) (s:AS) (a:Act) (w:World) (id:Nat) (ops:Array Oper) (K:Exit→AS→Prop) (ro:Option Nat),aS c R s a w→mg c.n ops.toList=true →
  VC P T (.region id ops true) s K→(Code.region id ops true).wpIn (W1 ro) 0 P (fun e a' w'=>∃R' s',K e s'∧aS c R' s' a' w') a w)
  {f:FuncId} {fn:Func} (hf:bG P f fn) {args:List PV} (hl:Nat.ble args.length fn.ntmps=true) {Q:PV→Prop}
  (h:X5 args fun s=>VC P T (codeOf fn) s (fnK T fn.results.toList Q)):PC P f args Q:=by
 unfold X5 at h;split at h
 case h_2=>exact h.elim
 rename_i Xg Q7;refine⟨⟨fn,hf.func,hf.body,hf.name⟩,fun F w bQ hF hargs=>?_⟩;have hbody:fn.body=some (codeOf fn):=by
  have:=hf.body;unfold codeOf;cases hb:fn.body with
  |none=>rw[hb] at this;cases this
  |some c=>rfl
 have hl:=Nat.le_of_ble_eq_true hl;rw[iJ] at hargs;have hcl:bQ.size=args.length:=by have:=hargs.length;simpa using this
 let c:Ctx:={ F:=F,O:=fun _=>False,w:=w,n:=fn.ntmps,hF:=hF,K:=fun _ _=>False,hK:=fun _ _ h=>h.elim,fix:=fun _=>none,n0:=(0,fun _ _ _ _ _=>False),lo:=w.heap.size }
 let R:Real:=⟨fun _=>0,fun _=>true,fun _=>(0,[]),⟨fun _=>False,fun _=>False,w,(0,fun _ _ _ _ _=>False)⟩⟩
 have hno:∀r,¬owned R [] r:=by rintro r ⟨b,hb⟩;exact hb
 have hNF:∀r,aG c R [] r→F r:=fun r h=>h.resolve_right (hno r)
 refine callsIn_wide.1 (callsIn_of_wp_marks (n:=0) hf.func hbody trivial ?_);have g:aS c R ⟨Xg,1000000000,[]⟩ { tmps:=bQ++Array.replicate (fn.ntmps-bQ.size) undef,defers:=[] } w:=by
  refine⟨?_,?_,⟨rfl,Nat.zero_le _,Nat.le_refl _⟩,⟨[],Marks.nil⟩,rf.none,?_,?_,?_,kK.refl _ _,?_,fun _ _ h=>h.elim⟩
  ·intro t v hv;obtain⟨_,p,hp,rfl⟩:=MN lits 0 args Xg t v FU Q7 hv;obtain⟨x,hx,hr⟩:=hargs.get hp;have hx':bQ[t]? = some x:=by simpa using hx
   refine⟨x,?_,?_⟩
   ·have:=size_of_getElem? hx';simp only;rw[Array.getElem?_append_left this];exact hx'
   simp only[ai];exact bV (fun r _ h=>hNF r h) (fun _ _ _=>rfl) _ _ hr
  ·show (bQ++Array.replicate (fn.ntmps-bQ.size) undef).size=fn.ntmps
   simp;omega
  ·intro b box hb;simp[lk] at hb
  ·intro b b' r hb;exact hb.elim
  ·rintro r ⟨b,hb⟩;exact hb.elim
  rintro r ⟨b,hb⟩;exact hb.elim
 refine Go.wpIn_mono (dY (ro:=none) hT jg (codeOf fn) ⟨fun _ h=>(by cases h),fun _ _ h=>(by cases h)⟩ g hf.ok h) ?_;rintro e a' Xh ⟨R',s',hK,Xi⟩
 obtain⟨Ds,mkD⟩:=Xi.marks;obtain⟨w',aad,g',hleave⟩:=qb (P:=P) (fn:=fn) (Rr:=fun e w'=>∃v r,e=.returned v∧Q r∧aU F w' r v∧Same w w') (Nat.le_refl _) (fun _ _ h=>(by cases h)) Ds a' Xh Xi mkD;have fin:(xY T s' fn.results.toList fun vs=>Q5 s'.hp vs Q)→LeavesInM Fence.wide 0 P fn a'.tmps (fun e w'=>∃v r,e=.returned v∧Q r∧aU F w' r v∧Same w w') a'.defers .returning Xh:=by
  intro hK;refine hleave ?_;obtain⟨vs,us,h1,h2,h3⟩:=mh g' hT _ hK;obtain⟨r,v,h4,h5,h6⟩:=Kt g' h2 h3;refine⟨v,?_,v,r,rfl,h5,h6,g'.iE⟩;have hres:results fn a'.tmps=(fn.results.mapM (FT P a'.tmps) >>= fun vs=>pure (if h:vs.size=1 then vs[0] else .tuple vs)):=by
   unfold results;congr 2
  have hm:(fn.results.mapM (FT P a'.tmps)).run P w'=.ok us.toArray w':=by
   rw[Array.mapM_eq_mapM_toList,Sem.run_map,h1];rfl
  rw[hres];simp only[Sem.run_bind,hm,Result.andThen_ok,Sem.run_pure];exact congrArg (fun x=>Result.ok x w') h4
 cases e with
 |normal=>exact fin hK
 |ret=>exact fin hK
 |exit i=>exact hK.elim
 |goto l=>exact hK.elim
 |panic ch=>exact hK.elim
 |outgrown=>exact hK.elim
def Ec:List Nat→List AV→Option (List (Nat×AV))
 |_,[]=>some []
 |[],_::_=>none
 | k::ks,p::r=>match Ec ks r with
   |some t=>some ((k,p)::t)
   |none=>none
def Q8 (args:List AV)(hp:List (Nat×au))(K:AS→Prop):Prop:=
 match Ec lits args with
 |some tm=>K ⟨tm,1000000000,hp⟩
 |none=>False
def MO (vs:List AV):AV:=
 match gY vs with
 |some ps=>.pv (.fM ps)
 |none=>.fM vs
def Q9 (hp:List (Nat×au))(vs:List AV)(Q:AV→List (Nat×au)→Prop):Prop:=
 match vs with
 |[v]=>Vq hp v Q
 | _=>match MO vs with
   |v=>Vq hp v Q
def fnG (T:Tab)(rs:List ResultVar)(Q:AV→List (Nat×au)→Prop)(e:Exit)(s:AS):Prop:=
 match e with
 |.normal=>xY T s rs fun vs=>Q9 s.hp vs Q
 |.ret=>xY T s rs fun vs=>Q9 s.hp vs Q
 |_=>False
theorem Bg:∀(ks:List Nat) (k:Nat) (args:List AV) (tm:List (Nat×AV)) (t:Nat) (v:AV),(∀i x,ks[i]? = some x→x=k+i)→Ec ks args=some tm→lk tm t=some v →
  k≤t∧args[t-k]? = some v
 |ks,k,[],tm,t,v,_,hn,h=>by cases ks<;>simp only[Ec,Option.some.injEq] at hn<;>subst hn<;>simp[lk] at h
 |[],k,p::r,tm,t,v,_,hn,h=>by simp[Ec] at hn
 | k'::ks,k,p::r,tm,t,v,hk,hn,h=>by
   simp only[Ec] at hn;split at hn
   ·rename_i tm' Ol;simp only[Option.some.injEq] at hn;subst hn;have hk0:k'=k:=by simpa using hk 0 k' rfl
    subst hk0;rw[ak] at h;split at h
    ·rename_i e;simp only[Option.some.injEq] at h;subst e;subst h;exact⟨Nat.le_refl _,by simp⟩
    rename_i e;obtain⟨h1,h2⟩:=Bg ks (k'+1) r tm' t v (fun i x hx=>by have:=hk (i+1) x (by simpa using hx);omega) Ol h;refine⟨by omega,?_⟩;rw[show t-k'=(t-(k'+1))+1 from by omega,List.getElem?_cons_succ];exact h2
   cases hn
theorem Ku {c:Ctx}{R:Real}{hp:List (Nat×au)}{w:World}(g:vZ c R hp w){vs:List AV}{us:List Value}{Q:AV→List (Nat×au)→Prop}(h:Q9 hp vs Q)
  (hv:FL (ai (aG c R hp) w hp R) vs us):∃r hp' R',Q r hp'∧vZ c R' hp' w∧ai (aG c R' hp') w hp' R' r (if hu:us.toArray.size=1 then us.toArray[0] else .tuple us.toArray):=by
 have hl:=hv.length;unfold Q9 at h;split at h
 ·rename_i v;obtain⟨u,r,rfl,hu,hr⟩:=hv;simp only[FL] at hr;subst hr;exact uV h g (by simpa using hu)
 rename_i hne;have hsz:us.toArray.size≠1:=by
  intro e;simp only[List.size_toArray] at e;rw[e] at hl;match vs with
  |[v]=>exact hne v rfl
  |[]=>simp at hl
  |_::_::_=>simp at hl
 rw[dif_neg hsz];refine uV h g ?_;have hv':=(dn _ _ _ _ _ _).2 hv;unfold MO;split
 ·rename_i ps hps;have:=tH hps;subst this;simp only[ai,aU];exact⟨us.toArray,rfl,nI _ _ hv'⟩
 simp only[ai];exact⟨us.toArray,rfl,hv'⟩
theorem wm (hT:bA P T)(jg:∀(c:Ctx) (R:Real) (s:AS) (a:Act) (w:World) (id:Nat) (ops:Array Oper) (K:Exit→AS→Prop) (ro:Option Nat),aS c R s a w→mg c.n ops.toList=true →
  VC P T (.region id ops true) s K→(Code.region id ops true).wpIn (W1 ro) 0 P (fun e a' w'=>∃R' s',K e s'∧aS c R' s' a' w') a w)
  {f:FuncId} {fn:Func} (hf:bG P f fn) {args:List AV} {hp:List (Nat×au)} (hl:Nat.ble args.length fn.ntmps=true) {Q:AV→List (Nat×au)→Prop}
  (h:Q8 args hp fun s=>VC P T (codeOf fn) s (fnG T fn.results.toList Q)):GC P f args hp Q:=by
 unfold Q8 at h;split at h
 case h_2=>exact h.elim
 rename_i Xg Q7;refine⟨⟨fn,hf.func,hf.body,hf.name⟩,fun c R w bQ hh hargs=>?_⟩;have hbody:fn.body=some (codeOf fn):=by
  have:=hf.body;unfold codeOf;cases hb:fn.body with
  |none=>rw[hb] at this;cases this
  |some c=>rfl
 have hl:=Nat.le_of_ble_eq_true hl;rw[dn] at hargs;have hcl:bQ.size=args.length:=by have:=hargs.length;simpa using this
 let c':Ctx:={ c with n:=fn.ntmps,lo:=w.heap.size }
 have Qv:vZ c' R hp w:=⟨hh.boxes,hh.inj,hh.free,hh.iE,hh.fG,hh.kept,hh.fixed,⟨hh.lo.1,Nat.le_trans hh.lo.2.1 hh.lo.2.2,Nat.le_refl _⟩⟩;refine callsIn_wide.1 (callsIn_of_wp_marks (n:=0) hf.func hbody trivial ?_);have g:aS c' R ⟨Xg,1000000000,hp⟩ { tmps:=bQ++Array.replicate (fn.ntmps-bQ.size) undef,defers:=[] } w:=by
  refine Qv.U1 ?_ ?_ ⟨[],Marks.nil⟩
  ·intro t v hv;obtain⟨_,hp⟩:=Bg lits 0 args Xg t v FU Q7 hv;obtain⟨x,hx,hr⟩:=hargs.get hp;have hx':bQ[t]? = some x:=by simpa using hx
   refine⟨x,?_,hr⟩;have:=size_of_getElem? hx';simp only;rw[Array.getElem?_append_left this];exact hx'
  show (bQ++Array.replicate (fn.ntmps-bQ.size) undef).size=fn.ntmps
  simp;omega
 refine Go.wpIn_mono (dY (c:=c') (ro:=none) hT jg (codeOf fn) ⟨fun _ h=>(by cases h),hh.fixed.nc⟩ g hf.ok h) ?_;rintro e a' Xh ⟨R',s',hK,Xi⟩
 obtain⟨Ds,mkD⟩:=Xi.marks;obtain⟨w',aad,g',hleave⟩:=qb (c:=c') (P:=P) (fn:=fn) (Rr:=fun e w'=>∃v r hp' R',e=.returned v∧Q r hp'∧vZ c R' hp' w'∧ai (aG c R' hp') w' hp' R' r v) hh.iE.size (fun r o h=>size_of_getElem? (hh.fixed.obj r o h)) Ds a' Xh Xi mkD;have fin:(xY T s' fn.results.toList fun vs=>Q9 s'.hp vs Q)→LeavesInM Fence.wide 0 P fn a'.tmps (fun e w'=>∃v r hp' R',e=.returned v∧Q r hp'∧vZ c R' hp' w'∧ai (aG c R' hp') w' hp' R' r v) a'.defers .returning Xh:=by
  intro hK;refine hleave ?_;obtain⟨vs,us,h1,h2,h3⟩:=mh g' hT _ hK;obtain⟨r,hp',R2,h4,h5,h6⟩:=Ku g'.hap h2 h3;refine⟨_,?_,_,r,hp',R2,rfl,h4,⟨h5.boxes,h5.inj,h5.free,h5.iE,h5.fG,h5.kept,h5.fixed,⟨h5.lo.1,hh.lo.2.1,?_⟩⟩,h6⟩;rotate_left
  ·have h1:w.heap.size≤w'.heap.size:=h5.lo.2.2;exact Nat.le_trans hh.lo.2.2 h1
  have hres:results fn a'.tmps=(fn.results.mapM (FT P a'.tmps) >>= fun vs=>pure (if h:vs.size=1 then vs[0] else .tuple vs)):=by
   unfold results;congr 2
  have hm:(fn.results.mapM (FT P a'.tmps)).run P w'=.ok us.toArray w':=by
   rw[Array.mapM_eq_mapM_toList,Sem.run_map,h1];rfl
  rw[hres];simp only[Sem.run_bind,hm,Result.andThen_ok,Sem.run_pure]
 cases e with
 |normal=>exact fin hK
 |ret=>exact fin hK
 |exit i=>exact hK.elim
 |goto l=>exact hK.elim
 |panic ch=>exact hK.elim
 |outgrown=>exact hK.elim
end
mutual
def flatK (P:Program):Nat→TypeId→Option (List EK)
 |0,_=>none
 | d+1,t=>match P.underlying t with
   |some .bool=>some [.bool]
   |some (.int k)=>some [.int k]
   |some .string=>some [.str]
   | some (.struct fs)=>match P.stoodInHeld t with
     |true=>none
     |false=>uW P d fs.toList 0
   |_=>none
def uW (P:Program):Nat→List Field→Nat→Option (List EK)
 |_,[],_=>some []
 |0,_::_,_=>none
 | d+1,f::fs,off=>match f.name == "_",Nat.beq f.offset off with
   | false,true=>match flatK P d f.type with
     | some a=>match Nat.beq (P.cellsOf f.type) a.length,Nat.beq a.length 0 with
       | true,false=>match uW P d fs (off+a.length) with
         |some b=>some (a++b)
         |none=>none
       |_,_=>none
     |none=>none
   |_,_=>none
end
theorem lQ {k:EK}{ks:List EK}{x y:Value}{xs ys:List Value}{b:Bool}:jN (k::ks) (x::xs) (y::ys)=some b↔∃a c,X7 k x y=some a∧jN ks xs ys=some c∧b=(a&&c):=by
 simp only[jN];cases h:X7 k x y with
 |none=>simp
 | some a=>
   simp only[Option.some.injEq];cases ks with
   | nil=>
     cases xs<;>cases ys<;>simp[jN]
     constructor
     ·rintro rfl;rfl
     rintro rfl;rfl
   | cons k2 ks=>
     simp only;cases h2:jN (k2::ks) xs ys with
     |none=>simp
     | some c=>
       simp only[Option.some.injEq];constructor
       ·rintro rfl;exact⟨a,c,rfl,rfl,rfl⟩
       rintro⟨_,_,rfl,rfl,rfl⟩;rfl
theorem HV:∀{ks:List EK} {xs ys:List Value} {b:Bool},jN ks xs ys=some b→xs.length=ks.length∧ys.length=ks.length
 |[],[],[],b,_=>⟨rfl,rfl⟩
 |[],[],_::_,b,h=>by simp[jN] at h
 |[],_::_,_,b,h=>by simp[jN] at h
 |k::ks,[],_,b,h=>by simp[jN] at h
 |k::ks,_::_,[],b,h=>by simp[jN] at h
 | k::ks,x::xs,y::ys,b,h=>by
   obtain⟨a,c,_,h2,_⟩:=lQ.1 h;have:=HV h2;simp[this]
theorem HY {xs ys:List Value}{b:Bool}(h:jN [] xs ys=some b):b=true:=by
 cases xs<;>cases ys<;>simp[jN] at h
 exact h
theorem za:∀{k1 k2:List EK} {xs ys:List Value} {b:Bool},jN (k1++k2) xs ys=some b →
  ∃a c,jN k1 (xs.take k1.length) (ys.take k1.length)=some a∧jN k2 (xs.drop k1.length) (ys.drop k1.length)=some c∧b=(a&&c)
 |[],k2,xs,ys,b,h=>⟨true,b,by simp[jN],by simpa using h,by simp⟩
 |k::k1,k2,[],ys,b,h=>by simp[jN] at h
 |k::k1,k2,x::xs,[],b,h=>by simp[jN] at h
 | k::k1,k2,x::xs,y::ys,b,h=>by
   rw[List.cons_append] at h;obtain⟨a,c,h1,h2,rfl⟩:=lQ.1 h;obtain⟨a',c',h3,h4,rfl⟩:=za h2;refine⟨a&&a',c',?_,by simpa using h4,by simp[Bool.and_assoc]⟩;simp only[List.length_cons,List.take_succ_cons];exact lQ.2 ⟨a,a',h1,h3,rfl⟩
section
variable {P:Program}
def aae (P:Program)(d:Nat):Prop:=∀(t:TypeId) (ks:List EK) (n:Nat) (w:World),flatK P d t=some ks→d≤n →
 (∀(x y:Value) (b:Bool),(match P.underlying t with|some (.struct _)=>False|_=>True)→jN ks [x] [y]=some b→(Op.equalIn n t x y).run P w=.ok b w) ∧
 (∀(xs ys:Array Value) (b:Bool),(match P.underlying t with|some (.struct _)=>True|_=>False)→jN ks xs.toList ys.toList=some b→(Op.equalIn n t (.agg xs) (.agg ys)).run P w=.ok b w)
theorem aaf:∀(d:Nat),aae P d:=by
 intro d;induction d using Nat.strongRecOn with
 | _ d ih=>
   intro t ks n w h hn;cases d with
   |zero=>simp[flatK] at h
   | succ d=>
     obtain⟨m,rfl⟩:∃m,n=m+1:=⟨n-1,by omega⟩;simp only[flatK] at h;split at h
     ·rename_i hu;simp only[Option.some.injEq] at h;subst h;refine⟨fun x y b _ hb=>?_,fun xs ys b hs=>by rw[hu] at hs;exact hs.elim⟩;obtain⟨a,c,h1,h2,rfl⟩:=lQ.1 hb;simp only[jN,Option.some.injEq] at h2;subst h2;cases x<;>cases y<;>simp[X7] at h1
      subst h1;simpa using run_equalIn_bool w m t _ _ hu
     ·rename_i k hu;simp only[Option.some.injEq] at h;subst h;refine⟨fun x y b _ hb=>?_,fun xs ys b hs=>by rw[hu] at hs;exact hs.elim⟩;obtain⟨a,c,h1,h2,rfl⟩:=lQ.1 hb;simp only[jN,Option.some.injEq] at h2;subst h2;cases x<;>cases y<;>simp only[X7] at h1<;>try (cases h1;done)
      split at h1
      ·rename_i e1 e2;have e1:=of_decide_eq_true e1;have e2:=of_decide_eq_true e2;subst e1;subst e2;simp only[Option.some.injEq] at h1;subst h1;simpa using run_equalIn_int w m t _ _ _ _ hu
      cases h1
     ·rename_i hu;simp only[Option.some.injEq] at h;subst h;refine⟨fun x y b _ hb=>?_,fun xs ys b hs=>by rw[hu] at hs;exact hs.elim⟩;obtain⟨a,c,h1,h2,rfl⟩:=lQ.1 hb;simp only[jN,Option.some.injEq] at h2;subst h2;cases x<;>cases y<;>simp only[X7] at h1<;>try (cases h1;done)
      simp only[Option.some.injEq] at h1;subst h1;simpa using run_equalIn_string w m t _ _ hu
     ·rename_i fs hu;split at h
      ·cases h
      rename_i hst;refine⟨fun x y b hs=>by rw[hu] at hs;exact hs.elim,fun xs ys b _ hb=>?_⟩;have XO:P.fieldsOf t=fs:=by simp[Program.fieldsOf,hu]
      rw[run_equalIn_struct w m t xs ys (by rw[XO];exact hu) hst,XO];have key:∀(d':Nat) (fl:List Field) (off:Nat) (ks:List EK) (b:Bool),d'≤d→uW P d' fl off=some ks→jN ks (xs.toList.drop off) (ys.toList.drop off)=some b →
        (Op.eqFields m xs ys fl).run P w=.ok b w:=by
       intro d';induction d' with
       | zero=>
         intro fl off ks b _ h hb;cases fl with
         | nil=>
           simp only[uW,Option.some.injEq] at h;subst h;have:=HY hb;subst this;simp[Op.eqFields]
         |cons f fl=>simp[uW] at h
       | succ d' ih2=>
         intro fl off ks b hd' h hb;cases fl with
         | nil=>
           simp only[uW,Option.some.injEq] at h;subst h;have:=HY hb;subst this;simp[Op.eqFields]
         | cons f fl=>
           simp only[uW] at h;split at h
           ·rename_i hnm hoff;have hoff:=Nat.eq_of_beq_eq_true hoff;split at h
            ·rename_i ka hka;split at h
             ·rename_i hsz hk0;have hsz:=Nat.eq_of_beq_eq_true hsz;have hk0:=Nat.ne_of_beq_eq_false hk0;split at h
              ·rename_i kb hkb;simp only[Option.some.injEq] at h;subst h;obtain⟨a1,a2,q1,q2,rfl⟩:=za hb;rw[List.drop_drop,List.drop_drop] at q2;have hrest:=ih2 fl (off+ka.length) kb a2 (by omega) hkb q2;obtain⟨e1,e2⟩:=ih d' (by omega) f.type ka m w hka (by omega);have hne:(f.name ≠ "_")=True:=by simp only[ne_eq,eq_iff_iff,iff_true];intro e;rw[e] at hnm;simp at hnm
               have hlen:=HV q1;have lx:off+ka.length≤xs.size:=by have:=hlen.1;simp at this;omega
               have ly:off+ka.length≤ys.size:=by have:=hlen.2;simp at this;omega
               obtain⟨ii,hii⟩:∃ii,P.info? f.type=some ii:=by
                cases hii:P.info? f.type with
                |some ii=>exact⟨ii,rfl⟩
                | none=>
                  have Qw:P.underlying f.type=none:=by unfold Program.underlying;rw[hii]
                  cases d'<;>simp[flatK,Qw] at hka
               have hsize:ii.size=ka.length:=by rw[←hsz];simp[Program.cellsOf,hii]
               have hparts:∃x y,(Go.part f.type xs f.offset).run P w=.ok x w∧(Go.part f.type ys f.offset).run P w=.ok y w∧(Op.equalIn m f.type x y).run P w=.ok a1 w:=by
                cases Xj:P.underlying f.type with
                |none=>cases d'<;>simp[flatK,Xj] at hka
                | some dd=>
                  have plain:(match dd with|.struct _=>False|.array _ _=>False|_=>True)→ka.length=1→∃x y,(Go.part f.type xs f.offset).run P w=.ok x w∧(Go.part f.type ys f.offset).run P w=.ok y w ∧
                    (Op.equalIn m f.type x y).run P w=.ok a1 w:=by
                   intro hpl h1;have g1:xs[off]? = some xs[off]:=Array.getElem?_eq_getElem (by omega);have g2:ys[off]? = some ys[off]:=Array.getElem?_eq_getElem (by omega);refine⟨xs[off],ys[off],?_,?_,e1 _ _ a1 (by rw[Xj];cases dd<;>first|trivial|exact hpl) ?_⟩
                   ·rw[hoff];cases dd<;>first|exact hpl.elim|simp[Go.part,isAgg,run_underlying Xj,g1]
                   ·rw[hoff];cases dd<;>first|exact hpl.elim|simp[Go.part,isAgg,run_underlying Xj,g2]
                   rw[h1] at q1;have t1:(xs.toList.drop off).take 1=[xs[off]]:=by
                    rw[List.drop_eq_getElem_cons (by simpa using (by omega:off<xs.size))];simp
                   have t2:(ys.toList.drop off).take 1=[ys[off]]:=by
                    rw[List.drop_eq_getElem_cons (by simpa using (by omega:off<ys.size))];simp
                   rw[t1,t2] at q1;exact q1
                  cases d' with
                  |zero=>simp[flatK] at hka
                  | succ d'=>
                    simp only[flatK,Xj] at hka;cases dd<;>simp only at hka<;>try (cases hka;done)
                    ·simp only[Option.some.injEq] at hka;exact plain trivial (by rw[←hka];rfl)
                    ·simp only[Option.some.injEq] at hka;exact plain trivial (by rw[←hka];rfl)
                    ·simp only[Option.some.injEq] at hka;exact plain trivial (by rw[←hka];rfl)
                    refine⟨.agg (xs.extract off (off+ii.size)),.agg (ys.extract off (off+ii.size)),?_,?_,e2 _ _ a1 (by rw[Xj];trivial) ?_⟩
                    ·rw[hoff];simp[Go.part,isAgg,run_underlying Xj,sizeOf,typeInfo,hii]
                    ·rw[hoff];simp[Go.part,isAgg,run_underlying Xj,sizeOf,typeInfo,hii]
                    have f1:(xs.extract off (off+ii.size)).toList=(xs.toList.drop off).take ka.length:=by simp[Array.toList_extract,List.extract,hsize]
                    have f2:(ys.extract off (off+ii.size)).toList=(ys.toList.drop off).take ka.length:=by simp[Array.toList_extract,List.extract,hsize]
                    rw[f1,f2];exact q1
               obtain⟨x,y,p1,p2,p3⟩:=hparts;simp only[Op.eqFields,hne,if_true,Sem.run_bind,p1,p2,p3,Result.andThen_ok];cases a1 with
               |false=>simp
               |true=>simpa using hrest
              cases h
             cases h
            cases h
           cases h
      exact key d fs.toList 0 ks b (Nat.le_refl _) h (by simpa using hb)
     cases h
theorem fH {t:TypeId}{ks:List EK}(h:flatK P 20 t=some ks)(hs:(match P.underlying t with|some (.struct _)=>true|_=>false)=true):aai P t ks:=by
 intro w xs ys b hb;refine (aaf 20 t ks 10000 w h (by omega)).2 xs ys b ?_ hb;cases hu:P.underlying t with
 |none=>rw[hu] at hs;cases hs
 |some d=>rw[hu] at hs;cases d<;>first|trivial|cases hs
end
end Go.AX
namespace Go.AX
theorem Ra {α:Type}:∀{l:List (Nat×α)} {t:Nat} {v:α},lk l t=some v→(t,v)∈l
 |[],t,v,h=>by simp[lk] at h
 | (k,u)::r,t,v,h=>by
   rw[ak] at h;split at h
   ·rename_i e;simp only[Option.some.injEq] at h;subst e;subst h;exact List.mem_cons_self
   exact List.mem_cons_of_mem _ (Ra h)
theorem Du {P:Program}{T:Tab}(h:∀x∈T,bH P x.1 x.2):bA P T:=fun t i hl=>h (t,i) (Ra hl)
def gF {α:Type}(m:(α→Prop)→Prop):Prop:=∀K,m K→∃x,K x∧∀K',K' x→m K'
theorem aP {α:Type}(x:α):gF fun K=>K x:=fun K h=>⟨x,h,fun _ h=>h⟩
theorem lS {α:Type}:gF fun (_:α→Prop)=>False:=fun _ h=>h.elim
theorem aA {α:Type}{p:Prop}{m:(α→Prop)→Prop}(h:p→gF m):gF fun K=>p∧m K:=fun K ⟨hp,hm⟩=>
 let ⟨x,h1,h2⟩:=h hp K hm;⟨x,h1,fun K' h'=>⟨hp,h2 K' h'⟩⟩
theorem kF {α β:Type}{m:β→(α→Prop)→Prop}(h:∀b,gF (m b)):gF fun K=>∃b,m b K:=fun K ⟨b,hm⟩=>
 let ⟨x,h1,h2⟩:=h b K hm;⟨x,h1,fun K' h'=>⟨b,h2 K' h'⟩⟩
theorem FV {α β:Type}{m:(α→Prop)→Prop}(f:α→β)(h:gF m):gF fun K=>m fun x=>K (f x):=fun K hm=>
 let ⟨x,h1,h2⟩:=h _ hm;⟨f x,h1,fun K' h'=>h2 _ h'⟩
theorem Vr {α:Type}{m:(α→Prop)→Prop}{o h':Option Int}{n:Nat}(h:gF m):gF fun K=>X8 o h' n (m K):=by
 intro K hm;cases o with
 | none=>
   obtain⟨x,h1,h2⟩:=h K (by simpa only[X8] using hm);exact⟨x,h1,fun K' h'=>by simpa only[X8] using h2 K' h'⟩
 | some i=>
   obtain⟨a,b,hm⟩:=(by simpa only[X8] using hm:h'=some i∧0<n∧m K);obtain⟨x,h1,h2⟩:=h K hm;exact⟨x,h1,fun K' h'=>by simpa only[X8] using ⟨a,b,h2 K' h'⟩⟩
theorem mo {α:Type}{m:(α→Prop)→Prop}{lo:Int}{o:Option Int}{hi:Int}(h:gF m):gF fun K=>J3 lo o hi (m K):=by
 intro K hm;cases o with
 | none=>
   obtain⟨x,h1,h2⟩:=h K (by simpa only[J3] using hm);exact⟨x,h1,fun K' h'=>by simpa only[J3] using h2 K' h'⟩
 | some i=>
   obtain⟨a,b,hm⟩:=(by simpa only[J3] using hm:lo≤i∧i≤hi∧m K);obtain⟨x,h1,h2⟩:=h K hm;exact⟨x,h1,fun K' h'=>by simpa only[J3] using ⟨a,b,h2 K' h'⟩⟩
theorem Rb (op:BinOp)(k:IntKind)(a b:Int):gF (Oo op k a b):=by
 unfold Oo;cases op<;>first|exact aP _|exact lS|exact aA fun _=>aP _
theorem Rc (op:BinOp)(a b:ByteArray):gF (Rf op a b):=by
 unfold Rf;cases op<;>first|exact aP _|exact lS|exact aA fun _=>aP _
theorem MP (op:BinOp)(b:Bool):gF (MF op b):=by
 unfold MF;cases op<;>first|exact aP _|exact lS
theorem bg {α:Type}{m:(α→Prop)→Prop}{K:α→Prop}{x:α}(h:K x)(hm:∀K',K' x→m K'):∃x,K x∧∀K',K' x→m K':=⟨x,h,hm⟩
theorem av {α:Type}{m m':(α→Prop)→Prop}{K:α→Prop}(hd:gF m)(h:m K)(hm:∀K',m K'→m' K'):∃x,K x∧∀K',K' x→m' K':=
 let ⟨x,h1,h2⟩:=hd K h;⟨x,h1,fun K' h'=>hm K' (h2 K' h')⟩
theorem Rh (i:TI)(op:BinOp)(x y:AV):gF (Kv i op x y):=by
 intro K h;unfold Kv at h;repeat' split at h
 all_goals first
  |exact h.elim
  |exact bg h fun K' h'=>by unfold Kv;simp only[*]<;>first|exact h'|simp
  |exact av (MP _ _) h fun K' h'=>by unfold Kv;simp only[*]<;>first|exact h'|simp
theorem Kw (op:BinOp)(k:IntKind)(a b:Int):gF (xZ op k a b):=by
 intro K h;unfold xZ at h;split at h
 ·exact⟨_,h.2,fun K' h'=>by unfold xZ;exact⟨h.1,h'⟩⟩
 ·exact⟨_,h.2,fun K' h'=>by unfold xZ;exact⟨h.1,h'⟩⟩
 exact h.elim
theorem Ri (T:Tab)(op:BinOp)(t:TypeId)(x y:AV):gF (Di T op t x y):=by
 intro K h;unfold Di at h;repeat' split at h
 all_goals first
  |exact h.elim
  |exact bg h fun K' h'=>by unfold Di;simp only[*]<;>first|exact h'|simp
  |exact av (Kw _ _ _ _) h fun K' h'=>by unfold Di;simp only[*]<;>first|exact h'|simp
  |exact av (Rb _ _ _ _) h fun K' h'=>by unfold Di;simp only[*]<;>first|exact h'|simp
  |exact av (Rc _ _ _) h fun K' h'=>by unfold Di;simp only[*]<;>first|exact h'|simp
  |exact av (Rh _ _ _ _) h fun K' h'=>by unfold Di;simp only[*]<;>first|exact h'|simp
theorem Oq (T:Tab)(H:List (Nat×au))(op:BinOp)(t:TypeId)(x y:AV):gF (Ba T H op t x y):=by
 intro K h;unfold Ba at h;repeat' split at h
 all_goals first
  |exact h.elim
  |exact av (MP _ _) h fun K' h'=>by unfold Ba;simp only[*]<;>first|exact h'|simp
  |exact av (Ri _ _ _ _ _) h fun K' h'=>by unfold Ba;simp only[*]<;>first|exact h'|simp
theorem rM (i:TI)(cs:List AV):gF (qd i cs):=by
 intro K h;unfold qd at h;repeat' split at h
 all_goals first
  |exact h.elim
  |exact bg h fun K' h'=>by unfold qd;simp only[*]<;>first|exact h'|simp
theorem Bh (i:TI)(cs:List PV):gF (wo i cs):=by
 intro K h;unfold wo at h;repeat' split at h
 all_goals first
  |exact h.elim
  |exact bg h fun K' h'=>by unfold wo;simp only[*]<;>first|exact h'|simp
theorem Rj (off:Nat)(i:TI)(row:List PV):gF fun K=>match part off i.size row with
  |some cs=>wo i cs K
  |none=>False:=by
 cases h:part off i.size row with
 |some cs=>exact Bh i cs
 |none=>exact lS
theorem Vs (off:Nat)(row cs:List PV)(F:List PV→AV×List (Nat×au)):gF fun K=>match iT off row cs with
  |some row'=>K (F row')
  |none=>False:=by
 cases h:iT off row cs with
 |some cs=>exact aP _
 |none=>exact lS
theorem Ot (T:Tab)(H:List (Nat×au))(t:TypeId)(x:AV):gF (rH T H t x):=by
 intro K h;unfold rH at h;repeat' split at h
 all_goals first
  |exact h.elim
  |exact bg h fun K' h'=>by unfold rH;simp only[*]<;>first|exact h'|simp
  |exact av (rM _ _) h fun K' h'=>by unfold rH;simp only[*]<;>first|exact h'|simp
  |exact av (kF fun _=>aA fun _=>Rj _ _ _) h fun K' h'=>by unfold rH;simp only[*]<;>first|exact h'|simp
  |exact av (Bh _ _) h fun K' h'=>by unfold rH;simp only[*]<;>first|exact h'|simp
theorem Bj (T:Tab)(H:List (Nat×au))(t:TypeId)(x:AV)(f:Nat):gF (kC T H t x f):=by
 intro K h;unfold kC at h;repeat' split at h
 all_goals first
  |exact h.elim
  |exact bg h fun K' h'=>by unfold kC;simp only[*]<;>first|exact h'|simp
theorem Rk (T:Tab)(t:TypeId)(x:AV)(f:Nat):gF (Hf T t x f):=by
 intro K h;unfold Hf at h;repeat' split at h
 all_goals first
  |exact h.elim
  |exact bg h fun K' h'=>by unfold Hf;simp only[*]<;>first|exact h'|simp
  |exact av (rM _ _) h fun K' h'=>by unfold Hf;simp only[*]<;>first|exact h'|simp
  |exact av (Bh _ _) h fun K' h'=>by unfold Hf;simp only[*]<;>first|exact h'|simp
theorem Bl (T:Tab)(H:List (Nat×au))(t:TypeId)(x ix:AV):gF (dz T H t x ix):=by
 intro K h;unfold dz at h;repeat' split at h
 all_goals first
  |exact h.elim
  |exact bg h fun K' h'=>by unfold dz;simp only[*]<;>first|exact h'|simp
  |exact av (aA fun _=>aP _) h fun K' h'=>by unfold dz;simp only[*]<;>first|exact h'|simp
  |exact av (aA fun _=>aA fun _=>aP _) h fun K' h'=>by unfold dz;simp only[*]<;>first|exact h'|simp
  |exact av (kF fun _=>aA fun _=>aP _) h fun K' h'=>by unfold dz;simp only[*]<;>first|exact h'|simp
  |exact av (aA fun _=>kF fun _=>aA fun _=>aP _) h fun K' h'=>by unfold dz;simp only[*]<;>first|exact h'|simp
  |exact av (aA fun _=>aA fun _=>aA fun _=>aA fun _=>aP _) h fun K' h'=>by unfold dz;simp only[*]<;>first|exact h'|simp
theorem Ky (T:Tab)(t:TypeId)(x ix:AV):gF (mq T t x ix):=by
 intro K h;unfold mq at h;repeat' split at h
 all_goals first
  |exact h.elim
  |exact bg h fun K' h'=>by unfold mq;simp only[*]<;>first|exact h'|simp
  |exact av (aA fun _=>aP _) h fun K' h'=>by unfold mq;simp only[*]<;>first|exact h'|simp
  |exact av (aA fun _=>aA fun _=>aP _) h fun K' h'=>by unfold mq;simp only[*]<;>first|exact h'|simp
  |exact av (kF fun _=>aA fun _=>aP _) h fun K' h'=>by unfold mq;simp only[*]<;>first|exact h'|simp
  |exact av (aA fun _=>kF fun _=>aA fun _=>aP _) h fun K' h'=>by unfold mq;simp only[*]<;>first|exact h'|simp
  |exact av (aA fun _=>aA fun _=>aA fun _=>aA fun _=>aP _) h fun K' h'=>by unfold mq;simp only[*]<;>first|exact h'|simp
theorem FW (x:AV)(i:Nat):gF (oK x i):=by
 intro K h;unfold oK at h;repeat' split at h
 all_goals first
  |exact h.elim
  |exact bg h fun K' h'=>by unfold oK;simp only[*]<;>first|exact h'|simp
theorem Vt (op:UnOp)(x:AV):gF (Zo op x):=by
 intro K h;unfold Zo at h;repeat' split at h
 all_goals first
  |exact h.elim
  |exact bg h fun K' h'=>by unfold Zo;simp only[*]<;>first|exact h'|simp
theorem Ou (T:Tab)(H:List (Nat×au))(src dst:TypeId)(x:AV):gF (rA T H src dst x):=by
 intro K h;unfold rA at h;repeat' split at h
 all_goals first
  |exact h.elim
  |exact bg h fun K' h'=>by unfold rA;simp only[*]<;>first|exact h'|simp
  |exact av (aA fun _=>aP _) h fun K' h'=>by unfold rA;simp only[*]<;>first|exact h'|simp
  |exact av (aA fun _=>aA fun _=>aP _) h fun K' h'=>by unfold rA;simp only[*]<;>first|exact h'|simp
  |exact av (kF fun _=>aA fun _=>aP _) h fun K' h'=>by unfold rA;simp only[*]<;>first|exact h'|simp
  |exact av (aA fun _=>kF fun _=>aA fun _=>aP _) h fun K' h'=>by unfold rA;simp only[*]<;>first|exact h'|simp
  |exact av (aA fun _=>aA fun _=>aA fun _=>aA fun _=>aP _) h fun K' h'=>by unfold rA;simp only[*]<;>first|exact h'|simp
theorem Rl (T:Tab)(H:List (Nat×au))(t:TypeId)(x:AV):gF (Bn T H t x):=by
 intro K h;unfold Bn at h;repeat' split at h
 all_goals first
  |exact h.elim
  |exact bg h fun K' h'=>by unfold Bn;simp only[*]<;>first|exact h'|simp
theorem Kz (T:Tab)(t:TypeId)(lo hi mx:Option Operand)(vs:List AV):gF (l9 T t lo hi mx vs):=by
 intro K h;unfold l9 at h;repeat' split at h
 all_goals first
  |exact h.elim
  |exact bg h fun K' h'=>by unfold l9;simp only[*]<;>first|exact h'|simp
  |exact av (mo (mo (aP _))) h fun K' h'=>by unfold l9;simp only[*]<;>first|exact h'|simp
  |exact av (mo (mo (mo (aP _)))) h fun K' h'=>by unfold l9;simp only[*]<;>first|exact h'|simp
  |exact av (Vr (mo (mo (mo (aP _))))) h fun K' h'=>by unfold l9;simp only[*]<;>first|exact h'|simp
  |exact av (aA fun _=>mo (mo (mo (aP _)))) h fun K' h'=>by have e1:=h'.1;have h2:=h'.2;clear h' h;subst e1;unfold l9;simp only[*,true_and]
theorem KA (T:Tab)(H:List (Nat×au))(t:TypeId)(x y:AV):gF (fun (K:AV×List (Nat×au)→Prop)=>nZ T H t x y fun v ws=>K (v,ws)):=by
 intro K h;unfold nZ at h;repeat' split at h
 all_goals first
  |exact h.elim
  |exact bg h fun K' h'=>by unfold nZ;simp only[*]<;>first|exact h'|simp
  |exact av (kF fun _=>aA fun _=>Vs _ _ _ fun row=>(.pv (.sc undef),[(_,.arr _ _ _ (List.set _ _ row))])) h fun K' h'=>by unfold nZ;simp only[*]<;>first|exact h'|simp
theorem Rm (T:Tab)(H:List (Nat×au))(t:TypeId)(vs:List AV)(id:Nat):gF (fun (K:AV×List (Nat×au)→Prop)=>qR T H t vs id fun v ws=>K (v,ws)):=by
 intro K h;unfold qR at h;simp only[cK] at h;repeat' split at h
 all_goals first
  |exact h.elim
  |exact bg h fun K' h'=>by unfold qR;simp only[cK, *]<;>first|exact h'|simp
  |exact av (aA fun _=>aP _) h fun K' h'=>by unfold qR;simp only[cK, *]<;>first|exact h'|simp
  |exact av (aA fun _=>aA fun _=>aP _) h fun K' h'=>by unfold qR;simp only[cK, *]<;>first|exact h'|simp
  |exact av (kF fun _=>aA fun _=>aP _) h fun K' h'=>by unfold qR;simp only[cK, *]<;>first|exact h'|simp
  |exact av (aA fun _=>kF fun _=>aA fun _=>aP _) h fun K' h'=>by unfold qR;simp only[cK, *]<;>first|exact h'|simp
  |exact av (aA fun _=>aA fun _=>aA fun _=>aA fun _=>aP _) h fun K' h'=>by unfold qR;simp only[cK, *]<;>first|exact h'|simp
theorem Ov (H:List (Nat×au))(f:Fn)(nf:Nat)(vs:List AV):gF (fun (K:AV×List (Nat×au)→Prop)=>D5 H f nf vs fun v ws=>K (v,ws)):=by
 intro K h;unfold D5 at h;repeat' split at h
 all_goals first
  |exact h.elim
  |exact bg h fun K' h'=>by unfold D5;simp only[*]<;>first|exact h'|simp
theorem KC (T:Tab)(t:TypeId)(ks:List Nat)(vs:List AV):gF (xR T t ks vs):=by
 intro K h;unfold xR at h;repeat' split at h
 all_goals first
  |exact h.elim
  |exact bg h fun K' h'=>by unfold xR;simp only[*]<;>first|exact h'|simp
theorem wu (T:Tab)(H:List (Nat×au))(t:TypeId)(len:Nat)(ks:List Nat)(vs:List AV)(id:Nat):gF (fun (K:AV×List (Nat×au)→Prop)=>jS T H t len ks vs id fun v ws=>K (v,ws)):=by
 intro K h;unfold jS at h;simp only[cK] at h;repeat' split at h
 all_goals first
  |exact h.elim
  |exact bg h fun K' h'=>by unfold jS;simp only[cK, *]<;>first|exact h'|simp
theorem Ow (T:Tab)(t:TypeId)(vs:List AV)(id:Nat):gF (fun (K:AV×List (Nat×au)→Prop)=>rz T t vs id fun v ws=>K (v,ws)):=by
 intro K h;unfold rz at h;simp only[cK] at h;repeat' split at h
 all_goals first
  |exact h.elim
  |exact bg h fun K' h'=>by unfold rz;simp only[cK, *]<;>first|exact h'|simp
  |exact av (aA fun _=>aP _) h fun K' h'=>by unfold rz;simp only[cK, *]<;>first|exact h'|simp
  |exact av (aA fun _=>aA fun _=>aP _) h fun K' h'=>by unfold rz;simp only[cK, *]<;>first|exact h'|simp
  |exact av (kF fun _=>aA fun _=>aP _) h fun K' h'=>by unfold rz;simp only[cK, *]<;>first|exact h'|simp
  |exact av (aA fun _=>kF fun _=>aA fun _=>aP _) h fun K' h'=>by unfold rz;simp only[cK, *]<;>first|exact h'|simp
  |exact av (aA fun _=>aA fun _=>aA fun _=>aA fun _=>aP _) h fun K' h'=>by unfold rz;simp only[cK, *]<;>first|exact h'|simp
theorem KD (T:Tab)(t:TypeId)(id:Nat):gF (fun (K:AV×List (Nat×au)→Prop)=>xS T t id fun v ws=>K (v,ws)):=by
 intro K h;unfold xS at h;repeat' split at h
 all_goals first
  |exact h.elim
  |exact bg h fun K' h'=>by unfold xS;simp only[*]<;>first|exact h'|simp
theorem Ro (T:Tab)(t:TypeId)(x:AV)(id:Nat):gF (fun (K:AV×List (Nat×au)→Prop)=>Oa T t x id fun v ws=>K (v,ws)):=by
 intro K h;unfold Oa at h;repeat' split at h
 all_goals first
  |exact h.elim
  |exact bg h fun K' h'=>by unfold Oa;simp only[*]<;>first|exact h'|simp
theorem KE (T:Tab)(H:List (Nat×au))(src dst:TypeId)(x:AV):gF (fun (K:AV×List (Nat×au)→Prop)=>nY T H src dst x fun v ws=>K (v,ws)):=by
 intro K h;unfold nY at h;repeat' split at h
 all_goals first
  |exact h.elim
  |exact bg h fun K' h'=>by unfold nY;simp only[*]<;>first|exact h'|simp
  |exact av (aA fun _=>aP _) h fun K' h'=>by unfold nY;simp only[*]<;>first|exact h'|simp
  |exact av (FV (fun v=>(v,[])) (Ou T H src dst x)) h fun K' h'=>by unfold nY;simp only[*]<;>first|exact h'|simp
theorem HZ (T:Tab)(H:List (Nat×au))(t:TypeId)(lo hi mx:Option Operand)(vs:List AV):gF (fun (K:AV×List (Nat×au)→Prop)=>kM T H t lo hi mx vs fun v ws=>K (v,ws)):=by
 intro K h;unfold kM at h;repeat' split at h
 all_goals first
  |exact h.elim
  |exact bg h fun K' h'=>by unfold kM;simp only[*]<;>first|exact h'|simp
  |exact av (FV (fun v=>(v,_)) (Kz T t lo hi mx _)) h fun K' h'=>by unfold kM;simp only[*]<;>first|exact h'|simp
theorem Rp (tw:Bool)(rows:List (List PV))(b ver:Nat)(e:TypeId)(st:Nat)(l h:Option Int):gF (fun (K:AV×List (Nat×au)→Prop)=>KF tw rows b ver e st l h fun v ws=>K (v,ws)):=by
 intro K hk;unfold KF at hk;repeat' split at hk
 all_goals first
  |exact hk.elim
  |exact bg hk fun K' h'=>by unfold KF;exact h'
  |exact av (aA fun _=>aA fun _=>aP _) hk fun K' h'=>by unfold KF;exact h'
  |exact av (aA fun _=>aA fun _=>aA fun _=>aA fun _=>aP _) hk fun K' h'=>by unfold KF;exact h'
theorem H6 (T:Tab)(H:List (Nat×au))(t:TypeId)(lo hi mx:Option Operand)(vs:List AV):gF (fun (K:AV×List (Nat×au)→Prop)=>lG T H t lo hi mx vs fun v ws=>K (v,ws)):=by
 intro K h;unfold lG at h;repeat' split at h
 all_goals first
  |exact h.elim
  |exact av (HZ T H t lo hi mx _) h fun K' h'=>by unfold lG;simp only[*]<;>first|exact h'|simp
  |exact av (Rp _ _ _ _ _ _ _ _) h fun K' h'=>by unfold lG;simp only[*]<;>first|exact h'|simp
theorem KG (T:Tab)(H:List (Nat×au))(t:TypeId)(x:AV):gF (fun (K:AV×List (Nat×au)→Prop)=>xU T H t x fun v ws=>K (v,ws)):=by
 intro K h;unfold xU at h;repeat' split at h
 all_goals first
  |exact h.elim
  |exact bg h fun K' h'=>by unfold xU;simp only[*]<;>first|exact h'|simp
theorem Ox (T:Tab)(H:List (Nat×au))(t:TypeId)(vs:List AV)(id:Nat):gF (fun (K:AV×List (Nat×au)→Prop)=>qJ T H t vs id fun v ws=>K (v,ws)):=by
 intro K h;unfold qJ at h;repeat' split at h
 all_goals first
  |exact h.elim
  |exact av (Rm T H t _ id) h fun K' h'=>by unfold qJ;simp only[*]<;>first|exact h'|simp
  |exact av (aA fun _=>aP _) h fun K' h'=>by unfold qJ;simp only[*]<;>first|exact h'|simp
theorem Oy (T:Tab)(H:List (Nat×au))(t:TypeId)(lo hi mx:Option Operand)(b ver st l0:Nat)(r:List AV):gF (fun (K:AV×List (Nat×au)→Prop)=>Ed T H t lo hi mx b ver st l0 r fun v ws=>K (v,ws)):=by
 intro K h;unfold Ed at h;repeat' split at h
 all_goals first
  |exact h.elim
  |exact av (aA fun _=>aA fun _=>aA fun _=>aA fun _=>aP _) h fun K' h'=>by unfold Ed;simp only[*]<;>first|exact h'|simp
theorem Oz (T:Tab)(H:List (Nat×au))(t:TypeId)(lo hi mx:Option Operand)(b ver:Nat)(r:List AV):gF (fun (K:AV×List (Nat×au)→Prop)=>Ee T H t lo hi mx b ver r fun v ws=>K (v,ws)):=by
 intro K h;unfold Ee at h;repeat' split at h
 all_goals first
  |exact h.elim
  |exact av (aA fun _=>aA fun _=>aA fun _=>aA fun _=>aA fun _=>aA fun _=>aP _) h fun K' h'=>by unfold Ee;simp only[*]<;>first|exact h'|simp
theorem H7 (T:Tab)(H:List (Nat×au))(t:TypeId)(lo hi mx:Option Operand)(vs:List AV):gF (fun (K:AV×List (Nat×au)→Prop)=>nH T H t lo hi mx vs fun v ws=>K (v,ws)):=by
 intro K h;unfold nH at h;repeat' split at h
 all_goals first
  |exact h.elim
  |exact av (H6 T H t lo hi mx _) h fun K' h'=>by unfold nH;simp only[*]<;>first|exact h'|simp
  |exact av (Oy _ _ _ _ _ _ _ _ _ _ _) h fun K' h'=>by unfold nH;simp only[*]<;>first|exact h'|simp
  |exact av (Oz _ _ _ _ _ _ _ _ _) h fun K' h'=>by unfold nH;simp only[*]<;>first|exact h'|simp
theorem Vu (mx:Bool)(vs:List AV):gF (Vd mx vs):=by
 intro K h;unfold Vd at h;repeat' split at h
 all_goals first
  |exact h.elim
  |exact bg h fun K' h'=>by unfold Vd;simp only[*]<;>first|exact h'|simp
theorem Rt (r:PV)(H:List (Nat×au))(ids:List Nat):gF fun (K:AV×List (Nat×au)→Prop)=>match zZ r with
  |true=>K (.pv r,[])
  | false=>match DZ H ids with
    |some fs=>K (.pv r,fs)
    |none=>False:=by
 cases h:zZ r with
 |true=>exact aP _
 | false=>cases h2:DZ H ids with
   |some fs=>exact aP _
   |none=>exact lS
theorem OA (P:Program)(H:List (Nat×au))(vs:List AV):gF fun (K:AV×List (Nat×au)→Prop)=>D8 P H vs fun v ws=>K (v,ws):=by
 intro K h;unfold D8 at h;split at h
 ·split at h
  ·exact av (kF fun r=>aA fun _=>Rt r _ _) h fun K' h'=>by unfold D8;simp only[*]<;>first|exact h'|simp
  exact h.elim
 exact h.elim
theorem qK {m:(AV→Prop)→Prop}(h:gF m):gF fun (K:AV×List (Nat×au)→Prop)=>m fun v=>K (v,[]):=FV (fun v=>(v,[])) h
theorem Ru (H:List (Nat×au))(op:UnOp)(x:AV):gF (Od H op x):=by
 cases x with
 | bU b ver i off=>
   intro K h;unfold Od at h;simp only at h;repeat' split at h
   all_goals first
    |exact h.elim
    |exact bg h fun K' h'=>by unfold Od;simp only[*]<;>first|exact h'|simp
 |_=>exact Vt op _
theorem KH (T:Tab)(H:List (Nat×au))(t:TypeId)(x:AV):gF (rO T H t x):=by
 intro K h;unfold rO at h;repeat' split at h
 all_goals first
  |exact h.elim
  |exact av (aA fun _=>rM _ _) h fun K' h'=>by unfold rO;simp only[*]<;>first|exact h'|simp
  |exact av (Ot T H t _) h fun K' h'=>by unfold rO;first|exact h'|(simp only[*]<;>first|exact h'|simp)|(split<;>first|exact h'|simp_all)
theorem H8 (T:Tab)(H:List (Nat×au))(t:TypeId)(x y:AV):gF (fun (K:AV×List (Nat×au)→Prop)=>kN T H t x y fun v ws=>K (v,ws)):=by
 intro K h;unfold kN at h;repeat' split at h
 all_goals first
  |exact h.elim
  |exact av (aA fun _=>aP (_,_)) h fun K' h'=>by unfold kN;simp only[*]<;>first|exact h'|simp
  |exact av (KA T H t _ y) h fun K' h'=>by unfold kN;first|exact h'|(simp only[*]<;>first|exact h'|simp)|(split<;>first|exact h'|simp_all)
theorem Rw (T:Tab)(H:List (Nat×au))(t:TypeId)(x ix:AV):gF (H9 T H t x ix):=by
 intro K h;unfold H9 at h;repeat' split at h
 all_goals first
  |exact h.elim
  |exact av (aA fun _=>aA fun _=>aP _) h fun K' h'=>by unfold H9;simp only[*]<;>first|exact h'|simp
  |exact av (Bl T H t _ ix) h fun K' h'=>by unfold H9;first|exact h'|(simp only[*]<;>first|exact h'|simp)|(split<;>first|exact h'|simp_all)
theorem OB (T:Tab)(H:List (Nat×au))(t:TypeId)(x:AV):gF (zb T H t x):=by
 intro K h;unfold zb at h;repeat' split at h
 all_goals first
  |exact h.elim
  |exact av (Rl T H t _) h fun K' h'=>by unfold zb;first|exact h'|(simp only[*]<;>first|exact h'|simp)|(split<;>first|exact h'|simp_all)
  |exact bg h fun K' h'=>by unfold zb;simp only[*]<;>first|exact h'|simp
theorem Ia (T:Tab)(t:TypeId)(len:Nat)(ks:List Nat)(cs:List AV)(id:Nat):gF (fun (K:AV×List (Nat×au)→Prop)=>tL T t len ks cs id fun v ws=>K (v,ws)):=by
 intro K h;unfold tL at h;simp only[cK] at h;repeat' split at h
 all_goals first
  |exact h.elim
  |exact bg h fun K' h'=>by unfold tL;simp only[cK];simp only[*]<;>first|exact h'|simp
theorem Ib (T:Tab)(H:List (Nat×au))(t:TypeId)(len:Nat)(ks:List Nat)(vs:List AV)(id:Nat):gF (fun (K:AV×List (Nat×au)→Prop)=>nG T H t len ks vs id fun v ws=>K (v,ws)):=by
 intro K h;unfold nG at h;split at h
 ·rename_i hp;split at h
  ·exact av (Ia T t len ks _ id) h fun K' h'=>by unfold nG;simp only[hp];exact h'
  rename_i vs hne;refine av (wu T H t len ks _ id) h fun K' h'=>?_
  unfold nG;simp only[hp];exact h'
 rename_i hp;exact av (wu T H t len ks _ id) h fun K' h'=>by unfold nG;simp only[hp];exact h'
theorem OC (T:Tab)(H:List (Nat×au))(t:TypeId)(d:AV)(k kv id:Nat):gF (fun (K:AV×List (Nat×au)→Prop)=>ze T H t d k kv id fun v ws=>K (v,ws)):=by
 intro K h;unfold ze at h;simp only[cK] at h;repeat' split at h
 all_goals first
  |exact h.elim
  |exact av (aA fun _=>aP (_,_)) h fun K' h'=>by unfold ze;simp only[cK];simp only[*]<;>first|exact h'|simp
theorem Bo (T:Tab)(t:TypeId)(ver:Nat)(o:Option au)(src:Nat→Option (List (List PV)))(b:Nat):gF (fun (K:AV×List (Nat×au)→Prop)=>uX T t ver o src b fun v ws=>K (v,ws)):=by
 intro K h;unfold uX at h;simp only[cK] at h;repeat' split at h
 all_goals first
  |exact h.elim
  |exact av (aA fun _=>aP (_,_)) h fun K' h'=>by unfold uX;simp only[cK];simp only[*]<;>first|exact h'|simp
theorem OD (T:Tab)(H:List (Nat×au))(t:TypeId)(b ver:Nat)(x:AV):gF (fun (K:AV×List (Nat×au)→Prop)=>zf T H t b ver x fun v ws=>K (v,ws)):=by
 intro K h;unfold zf at h;split at h
 ·exact av (Bo T t ver _ _ b) h fun K' h'=>by unfold zf;exact h'
 ·split at h
  ·exact h.elim
  rename_i hb;exact av (Bo T t ver _ _ b) h fun K' h'=>by unfold zf;simp only[hb];exact h'
 exact h.elim
theorem OE (T:Tab)(H:List (Nat×au))(t:TypeId)(vs:List AV)(id:Nat):gF (fun (K:AV×List (Nat×au)→Prop)=>uy T H t vs id fun v ws=>K (v,ws)):=by
 intro K h;unfold uy at h;repeat' split at h
 all_goals first
  |exact h.elim
  |exact av (OC T H t _ _ _ id) h fun K' h'=>by unfold uy;simp only[*]<;>first|exact h'|simp
  |exact av (OD T H t _ _ _) h fun K' h'=>by unfold uy;first|(simp only[*];done)|(simp only[*]<;>first|exact h'|simp)|(split<;>first|exact h'|simp_all)
  |exact av (Ox T H t _ id) h fun K' h'=>by unfold uy;first|exact h'|(simp only[*]<;>first|exact h'|simp)|(repeat' split)<;>first|exact h'|simp_all
theorem KI (T:Tab)(t:TypeId)(id:Nat):gF (fun (K:AV×List (Nat×au)→Prop)=>xV T t id fun v ws=>K (v,ws)):=by
 intro K h;unfold xV at h;split at h
 ·exact bg h fun K' h'=>by unfold xV;simp only[*]<;>first|exact h'|simp
 exact h.elim
theorem OG (T:Tab)(H:List (Nat×au))(t:TypeId)(x ix:AV):gF (Ea T H t x ix):=by
 intro K h;unfold Ea at h;repeat' split at h
 all_goals first
  |exact h.elim
  |exact av (aA fun _=>aA fun _=>aP _) h fun K' h'=>by unfold Ea;simp only[*]<;>first|exact h'|simp
theorem Ic (T:Tab)(H:List (Nat×au))(t:TypeId)(x ix y:AV):gF (fun (K:AV×List (Nat×au)→Prop)=>tC T H t x ix y fun v ws=>K (v,ws)):=by
 intro K h;unfold tC at h;repeat' split at h
 all_goals first
  |exact h.elim
  |exact av (aA fun _=>aA fun _=>aP (_,_)) h fun K' h'=>by unfold tC;simp only[*]<;>first|exact h'|simp
theorem KJ (T:Tab)(H:List (Nat×au))(t:TypeId)(x:AV):gF (uO T H t x):=by
 intro K h;unfold uO at h;repeat' split at h
 all_goals first
  |exact h.elim
  |exact av (aA fun _=>rM _ _) h fun K' h'=>by unfold uO;simp only[*]<;>first|exact h'|simp
  |exact av (KH T H t _) h fun K' h'=>by unfold uO;first|exact h'|(simp only[*]<;>first|exact h'|simp)|(split<;>first|exact h'|simp_all)
theorem Ie (T:Tab)(H:List (Nat×au))(t:TypeId)(x y:AV):gF (fun (K:AV×List (Nat×au)→Prop)=>qa T H t x y fun v ws=>K (v,ws)):=by
 intro K h;unfold qa at h;repeat' split at h
 all_goals first
  |exact h.elim
  |exact av (aA fun _=>aP (_,_)) h fun K' h'=>by unfold qa;simp only[*]<;>first|exact h'|simp
  |exact av (H8 T H t _ y) h fun K' h'=>by unfold qa;first|exact h'|(simp only[*]<;>first|exact h'|simp)|(split<;>first|exact h'|simp_all)
theorem Rx (T:Tab)(H:List (Nat×au))(t:TypeId)(x ix:AV):gF (KL T H t x ix):=by
 intro K h;unfold KL at h;repeat' split at h
 all_goals first
  |exact h.elim
  |exact av (aA fun _=>aA fun _=>aP _) h fun K' h'=>by unfold KL;simp only[*]<;>first|exact h'|simp
  |exact av (Rw T H t _ ix) h fun K' h'=>by unfold KL;first|exact h'|(simp only[*]<;>first|exact h'|simp)|(split<;>first|exact h'|simp_all)
theorem KM (T:Tab)(H:List (Nat×au))(src dst:TypeId)(x:AV):gF (fun (K:AV×List (Nat×au)→Prop)=>uP T H src dst x fun v ws=>K (v,ws)):=by
 intro K h;unfold uP at h;repeat' split at h
 all_goals first
  |exact h.elim
  |exact bg h fun K' h'=>by unfold uP;simp only[*]<;>first|exact h'|simp
  |exact av (KE T H src dst _) h fun K' h'=>by unfold uP;first|exact h'|(simp only[*]<;>first|exact h'|simp)|(split<;>first|exact h'|simp_all)
theorem Ry (T:Tab)(H:List (Nat×au))(t:TypeId)(x ix:AV):gF (Kg T H t x ix):=by
 intro K h;unfold Kg at h;repeat' split at h
 all_goals first
  |exact h.elim
  |exact av (aA fun _=>aA fun _=>aP _) h fun K' h'=>by unfold Kg;simp only[*]<;>first|exact h'|simp
  |exact av (Rx T H t _ ix) h fun K' h'=>by unfold Kg;first|exact h'|(simp only[*]<;>first|exact h'|simp)|(split<;>first|exact h'|simp_all)
theorem OH (T:Tab)(H:List (Nat×au))(t:TypeId)(x:AV):gF (Bp T H t x):=by
 intro K h;unfold Bp at h;repeat' split at h
 all_goals first
  |exact h.elim
  |exact av (OB T H t _) h fun K' h'=>by unfold Bp;first|exact h'|(simp only[*]<;>first|exact h'|simp)|(split<;>first|exact h'|simp_all)
  |exact bg h fun K' h'=>by unfold Bp;simp only[*]<;>first|exact h'|simp
theorem OI (T:Tab)(H:List (Nat×au))(t:TypeId)(b ver k kv:Nat):gF (fun (K:AV×List (Nat×au)→Prop)=>Ef T H t b ver k kv fun v ws=>K (v,ws)):=by
 intro K h;unfold Ef at h;simp only[cK] at h;repeat' split at h
 all_goals first
  |exact h.elim
  |exact av (aA fun _=>aP (_,_)) h fun K' h'=>by unfold Ef;simp only[cK];simp only[*]<;>first|exact h'|simp
theorem OJ (T:Tab)(H:List (Nat×au))(t:TypeId)(vs:List AV)(id:Nat):gF (fun (K:AV×List (Nat×au)→Prop)=>y5 T H t vs id fun v ws=>K (v,ws)):=by
 intro K h;unfold y5 at h;repeat' split at h
 all_goals first
  |exact h.elim
  |exact av (OI T H t _ _ _ _) h fun K' h'=>by unfold y5;simp only[*]<;>first|exact h'|simp
  |exact av (OE T H t _ id) h fun K' h'=>by unfold y5;first|exact h'|(simp only[*]<;>first|exact h'|simp)|(split<;>first|exact h'|simp_all)
theorem OL (T:Tab)(H:List (Nat×au))(t:TypeId)(x:AV):gF (Bb T H t x):=by
 intro K h;unfold Bb at h;repeat' split at h
 all_goals first
  |exact h.elim
  |exact av (OH T H t _) h fun K' h'=>by unfold Bb;first|exact h'|(simp only[*]<;>first|exact h'|simp)|(split<;>first|exact h'|simp_all)
  |exact bg h fun K' h'=>by unfold Bb;simp only[*]<;>first|exact h'|simp
theorem KN (T:Tab)(t:TypeId)(x ix:AV):gF (uQ T t x ix):=by
 intro K h;unfold uQ at h;repeat' split at h
 all_goals first
  |exact h.elim
  |exact av (aA fun _=>rM _ _) h fun K' h'=>by unfold uQ;simp only[*]<;>first|exact h'|simp
  |exact av (Ky T t _ ix) h fun K' h'=>by unfold uQ;first|exact h'|(simp only[*]<;>first|exact h'|simp)|(split<;>first|exact h'|simp_all)
theorem Dv (T:Tab)(t:TypeId)(ks:List Nat)(vs:List AV):gF (kz T t ks vs):=by
 intro K h;unfold kz at h;split at h;rotate_left;cases h
 rename_i i hi;split at h
 ·rename_i n e hd;repeat' split at h
  all_goals first
   |exact h.elim
   |exact bg h fun K' h'=>by unfold kz;simp only[*]<;>first|exact h'|simp
 rename_i hne;refine av (KC T t ks vs) h fun K' h'=>?_
 unfold kz;simp only[hi];exact h'
theorem MQ (P:Program)(T:Tab)(op:Op)(vs:List AV)(H:List (Nat×au))(id:Nat):gF fun (K:AV×List (Nat×au)→Prop)=>cop P T op vs H id fun v ws=>K (v,ws):=by
 intro K h;unfold cop at h;repeat' split at h
 all_goals first
  |exact h.elim
  |exact bg h fun K' h'=>by unfold cop;simp only[*]<;>first|exact h'|simp
  |exact av (KD T _ id) h fun K' h'=>by unfold cop;simp only[*]<;>first|exact h'|simp
  |exact av (Ro T _ _ id) h fun K' h'=>by unfold cop;simp only[*]<;>first|exact h'|simp
  |exact av (qK (Dv T _ _ _)) h fun K' h'=>by unfold cop;simp only[*]<;>first|exact h'|simp
  |exact av (Ib T H _ _ _ _ id) h fun K' h'=>by unfold cop;simp only[*]<;>first|exact h'|simp
  |exact av (qK (KJ T H _ _)) h fun K' h'=>by unfold cop;simp only[*]<;>first|exact h'|simp
  |exact av (Ie T H _ _ _) h fun K' h'=>by unfold cop;simp only[*]<;>first|exact h'|simp
  |exact av (qK (Oq T H _ _ _ _)) h fun K' h'=>by unfold cop;simp only[*]<;>first|exact h'|simp
  |exact av (qK (Ru H _ _)) h fun K' h'=>by unfold cop;simp only[*]<;>first|exact h'|simp
  |exact av (KM T H _ _ _) h fun K' h'=>by unfold cop;simp only[*]<;>first|exact h'|simp
  |exact av (Ov H _ _ _) h fun K' h'=>by unfold cop;simp only[*]<;>first|exact h'|simp
  |exact av (Ow T _ _ id) h fun K' h'=>by unfold cop;simp only[*]<;>first|exact h'|simp
  |exact av (H7 T H _ _ _ _ _) h fun K' h'=>by unfold cop;simp only[*]<;>first|exact h'|simp
  |exact av (qK (Bj T H _ _ _)) h fun K' h'=>by unfold cop;simp only[*]<;>first|exact h'|simp
  |exact av (qK (Rk T _ _ _)) h fun K' h'=>by unfold cop;simp only[*]<;>first|exact h'|simp
  |exact av (qK (Ry T H _ _ _)) h fun K' h'=>by unfold cop;simp only[*]<;>first|exact h'|simp
  |exact av (qK (KN T _ _ _)) h fun K' h'=>by unfold cop;simp only[*]<;>first|exact h'|simp
  |exact av (qK (FW _ _)) h fun K' h'=>by unfold cop;simp only[*]<;>first|exact h'|simp
  |exact av (OA P H _) h fun K' h'=>by unfold cop;simp only[*]<;>first|exact h'|simp
  |exact av (OJ T H _ _ id) h fun K' h'=>by unfold cop;simp only[*]<;>first|exact h'|simp
  |exact av (qK (OL T H _ _)) h fun K' h'=>by unfold cop;simp only[*]<;>first|exact h'|simp
  |exact av (KI T _ id) h fun K' h'=>by unfold cop;simp only[*]<;>first|exact h'|simp
  |exact av (qK (OG T H _ _ _)) h fun K' h'=>by unfold cop;simp only[*]<;>first|exact h'|simp
  |exact av (Ic T H _ _ _ _) h fun K' h'=>by unfold cop;simp only[*]<;>first|exact h'|simp
  |exact av (KG T H _ _) h fun K' h'=>by unfold cop;simp only[*]<;>first|exact h'|simp
  |exact av (qK (Vu _ _)) h fun K' h'=>by unfold cop;simp only[*]<;>first|exact h'|simp
theorem lT {tm tm':List (Nat×AV)}:∀{xs:List Operand} {vs:List AV},(∀t∈tmpsOf xs,lk tm' t=lk tm t)→Xc tm xs=some vs→Xc tm' xs=some vs
 |[],vs,_,h=>h
 | x::xs,vs,hs,h=>by
   simp only[Xc] at h ⊢;split at h
   ·rename_i v hv;have hv':iE tm' x=some v:=by
     rw[←hv];unfold iE;cases x with
     |tmp t=>exact hs t (by simp[tmpsOf])
     |const v=>rfl
     |func f=>rfl
     |«global» g=>rfl
    split at h
    ·rename_i MH hvs;rw[hv'];simp only;rw[lT (fun t ht=>hs t (by cases x<;>simp[tmpsOf,ht])) hvs];exact h
    cases h
   cases h
theorem kQ {hp hp':List (Nat×au)}:∀{ids:List Nat} {H:List (Nat×au)},(∀b∈ids,lk hp' b=lk hp b)→iX hp ids=some H→iX hp' ids=some H
 |[],H,_,h=>h
 | i::r,H,hs,h=>by
   simp only[iX] at h ⊢;rw[hs i (by simp)];split at h
   ·rename_i bx hbx;split at h
    ·rename_i t ht;rw[kQ (fun b hb=>hs b (by simp[hb])) ht];exact h
    cases h
   cases h
theorem Rz {P:Program}{T:Tab}{op:Op}{vs:List AV}{hp:List (Nat×au)}{id:Nat}{K:AV→List (Nat×au)→List Nat→Prop}(h:vW P T op vs hp id K) :
  ∃v ws ids,K v ws ids∧∀(hp':List (Nat×au)),(∀b∈ids,lk hp' b=lk hp b)→∀K':AV→List (Nat×au)→List Nat→Prop,K' v ws ids→vW P T op vs hp' id K':=by
 unfold vW at h;simp only at h;split at h;rotate_left;cases h
 rename_i H hH;obtain⟨⟨v,ws⟩,h1,h2⟩:=MQ P T op vs H id (fun x=>K x.1 x.2 (FD op vs)) h;refine⟨v,ws,FD op vs,h1,fun hp' hb K' nK=>?_⟩;unfold vW;simp only;rw[kQ hb hH];exact h2 (fun x=>K' x.1 x.2 (FD op vs)) nK
theorem OM {P:Program}{T:Tab}{op:Op}{vs:List AV}{hp:List (Nat×au)}{id:Nat}{K:AV→List (Nat×au)→List Nat→Prop}(h:vW P T op vs hp id K) :
  ∃v ws ids,K v ws ids∧ids=FD op vs∧∀(hp':List (Nat×au)),(∀b∈ids,lk hp' b=lk hp b)→∀K':AV→List (Nat×au)→List Nat→Prop,K' v ws ids→vW P T op vs hp' id K':=by
 unfold vW at h;simp only at h;split at h;rotate_left;cases h
 rename_i H hH;obtain⟨⟨v,ws⟩,h1,h2⟩:=MQ P T op vs H id (fun x=>K x.1 x.2 (FD op vs)) h;refine⟨v,ws,FD op vs,h1,rfl,fun hp' hb K' nK=>?_⟩;unfold vW;simp only;rw[kQ hb hH];exact h2 (fun x=>K' x.1 x.2 (FD op vs)) nK
theorem Bq {x y:Nat}:∀{l:List Nat},x∈snoc l y↔x∈l∨x=y
 |[]=>by simp[snoc]
 |z::l=>by simp[snoc,Bq (l:=l),or_assoc]
theorem Br {hp:List (Nat×au)}:∀{n:Nat} {todo seen:List Nat},∀b∈seen,b∈wB hp n todo seen
 |0,_,_,b,h=>h
 |_+1,[],_,b,h=>h
 | n+1,x::todo,seen,b,h=>by
   simp only[wB];split
   ·exact Br b h
   split<;>exact Br b (Bq.2 (.inl h))
theorem mr {hp hp':List (Nat×au)}:∀{n:Nat} {todo seen:List Nat},(∀b∈wB hp n todo seen,lk hp' b=lk hp b)→wB hp' n todo seen=wB hp n todo seen
 |0,_,_,_=>rfl
 |_+1,[],_,_=>rfl
 | n+1,x::todo,seen,h=>by
   simp only[wB] at h ⊢;cases hm:Be x seen with
   | true=>
     simp only[hm] at h ⊢;exact mr h
   | false=>
     simp only[hm] at h ⊢;have hx:lk hp' x=lk hp x:=by
      refine h x ?_;split<;>exact Br x (Bq.2 (.inr rfl))
     rw[hx];cases hl:lk hp x with
     |none=>simp only[hl] at h ⊢;exact mr h
     |some bx=>cases bx<;>simp only[hl] at h ⊢ <;> exact mr h
theorem uz {hp hp':List (Nat×au)}:∀{l:List Nat},(∀b∈l,lk hp' b=lk hp b)→qf hp' l=qf hp l
 |[],_=>rfl
 | x::r,h=>by
   simp only[qf];rw[h x (by simp),uz fun b hb=>h b (by simp[hb])]
theorem RA {P:Program}{vs:List AV}{hp:List (Nat×au)}{id:Nat}{K:AV→List (Nat×au)→List Nat→Prop}(h:gC P hp id vs K) :
  ∃v ws ids,K v ws ids∧∀(hp':List (Nat×au)),(∀b∈ids,lk hp' b=lk hp b)→∀K':AV→List (Nat×au)→List Nat→Prop,K' v ws ids→gC P hp' id vs K':=by
 unfold gC at h;split at h;rotate_left;cases h
 rename_i fv args;split at h;rotate_left;cases h
 rename_i f first aT hfn
 simp only at h;split at h;rotate_left;cases h
 rename_i H hH;obtain⟨r,h1,J7,h⟩:=h;split at h;rotate_left;cases h
 rename_i hok;have h0:=h;rw[wC,wE] at h;have h:=jh _ _ _ h;refine⟨_,_,_,h,fun hp' hb K' nK=>?_⟩;have hb1:=fun b hb'=>hb b (List.mem_append_left _ hb')
 have hb2:=fun b hb'=>hb b (List.mem_append_right _ hb')
 unfold gC;simp only[hfn];rw[mr hb1,kQ hb1 hH];simp only;refine⟨r,h1,J7,?_⟩;have:Ya (jG 1 H) (iL 1 H) id hp' h1=Ya (jG 1 H) (iL 1 H) id hp h1:=by
  unfold Ya;rw[uz hb2]
 rw[this,hok];simp only;rw[wC,wE] at h0 ⊢;exact gK _ _ _ h0 nK
theorem Yb {P:Program}{vs:List AV}{hp:List (Nat×au)}{id:Nat}{K:AV→List (Nat×au)→List Nat→Prop}(h:gV P hp id vs K) :
  ∃v ws ids,K v ws ids∧∀(hp':List (Nat×au)),(∀b∈ids,lk hp' b=lk hp b)→∀K':AV→List (Nat×au)→List Nat→Prop,K' v ws ids→gV P hp' id vs K':=by
 obtain⟨v,ws,ids,h1,h2⟩:=RA h;refine⟨v,[],ids,(uS h1).1,fun hp' hb K' nK=>?_⟩;exact h2 hp' hb _ (zh hb h1 nK)
theorem Yc {P:Program}{vs:List AV}{hp:List (Nat×au)}{K:AV→List (Nat×au)→List Nat→Prop}(h:dC P hp vs K) :
  ∃v ws ids,K v ws ids∧(∀b∈dG vs,b∈ids)∧∀(hp':List (Nat×au)),(∀b∈ids,lk hp' b=lk hp b)→∀K':AV→List (Nat×au)→List Nat→Prop,K' v ws ids→dC P hp' vs K':=by
 unfold dC at h;simp only at h;split at h;rotate_left;cases h
 rename_i H hH;split at h;rotate_left;cases h
 rename_i f first aT ps hm
 obtain⟨r,hpc,h⟩:=h;split at h;rotate_left;cases h
 rename_i hs;refine⟨_,_,_,h,fun b hb=>List.mem_append_left _ hb,fun hp' hb K' nK=>?_⟩;have hb1:=fun b hb'=>hb b (List.mem_append_right _ hb')
 unfold dC;simp only;rw[mr hb1,kQ hb1 hH];simp only[hm];refine⟨r,hpc,?_⟩;rw[hs];exact nK
theorem Bt {hp hp':List (Nat×au)}:∀{ids:List Nat},(∀b∈ids,lk hp' b=lk hp b)→iX hp' ids=iX hp ids
 |[],_=>rfl
 | i::r,h=>by
   simp only[iX];rw[h i (by simp),Bt fun b hb=>h b (by simp[hb])]
theorem zi {hp hp':List (Nat×au)}{vs:List AV}(h:∀b∈dG vs,lk hp' b=lk hp b):MG hp' vs=MG hp vs:=by
 unfold MG;split
 ·rename_i p args;rw[Bt fun b hb=>h b (by simp only[dG,refs,List.nil_append];exact hb)]
 rfl
theorem Yd {P:Program}{T:Tab}{op:Op}(hc:kD op=true){vs:List AV}{hp:List (Nat×au)}{id:Nat}{K:AV→List (Nat×au)→List Nat→Prop}(h:lC P T op vs hp id K) :
  ∃v ws ids,K v ws ids∧∀(hp':List (Nat×au)),(∀b∈ids,lk hp' b=lk hp b)→∀K':AV→List (Nat×au)→List Nat→Prop,K' v ws ids→lC P T op vs hp' id K':=by
 unfold lC at h;split at h
 ·rename_i hd;obtain⟨v,ws,ids,h1,h2,h3⟩:=Yc h;refine⟨v,ws,ids,h1,fun hp' hb K' nK=>?_⟩;unfold lC;rw[zi fun b hb'=>hb b (h2 b hb'),hd];exact h3 hp' hb K' nK
 rename_i hd;have hn:FD op vs=dG vs:=by
  cases op<;>simp only[kD] at hc<;>first|rfl|(cases hc;done)
 obtain⟨v,ws,ids,h1,h2,h3⟩:=OM h;rw[hn] at h2;subst h2;refine⟨v,ws,_,h1,fun hp' hb K' nK=>?_⟩;unfold lC;rw[zi hb,hd];exact h3 hp' hb K' nK
theorem Ye {P:Program}{vs:List AV}{hp:List (Nat×au)}{K:AV→List (Nat×au)→List Nat→Prop}(h:yC P hp vs K) :
  ∃v ws ids,K v ws ids∧∀(hp':List (Nat×au)),(∀b∈ids,lk hp' b=lk hp b)→∀K':AV→List (Nat×au)→List Nat→Prop,K' v ws ids→yC P hp' vs K':=by
 unfold yC at h;split at h;rotate_left;cases h
 split at h;rotate_left;cases h
 rename_i y ver rest st h9;split at h;rotate_left;cases h
 split at h;rotate_left;cases h
 split at h;rotate_left;cases h
 rename_i ps hps;obtain⟨e,x,r,e2,hle,hK⟩:=h;refine⟨_,_,_,hK,fun hp' hb K' nK=>?_⟩;unfold yC;simp only[hb 999 (by simp),h9,hps];exact⟨e,x,r,e2,hle,nK⟩
theorem Vv {P:Program}{T:Tab}(hg:gen T=false){o:Oper}{tm:List (Nat×AV)}{hp:List (Nat×au)}{id:Nat}{K:AV→List (Nat×au)→List Nat→Prop}(h:QM P T o tm hp id K) :
  ∃v ws ids,K v ws ids∧∀(tm':List (Nat×AV)) (hp':List (Nat×au)),(∀t∈tmpsOf (jf o.op),lk tm' t=lk tm t)→(∀b∈ids,lk hp' b=lk hp b) →
   ∀K':AV→List (Nat×au)→List Nat→Prop,K' v ws ids→QM P T o tm' hp' id K':=by
 unfold QM at h;split at h;rotate_left;cases h
 rename_i vs hvs;split at h
 ·rename_i hc;split at h
  ·rename_i hy;obtain⟨v,ws,ids,h1,h2⟩:=Ye h;refine⟨v,ws,ids,h1,fun tm' hp' ht hb K' nK=>?_⟩;unfold QM;rw[lT ht hvs];simp only[hc,hy];exact h2 hp' hb K' nK
  rename_i hy;rw[hg] at h;rcases h with (h|h)|h
  rotate_left 2
  ·obtain⟨v,ws,ids,h1,h2⟩:=Yb h;refine⟨v,ws,ids,h1,fun tm' hp' ht hb K' nK=>?_⟩;unfold QM;rw[lT ht hvs,hg];simp only[hc,hy];exact .inr (h2 hp' hb K' nK)
  ·obtain⟨v,ws,ids,h1,h2⟩:=Yd hc h;refine⟨v,ws,ids,h1,fun tm' hp' ht hb K' nK=>?_⟩;unfold QM;rw[lT ht hvs];simp only[hc,hy];exact .inl (.inl (h2 hp' hb K' nK))
  obtain⟨v,ws,ids,h1,h2⟩:=RA h;refine⟨v,ws,ids,h1,fun tm' hp' ht hb K' nK=>?_⟩;unfold QM;rw[lT ht hvs];simp only[hc,hy];exact .inl (.inr (h2 hp' hb K' nK))
 rename_i hc;obtain⟨v,ws,ids,h1,h2⟩:=Rz h;refine⟨v,ws,ids,h1,fun tm' hp' ht hb K' nK=>?_⟩;unfold QM;rw[lT ht hvs];simp only[hc];exact h2 hp' hb K' nK
section
variable {α:Type}
def acc (S:Nat→Bool):List (List (Nat×α))→Nat→List (Nat×α)→List (Nat×α)
 |[],_,s=>s
 |ws::r,i,s=>acc S r (i+1) (if S i then ws++s else s)
theorem iM {ws s:List (Nat×α)}{t:Nat}(h:t∉keys ws):lk (ws++s) t=lk s t:=by
 induction ws with
 |nil=>rfl
 | cons x ws ih=>
   obtain⟨k,v⟩:=x;simp only[keys,List.mem_cons,not_or] at h;rw[List.cons_append,ak,if_neg (Ne.symm h.1),ih h.2]
theorem rP {ws s s':List (Nat×α)}{t:Nat}(h:t∈keys ws):lk (ws++s) t=lk (ws++s') t:=by
 induction ws with
 |nil=>simp[keys] at h
 | cons x ws ih=>
   obtain⟨k,v⟩:=x;simp only[keys,List.mem_cons] at h;rw[List.cons_append,List.cons_append,ak,ak];split
   ·rfl
   rename_i hk;exact ih (h.resolve_left (Ne.symm hk))
theorem lm {ws s s':List (Nat×α)}{t:Nat}(h:lk s t=lk s' t):lk (ws++s) t=lk (ws++s') t:=by
 by_cases hk:t∈keys ws
 ·exact rP hk
 rw[iM hk,iM hk,h]
theorem lU:∀(l:List (List (Nat×α))) (i:Nat) (s:List (Nat×α)),acc (fun _=>false) l i s=s
 |[],_,_=>rfl
 |ws::r,i,s=>by simp only[acc,Bool.false_eq_true,if_false,lU r]
theorem jH {S S':Nat→Bool}(t:Nat):∀(l:List (List (Nat×α))) (i:Nat) (s s':List (Nat×α)),lk s t=lk s' t →
  (∀k ws,l[k]? = some ws→t∈keys ws→S (i+k)=S' (i+k))→lk (acc S l i s) t=lk (acc S' l i s') t
 |[],_,_,_,h,_=>h
 | ws::r,i,s,s',h,hS=>by
   simp only[acc];refine jH t r (i+1) _ _ ?_ fun k qU hk ht=>by
    have:=hS (k+1) qU (by simpa using hk) ht;rwa [show i+(k+1)=i+1+k from by omega] at this
   by_cases hk:t∈keys ws
   ·have:=hS 0 ws rfl hk;simp only[Nat.add_zero] at this;rw[this];split
    ·exact lm h
    exact h
   have h1:lk (ws++s) t=lk s t:=iM hk;have h2:lk (ws++s') t=lk s' t:=iM hk;split<;>split<;>simp[h1,h2,h]
theorem Ih {S:Nat→Bool}(t:Nat):∀(l:List (List (Nat×α))) (i:Nat) (s:List (Nat×α)) (j:Nat) (ws:List (Nat×α)),l[j]? = some ws→t∈keys ws→S (i+j)=true →
  (∀k qU,l[k]? = some qU→t∈keys qU→S (i+k)=true→k≤j)→∀s',lk (acc S l i s) t=lk (ws++s') t
 |[],_,_,j,_,h,_,_,_,_=>by simp at h
 | w0::r,i,s,0,ws,h,ht,hS,hk,s'=>by
   simp only[List.getElem?_cons_zero,Option.some.injEq] at h;subst h;simp only[Nat.add_zero] at hS;simp only[acc,hS,if_true];rw[jH (S':=fun _=>false) t r (i+1) _ (w0++s) rfl ?_,lU]
   ·exact rP ht
   intro k qU hk' ht';cases hb:S (i+1+k) with
   |false=>rfl
   | true=>
     have:=hk (k+1) qU (by simpa using hk') ht' (by rw[show i+(k+1)=i+1+k from by omega];exact hb);omega
 | w0::r,i,s,j+1,ws,h,ht,hS,hk,s'=>by
   simp only[acc];refine Ih t r (i+1) _ j ws (by simpa using h) ht (by rw[show i+1+j=i+(j+1) from by omega];exact hS) (fun k qU hk' ht' hS'=>?_) s';have:=hk (k+1) qU (by simpa using hk') ht' (by rw[show i+(k+1)=i+1+k from by omega];exact hS');omega
theorem MR {S S':Nat→Bool}{l:List (List (Nat×α))}{s:List (Nat×α)}{j:Nat}{ws:List (Nat×α)}(hj:l[j]? = some ws)(hS:∀k,S' k=(S k||Nat.beq k j))(t:Nat)
  (hw:∀k qU,l[k]? = some qU→t∈keys ws→t∈keys qU→S k=true→k<j):lk (acc S' l 0 s) t=lk (ws++acc S l 0 s) t:=by
 by_cases ht:t∈keys ws
 ·refine Ih t l 0 s j ws hj ht (by rw[hS];simp) (fun k qU hk ht' KP=>?_) _;rw[Nat.zero_add,hS,Bool.or_eq_true] at KP;rcases KP with h|h
  ·exact Nat.le_of_lt (hw k qU hk ht ht' h)
  exact Nat.le_of_eq (Nat.eq_of_beq_eq_true h)
 rw[iM ht];refine jH t l 0 s s rfl fun k qU hk ht'=>?_
 rw[Nat.zero_add,hS];cases hb:Nat.beq k j with
 |false=>simp
 | true=>
   have:=Nat.eq_of_beq_eq_true hb;subst this;rw[hj] at hk;cases hk;exact absurd ht' ht
theorem oN {S:Nat→Bool}:∀(l:List (List (Nat×α))) (i:Nat) (s:List (Nat×α)),acc S l (i+1) s=acc (fun k=>S (k+1)) l i s
 |[],_,_=>rfl
 |ws::r,i,s=>by simp only[acc];rw[oN r]
end
def Dw (d:Option Nat)(v:AV):List (Nat×AV):=
 match d with
 |some d=>[(d,v)]
 |none=>[]
theorem wF (tm:List (Nat×AV))(d:Option Nat)(v:AV):XV tm d v=Dw d v++tm:=by cases d<;>rfl
section
variable {P:Program}{T:Tab}{c:Ctx}
def OP (P:Program)(c:Ctx)(ops:Array Oper)(base:Nat)(o:Oper)(i:Nat)(v:AV)(ws:List (Nat×au))(e:rE)(tm:List (Nat×AV))(hp:List (Nat×au)):Prop:=
 ∀(R:Real) (tm':List (Nat×AV)) (hp':List (Nat×au)) (nx:Nat) (a:Act) (w:World),(∀t∈e.look,lk tm' t=lk tm t)→(∀b∈e.rd,lk hp' b=lk hp b)→base+i<nx →
  (∀t,o.dst=some t→t<c.n)→aS c R ⟨tm',nx,hp'⟩ a w→∀(ro:Option Nat) (Q:Exit→Act→World→Prop),
   if Region.wanted o (yielded ops a.tmps) then o.wpIn (W1 ro) 0 P a w (fun a' w'=>∃R',aS c R' ⟨Dw o.dst v++tm',nx,ws++hp'⟩ a' w') Q
   else ∃R',aS c R' ⟨Dw o.dst v++tm',nx,ws++hp'⟩ (a.put o.dst undef) w
theorem OP.congr {ops:Array Oper}{base:Nat}{o:Oper}{i:Nat}{v:AV}{ws:List (Nat×au)}{e:rE}{tm Zq:List (Nat×AV)}{hp hp2:List (Nat×au)}
  (h:OP P c ops base o i v ws e tm hp) (ht:∀t,lk Zq t=lk tm t) (hh:∀b,lk hp2 b=lk hp b):OP P c ops base o i v ws e Zq hp2:=by
 intro R tm' hp' nx a w h1 h2 h3 h4 g ro Q;exact h R tm' hp' nx a w (fun t htl=>(h1 t htl).trans (ht t)) (fun b hb=>(h2 b hb).trans (hh b)) h3 h4 g ro Q
theorem MS (hgen:gen T=false){ops:List Oper}{base:Nat}{o:Oper}{i:Nat}{tm:List (Nat×AV)}{hp:List (Nat×au)}{tr:List rE}{kn:List (Nat×Bool)}{K:RC}
  (h:Xf P T ops base o i tm hp tr kn K):∃v ws e,K (Dw o.dst v++tm) (ws++hp) (e::tr) kn∧e.dst=o.dst∧e.wr=keys ws∧(∀d∈uT ops o,d∈e.look) ∧
   ∀tm' hp' oD,(∀t∈e.look,lk tm' t=lk tm t)→(∀b∈e.rd,lk hp' b=lk hp b)→∀K':RC,K' (Dw o.dst v++tm') (ws++hp') (e::oD) kn→Xf P T ops base o i tm' hp' oD kn K':=by
 unfold Xf at h;split at h
 ·exact h.elim
 rename_i hn;obtain⟨v,ws,ids,h1,h2⟩:=Vv hgen h;simp only[tK,Al,wF] at h1;refine⟨v,ws,_,h1,rfl,rfl,fun d hd=>List.mem_append_left _ hd,fun tm' hp' oD ht hb K' nK=>?_⟩;unfold Xf;rw[hb (base+i) (by simp),hn];simp only;refine h2 tm' hp' (fun t hx=>ht t (List.mem_append_right _ hx)) (fun b hx=>hb b (List.mem_cons_of_mem _ hx)) _ ?_;simp only[tK,Al,wF];exact nK
theorem Eg {ops:List Oper}{o:Oper}{tm:List (Nat×AV)}{hp:List (Nat×au)}{tr:List rE}{kn:List (Nat×Bool)}{K:RC}
  (h:y8 ops o tm hp tr kn K):∃v ws e,K (Dw o.dst v++tm) (ws++hp) (e::tr) kn∧e.dst=o.dst∧e.wr=keys ws∧(∀d∈uT ops o,d∈e.look) ∧
   ∀tm' hp' oD,(∀t∈e.look,lk tm' t=lk tm t)→(∀b∈e.rd,lk hp' b=lk hp b)→∀K':RC,K' (Dw o.dst v++tm') (ws++hp') (e::oD) kn→y8 ops o tm' hp' oD kn K':=by
 unfold y8 at h;simp only[tK,wF] at h;refine⟨_,[],_,h,rfl,rfl,fun d hd=>hd,fun tm' hp' oD ht hb K' nK=>?_⟩;unfold y8;simp only[tK,wF];exact nK
theorem Ao (hgen:gen T=false){ops:List Oper}{base:Nat}{o:Oper}{i:Nat}{wt:Bool}{tm:List (Nat×AV)}{hp:List (Nat×au)}{tr:List rE}{kn:List (Nat×Bool)}{K:RC}
  (h:XY P T ops base o i wt tm hp tr kn K):∃v ws e,K (Dw o.dst v++tm) (ws++hp) (e::tr) kn∧e.dst=o.dst∧e.wr=keys ws∧(∀d∈uT ops o,d∈e.look) ∧
   ∀tm' hp' oD,(∀t∈e.look,lk tm' t=lk tm t)→(∀b∈e.rd,lk hp' b=lk hp b)→∀K':RC,K' (Dw o.dst v++tm') (ws++hp') (e::oD) kn→XY P T ops base o i wt tm' hp' oD kn K':=by
 cases wt with
 |true=>exact MS hgen h
 |false=>exact Eg h
theorem OQ (hgen:gen T=false){ops:List Oper}{base:Nat}{o:Oper}{i:Nat}{tm:List (Nat×AV)}{hp:List (Nat×au)}{tr:List rE}{kn:List (Nat×Bool)}{K:RC}
  (h:oL P T ops base o i tm hp tr kn K):∃v ws e Dr Vw,(∀t,lk Vw t=lk tm t)∧K (Dw o.dst v++Vw) (ws++hp) (e::tr) Dr∧e.dst=o.dst∧e.wr=keys ws ∧
   ∀tm' hp' oD,(∀t∈e.look,lk tm' t=lk tm t)→(∀b∈e.rd,lk hp' b=lk hp b)→∀K':RC,(∀Yf,(∀t,lk Yf t=lk tm' t)→K' (Dw o.dst v++Yf) (ws++hp') (e::oD) Dr) →
    oL P T ops base o i tm' hp' oD kn K':=by
 unfold oL at h;split at h
 ·rename_i hg;obtain⟨v,ws,e,h1,h2,h3,h4,h5⟩:=MS hgen h;refine⟨v,ws,e,kn,tm,fun _=>rfl,h1,h2,h3,fun tm' hp' oD ht hb K' nK=>?_⟩;unfold oL;rw[hg];exact h5 tm' hp' oD ht hb K' (nK tm' fun _=>rfl)
 rename_i j want hg;split at h
 ·exact h.elim
 rename_i d hd;have hmem:d∈uT ops o:=by simp[uT,hd]
 split at h;rotate_left;cases h
 rename_i vv hv;split at h
 ·rename_i b;split at h
  ·rename_i kb hkn;cases b with
   | true=>
     obtain⟨v,ws,e,h1,h2,h3,h4,h5⟩:=Ao hgen h;refine⟨v,ws,e,kn,tm,fun _=>rfl,h1,h2,h3,fun tm' hp' oD ht hb K' nK=>?_⟩;unfold oL;simp only[hg,hd,ht d (h4 d hmem),hv,hkn];exact h5 tm' hp' oD ht hb K' (nK tm' fun _=>rfl)
   | false=>
     obtain⟨v,ws,e,h1,h2,h3,h4,h5⟩:=Ao hgen h;refine⟨v,ws,e,kn,tm,fun _=>rfl,h1,h2,h3,fun tm' hp' oD ht hb K' nK=>?_⟩;unfold oL;simp only[hg,hd,ht d (h4 d hmem),hv,hkn];exact h5 tm' hp' oD ht hb K' (nK tm' fun _=>rfl)
  rename_i hkn;have same:∀(b':Bool) (tm':List (Nat×AV)),lk tm' d=some (.pv (.sc (.bool b')))→∀t,lk ((d,AV.pv (.sc (.bool b')))::tm') t=lk tm' t:=by
   intro b' tm' hb' t;rw[ak];split
   ·rename_i e;rw[←e,hb']
   rfl
  cases b with
  | true=>
    obtain⟨v,ws,e,h1,h2,h3,h4,h5⟩:=Ao hgen (h.1 rfl);refine⟨v,ws,e,_,_,same true tm hv,h1,h2,h3,fun tm' hp' oD ht hb K' nK=>?_⟩;have hv':lk tm' d=some (.pv (.sc (.bool true))):=(ht d (h4 d hmem)).trans hv;unfold oL;simp only[hg,hd,hv',hkn];refine⟨fun _=>h5 _ hp' oD (fun t hx=>?_) hb K' (nK _ (same true tm' hv')),fun h=>(by cases h)⟩;rw[same true tm' hv',same true tm hv];exact ht t hx
  | false=>
    obtain⟨v,ws,e,h1,h2,h3,h4,h5⟩:=Ao hgen (h.2 rfl);refine⟨v,ws,e,_,_,same false tm hv,h1,h2,h3,fun tm' hp' oD ht hb K' nK=>?_⟩;have hv':lk tm' d=some (.pv (.sc (.bool false))):=(ht d (h4 d hmem)).trans hv;unfold oL;simp only[hg,hd,hv',hkn];refine⟨fun h=>(by cases h),fun _=>h5 _ hp' oD (fun t hx=>?_) hb K' (nK _ (same false tm' hv'))⟩;rw[same false tm' hv',same false tm hv];exact ht t hx
 ·obtain⟨v,ws,e,h1,h2,h3,h4,h5⟩:=Eg h;refine⟨v,ws,e,kn,tm,fun _=>rfl,h1,h2,h3,fun tm' hp' oD ht hb K' nK=>?_⟩;unfold oL;simp only[hg,hd,ht d (h4 d hmem),hv];exact h5 tm' hp' oD ht hb K' (nK tm' fun _=>rfl)
 exact h.elim
theorem RB (hT:bA P T)(hgen:gen T=false){ops:Array Oper}{base:Nat}{o:Oper}{i:Nat}{tm:List (Nat×AV)}{hp:List (Nat×au)}{tr:List rE}{kn:List (Nat×Bool)}{K:RC}
  (h:oL P T ops.toList base o i tm hp tr kn K):∃v ws e Dr Vw,(∀t,lk Vw t=lk tm t)∧K (Dw o.dst v++Vw) (ws++hp) (e::tr) Dr∧e.dst=o.dst∧e.wr=keys ws ∧
   OP P c ops base o i v ws e tm hp:=by
 obtain⟨v,ws,e,Dr,Vw,h1,h2,h3,h4,h5⟩:=OQ hgen h;refine⟨v,ws,e,Dr,Vw,h1,h2,h3,h4,fun R tm' hp' nx a w ht hb hn hd g ro Q=>?_⟩;have hv:=h5 tm' hp' [] ht hb (fun Zq hp2 _ _=>(∀t,lk Zq t=lk (Dw o.dst v++tm') t)∧hp2=ws++hp') fun Yf ht'=>⟨fun t=>lm (ht' t),rfl⟩
 have hs:=y9 (s:=⟨tm',nx,hp'⟩) g hT (ops:=ops) hn hd hv ro Q;split
 ·rename_i hw;rw[if_pos hw] at hs;refine Oper.wpIn_mono ?_ hs;rintro a' w' ⟨R',Zq,hp2,oD,kn2,⟨hk,rfl⟩,g'⟩
  exact⟨R',g'.congr (fun t=>(hk t).symm) fun _=>rfl⟩
 rename_i hw;rw[if_neg hw] at hs;obtain⟨Zq,hp2,oD,kn2,⟨hk,rfl⟩,g'⟩:=hs;exact⟨R,g'.congr (fun t=>(hk t).symm) fun _=>rfl⟩
end
theorem Ii {x:Nat}:∀{l:List Nat},Be x l=true↔x∈l
 |[]=>by simp[Be]
 | y::r=>by
   simp only[Be,List.mem_cons];split
   ·rename_i h;simp[Nat.eq_of_beq_eq_true h]
   rename_i h;have:=Nat.ne_of_beq_eq_false h;simp[this,Ii]
theorem qh {x:Nat}:∀{l l':List Nat},x∈l→x∈l'→meet l l'=true
 |[],_,h,_=>by simp at h
 | y::r,l',h,h'=>by
   simp only[meet];split
   ·rfl
   rename_i hm;rcases List.mem_cons.1 h with rfl|h
   ·rw[Ii.2 h'] at hm;cases hm
   exact qh h h'
theorem Ij (d:Option Nat)(v:AV):keys (Dw d v)=dl d:=by cases d<;>rfl
section
variable {P:Program}{T:Tab}{c:Ctx}
theorem Ik (hT:bA P T)(hg:gen T=false){ops:Array Oper}{base:Nat}{K:RK}:∀(l:List Oper) (i:Nat) {tm:List (Nat×AV)} {hp:List (Nat×au)} {tr:List rE} {kn:List (Nat×Bool)},
  Kn P T ops.toList base l i tm hp tr kn K→∃(wT:List (List (Nat×AV))) (wH:List (List (Nat×au))) (es:List rE) (tmf:List (Nat×AV)) (Xl:List (Nat×au)),
   wT.length=l.length∧wH.length=l.length∧es.length=l.length∧K tmf Xl (es.reverse++tr)∧(∀t,lk tmf t=lk (acc (fun _=>true) wT 0 tm) t)∧(∀b,lk Xl b=lk (acc (fun _=>true) wH 0 hp) b) ∧
   ∀k o,l[k]? = some o→∃v ws e,wT[k]? = some (Dw o.dst v)∧wH[k]? = some ws∧es[k]? = some e∧e.dst=o.dst∧e.wr=keys ws ∧
    OP P c ops base o (i+k) v ws e (acc (fun x=>Nat.blt x k) wT 0 tm) (acc (fun x=>Nat.blt x k) wH 0 hp)
 |[],i,tm,hp,tr,kn,h=>⟨[],[],[],tm,hp,rfl,rfl,rfl,h,fun _=>rfl,fun _=>rfl,fun k o hk=>by simp at hk⟩
 | o::r,i,tm,hp,tr,kn,h=>by
   simp only[Kn] at h;obtain⟨v,ws,e,Dr,Vw,h1,h2,h3,h4,h5⟩:=RB (c:=c) hT hg h;obtain⟨wT,wH,es,tmf,Xl,l1,l2,l3,hK,hf,hf',hall⟩:=Ik hT hg r (i+1) h2;have e0:(fun x=>Nat.blt x 0)=fun _=>false:=by
    funext x
    cases hb:Nat.blt x 0 with
    |false=>rfl
    |true=>rw[Nat.blt_eq] at hb;omega
   have e1:∀k,(fun x=>Nat.blt (x+1) (k+1))=fun x=>Nat.blt x k:=by
    intro k;funext x
    rw[Bool.eq_iff_iff,Nat.blt_eq,Nat.blt_eq];omega
   have e2:∀k,Nat.blt 0 (k+1)=true:=by intro k;rw[Nat.blt_eq];omega
   have hst:∀(S:Nat→Bool) t,lk (acc S wT 0 (Dw o.dst v++Vw)) t=lk (acc S wT 0 (Dw o.dst v++tm)) t:=fun S t=>jH t wT 0 _ _ (lm (h1 t)) fun _ _ _ _=>rfl
   refine⟨Dw o.dst v::wT,ws::wH,e::es,tmf,Xl,by simp[l1],by simp[l2],by simp[l3],?_,?_,?_,?_⟩
   ·simpa using hK
   ·intro t;rw[hf t,hst];simp only[acc,if_true,oN]
   ·intro b;rw[hf' b];simp only[acc,if_true,oN]
   intro k o' hk;cases k with
   | zero=>
     simp only[List.getElem?_cons_zero,Option.some.injEq] at hk;subst hk;refine⟨v,ws,e,rfl,rfl,rfl,h3,h4,?_⟩;rw[e0,lU,lU];exact h5
   | succ k=>
     obtain⟨v',qU,e',a1,a2,a3,a4,a5,a6⟩:=hall k o' (by simpa using hk);refine⟨v',qU,e',by simpa using a1,by simpa using a2,by simpa using a3,a4,a5,?_⟩;rw[show i+(k+1)=i+1+k from by omega];refine a6.congr (fun t=>?_) fun b=>?_
     ·simp only[acc,e2,if_true,oN,e1];exact (hst _ t).symm
     simp only[acc,e2,if_true,oN,e1]
theorem Dx {α:Type}{l l':List α}{k:Nat}(h:k<l.length):nth (l++l') k=nth l k:=by
 rw[rF,rF,List.getElem?_append_left h]
def Closed (ops:List Oper)(S:Nat→Bool):Prop:=∀k o,ops[k]? = some o→S k=true→∀e∈o.after.toList,Region.binds .any e=true→S e.on=true
theorem rQ {S:Nat→Bool}{Dt:List Nat}(OT:∀k m,nth Dt k=some m→S k=true→∀x,m.testBit x=true→S x=true):∀(es:List Edge),
  (∀e∈es,Region.binds .any e=true→S e.on=true)→∀x,(Hw Dt es).testBit x=true→S x=true
 |[],_,x,h=>by simp[Hw] at h
 | e::r,hS,x,h=>by
   simp only[Hw] at h;split at h
   ·rename_i hb;have hon:=hS e (by simp) hb;rw[Nat.testBit_or,Nat.testBit_or,Bool.or_eq_true,Bool.or_eq_true] at h;rcases h with (h|h)|h
    ·rw[Nat.testBit_two_pow] at h;simp only[decide_eq_true_eq] at h;rw[←h];exact hon
    ·split at h
     ·rename_i m hm;exact OT e.on m hm hon x h
     simp at h
    exact rQ OT r (fun e' Dy=>hS e' (by simp[Dy])) x h
   exact rQ OT r (fun e' Dy=>hS e' (by simp[Dy])) x h
theorem qi {i:Nat}:∀{es:List Edge},vY i es=true→∀e∈es,Region.binds .any e=true→e.on<i
 |[],_,e,he,_=>by simp at he
 | x::r,h,e,he,hb=>by
   simp only[vY] at h;split at h
   ·rw[Bool.and_eq_true] at h;rcases List.mem_cons.1 he with rfl|he
    ·have:=h.1;rwa [Nat.blt_eq] at this
    exact qi h.2 e he hb
   rename_i hx;rcases List.mem_cons.1 he with rfl|he
   ·rw[hb] at hx;cases hx
   exact qi h e he hb
theorem wG {e:rE}{m:Nat}:∀{l:List rE} {k0:Nat},Am e m l k0=true→∀k x,l[k]? = some x→kP x e=true→m.testBit (k0+k)=true
 |[],_,_,k,x,hk,_=>by simp at hk
 | y::r,k0,h,k,x,hk,hc=>by
   simp only[Am,Bool.and_eq_true,Bool.or_eq_true,Bool.not_eq_true'] at h;cases k with
   | zero=>
     simp only[List.getElem?_cons_zero,Option.some.injEq] at hk;subst hk;exact h.1.resolve_left (by simp[hc])
   | succ k=>
     have:=wG h.2 k x (by simpa using hk) hc;rwa [show k0+1+k=k0+(k+1) from by omega] at this
def Sep (ops:List Oper)(es:List rE)(S:Nat→Bool)(i:Nat)(o:Oper)(e:rE):Prop:=
 (∀ed∈o.after.toList,Region.binds .any ed=true→ed.on<i) ∧
 ((∀ed∈o.after.toList,Region.binds .any ed=true→S ed.on=true)→∀k x,k<i→es[k]? = some x→kP x e=true→S k=true)
theorem x9 {ops:List Oper}{all:List rE}{S:Nat→Bool}(hS:Closed ops S):∀(r:List Oper) (es:List rE) (i:Nat) (Dt:List Nat),Vn all r es i Dt=true →
  ops.drop i=r→all.drop i=es→Dt.length=i→(∀k m,nth Dt k=some m→S k=true→∀x,m.testBit x=true→S x=true) →
  ∀k o,r[k]? = some o→∃e,es[k]? = some e∧Sep ops all S (i+k) o e
 |[],es,i,Dt,_,_,_,_,_,k,o,hk=>by simp at hk
 | o0::r,es,i,Dt,h,hops,hes,hlen,OT,k,o,hk=>by
   simp only[Vn] at h;cases es with
   |nil=>simp at h
   | cons e0 es=>
     simp only[Bool.and_eq_true] at h;obtain⟨h1,h2,h3⟩:=h;have ho0:ops[i]? = some o0:=by
      have:=congrArg (fun l=>l[0]?) hops;simpa using this
     have aam:(∀e∈o0.after.toList,Region.binds .any e=true→S e.on=true)→∀x,(Hw Dt o0.after.toList).testBit x=true→S x=true:=fun he=>rQ OT _ he
     cases k with
     | zero=>
       simp only[List.getElem?_cons_zero,Option.some.injEq] at hk;subst hk;refine⟨e0,rfl,fun ed Qx hb=>qi h1 ed Qx hb,fun he k x hki hx hc=>?_⟩;have:=wG h2 k x (by rw[List.getElem?_take];simp only[Nat.add_zero] at hki;rw[if_pos hki];exact hx) hc;rw[Nat.zero_add] at this;exact aam he k this
     | succ k=>
       obtain⟨e,he,hsep⟩:=x9 hS r es (i+1) (Dt++[Hw Dt o0.after.toList]) h3 (by rw[←List.drop_drop,hops];rfl) (by rw[←List.drop_drop,hes];rfl) (by simp[hlen])
        (fun k' m hk' KP x hx=>by
         rcases Nat.lt_or_ge k' Dt.length with hlt|hge
         ·rw[Dx hlt] at hk';exact OT k' m hk' KP x hx
         rw[rF,List.getElem?_append_right hge] at hk';have:k' - Dt.length=0:=by
          rcases Nat.eq_zero_or_pos (k' - Dt.length) with h|h
          ·exact h
          rw[List.getElem?_eq_none (by simp;omega)] at hk';cases hk'
         rw[this] at hk';simp only[List.getElem?_cons_zero,Option.some.injEq] at hk';subst hk';have hki:k'=i:=by omega
         subst hki;exact aam (fun ed Qx hb=>hS _ o0 ho0 KP ed Qx hb) x hx)
        k o (by simpa using hk)
       refine⟨e,by simpa using he,?_⟩;rw[show i+(k+1)=i+1+k from by omega];exact hsep
end
section
variable {P:Program}{T:Tab}{c:Ctx}
theorem Bu {n:Nat}:∀{l:List Oper},mg n l=true→∀(k:Nat) (o:Oper),l[k]? = some o→∀t,o.dst=some t→t<n
 |[],_,k,o,hk,_,_=>by simp at hk
 | x::r,h,k,o,hk,t,ht=>by
   simp only[mg] at h;cases k with
   | zero=>
     simp only[List.getElem?_cons_zero,Option.some.injEq] at hk;subst hk;rw[ht] at h;simp only at h;split at h
     ·rename_i hb;rwa [Nat.blt_eq] at hb
     cases h
   | succ k=>
     refine Bu (l:=r) ?_ k o (by simpa using hk) t ht;split at h
     ·split at h
      ·exact h
      cases h
     exact h
theorem Bv {x y:rE}{t:Nat}(h:t∈dl x.dst)(h':t∈y.look):kP x y=true∧kP y x=true:=by
 constructor<;>simp[kP,qh h h']
theorem Eh {x y:rE}{t:Nat}(h:t∈dl x.dst)(h':t∈dl y.dst):kP x y=true∧kP y x=true:=by
 constructor<;>simp[kP,qh h h',qh h' h]
theorem Il {x y:rE}{t:Nat}(h:t∈x.wr)(h':t∈y.rd):kP x y=true∧kP y x=true:=by
 constructor<;>simp[kP,qh h h']
theorem Im {x y:rE}{t:Nat}(h:t∈x.wr)(h':t∈y.wr):kP x y=true∧kP y x=true:=by
 constructor<;>simp[kP,qh h h',qh h' h]
theorem any_ok {ops:Array Oper}{base nx:Nat}{tm:List (Nat×AV)}{hp:List (Nat×au)}{wT:List (List (Nat×AV))}{wH:List (List (Nat×au))}{es:List rE}{Q:Exit→Act→World→Prop}
  (hall:∀k o,ops.toList[k]? = some o→∃v ws e,wT[k]? = some (Dw o.dst v)∧wH[k]? = some ws∧es[k]? = some e∧e.dst=o.dst∧e.wr=keys ws ∧
    OP P c ops base o k v ws e (acc (fun x=>Nat.blt x k) wT 0 tm) (acc (fun x=>Nat.blt x k) wH 0 hp))
  (hlT:wT.length=ops.size) (hlH:wH.length=ops.size) (hfp:Z7 ops.toList es=true) (hn:base+ops.size≤nx) (hd:mg c.n ops.toList=true)
  (ro:Option Nat) (hfin:∀R a w,aS c R ⟨acc (fun _=>true) wT 0 tm,nx,acc (fun _=>true) wH 0 hp⟩ a w→Q .normal a w) :
  ∀(fuel:Nat) (listed:Array Bool) (R:Real) (a:Act) (w:World),listed.size=ops.size→Closed ops.toList (fun k=>listed.getD k false)→listed.toList.count false≤fuel →
   aS c R ⟨acc (fun k=>listed.getD k false) wT 0 tm,nx,acc (fun k=>listed.getD k false) wH 0 hp⟩ a w→wpAnyIn (W1 ro) 0 P .any ops Q fuel listed a w:=by
 have aao:∀k o,ops[k]? = some o→∀ed∈o.after.toList,Region.binds .any ed=true→ed.on<k:=by
  intro k o ho;obtain⟨e,_,hs⟩:=x9 (S:=fun _=>true) (fun _ _ _ _ _ _ _=>rfl) ops.toList es 0 [] hfp rfl rfl rfl (fun _ m h=>by simp[nth] at h) k o (by rw[Array.getElem?_toList];exact ho);have:=hs.1;rwa [Nat.zero_add] at this
 have hdone:∀listed:Array Bool,listed.size=ops.size→Region.ready .any ops listed=[]→∀k,k<ops.size→listed.getD k false=true:=by
  intro listed hsz hr k;induction k using Nat.strongRecOn with
  | ind k ih=>
    intro hk;cases hb:listed.getD k false with
    |true=>rfl
    | false=>
      exfalso;have:k∈Region.ready .any ops listed:=by
       rw[mem_ready];refine⟨?_,ops[k],by simp[hk],fun ed Qx hbd=>?_⟩
       ·have hk':k<listed.size:=by omega
        simp[hk'] at hb ⊢;exact hb
       have hlt:=aao k ops[k] (by simp[hk]) ed (by simpa using Qx) hbd;exact ih ed.on hlt (by omega)
      rw[hr] at this;simp at this
 have hend:∀(listed:Array Bool) (R:Real) (a:Act) (w:World),listed.size=ops.size→Region.ready .any ops listed=[] →
   aS c R ⟨acc (fun k=>listed.getD k false) wT 0 tm,nx,acc (fun k=>listed.getD k false) wH 0 hp⟩ a w→Q .normal a w:=by
  intro listed R a w hsz hr g;refine hfin R a w (g.congr (fun t=>jH t wT 0 _ _ rfl fun k ws hk _=>?_) fun b=>jH b wH 0 _ _ rfl fun k ws hk _=>?_)
  ·rw[Nat.zero_add];exact (hdone listed hsz hr k (by rw[←hlT];exact (List.getElem?_eq_some_iff.1 hk).1)).symm
  rw[Nat.zero_add];exact (hdone listed hsz hr k (by rw[←hlH];exact (List.getElem?_eq_some_iff.1 hk).1)).symm
 intro fuel;induction fuel with
 | zero=>
   intro listed R a w hsz hcl hc g;have hr:Region.ready .any ops listed=[]:=by
    cases hr:Region.ready .any ops listed with
    |nil=>rfl
    | cons j r=>
      exfalso;have hj:j∈Region.ready .any ops listed:=by rw[hr];simp
      rw[mem_ready] at hj;obtain⟨h0,o,ho,_⟩:=hj;have hjl:j<listed.size:=by rw[hsz];exact (Array.getElem?_eq_some_iff.1 ho).1
      have:false∈listed.toList:=by
       have:listed[j]=false:=by simpa[hjl] using h0
       rw[←this];simp
      have:=List.count_pos_iff.2 this;omega
   exact⟨hr,hend listed R a w hsz hr g⟩
 | succ fuel ih=>
   intro listed R a w hsz hcl hc g;refine⟨fun hr=>hend listed R a w hsz hr g,fun i hi=>?_⟩;rw[mem_ready] at hi;obtain⟨h0,o,ho,hpre⟩:=hi;have hio:i<ops.size:=(Array.getElem?_eq_some_iff.1 ho).1;have hil:i<listed.size:=by omega
   have hif:listed.getD i false=false:=by simpa[hil] using h0
   have hol:ops.toList[i]? = some o:=by rw[Array.getElem?_toList];exact ho
   obtain⟨v,ws,e,a1,a2,a3,a4,a5,a6⟩:=hall i o hol;have hsep:∀k o',ops.toList[k]? = some o'→∃e,es[k]? = some e∧Sep ops.toList es (fun k=>listed.getD k false) k o' e:=by
    intro k o' hk;have:=x9 hcl ops.toList es 0 [] hfp rfl rfl rfl (fun _ m h=>by simp[nth] at h) k o' hk;rwa [Nat.zero_add] at this
   have hS:∀k x,es[k]? = some x→k<ops.size→kP x e=true→kP e x=true→listed.getD k false=Nat.blt k i:=by
    intro k x hx hk hc1 hc2;rcases Nat.lt_trichotomy k i with hlt|heq|hgt
    ·obtain⟨e',Dy,hs⟩:=hsep i o hol;rw[a3] at Dy;cases Dy;have hk1:listed.getD k false=true:=hs.2 (fun ed Qx hb=>hpre ed (by simpa using Qx) hb) k x hlt hx hc1;have hk2:Nat.blt k i=true:=by rw[Nat.blt_eq];exact hlt
     rw[hk1,hk2]
    ·subst heq;rw[hif];cases hb:Nat.blt k k with
     |false=>rfl
     |true=>rw[Nat.blt_eq] at hb;omega
    have hb':Nat.blt k i=false:=by
     cases hb:Nat.blt k i with
     |false=>rfl
     |true=>rw[Nat.blt_eq] at hb;omega
    rw[hb'];cases hb:listed.getD k false with
    |false=>rfl
    | true=>
      exfalso;have hok:ops.toList[k]? = some ops[k]:=by simp[hk]
      obtain⟨e',Dy,hs⟩:=hsep k ops[k] hok;rw[hx] at Dy;cases Dy;have:=hs.2 (fun ed Qx hbd=>hcl k ops[k] hok hb ed Qx hbd) i e hgt a3 hc2;simp only at this;rw[hif] at this;cases this
   have Xm:∀k,k<ops.size→∃o' v' qU e',ops[k]? = some o'∧wT[k]? = some (Dw o'.dst v')∧wH[k]? = some qU∧es[k]? = some e'∧e'.dst=o'.dst∧e'.wr=keys qU:=by
    intro k hk;obtain⟨v',qU,e',b1,b2,b3,b4,b5,_⟩:=hall k ops[k] (by simp[hk]);exact⟨ops[k],v',qU,e',by simp[hk],b1,b2,b3,b4,b5⟩
   have hTk:∀k qU,wT[k]? = some qU→∃e',es[k]? = some e'∧k<ops.size∧keys qU=dl e'.dst:=by
    intro k qU hk;have hkn:k<ops.size:=by rw[←hlT];exact (List.getElem?_eq_some_iff.1 hk).1
    obtain⟨o',v',w',e',_,b1,_,b3,b4,_⟩:=Xm k hkn;rw[hk] at b1;simp only[Option.some.injEq] at b1;exact⟨e',b3,hkn,by rw[b1,Ij,b4]⟩
   have hHk:∀k qU,wH[k]? = some qU→∃e',es[k]? = some e'∧k<ops.size∧keys qU=e'.wr:=by
    intro k qU hk;have hkn:k<ops.size:=by rw[←hlH];exact (List.getElem?_eq_some_iff.1 hk).1
    obtain⟨o',v',w',e',_,_,b2,b3,_,b5⟩:=Xm k hkn;rw[hk] at b2;simp only[Option.some.injEq] at b2;exact⟨e',b3,hkn,by rw[b2,b5]⟩
   have hop:=a6 R _ _ nx a w (fun t ht=>jH (S:=fun k=>listed.getD k false) t wT 0 tm tm rfl fun k qU hk htk=>by
     obtain⟨e',Dy,hkn,hke⟩:=hTk k qU hk;rw[Nat.zero_add];rw[hke] at htk;exact hS k e' Dy hkn (Bv htk ht).1 (Bv htk ht).2)
    (fun b hb=>jH (S:=fun k=>listed.getD k false) b wH 0 hp hp rfl fun k qU hk htk=>by
     obtain⟨e',Dy,hkn,hke⟩:=hHk k qU hk;rw[Nat.zero_add];rw[hke] at htk;exact hS k e' Dy hkn (Il htk hb).1 (Il htk hb).2)
    (by omega) (fun t ht=>Bu hd i o hol t ht) g ro Q
   have hS':∀k,(listed.setIfInBounds i true).getD k false=(listed.getD k false||Nat.beq k i):=by
    intro k;by_cases hki:k=i
    ·subst hki;simp[hil]
    rw[getD_set_ne false (Ne.symm hki)];cases hb:Nat.beq k i with
    |false=>simp
    |true=>exact absurd (Nat.eq_of_beq_eq_true hb) hki
   have hnext:∀R' a' w',aS c R' ⟨Dw o.dst v++acc (fun k=>listed.getD k false) wT 0 tm,nx,ws++acc (fun k=>listed.getD k false) wH 0 hp⟩ a' w' →
     wpAnyIn (W1 ro) 0 P .any ops Q fuel (listed.setIfInBounds i true) a' w':=by
    intro R' a' w' g';refine ih _ R' a' w' (by simp[hsz]) ?_ ?_ (g'.congr (fun t=>?_) fun b=>?_)
    ·intro k o' hk KP ed Qx hb;simp only at KP ⊢;rw[hS',Bool.or_eq_true] at KP ⊢;rcases KP with h|h
     ·exact .inl (hcl k o' hk h ed Qx hb)
     have:=Nat.eq_of_beq_eq_true h;subst this;rw[hol] at hk;cases hk;exact .inl (hpre ed (by simpa using Qx) hb)
    ·rw[Array.toList_setIfInBounds,List.count_set (by simpa using hil)];have:listed.toList[i]'(by simpa using hil)=false:=by simpa[hil] using h0
     have hm:false∈listed.toList:=by rw[←this];simp
     have hp:=List.count_pos_iff.2 hm;rw[this];show listed.toList.count false-1+0≤fuel
     omega
    ·refine MR a1 hS' t fun k qU hk ht ht' KP=>?_
     obtain⟨e',Dy,hkn,hke⟩:=hTk k qU hk;rw[hke] at ht';rw[Ij,←a4] at ht;rw[hS k e' Dy hkn (Eh ht' ht).1 (Eh ht' ht).2] at KP;rwa [Nat.blt_eq] at KP
    refine MR a2 hS' b fun k qU hk ht ht' KP=>?_
    obtain⟨e',Dy,hkn,hke⟩:=hHk k qU hk;rw[hke] at ht';rw[←a5] at ht;rw[hS k e' Dy hkn (Im ht' ht).1 (Im ht' ht).2] at KP;rwa [Nat.blt_eq] at KP
   unfold wpOpIn;rw[ho];simp only;split
   ·rename_i hw;rw[if_pos hw] at hop;exact Oper.wpIn_mono (fun a' w' ⟨R',g'⟩=>hnext R' a' w' g') hop
   rename_i hw;rw[if_neg hw] at hop;obtain⟨R',g'⟩:=hop;exact⟨fun _ _=>trivial,hnext R' _ w g'⟩
theorem aS.drawn {R:Real}{s:AS}{a:Act}{w:World}(g:aS c R s a w)(n:Nat):aS c R s a { w with drawn:=n }:=by
 have hN:∀r,r<w.heap.size→aG c R s.hp r→aG c R s.hp r:=fun r _ h=>h
 have hw:∀r,r<w.heap.size→¬aG c R s.hp r→({ w with drawn:=n }:World).heap[r]? = w.heap[r]? :=fun _ _ _=>rfl
 have h1:∀b off v,aH R b off v (lk s.hp b)→aH R b off v (lk s.hp b):=fun b off v h=>h
 have h2:∀b ver v,aD R b ver v (lk s.hp b)→aD R b ver v (lk s.hp b):=fun b ver v h=>h
 have h3:∀b ver i off v,aJ R b ver i off v (lk s.hp b)→aJ R b ver i off v (lk s.hp b):=fun b ver i off v h=>h
 refine⟨fun t v hv=>?_,g.size,g.lo,g.marks.imp fun Ds hm=>hm.kept (fun _ _ _=>rfl) (fun _ _ h=>h),g.fixed.kept (fun _ _ _=>rfl) (fun _ _ h=>h),fun b box hb=>?_,g.inj,g.free,⟨g.iE.size,g.iE.keep,g.iE.os,g.iE.tape,g.iE.output⟩,g.fG,fun v x h=>bP hN hw h1 h2 h3 v x (g.kept v x h)⟩
 ·obtain⟨x,hx,hr⟩:=g.slots t v hv;exact⟨x,hx,bP hN hw h1 h2 h3 v x hr⟩
 have hr:=g.boxes b box hb;cases box with
 | var cells=>
   simp only[dB] at hr ⊢;obtain⟨cur,e,ha,hb⟩:=hr;exact⟨cur,e,ha,aY hN hw h1 h2 h3 cells _ hb⟩
 | lM cells=>
   simp only[dB] at hr ⊢;obtain⟨cur,e,fr,ha,hn,hb⟩:=hr;exact⟨cur,e,fr,ha,hn,bY hN hw cells _ hb⟩
 | arr e ver st rows=>
   simp only[dB] at hr ⊢;obtain⟨xs,ha,hb⟩:=hr;exact⟨xs,ha,aI hN hw st rows xs hb⟩
 | gD ver st rows=>
   simp only[dB] at hr ⊢;exact bV hN hw _ _ hr
 | tr y ver rest st=>
   obtain⟨k0,kh,k1,k2,k3,k4⟩:=hr;exact⟨k0,kh,k1,⟨k2.size,k2.keep,k2.os,k2.tape,k2.output⟩,k3,k4⟩
 |fZ e' ver st j ed sd pre row post=>exact gZ hN hw rfl rfl rfl (fun k _=>rfl) rfl (fun vs h=>aY hN hw h1 h2 h3 _ _ h) hr
 |mp kk kv es=>exact hr
 | dX e' ver st pre row post=>
   obtain⟨xs,h8,h9,h10,h11,h12⟩:=hr;exact⟨xs,h8,aI hN hw _ _ _ h9,h10,aY hN hw h1 h2 h3 _ _ h11,aI hN hw _ _ _ h12⟩
theorem jU (hm:P.follows .mixedOrders=true)(hT:bA P T)(hg:gen T=false:=by rfl):∀(c:Ctx) (R:Real) (s:AS) (a:Act) (w:World) (id:Nat) (ops:Array Oper) (K:Exit→AS→Prop) (ro:Option Nat),aS c R s a w→mg c.n ops.toList=true →
  VC P T (.region id ops true) s K→(Code.region id ops true).wpIn (W1 ro) 0 P (fun e a' w'=>∃R' s',K e s'∧aS c R' s' a' w') a w:=by
 intro c R s a w id ops K ro g hd h;simp only[VC] at h;obtain⟨tm,nx,hp⟩:=s;simp only at h;split at h;rotate_left;cases h
 rename_i hb;have hb:=Nat.le_of_ble_eq_true hb;obtain⟨wT,wH,es,tmf,Xl,l1,l2,l3,⟨hfp,hK⟩,hf,hf',hall⟩:=Ik (c:=c) hT hg ops.toList 0 h;simp only[List.append_nil,List.reverse_reverse] at hfp;have g0:aS c R ⟨tm,nx,hp⟩ a { w with drawn:=w.drawn+1 }:=g.drawn _;have hfalse:(fun k=>(Array.replicate ops.size false).getD k false)=fun _=>false:=by
  funext k
  simp only[Array.getD_eq_getD_getElem?,Array.getElem?_replicate];split<;>rfl
 refine wpIn_region_any hm (any_ok (hall:=fun k o hk=>by
  have:=hall k o hk;rwa [Nat.zero_add] at this) (by simpa using l1) (by simpa using l2) hfp (by simpa using hb) hd ro ?_ ops.size _ R a _ (by simp) ?_ ?_ ?_)
 ·intro R' a' w' g';exact⟨R',_,hK,g'.congr hf hf'⟩
 ·intro k o hk hS;have:=congrFun hfalse k;rw[hfalse] at hS;cases hS
 ·simp
 rw[hfalse,lU,lU];exact g0
end
section
variable {P:Program}{T:Tab}
theorem PC.mono {f:FuncId}{args:List PV}{Q Q':PV→Prop}(h:PC P f args Q)(hq:∀r,Q r→Q' r):PC P f args Q':=
 ⟨h.1,fun F w bQ hF ha=>(h.2 F w bQ hF ha).mono fun e w' ⟨v,r,a,b,c,d⟩=>⟨v,r,a,hq r b,c,d⟩⟩
theorem PC.le {f:FuncId}{args:List PV}{r:PV}(h:PC P f args fun x=>RG x r):dP P f args r:=
 ⟨h.1,fun F w bQ hF ha=>(h.2 F w bQ hF ha).mono fun e w' ⟨v,x,a,b,c,d⟩=>⟨v,r,a,rfl,lW (fun _ h=>h) _ _ _ b c,d⟩⟩
theorem aL {f:FuncId}{args zq:List PV}{r:PV}(h:dP P f zq r)(e:yg args zq):dP P f args r:=
 ⟨h.1,fun F w bQ hF ha=>h.2 F w bQ hF (nJ (fun _ h=>h) _ _ _ e ha)⟩
def aaw (args:List AV)(hp:List (Nat×au))(zq:List AV)(lq:List (Nat×au)):Prop:=
 match KT hp with
 | ρ0=>match mt hp lq 1000 ρ0 (ji hp lq ρ0 (pairs args zq [])) with
   | some ρ=>match BA ρ hp lq with
     |true=>DC ρ hp lq (Dz ρ args zq)
     |false=>False
   |none=>False
theorem aN {f:FuncId}{args zq:List AV}{hp lq:List (Nat×au)}{r:AV}{hp':List (Nat×au)}(h:lg P f zq lq r hp')(e:aaw args hp zq lq):lg P f args hp r hp':=by
 refine⟨h.1,fun c R w bQ hh ha=>?_⟩;simp only[aaw] at e;split at e
 ·rename_i ρ _;split at e
  ·rename_i hf;have H:=F4 hf e;exact h.2 c (lH ρ R) w bQ (hh.weaken H) (mG H _ _ _ (rU e) ha)
  exact e.elim
 exact e.elim
theorem RS {N:Nat→Prop}{w:World}{st:Nat}{rows:List (List PV)}{v:Value}(h:aU N w (.sl false st rows) v) :
  aU N w (.sl true st rows) v∨(rows=[]∧aU N w (.sc (.slice none 0 0)) v):=by
 simp only[aU] at h ⊢;obtain⟨p,len,cap,rfl,h2,h3,h4,h5⟩:=h;cases p with
 | none=>
   obtain⟨_,h6⟩:=h4 rfl;subst h6;have:len=0:=by omega
   subst this;exact .inr ⟨List.eq_nil_of_length_eq_zero h2.symm,rfl⟩
 |some a=>exact .inl ⟨some a,len,cap,rfl,h2,h3,fun h=>(by cases h),h5⟩
theorem M0 {N:Nat→Prop}{w:World}{st:Nat}{rows:List (List PV)}{b:List PV}:∀{a:List PV} {vs:List Value},dI N w (a ++ .sl false st rows::b) vs →
  dI N w (a ++ .sl true st rows::b) vs∨(rows=[]∧dI N w (a ++ .sc (.slice none 0 0)::b) vs)
 | [],vs,h=>by
   simp only[List.nil_append,dI] at h ⊢;obtain⟨v,r,e,h1,h2⟩:=h;rcases RS h1 with h1|⟨h0,h1⟩
   ·exact .inl ⟨v,r,e,h1,h2⟩
   exact .inr ⟨h0,v,r,e,h1,h2⟩
 | x::a,vs,h=>by
   simp only[List.cons_append,dI] at h ⊢;obtain⟨v,r,e,h1,h2⟩:=h;rcases M0 h2 with h2|⟨h0,h2⟩
   ·exact .inl ⟨v,r,e,h1,h2⟩
   exact .inr ⟨h0,v,r,e,h1,h2⟩
theorem Xp {f:FuncId}(a:List PV){b:List PV}{st:Nat}{rows:List (List PV)}{Q:PV→Prop}(h1:PC P f (a ++ .sl true st rows::b) Q)
  (h2:rows=[]→PC P f (a ++ .sc (.slice none 0 0)::b) Q):PC P f (a ++ .sl false st rows::b) Q:=
 ⟨h1.1,fun F w bQ hF ha=>by
  rcases M0 ha with h|⟨h0,h⟩
  ·exact h1.2 F w bQ hF h
  exact (h2 h0).2 F w bQ hF h⟩
theorem IA {N:Nat→Prop}{w:World}{hp:List (Nat×au)}{R:Real}{st:Nat}{rows:List (List PV)}{b:List AV}:∀{a:List AV} {vs:List Value},bD N w hp R (a ++ .pv (.sl false st rows)::b) vs →
  bD N w hp R (a ++ .pv (.sl true st rows)::b) vs∨(rows=[]∧bD N w hp R (a ++ .pv (.sc (.slice none 0 0))::b) vs)
 | [],vs,h=>by
   simp only[List.nil_append,bD] at h ⊢;obtain⟨v,r,e,h1,h2⟩:=h;simp only[ai] at h1 ⊢;rcases RS h1 with h1|⟨h0,h1⟩
   ·exact .inl ⟨v,r,e,h1,h2⟩
   exact .inr ⟨h0,v,r,e,h1,h2⟩
 | x::a,vs,h=>by
   simp only[List.cons_append,bD] at h ⊢;obtain⟨v,r,e,h1,h2⟩:=h;rcases IA h2 with h2|⟨h0,h2⟩
   ·exact .inl ⟨v,r,e,h1,h2⟩
   exact .inr ⟨h0,v,r,e,h1,h2⟩
theorem aax {f:FuncId}(a:List AV){b:List AV}{hp:List (Nat×au)}{st:Nat}{rows:List (List PV)}{Q:AV→List (Nat×au)→Prop}(h1:GC P f (a ++ .pv (.sl true st rows)::b) hp Q)
  (h2:rows=[]→GC P f (a ++ .pv (.sc (.slice none 0 0))::b) hp Q):GC P f (a ++ .pv (.sl false st rows)::b) hp Q:=
 ⟨h1.1,fun c R w bQ hh ha=>by
  rcases IA ha with h|⟨h0,h⟩
  ·exact h1.2 c R w bQ hh h
  exact (h2 h0).2 c R w bQ hh h⟩
mutual
def Ar:PV→Prop
 |.sl _ _ rows=>rows.length≤9223372036854775807
 |.agg cs=>F6 cs
 |_=>True
def F6:List PV→Prop
 |[]=>True
 |p::r=>Ar p∧F6 r
end
mutual
theorem RU {N:Nat→Prop}{w:World}:∀(p:PV) (v:Value),aU N w p v→Ar p
 | .sl _ _ rows,v,h=>by
   simp only[aU] at h;obtain⟨p,len,cap,_,h2,h3,_⟩:=h;simp only[Ar];omega
 | .agg cs,v,h=>by
   simp only[aU] at h;obtain⟨vs,_,h⟩:=h;simp only[Ar];exact RV cs _ h
 |.sc _,_,_=>by simp only[Ar]
 |.fM _,_,_=>by simp only[Ar]
 |.dh _ _,_,_=>by simp only[Ar]
 |.fn _ _ _,_,_=>by simp only[Ar]
 |.junk,_,_=>by simp only[Ar]
 |.J5 _ _,_,_=>by simp only[Ar]
theorem RV {N:Nat→Prop}{w:World}:∀(ps:List PV) (vs:List Value),gG N w ps vs→F6 ps
 |[],_,_=>trivial
 | p::ps,vs,h=>by
   simp only[gG] at h;obtain⟨v,r,_,_,h1,h2⟩:=h;exact⟨RU p v h1,RV ps r h2⟩
end
theorem RX {N:Nat→Prop}{w:World}:∀(ps:List PV) (vs:List Value),dI N w ps vs→F6 ps
 |[],_,_=>trivial
 | p::ps,vs,h=>by
   simp only[dI] at h;obtain⟨v,r,_,h1,h2⟩:=h;exact⟨RU p v h1,RX ps r h2⟩
theorem bG.enters {f:FuncId}{fn:Func}(h:bG P f fn):Enters P f:=⟨fn,h.func,h.body,h.name⟩
theorem nL {f:FuncId}{fn:Func}(he:bG P f fn){args:List PV}{Q:PV→Prop}(h:F6 args→PC P f args Q):PC P f args Q:=
 ⟨he.enters,fun F w bQ hF ha=>(h (RX args _ ha)).2 F w bQ hF ha⟩
theorem dJ {α:Type}(f:α→List PV)(l:List α)(k:Nat)(h:k<l.length):(l.map f)[((k:Nat):Int).toNat]? = some (f l[k]):=by
 simp[h]
theorem RY {α:Type}(f:α→List PV)(l:List α){i:Int}{k:Nat}(e:i=(k:Int))(h:k<l.length):(l.map f)[i.toNat]? = some (f l[k]):=by
 subst e;simp[h]
theorem dec_lt {k n:Nat}(h:k<n):n-(k+1)<n-k:=by omega
theorem kT {n:Int}(h0:0≤n)(h:n≤18446744073709551615):IntKind.u64.wrap n=n:=by
 simp[IntKind.wrap,IntKind.bits,IntKind.signed];omega
theorem bE {n:Int}(h0 : -9223372036854775808≤n)(h:n≤9223372036854775807):IntKind.i64.wrap n=n:=by
 simp[IntKind.wrap,IntKind.bits,IntKind.signed];omega
end
theorem fk {b:Bool}{p q:Prop}(h:b=true→p)(k:b=false→q):(b=true→p)∧(b=false→q):=⟨h,k⟩
theorem lr (l:List (List PV)):gu l l:=aC l
theorem aQ {P:Program}{T:Tab}{c:Code}{s:AS}{K:Exit→AS→Prop}{X:Prop}(h:VC P T c s K):VC P T c s K∨X:=Or.inl h
theorem zoc {P:Program}{T:Tab}{a:Operand}{b c:Code}{s:AS}{K:Exit→AS→Prop}{X:Prop}(h:VC P T (Code.cond a b c) s K):VC P T (Code.cond a b c) s K∨X:=Or.inl h
theorem zos {P:Program}{T:Tab}{b c:Code}{s:AS}{K:Exit→AS→Prop}{X:Prop}(h:VC P T (Code.seq b c) s K):VC P T (Code.seq b c) s K∨X:=Or.inl h
theorem bC {a b c:Prop}(h:a):(a∨b)∨c:=.inl (.inl h)
theorem iC {a b c:Prop}(h:b):(a∨b)∨c:=.inl (.inr h)
theorem znb {m n:Nat}(h:Nat.ble m n=true):m≤n:=Nat.le_of_ble_eq_true h
theorem mH {α:Type}{a:α}{l:List α}:(a::l).length=l.length+1:=rfl
theorem mI {α:Type}:([]:List α).length=0:=rfl
theorem fe {α β:Type}{f:α→β}{l:List α}:(l.map f).length=l.length:=List.length_map ..
theorem mZ {α:Type}{a b:List α}:(a++b).length=a.length+b.length:=List.length_append
theorem kU {p:Prop}[Decidable p]:(decide p=true)=p:=decide_eq_true_eq
theorem Au {p:Prop}[Decidable p]:(decide p=false)=¬p:=propext decide_eq_false_iff_not
theorem aK {p:Prop}(h:p:=by (repeat' first|(with_reducible first|exact⟨⟩|exact rfl|exact lr _)|((conv=>whnf);with_reducible first|apply And.intro|exact⟨⟩)|exact rfl|exact fun h=>h|exact lr _)<;>fail):p:=h
theorem dx {p:Prop}(h:p:=by (repeat' first|(with_reducible first|exact⟨⟩|exact rfl|exact lr _)|((conv=>whnf);with_reducible first|apply And.intro|exact⟨⟩)|exact rfl|exact fun h=>h|assumption|exact lr _)<;>fail):p:=h
theorem bF {p:Prop}(h:False:=by first|exact absurd hc (by decide)|(simp only[*,reduceCtorEq] at hc<;>fail)):p:=h.elim
theorem dK {p:Prop}(h:False:=by first|exact absurd hc (by decide)|(simp only[*,reduceCtorEq,Bool.not_true,Bool.not_false] at hc<;>fail)):p:=h.elim
theorem zx5 {p:Prop}(h:p:=by first|rfl|exact znb rfl|omega|(simp only[mH,mI,fe,mZ];omega)):p:=h
theorem zx7 {p:Prop}(h:p:=by focus (simp only[List.length_map];omega)):p:=h
theorem aM {p q:Prop}(h:q)(k:p:=by first|rfl|exact znb rfl|omega|(simp only[mH,mI,fe,mZ];omega)):p∧q:=⟨k,h⟩
theorem VB {p q:Prop}(h:q)(k:p:=by (simp only[List.length_map];omega)):p∧q:=⟨k,h⟩
theorem zmc {α β:Type}{f:α→β}{a:α}{l:List α}:(a::l).map f=f a::l.map f:=rfl
theorem Yk {α β:Type}{f:α→β}:([]:List α).map f=[]:=rfl
theorem zca {α:Type}{a:α}{l m:List α}:(a::l)++m=a::(l++m):=rfl
theorem zna {α:Type}{l:List α}:[]++l=l:=rfl
theorem zma {α β:Type}{f:α→β}{a b:List α}:(a++b).map f=a.map f++b.map f:=List.map_append
theorem zx8 {p:Prop}(h:p:=by simp only[List.length_set,adj,Array.size_setIfInBounds,size_swp];omega):p:=h
theorem fF {P:Program}{f:FuncId}{fn:Func}(h:P.funcs[f]? = some fn)(k:(fn.body.isSome&&(!(fn.name == "runtime.NumGoroutine")&&codeOk fn.ntmps (codeOf fn)))=true:=by kernel_rfl):bG P f fn:=by
 simp only[Bool.and_eq_true,Bool.not_eq_true'] at k;exact⟨h,k.1,k.2.1,k.2.2⟩
end Go.AX
end
section
universe u
variable {α:Type}
namespace Go.AX
abbrev uu (n:Int):PV:=.sc (.int .u64 n)
abbrev ii (n:Int):PV:=.sc (.int .i64 n)
abbrev bl (b:Bool):PV:=.sc (.bool b)
abbrev dV:PV:=.sc (.slice none 0 0)
abbrev unit:PV:=.fM []
structure Pl where
 node:Int
 bf:Int
deriving DecidableEq,Inhabited
def Pl.c (x:Pl):List PV:=[ii x.node,uu x.bf]
def dO (l:List Pl):PV:=.sl false 2 (l.map Pl.c)
structure Fr where
 first:Int
 ah:List Pl
deriving DecidableEq,Inhabited
def Fr.c (f:Fr):List PV:=[uu f.first,dO f.ah]
def eT (l:List Fr):PV:=.sl false 2 (l.map Fr.c)
structure Lg where
 id:Int
 w:Int
 a:Int
 aj:List Fr
 closed:Int
 last:Int
deriving DecidableEq,Inhabited
def Lg.c (l:Lg):List PV:=[uu l.id,ii l.w,ii l.a,eT l.aj,ii l.closed,uu l.last]
def Db (l:List UInt8):PV:=.sl false 1 (l.map jq)
structure Ft where
 dM:Int
 n:Int
 set:List Pl
 at_:Int
 since:Int
 tag:Int
 done:Int
 body:List UInt8
deriving DecidableEq,Inhabited
def Ft.c (f:Ft):List PV:=[uu f.dM,uu f.n,dO f.set,ii f.at_,uu f.since,uu f.tag,ii f.done,Db f.body]
structure Rq where
 to:Pl
 kind:Int
 dM:Int
 n:Int
 aX:Int
 sure:Int
 copy:Int
 body:List UInt8
 keep:List Int
deriving DecidableEq,Inhabited
def adv (n:Int):List PV:=[uu n]
def slU (l:List Int):PV:=.sl false 1 (l.map adv)
def Rq.c (r:Rq):List PV:=[ii r.to.node,uu r.to.bf,ii r.kind,uu r.dM,uu r.n,uu r.aX,uu r.sure,ii r.copy,Db r.body,slU r.keep]
def Qz (l:List Rq):PV:=.sl false 10 (l.map Rq.c)
structure Rs where
 from_:Pl
 kind:Int
 code:Int
 dM:Int
 n:Int
 aX:Int
 sure:Int
 body:List UInt8
deriving DecidableEq,Inhabited
def Rs.c (r:Rs):List PV:=[ii r.from_.node,uu r.from_.bf,ii r.kind,ii r.code,uu r.dM,uu r.n,uu r.aX,uu r.sure,Db r.body]
def qZ {α:Type}(p:α→Bool):List α→Int
 |[]=>-1
 | x::r=>match p x with
   |true=>0
   | false=>match qZ p r with
     |.ofNat n=>n+1
     |.negSucc _=>-1
theorem mM {α:Type}(p:α→Bool):∀{l:List α},(∀x∈l,p x=false)→qZ p l = -1
 |[],_=>rfl
 | x::r,h=>by
   have e:=mM p (l:=r) fun y hy=>h y (by simp[hy])
   simp only[qZ,h x (by simp),e];rfl
theorem yG {α:Type}(p:α→Bool):∀{l:List α} {k:Nat} (hk:k<l.length),(∀j (hj:j<l.length),j<k→p l[j]=false)→p l[k]=true→qZ p l=k
 |[],k,hk,_,_=>by simp at hk
 | x::r,0,_,_,h=>by
   simp only[List.getElem_cons_zero] at h;simp[qZ,h]
 | x::r,k+1,hk,h,h'=>by
   have h0:=h 0 (by simp) (by omega);simp only[List.getElem_cons_zero] at h0;simp only[List.getElem_cons_succ] at h';have:=yG p (l:=r) (k:=k) (by simpa using hk) (fun j hj hlt=>by
    have:=h (j+1) (by simpa using hj) (by omega);simpa using this) h'
   simp only[qZ,h0,this];show ((k:Int)+1=_)
   omega
theorem jo {α:Type}(p:α→Bool):∀(l:List α),(qZ p l = -1∧∀x∈l,p x=false)∨∃k,∃hk:k<l.length,qZ p l=(k:Nat)∧p l[k]=true∧∀j (hj:j<l.length),j<k→p l[j]=false
 |[]=>.inl ⟨rfl,by simp⟩
 | x::r=>by
   cases hx:p x with
   | true=>
     refine .inr ⟨0,by simp,?_,by simpa using hx,by simp⟩;simp[qZ,hx]
   | false=>
     rcases jo p r with ⟨h1,h2⟩|⟨k,hk,h1,h2,h3⟩
     ·refine .inl ⟨?_,?_⟩
      ·simp only[qZ,hx,h1];rfl
      intro y hy;rcases List.mem_cons.1 hy with rfl|hy
      ·exact hx
      exact h2 y hy
     refine .inr ⟨k+1,by simpa using hk,?_,by simpa using h2,?_⟩
     ·simp only[qZ,hx,h1];show ((k:Int)+1=_)
      omega
     intro j hj hlt;cases j with
     |zero=>simpa using hx
     |succ j=>simpa using h3 j (by simpa using hj) (by omega)
theorem K5 {α:Type}(p:α→Bool)(l:List α):decide (qZ p l≥0)=l.any p:=by
 rw[Bool.eq_iff_iff];simp only[decide_eq_true_eq,List.any_eq_true];rcases jo p l with ⟨h1,h2⟩|⟨k,hk,h1,h2,h3⟩
 ·rw[h1];constructor
  ·intro h;omega
  rintro⟨x,hx,hp⟩;rw[h2 x hx] at hp;cases hp
 rw[h1];exact⟨fun _=>⟨l[k],List.getElem_mem hk,h2⟩,fun _=>by omega⟩
theorem Pl.eta (x:Pl):(⟨x.node,x.bf⟩:Pl)=x:=rfl
theorem Pl.beq (x y:Pl):((x.node==y.node)&&(x.bf==y.bf))=(x==y):=by
 rw[Bool.eq_iff_iff];simp only[Bool.and_eq_true,beq_iff_eq];cases x;cases y;simp
theorem Pl.aaK (x:Pl)(a b:Int):((a==x.node)&&(b==x.bf))=(x==⟨a,b⟩):=by
 rw[Bool.eq_iff_iff];simp only[Bool.and_eq_true,beq_iff_eq];cases x;simp;omega
theorem Pl.aaL (x:Pl)(a b:Int):((x.node==a)&&(x.bf==b))=(x==⟨a,b⟩):=by
 rw[Bool.eq_iff_iff];simp only[Bool.and_eq_true,beq_iff_eq];cases x;simp
theorem lJ {k:Nat}{l:List α}{q:(j:Nat)→j<l.length→Prop}(h:∀j (hj:j<l.length),j<k→q j hj)(hk:∀(hj:k<l.length),q k hj):∀j (hj:j<l.length),j<k+1→q j hj:=by
 intro j hj hjk;rcases Nat.lt_succ_iff_lt_or_eq.1 hjk with hj'|rfl
 ·exact h j hj hj'
 exact hk hj
theorem ve {l:List α}{q:α→Prop}(h:∀j (hj:j<l.length),j<l.length→q l[j]):∀x∈l,q x:=by
 intro x hx;obtain⟨j,hj,rfl⟩:=List.getElem_of_mem hx;exact h j hj hj
end Go.AX
end
section
namespace Go.AX
def N0:Nat→Prop:=fun _=>False
def Rd (P:Program)(w:World)(t:TypeId)(n:Nat)(Q:List PV→Prop):Prop:=
 P.cellsOf t=n∧∀(H:Type) (enc:TypeId×Value→H) (base:Nat) (spare:Nat→Bool) (held:Bool) (fuel:Nat) (cs:List Value) (x:DataW H×List MemPlace),
  DataW.trod enc P w base spare held fuel t cs=some x→∃row,row.length=n∧gG N0 w row cs∧Q row
section
variable {P:Program}{w:World}{t e:TypeId}{n:Nat}{Q Q':List PV→Prop}
theorem Rd.imp (h:Rd P w t n Q)(hq:∀row,row.length=n→Q row→Q' row):Rd P w t n Q':=
 ⟨h.1,fun H enc base spare held fuel cs x hx=>by
  obtain⟨row,h1,h2,h3⟩:=h.2 H enc base spare held fuel cs x hx;exact⟨row,h1,h2,hq row h1 h3⟩⟩
theorem KV {k:IntKind}(hu:P.underlying t=some (.int k))(hc:P.cellsOf t=1):Rd P w t 1 (fun row=>∃i,row=[.sc (.int k i)]∧(Lit.int k i).wf=true):=
 ⟨hc,fun H enc base spare held fuel cs x hx=>by
  obtain⟨i,rfl,_,hw⟩:=DataW.trod_int hu hx;exact⟨[.sc (.int k i)],rfl,⟨_,_,rfl,rfl,by simp only[aU],by simp only[gG]⟩,i,rfl,hw⟩⟩
theorem F7 {N:Nat→Prop}{st:Nat}:∀{rows:List (List PV)} {vs:List Value},(∀i (h:i<rows.length),rows[i].length=st∧eY N w rows[i] (vs.drop (i*st)))→bB N w st rows vs
 |[],vs,_=>by simp only[bB]
 | r::rows,vs,h=>by
   have h0:=h 0 (by simp);simp only[List.getElem_cons_zero,Nat.zero_mul,List.drop_zero] at h0;refine⟨h0.1,h0.2,F7 fun i hi=>?_⟩;have:=h (i+1) (by simpa using hi);simp only[List.getElem_cons_succ] at this;rw[List.drop_drop,show st+i*st=(i+1)*st from by rw[Nat.add_mul];omega];exact this
theorem wM (hu:P.underlying t=some (.slice e))(hc:P.cellsOf t=1)(hn:0<n)(he:Rd P w e n Q):Rd P w t 1 (fun row=>∃rows,row=[.sl false n rows]∧∀r∈rows,r.length=n∧Q r):=
 ⟨hc,fun H enc base spare held fuel cs x hx=>by
  rcases Deep.open_slice hu hx with ⟨rfl,_⟩|⟨a,len,cap,m,fu,D,Pl,rfl,hb,hl,hm,Zt,_,hel⟩
  ·refine⟨[.sl false n []],rfl,⟨_,_,rfl,rfl,?_,by simp only[gG]⟩,[],rfl,by simp⟩;simp only[aU];exact⟨none,0,0,rfl,rfl,⟨Nat.le_refl _,by omega⟩,fun _=>(by simp),fun a ha=>(by cases ha)⟩
  have hlm:len≤m:=by rw[Zt];split<;>omega
  have ex:∀i,i<len→∃row:List PV,row.length=n∧Q row∧∃Aq,Aq.length=n∧(∀j,j<n→w.cell? ((a.add (i*n)).add j)=Aq[j]?)∧gG N0 w row Aq:=by
   intro i hi;obtain⟨Aq,h1,h2⟩:=hel i (by omega);rw[he.1] at h1;obtain⟨row,q1,q2,q3⟩:=he.2 H enc base spare held _ _ _ h2;obtain⟨_,h3,h4⟩:=World.cells?_some h1;exact⟨row,q1,q3,Aq,h3,h4,q2⟩
  have ⟨f,hf⟩:∃f:Nat→List PV,∀i,i<len→(f i).length=n∧Q (f i)∧∃Aq,Aq.length=n∧(∀j,j<n→w.cell? ((a.add (i*n)).add j)=Aq[j]?)∧gG N0 w (f i) Aq:=by
   refine⟨fun i=>if h:i<len then (ex i h).choose else [],fun i hi=>?_⟩;simp only[hi,dif_pos];exact (ex i hi).choose_spec
  refine⟨[.sl false n ((List.range len).map f)],rfl,⟨_,_,rfl,rfl,?_,by simp only[gG]⟩,_,rfl,?_⟩
  ·simp only[aU];refine⟨some a,len,cap,rfl,by simp,⟨hl,by unfold maxLen at hm;omega⟩,fun h=>(by cases h),fun a' ha=>?_⟩;simp only[Option.some.injEq] at ha;subst ha;by_cases h0:len=0
   ·subst h0;exact .inl rfl
   right
   have KW:=(hf 0 (by omega)).2.2;obtain⟨Aq,h1,h2,_⟩:=KW;have h2:=h2 0 hn;simp only[Nat.zero_mul] at h2;have hcell:(w.cell? ((a.add 0).add 0)).isSome=true:=by rw[h2];simp;omega
   have e0:(a.add 0).add 0=a:=by simp[Addr.add]
   rw[e0] at hcell;obtain⟨blk,off,spot⟩:=a;unfold World.cell? at hcell;simp only at hcell;split at hcell
   ·rename_i cur ty fr hg;have hs:spot=none:=by
     cases spot with
     |none=>rfl
     |some _=>simp at hcell
    subst hs;refine⟨rfl,id,cur,ty,fr,hg,F7 fun i hi=>?_⟩;simp only[List.length_map,List.length_range] at hi;simp only[List.getElem_map,List.getElem_range];obtain⟨q1,q2,Aq,q3,q4,q5⟩:=hf i hi;refine⟨q1,?_⟩;rw[eB] at q5;rw[bT];have e1:Aq=((cur.toList.drop off).drop (i*n)).take n:=by
     apply List.ext_getElem?;intro j;by_cases hj:j<n
     ·rw[←q4 j hj,addr_add,addr_add];simp only[World.cell?,hg,List.getElem?_take,hj,if_true,List.getElem?_drop,Option.isSome_none,Bool.false_eq_true,if_false];rw[←Nat.add_assoc,Array.getElem?_toList]
     rw[List.getElem?_eq_none (by omega),List.getElem?_eq_none (by simp;omega)]
    have:=q5.fp.app (((cur.toList.drop off).drop (i*n)).drop n);rw[e1,List.take_append_drop] at this;exact this
   simp at hcell
  intro r hr;obtain⟨i,hi,rfl⟩:=List.mem_map.1 hr;simp only[List.mem_range] at hi;exact⟨(hf i hi).1,(hf i hi).2.1⟩⟩
def QF:List (Nat×(List PV→Prop))→List PV→Prop
 |[],row=>row=[]
 |(n,Q)::r,row=>∃a b,row=a++b∧a.length=n∧Q a∧QF r b
def Xq:List (Nat×(List PV→Prop))→Nat
 |[]=>0
 |(n,_)::r=>n+Xq r
def RdF (P:Program)(w:World):Nat→List Field→List (Nat×(List PV→Prop))→Prop
 |_,[],[]=>True
 |off,f::fs,(n,Q)::r=>f.offset=off∧Rd P w f.type n Q∧RdF P w (off+n) fs r
 |_,_,_=>False
theorem R4 {α:Type}{R:α→Value→Prop}:∀{l l':List α} {m m':List Value},FC R l m→FC R l' m'→FC R (l++l') (m++m')
 |[],l',m,m',h,h'=>by simp only[FC] at h;subst h;exact h'
 |p::ps,l',m,m',h,h'=>by obtain⟨v,r,rfl,h1,h2,h3⟩:=h;exact⟨v,r++m',rfl,h1,h2,R4 h3 h'⟩
theorem Ey {H:Type}{enc:TypeId×Value→H}{base:Nat}{spare:Nat→Bool}{held:Bool}{fu:Nat}{cs:List Value}:∀{fs:List Field} {sp:List (Nat×(List PV→Prop))} {off:Nat},
  RdF P w off fs sp→(∀f∈fs,∃y,DataW.trod enc P w base spare held fu f.type ((cs.drop f.offset).take (P.cellsOf f.type))=some y)→cs.length=off+Xq sp →
  ∃row,row.length=Xq sp∧gG N0 w row (cs.drop off)∧QF sp row
 | [],[],off,_,_,hl=>by
   refine⟨[],rfl,?_,rfl⟩;simp only[gG];exact List.drop_eq_nil_of_le (by simp only[Xq] at hl;omega)
 |[],_::_,_,h,_,_=>h.elim
 |_::_,[],_,h,_,_=>h.elim
 | f::fs,(n,Q)::r,off,h,hx,hl=>by
   obtain⟨rfl,h1,h2⟩:=h;obtain⟨y,hy⟩:=hx f (by simp);obtain⟨a,a1,a2,a3⟩:=h1.2 H enc base spare held _ _ _ hy;rw[h1.1] at a2;obtain⟨b,b1,b2,b3⟩:=Ey h2 (fun g hg=>hx g (by simp[hg])) (by simp only[Xq] at hl;omega);refine⟨a++b,by simp only[List.length_append,Xq];omega,?_,a,b,rfl,a1,a3,b3⟩;rw[eB] at a2 b2 ⊢;have:=R4 a2 b2;rw[show cs.drop (f.offset+n)=(cs.drop f.offset).drop n from by rw[List.drop_drop],List.take_append_drop] at this;exact this
theorem tV {fs:Array Field}{sp:List (Nat×(List PV→Prop))}(hu:P.underlying t=some (.struct fs))(hc:P.cellsOf t=Xq sp)(hf:RdF P w 0 fs.toList sp):Rd P w t (Xq sp) (QF sp):=
 ⟨hc,fun H enc base spare held fuel cs x hx=>by
  obtain⟨xs,fu,rfl,_,hl,hlen,hel⟩:=DataW.trod_struct hu hx;have:=Ey (H:=H) (enc:=enc) (base:=base) (spare:=spare) (held:=held) (fu:=fu) (cs:=cs) hf (fun f hf=>by
   obtain⟨i,hi,rfl⟩:=List.getElem_of_mem hf;simp only[Array.length_toList] at hi;refine⟨xs[i]'(by omega),?_⟩;rw[hel i _ (by simp[hi])];simp) (by omega)
  simpa using this⟩
theorem jk {H:Reach}{base:Nat}{v:Value}(hu:(match P.underlying t with|some (.struct _)=>false|some (.array _ _)=>false|some .bool=>true|some (.int _)=>true|some .string=>true|some (.slice _)=>true|_=>false)=true)
  (h:Value.okWide P w H base t v):∀cs,v ≠ .agg cs:=by
 rintro cs rfl
 unfold Value.okWide at h;split at h
 ·rename_i e;rw[e] at hu;simp at hu
 ·rename_i e;rw[e] at hu;simp at hu
 unfold Cell.okWide at h;split at h<;>simp_all [Cell.ok]
theorem wN {H:Type}{enc:TypeId×Value→H}{base:Nat}{spare:Nat→Bool}{held:Bool}{v:Value}{d:DataW H}{ps:List MemPlace}(hr:Rd P w t 1 Q)(hv:∀cs,v ≠ .agg cs)
  (h:DataW.Trod enc P w base spare held t v d ps):∃p,Q [p]∧aU N0 w p v:=by
 obtain⟨fuel,h⟩:=h;have e:v.cells = #[v]:=by cases v<;>first|rfl|exact absurd rfl (hv _)
 rw[e] at h;obtain⟨row,h1,h2,h3⟩:=hr.2 _ _ _ _ _ _ _ _ h;match row,h1 with
 | [p],_=>
   obtain⟨x,r,hx,_,hp,_⟩:=h2;simp only[List.cons.injEq] at hx;obtain⟨rfl,_⟩:=hx;exact⟨p,h3,hp⟩
theorem M5 {H:Type}{enc:TypeId×Value→H}{base aaA:Nat}{r:Reach}{spare:Nat→Bool}{held:Bool}{v:Value}{d:DataW H}{ps:List MemPlace}{fs:Array Field}(hu:P.underlying t=some (.struct fs))(hr:Rd P w t n Q)
  (hv:Value.okWide P w r aaA t v) (h:DataW.Trod enc P w base spare held t v d ps):∃row,Q row∧aU N0 w (.agg row) v:=by
 obtain⟨fuel,h⟩:=h;have ⟨cs,e⟩:∃cs,v=.agg cs:=by
  unfold Value.okWide at hv;rw[hu] at hv;obtain⟨cs,e,_⟩:=hv;exact⟨cs,e⟩
 subst e;obtain⟨row,h1,h2,h3⟩:=hr.2 _ _ _ _ _ _ _ _ h;exact⟨row,h3,by simp only[aU];exact⟨cs,rfl,h2⟩⟩
end
end Go.AX
end
