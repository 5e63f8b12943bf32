/-
  Conditions: none. A framework for walks: abstract values, memory, and conditions that suffice; the chapters in plain terms.
-/
import Derived.Test.YtfoiekbkkbnpkaaGreatAd
import Derived.Deep.LoopGhost
import Derived.Deep.Slices
import Derived.Carry
set_option linter.unusedSectionVars false
set_option linter.unusedVariables false
set_option linter.unusedSimpArgs false
section
namespace Go.AX
theorem MP {P:Program}{c:Ctx}{R:Real}{s:AS}{a:Act}{w:World}{ro:Option Nat}(g:aR c R s a w)(hro:GZ c ro)
  {go:Operand} {ps:Array Tmp} {Gr En:Code} {f:FuncId} {aT:List PV} {xs:List (List PV)}  (hs:Kw P f aT xs)
  (hps:∀t∈ps.toList,t<c.n) {ι:Type} {st:Nat→ι→AS} (hgo:∀i,gq (st 0 i).tm go=some (.pv (.fn (.func f) [] aT))) (h0:∃i,jU s (st 0 i)) (hlow:∀k i,AU (st k i).tm=true) {K:Exit→AS→Prop} {A:Nat→ι→List PV→AS→Prop}
  (TQ:∀(l:Nat) (c':Ctx) (k:Nat) (i:ι) (x:List PV) (tm:List (Nat×AV)) (R:Real) (a:Act) (w:World),c'.n=c.n→GZ c' (some l)→xs[k]? = some x→MN ps.toList x (st k i).tm=some tm →
   aR c' R ⟨tm,(st k i).nx,(st k i).hp⟩ a w→Gr.wpIn (W1 (some l)) 0 P (Exit.then (fun a1 w1=>∃R1 s1,A k i x s1∧aR c' R1 s1 a1 w1) (fun _ _ _=>False)) a w)
  (TR:∀(l:Nat) (c':Ctx) (k:Nat) (i:ι) (x:List PV) (s1:AS) (R:Real) (a:Act) (w:World),c'.n=c.n→GZ c' (some l)→xs[k]? = some x→A k i x s1 →
   aR c' R s1 a w→En.wpIn (W1 (some l)) 0 P (fun e a' w'=>∃R' s',Ve (st k i).tm (fun s''=>∃j,jU s'' (st (k+1) j)) K e s'∧aR c' R' s' a' w') a w)
  (TS:∀k i x,xs[k]? = some x→∃tm,MN ps.toList x (st k i).tm=some tm) (hend:∀i,K .normal (st xs.length i)) :
  (Code.rangeFunc go ps Gr En).wpIn (W1 ro) 0 P (fun e a' w'=>∃R' s',K e s'∧aR c R' s' a' w') a w:=by
 obtain⟨i0,h0⟩:=h0;obtain⟨R0,g0⟩:=h0 c R a w g;have Kt:=qf g0 (hgo i0);obtain⟨Ds,T9⟩:=g0.marks;refine wpIn_rangeFunc fun fn _=>?_
 have hent:∃(l TP:Nat) (Dm:List Nat) (Qw:World),(Instr.enterLoop fn a.tmps ps Gr En ro).run P w=.ok (l,Dm.map mark) Qw ∧
   (∀r,r<w.heap.size→Qw.heap[r]? = w.heap[r]?)∧w.heap.size≤Qw.heap.size∧(Qw.os=w.os∧Qw.tape=w.tape∧Qw.output=w.output)∧w.heap.size≤l∧l<Qw.heap.size ∧
   Qw.heap[l]? = some (.loop { state:=.ready,pending:=none,fn:=fn,tmps:=a.tmps,params:=ps,assign:=Gr,body:=En,defers:=TP })∧Dm.Nodup ∧
   (∀d∈Dm,w.heap.size≤d∧Qw.heap[d]? = some (.deferred (some []))∧d≠l):=by
  cases hr:ro with
  | none=>
    refine⟨w.heap.size+1,w.heap.size,[w.heap.size],_,run_enterLoop_outer _ _ _ _ _,fun r hr=>?_,by simp;omega,⟨rfl,rfl,rfl⟩,by omega,by simp,?_,by simp,?_⟩
    ·rw[Go.RowKit.Below.heap_alloc _ _ _ (by simp;omega),Go.RowKit.Below.heap_alloc _ _ _ hr]
    ·have:=World.alloc_heap_new (w.alloc (.deferred (some []))) (.loop { state:=.ready,pending:=none,fn:=fn,tmps:=a.tmps,params:=ps,assign:=Gr,body:=En,defers:=w.heap.size });rwa [World.size_alloc] at this
    intro d hd;simp only[List.mem_singleton] at hd;subst hd;exact⟨Nat.le_refl _,(Go.RowKit.Below.heap_alloc _ _ _ (by simp)).trans (World.alloc_heap_new w _),by omega⟩
  | some l0=>
    obtain⟨r0,hr0⟩:=hro.lp l0 hr;have hl0:=g.fixed.obj l0 _ hr0;refine⟨w.heap.size,r0.defers,[],_,run_enterLoop_inner hl0 _ _ _ _ _,fun r hr=>Go.RowKit.Below.heap_alloc _ _ _ hr,by simp,⟨rfl,rfl,rfl⟩,Nat.le_refl _,by simp,World.alloc_heap_new w _,by simp,by simp⟩
 obtain⟨l,TP,Dm,W,hrun,hold,hsz,hos,hlw,TU,Wu,YR,IK⟩:=hent;let Lr:LoopState→Option Code→Loop:=fun s p=>{ state:=s,pending:=p,fn:=fn,tmps:=a.tmps,params:=ps,assign:=Gr,body:=En,defers:=TP }
 simp only[ah,aU] at Kt;obtain⟨fs,cs,hval,hfs,hcs⟩:=Kt;simp only[cZ] at hfs;have hfs:fs = #[]:=by simpa using hfs
 subst hfs;let ao:Act:={ a with defers:=Dm.map mark++a.defers }
 have hcw:c.w.heap.size≤w.heap.size:=g.gq.size;have Ov:∀r o,c.fix r=some o→r<w.heap.size:=fun r o h=>size_of_getElem? (g.fixed.obj r o h)
 have X3:c.fix l=none:=by
  cases h:c.fix l with
  |none=>rfl
  |some o=>have:=Ov l o h;omega
 have UW:∀d∈Ds,d<w.heap.size:=fun d hd=>size_of_getElem? (T9.obj d hd)
 have X0:l∉Dm++Ds:=by
  intro h;rcases List.mem_append.1 h with h|h
  ·exact (IK l h).2.2 rfl
  have:=UW l h;omega
 have Dj:∀r,owned R0 (st 0 i0).hp r→r<w.heap.size:=fun r ⟨b,h⟩=>g0.iB h
 have iB:∀r,owned R s.hp r→r<w.heap.size:=fun r ⟨b,h⟩=>g.iB h
 have hE:iZ (fun _=>False) w W:=⟨hsz,fun r hr _=>hold r hr,hos.1,hos.2.1,hos.2.2⟩;have mkW:Marks c.lo (owned R0 (st 0 i0).hp) W ao.defers (Dm++Ds):=by
  refine⟨fun d hd=>?_,?_,?_,fun d hd=>?_,fun d hd=>?_⟩
  ·rcases List.mem_append.1 hd with h|h
   ·exact Nat.le_trans g.lo.2.2 (IK d h).1
   exact T9.low d h
  ·simp only[ao,List.map_append,T9.eq]
  ·rw[List.nodup_append];refine⟨YR,T9.nodup,fun x hx y hy e=>?_⟩;have h1:=(IK x hx).1;have h2:=UW y hy;omega
  ·rcases List.mem_append.1 hd with h|h
   ·exact (IK d h).2.1
   rw[hold d (UW d h)];exact T9.obj d h
  rcases List.mem_append.1 hd with h|h
  ·exact fun ho=>by have:=Dj d ho;have:=(IK d h).1;omega
  exact T9.free d h
 have RY:∀r,r<w.heap.size→PD c (fun _=>False) l W r→c.F r:=by
  rintro r hr ⟨h,_⟩
  rcases h with h|h|h
  ·exact h
  ·exact h.elim
  omega
 have GW:aR (cb c (fun _=>False) l W) R0 (st 0 i0) ao W:=by
  refine g0.nK (c2:=cb c (fun _=>False) l W) rfl rfl (fun v y h=>g0.kept v y h) RY (fun r o ho _ _=>by rw[hold r (size_of_getElem? ho)];exact ho) hsz hos
   (fun r ho hf=>g0.free r ho (RY r (Dj r ho) hf)) (g0.fixed.kept (fun r hr _=>hold r hr) (fun _ _ h=>h)) (iZ.refl _ _) (fun r ho=>.inl ?_) ⟨rfl,g.lo.2.1,Nat.le_trans g.lo.2.2 hsz⟩ ⟨_,mkW⟩
  exact g0.eG r ho
 let D0:Nat→Prop:=Wj c l (Dm++Ds) R0 (st 0 i0).hp
 have hD0:∀r,D0 r→r<W.heap.size:=by
  rintro r (h|h|⟨o,h⟩|h|h)
  ·have:=Dj r h;omega
  ·omega
  ·have:=Ov r o h;omega
  ·rcases List.mem_append.1 h with h|h
   ·exact size_of_getElem? (IK r h).2.1
   have:=UW r h;omega
  have:=c.hF r h;omega
 have hJ0:∃R s,RJ c ao l W.heap.size (Dm++Ds) Lr xs st K R s xs false (fun _=>False) D0 W:=
  ⟨R0,st 0 i0,fun r h=>h.elim,Nat.le_refl _,g.gq.trans hE fun _ _ h=>h.elim,fun r=>Iff.rfl,hD0,GW,mkW,fun _=>⟨0,i0,rfl,by simp,Nat.zero_le _,Wu⟩,fun h=>by cases h⟩
 have hY:YH (P,l) W.heap.size fun rest Lp Z D wy=>∃R s,RJ c ao l W.heap.size (Dm++Ds) Lr xs st K R s rest Lp Z D wy:=
  Fy (fn:=fn) (TP:=TP) (fun _ _=>rfl) (by omega) (by omega) X0 X3 TU (by have:=g.lo.2.1;have:=g.lo.2.2;omega) g.lo.2.1 (by have:=g.lo.2.2;omega) hro.nc hps hlow
   (fun c' k i x tm R a w h1 h2 h3 h4 h5=>TQ l c' k i x tm R a w h1 h2 h3 h4 h5) (fun c' k i x s1 R a w h1 h2 h3 h4 h5=>TR l c' k i x s1 R a w h1 h2 h3 h4 h5) TS
 have hcs':cZ D0 W aT cs.toList:=by
  refine lm (N:=aH c R0 (st 0 i0).hp) (w:=w) (fun r cur e fr h hd=>?_) (fun r cur e fr h _=>by rw[hold r (size_of_getElem? h)];exact h) _ _ hcs;have hr:=size_of_getElem? h;rcases hd with hd|hd|⟨o,hd⟩|hd|hd
  ·exact .inr hd
  ·omega
  ·have h1:=g.fixed.obj r o hd;rw[h] at h1;simp only[Option.some.injEq] at h1;have:=hro.nc r o hd;rw[←h1] at this;cases this
  ·rcases List.mem_append.1 hd with hd|hd
   ·have:=(IK r hd).1;omega
   have h1:=T9.obj r hd;rw[h] at h1;cases h1
  exact .inl hd
 obtain⟨Qx,hcall⟩:=hs;obtain⟨fnf,UB,Qy,YT⟩:=Qx;have hbn:fnf.body.isNone=false:=by cases oz:fnf.body<;>simp[oz] at Qy ⊢
 have hC:=hcall l _ D0 W cs hY hD0 hJ0 hcs';refine⟨l,Dm.map mark,W,{ target:=.fn (.func f) cs,args:=#[.func (.yield l) #[] #[]] },W,f,#[.func (.yield l) #[] #[]]++cs,W,hrun,?_,fun _ _=>trivial,?_,fun e=>(by cases e),?_⟩
 ·simp only[resolve,hval];simp[Deferred.ofValue,Act.eval]
 ·simp only[invoke,callFunc,run_program,Sem.run_bind,Result.andThen_ok,UB,YT,hbn];simp
 refine zl (hC.mono ?_);rintro e w3 ⟨⟨v,rfl⟩,rest,Lp,Z,D,wy,⟨R5,s5,J⟩,Qz,hdone⟩
 have wY:D l:=(J.dd l).2 (.inr (.inl rfl));have TV:∀r,D r→¬Z r:=fun r hd hz=>(J.zz r hz).2.2 hd
 have YU:c.w.heap.size≤wy.heap.size:=J.gq.size;have hn1:c.w.heap.size≤W.heap.size:=by omega
 have fin:∀(o o':Obj),wy.heap[l]? = some o→o.isCells=false→w3.heap[l]? = some o∧aR c R5 s5 ao (w3.putObj l o'):=by
  intro o o' ho hoc;have hl3:=Qz.keep l o ho (TV l wY) (.inr (.inr wY));refine⟨hl3,?_⟩;have hsz5:wy.heap.size≤(w3.putObj l o').heap.size:=by rw[World.putObj_size];exact Qz.size
  have hFc:∀r,r<wy.heap.size→c.F r→PD c Z l wy r:=fun r hr h=>⟨.inl h,hr⟩
  have hkeep:∀r o,wy.heap[r]? = some o→(r<W.heap.size∨o.isCells=true∨D r)→¬Z r→r≠l→(w3.putObj l o').heap[r]? = some o:=by
   intro r o hr hc hz hne;rw[World.putObj_heap_other hne];exact Qz.keep r o hr hz hc
  refine J.g.nK (c2:=c) rfl rfl (fun v y h=>J.g.kept v y h) hFc ?_ hsz5 ⟨Qz.os,Qz.tape,Qz.output⟩ (fun r h hf=>J.g.free r h (hFc r (J.dlt r ((J.dd r).2 (.inl h))) hf)) ?_ ?_ ?_ ⟨rfl,g.lo.2.1,?_⟩ ⟨Dm++Ds,?_⟩
  ·intro r o hr hc hf;refine hkeep r o hr (hc.imp (fun h=>?_) fun h=>h.imp id fun h=>(J.dd r).2 (.inl h)) (fun hz=>hf ⟨.inr (.inl hz),size_of_getElem? hr⟩) fun e=>hf ⟨.inr (.inr e),size_of_getElem? hr⟩
   have h:r<c.n0.1:=h;have:=g.lo.2.1;have:=g.lo.2.2;omega
  ·refine⟨fun r o h=>?_,fun r o h=>J.g.fixed.free r o h,hro.nc⟩;have hD:=(J.dd r).2 (.inr (.inr (.inl ⟨o,h⟩)));exact hkeep r o (J.g.fixed.obj r o h) (.inr (.inr hD)) (TV r hD) fun e=>by rw[e,X3] at h;cases h
  ·refine⟨Nat.le_trans J.gq.size hsz5,fun r hr hn=>?_,Qz.os.trans J.gq.os,Qz.tape.trans J.gq.tape,Qz.output.trans J.gq.output⟩;have h1:=J.gq.keep r hr hn;have hx:c.w.heap[r]? = some c.w.heap[r]:=by simp[hr]
   rw[hx] at h1 ⊢;exact hkeep r _ h1 (.inl (by omega)) (fun hz=>by have:=(J.zz r hz).1;omega) (by omega)
  ·intro r h;rcases J.g.eG r h with h|h
   ·exact h
   exact .inr (Nat.le_trans YU h)
  ·have:=g.lo.2.2;have:=J.n1;omega
  refine⟨J.Oo.low,J.Oo.eq,J.Oo.nodup,fun d hd=>?_,J.Oo.free⟩;have hD:=(J.dd d).2 (.inr (.inr (.inr (.inl hd))));exact hkeep d _ (J.Oo.obj d hd) (.inr (.inr hD)) (TV d hD) fun e=>X0 (e▸hd)
 cases Lp with
 | false=>
   obtain⟨k,i,rfl,hrest,hkl,hlr⟩:=J.run rfl;have hrn:rest=[]:=hdone.resolve_left (by simp);have hk:k=xs.length:=by
    have:=congrArg List.length hrest;rw[hrn] at this;simp at this;omega
   subst hk;obtain⟨hl3,G⟩:=fin _ (.loop { Lr .ready none with state:=.exhausted }) hlr rfl;refine⟨none,_,run_endLoop (P:=P) hl3 (by simp[Lr]),?_⟩;exact⟨R5,_,hend i,G⟩
 | true=>
   obtain⟨e,code,hj,hK,hlr⟩:=J.out rfl;obtain⟨hl3,G⟩:=fin _ (.loop { Lr .done (some code) with state:=.exhausted }) hlr rfl;refine⟨some code,_,run_endLoop (P:=P) hl3 (by simp[Lr]),?_⟩;cases e with
   | ret=>
     simp only[Di,Option.some.injEq] at hj;subst hj;exact wpIn_ret ⟨R5,_,hK,G⟩
   | exit id=>
     simp only[Di,Option.some.injEq] at hj;subst hj;exact wpIn_exit ⟨R5,_,hK,G⟩
   |normal=>cases hj
   |goto t=>cases hj
   |panic ch=>cases hj
   |outgrown=>cases hj
def Jy:List Oper→Bool
 |[]=>true
 | o::r=>match o.guard with
   |none=>Jy r
   |some _=>false
def SC:Code→Bool
 | .region _ ops draw=>match draw with
   |true=>false
   |false=>Jy ops.toList
 |.skip=>true
 |_=>false
def Yd (ι:Type)(st:ι→AS)(K:Exit→AS→Prop)(e:Exit)(s:AS):Prop:=
 match e with
 |.normal=>∃i,jU s (st i)
 |e=>K e s
def PX (X:AS→Prop)(K:Exit→AS→Prop)(e:Exit)(s:AS):Prop:=
 match e with
 |.normal=>X s
 |e=>K e s
def Vb (id:Nat)(K:Exit→AS→Prop)(e:Exit)(s:AS):Prop:=
 match e with
 | .exit i=>match Nat.beq i id with
   |true=>K .normal s
   |false=>K e s
 |e=>K e s
def meet:List Nat→List Nat→Bool
 |[],_=>false
 | x::r,l=>match x9 x l with
   |true=>true
   |false=>meet r l
def dl (d:Option Nat):List Nat:=
 match d with
 |some d=>[d]
 |none=>[]
def jL (x y:oZ):Bool:=meet (dl x.dst) y.look||(meet (dl y.dst) x.look||(meet (dl x.dst) (dl y.dst)||(meet x.wr y.rd||(meet y.wr x.rd||meet x.wr y.wr))))
def Em (Ac:List Nat):List Edge→Nat
 |[]=>0
 | e::r=>match Region.binds .any e with
   | true=>((2 ^ e.on ||| (match nth Ac e.on with
     |some m=>m
     |none=>0)) ||| Em Ac r)
   |false=>Em Ac r
def sO (i:Nat):List Edge→Bool
 |[]=>true
 | e::r=>match Region.binds .any e with
   |true=>Nat.blt e.on i&&sO i r
   |false=>sO i r
def xh (e:oZ)(m:Nat):List oZ→Nat→Bool
 |[],_=>true
 |x::r,k=>(!(jL x e)||m.testBit k)&&xh e m r (k+1)
def PY (all:List oZ):List Oper→List oZ→Nat→List Nat→Bool
 |[],_,_,_=>true
 | o::r,es,i,Ac=>match es with
   |[]=>false
   | e::es=>match Em Ac o.after.toList with
     |m=>sO i o.after.toList&&(xh e m (all.take i) 0&&PY all r es (i+1) (Ac++[m]))
def Vd (ops:List Oper)(tr:List oZ):Bool:=PY tr ops tr 0 []
def SE (ps:List Nat)(x:List PV)(tm:List (Nat×AV))(K:List (Nat×AV)→Prop):Prop:=
 match MN ps x tm with
 |some tm=>K tm
 |none=>False
def Ye (X:AS→Prop)(e:Exit)(s:AS):Prop:=
 match e with
 |.normal=>X s
 |_=>False
def VC (P:Program)(T:Tab):Code→AS→(Exit→AS→Prop)→Prop
 |.skip,s,K=>K .normal s
 | .seq a b,s,K=>match SC a with
   |true=>VC P T a s (PX (fun s=>VC P T b s K) K)
   |false=>VC P T a s (PX (fun s=>VC P T b s K) K)∨∃(ι:Type) (st:ι→AS),VC P T a s (Yd ι st K)∧∀i,VC P T b (st i) K
 | .cond c x y,s,K=>match gq s.tm c with
   | some (.pv (.sc v))=>match v with
     |.bool b=>(b=true→VC P T x s K)∧(b=false→VC P T y s K)
     |_=>False
   | some (.cB b ver _ off)=>match s with
     | ⟨tm,nx,hp⟩=>match lk hp b with
       | some (.tr y' v rest st)=>match st with
         | none=>match Nat.beq ver v with
           | true=>match off with
             |0=>VC P T x ⟨tm,nx,(b,.tr y' v rest (some false))::hp⟩ K∧VC P T y ⟨tm,nx,(b,.tr y' v rest (some true))::hp⟩ K
             |1=>VC P T x ⟨tm,nx,(b,.tr y' v rest (some true))::hp⟩ K∧VC P T y ⟨tm,nx,(b,.tr y' v rest (some false))::hp⟩ K
             |_=>False
           |false=>False
         |some _=>False
       |_=>False
   |_=>False
 | .rangeFunc go ps Gr En,s,K=>∃(f:FuncId) (aT:List PV) (xs:List (List PV)),Kw P f aT xs∧∃(ι:Type) (ok:Nat→ι→Prop) (st:Nat→ι→AS),(∃i,jU s (st 0 i)) ∧
   (∀i,gq (st 0 i).tm go=some (.pv (.fn (.func f) [] aT)))∧(∀k i,AU (st k i).tm=true) ∧
   (∀k x i,xs[k]? = some x→SE ps.toList x (st k i).tm fun tm=>(k≠0→ok k i)→VC P T Gr ⟨tm,(st k i).nx,(st k i).hp⟩ (Ye fun s1=>VC P T En s1 (Ve (st k i).tm (fun s2=>∃j,ok (k+1) j∧jU s2 (st (k+1) j)) K))) ∧
   ∀i,(xs.length≠0→ok xs.length i)→K .normal (st xs.length i)
 |.block id c,s,K=>VC P T c s (Vb id K)
 |.exit id,s,K=>K (.exit id) s
 |.ret,s,K=>K .ret s
 |.loop c,s,K=>∃(ι:Type) (st:ι→AS) (μ:ι→Nat),(∃i,jU s (st i))∧∀i,VC P T c (st i) (PX (fun s'=>∃j,μ j<μ i∧jU s' (st j)) K)
 | .region id ops draw,s,K=>match s with
   | ⟨tm,nx,hp⟩=>match Nat.ble ((id+2)*1000+ops.toList.length) nx with
     | true=>match draw with
       |false=>GV P (UF T) ops.toList ((id+2)*1000) ops.toList 0 tm hp [] [] fun tm hp tr=>K .normal ⟨tm,nx,hp⟩
       |true=>GV P T ops.toList ((id+2)*1000) ops.toList 0 tm hp [] [] fun tm hp tr=>Vd ops.toList tr.reverse=true∧K .normal ⟨tm,nx,hp⟩
     |false=>False
 |_,_,_=>False
def codeOk (n:Nat):Code→Bool
 |.seq a b=>codeOk n a&&codeOk n b
 |.cond _ a b=>codeOk n a&&codeOk n b
 |.block _ a=>codeOk n a
 |.loop a=>codeOk n a
 |.region _ ops _=>kL n ops.toList
 |.rangeFunc _ ps a b=>ps.toList.all (fun t=>Nat.blt t n)&&(codeOk n a&&codeOk n b)
 |_=>true
section
variable {P:Program}{T:Tab}
theorem wpIn_loop_ghost {F:Fence}{n:Nat}{P:Program}{Q:Exit→Act→World→Prop}{a:Act}{w:World}{c:Code}(I:Nat→Act→World→Prop)(n₀:Nat)(h₀:I n₀ a w)
  (round:∀m a w,I m a w→c.wpIn F n P (Exit.then (fun a' w'=>∃n',n'<m∧I n' a' w') Q) a w):(Code.loop c).wpIn F n P Q a w:=by
 refine wpIn_loop (fun a w=>∃n,I n a w) (fun a w=>leastOf (fun n=>I n a w)) ⟨n₀,h₀⟩ ?_;intro a w hI;refine Go.wpIn_mono (round _ a w (leastOf_spec hI).1) ?_;intro e a' w' hq;cases e with
 | normal=>
   obtain⟨n',hlt,Yf⟩:=hq;exact show (∃n,I n a' w')∧leastOf (fun n=>I n a' w')<leastOf (fun n=>I n a w) from ⟨⟨n',Yf⟩,Nat.lt_of_le_of_lt ((leastOf_spec ⟨n',Yf⟩).2 n' Yf) hlt⟩
 |exit id=>exact hq
 |goto l=>exact hq
 |ret=>exact hq
 |panic ch=>exact hq
 |outgrown=>exact hq
def PZ (s:AS):AS:=⟨s.tm,s.nx,[(0,.arr 0 0 1 [[]])]⟩
theorem MO {c:Ctx}{R:Real}{s:AS}{a:Act}{w:World}(g:aR c R (PZ s) a w):False:=by
 obtain⟨xs,_,h⟩:=g.boxes 0 (.arr 0 0 1 [[]]) rfl;simp only[bf] at h;exact absurd h.1 (by decide)
open Classical in
noncomputable def UG {ι:Type} (ok:Nat→ι→Prop) (st:Nat→ι→AS) (k:Nat) (i:ι):AS:=if k≠0→ok k i then st k i else PZ (st k i)
theorem CF {ι:Type}{ok:Nat→ι→Prop}{st:Nat→ι→AS}{k:Nat}{i:ι}(h:k≠0→ok k i):UG ok st k i=st k i:=if_pos h
theorem Jz {ι:Type}{ok:Nat→ι→Prop}{st:Nat→ι→AS}{k:Nat}{i:ι}(h:¬(k≠0→ok k i)):UG ok st k i=PZ (st k i):=if_neg h
theorem yc {ι:Type}{ok:Nat→ι→Prop}{st:Nat→ι→AS}{k:Nat}{i:ι}:(UG ok st k i).tm=(st k i).tm:=by
 unfold UG;split<;>rfl
theorem dN (hT:bC P T)(iH:∀(c:Ctx) (R:Real) (s:AS) (a:Act) (w:World) (id:Nat) (ops:Array Oper) (K:Exit→AS→Prop) (ro:Option Nat),aR c R s a w→kL c.n ops.toList=true →
  VC P T (.region id ops true) s K→(Code.region id ops true).wpIn (W1 ro) 0 P (fun e a' w'=>∃R' s',K e s'∧aR c R' s' a' w') a w) :
  ∀(code:Code) {c:Ctx} {R:Real} {s:AS} {a:Act} {w:World} {K:Exit→AS→Prop} {ro:Option Nat},GZ c ro→aR c R s a w→codeOk c.n code=true→VC P T code s K →
   code.wpIn (W1 ro) 0 P (fun e a' w'=>∃R' s',K e s'∧aR c R' s' a' w') a w
 |.skip,c,R,s,a,w,K,ro,hro,g,hok,h=>wpIn_skip ⟨R,s,h,g⟩
 | .seq x y,c,R,s,a,w,K,ro,hro,g,hok,h=>by
   simp only[codeOk,Bool.and_eq_true] at hok;have direct:VC P T x s (PX (fun s=>VC P T y s K) K)→(Code.seq x y).wpIn (W1 ro) 0 P (fun e a' w'=>∃R' s',K e s'∧aR c R' s' a' w') a w:=by
    intro h;refine wpIn_seq (Go.wpIn_mono (dN hT iH x hro g hok.1 h) ?_);rintro e a' w' ⟨R',s',hK,g'⟩
    cases e with
    |normal=>exact dN hT iH y hro g' hok.2 hK
    |exit i=>exact⟨R',s',hK,g'⟩
    |goto l=>exact⟨R',s',hK,g'⟩
    |ret=>exact⟨R',s',hK,g'⟩
    |panic ch=>exact⟨R',s',hK,g'⟩
    |outgrown=>exact⟨R',s',hK,g'⟩
   simp only[VC] at h;split at h
   ·exact direct h
   rcases h with h|⟨ι,st,h,h2⟩
   ·exact direct h
   refine wpIn_seq (Go.wpIn_mono (dN hT iH x hro g hok.1 h) ?_);rintro e a' w' ⟨R',s',hK,g'⟩
   cases e with
   | normal=>
     obtain⟨i,hi⟩:=hK;obtain⟨R2,g2⟩:=hi c R' a' w' g';exact dN hT iH y hro g2 hok.2 (h2 i)
   |exit i=>exact⟨R',s',hK,g'⟩
   |goto l=>exact⟨R',s',hK,g'⟩
   |ret=>exact⟨R',s',hK,g'⟩
   |panic ch=>exact⟨R',s',hK,g'⟩
   |outgrown=>exact⟨R',s',hK,g'⟩
 | .cond cc x y,c,R,s,a,w,K,ro,hro,g,hok,h=>by
   simp only[codeOk,Bool.and_eq_true] at hok;simp only[VC] at h;split at h
   ·rename_i v hv;have hr:=qf g hv;simp only[ah,aU] at hr;split at h;rotate_left;cases h
    rename_i b;refine wpIn_cond hr ?_;cases b with
    |true=>exact dN hT iH x hro g hok.1 (h.1 rfl)
    |false=>exact dN hT iH y hro g hok.2 (h.2 rfl)
   ·rename_i b ver i off hv;have hr:=qf g hv;obtain⟨tm,nx,hp⟩:=s;simp only at h;split at h;rotate_left;cases h
    rename_i y' v rest st hb;split at h;rotate_left;cases h
    split at h;rotate_left;cases h
    rename_i dD;have dD:=Nat.eq_of_beq_eq_true dD;simp only[ah,hb,aK] at hr;have hval:=hr.2.2 dD (by trivial);have XF:Nat.beq 0 1=false:=rfl;have e11:Nat.beq 1 1=true:=rfl;have hres:∀(q:Bool),R.nil b=(!q)→aR c R ⟨tm,nx,(b,.tr y' v rest (some q))::hp⟩ a w:=by
     intro q hq;have hbx:=g.boxes b _ hb;refine g.upd (s:=⟨tm,nx,hp⟩) (R':=R) (w':=w) (b:=b) (aV:=.tr y' v rest (some q)) (nx':=nx) (fun _ _=>⟨rfl,rfl,rfl⟩) (fun off v h=>?_) (fun ver v h=>?_) (fun ver i off v h=>?_) (fun r h=>.inl ?_) (iZ.refl _ _) ?_
     ·simp only[hb,aI] at h
     ·simp only[hb,aD] at h
     ·simp only[hb,aK] at h ⊢;exact⟨h.1,h.2.1,fun _ e=>by cases e⟩
     ·simp only[hb];exact h
     obtain⟨k0,kh,k1,k2,k3,k4⟩:=hbx;refine⟨k0,kh,?_,k2,k3,fun r hn=>k4 r ?_⟩
     ·simp only[Option.getD_none,hq,Bool.not_not] at k1;exact k1
     rcases hn with hn|⟨b2,ho⟩
     ·exact .inl hn
     refine .inr ⟨b2,?_⟩;by_cases e:b2=b
     ·subst e;rw[aj,if_pos rfl] at ho;simp only[hb];exact ho
     rw[aj,if_neg (fun e'=>e e'.symm)] at ho;exact ho
    split at h
    ·refine wpIn_cond hval ?_;cases hn:R.nil b with
     |true=>simpa[hn,XF,e11] using dN hT iH x hro (hres false (by simp[hn])) hok.1 h.1
     |false=>simpa[hn,XF,e11] using dN hT iH y hro (hres true (by simp[hn])) hok.2 h.2
    ·refine wpIn_cond hval ?_;cases hn:R.nil b with
     |true=>simpa[hn,XF,e11] using dN hT iH y hro (hres false (by simp[hn])) hok.2 h.2
     |false=>simpa[hn,XF,e11] using dN hT iH x hro (hres true (by simp[hn])) hok.1 h.1
    exact h.elim
   exact h.elim
 | .block id x,c,R,s,a,w,K,ro,hro,g,hok,h=>by
   simp only[codeOk] at hok;simp only[VC] at h;refine wpIn_block (Go.wpIn_mono (dN hT iH x hro g hok h) ?_);rintro e a' w' ⟨R',s',hK,g'⟩
   cases e with
   | exit i=>
     simp only[Exit.inBlock];simp only[Vb] at hK;split at hK
     ·rename_i hb;rw[if_pos (Nat.eq_of_beq_eq_true hb)];exact⟨R',s',hK,g'⟩
     rename_i hb;rw[if_neg (Nat.ne_of_beq_eq_false hb)];exact⟨R',s',hK,g'⟩
   |normal=>exact⟨R',s',hK,g'⟩
   |goto l=>exact⟨R',s',hK,g'⟩
   |ret=>exact⟨R',s',hK,g'⟩
   |panic ch=>exact⟨R',s',hK,g'⟩
   |outgrown=>exact⟨R',s',hK,g'⟩
 |.exit id,c,R,s,a,w,K,ro,hro,g,hok,h=>wpIn_exit ⟨R,s,h,g⟩
 |.ret,c,R,s,a,w,K,ro,hro,g,hok,h=>wpIn_ret ⟨R,s,h,g⟩
 | .loop x,c,R,s,a,w,K,ro,hro,g,hok,h=>by
   simp only[codeOk] at hok;simp only[VC] at h;obtain⟨ι,st,μ,⟨i0,h0⟩,hr⟩:=h;obtain⟨R0,g0⟩:=h0 c R a w g;refine wpIn_loop_ghost (fun n a w=>∃i R,μ i=n∧aR c R (st i) a w) (μ i0) ⟨i0,R0,rfl,g0⟩ ?_;rintro n a' w' ⟨i,R1,rfl,g1⟩
   refine Go.wpIn_mono (dN hT iH x hro g1 hok (hr i)) ?_;rintro e a2 w2 ⟨R2,s2,hK,g2⟩
   cases e with
   | normal=>
     obtain⟨j,hj,he⟩:=hK;obtain⟨R3,g3⟩:=he c R2 a2 w2 g2;exact⟨μ j,hj,j,R3,rfl,g3⟩
   |exit i=>exact⟨R2,s2,hK,g2⟩
   |goto l=>exact⟨R2,s2,hK,g2⟩
   |ret=>exact⟨R2,s2,hK,g2⟩
   |panic ch=>exact⟨R2,s2,hK,g2⟩
   |outgrown=>exact⟨R2,s2,hK,g2⟩
 | .region id ops draw,c,R,s,a,w,K,ro,hro,g,hok,h=>by
   simp only[codeOk] at hok;cases draw with
   |true=>exact iH c R s a w id ops K ro g hok h
   | false=>
     simp only[VC] at h;obtain⟨tm,nx,hp⟩:=s;simp only at h;split at h;rotate_left;cases h
     rename_i hb;refine wpIn_region_list (rC ro hT.UF ops.toList 0 (s:=⟨tm,nx,hp⟩) g (by simp only[Nat.add_zero];exact Nat.le_of_ble_eq_true hb) hok h ?_);intro R' tm' hp' mr a' w' hK g';exact⟨R',_,hK,g'⟩
 | .rangeFunc go ps Gr En,c,R,s,a,w,K,ro,hro,g,hok,h=>by
   simp only[codeOk,Bool.and_eq_true] at hok;obtain⟨hps,hok1,hok2⟩:=hok;simp only[VC] at h;obtain⟨f,aT,xs,hs,ι,ok,st,h0,hgo,hlow,CB,hend⟩:=h;refine Go.wpIn_mono (MP (ps:=ps) (Gr:=Gr) (En:=En) (st:=UG ok st) (K:=fun e s=>K e s∨∃s0,s=PZ s0)
    (A:=fun k i x s1=>(k≠0→ok k i)∧VC P T En s1 (Ve (st k i).tm (fun s2=>∃j,ok (k+1) j∧jU s2 (st (k+1) j)) K)) g hro hs (fun t ht=>?_) (fun i=>by rw[yc];exact hgo i) (by rw[show UG ok st 0=st 0 from funext fun i=>CF fun h=>absurd rfl h];exact h0)
    (fun k i=>by rw[yc];exact hlow k i) (fun l c' k i x tm R a w hn SF hx Ky g'=>?_) (fun l c' k i x s1 R a w hn SF hx hA g'=>?_) (fun k i x hx=>?_) (fun i=>?_)) ?_
   ·have:=List.all_eq_true.1 hps t ht;rwa [Nat.blt_eq] at this
   ·by_cases hv:k≠0→ok k i
    ·rw[yc] at Ky;rw[CF hv] at g';have h1:=CB k x i hx;simp only[SE,Ky] at h1;refine Go.wpIn_mono (dN hT iH Gr SF g' (by rw[hn];exact hok1) (h1 hv)) ?_;rintro e a' w' ⟨R',s',hK,g2⟩
     cases e with
     |normal=>exact⟨R',s',⟨hv,hK⟩,g2⟩
     |exit i=>exact hK.elim
     |goto l=>exact hK.elim
     |ret=>exact hK.elim
     |panic ch=>exact hK.elim
     |outgrown=>exact hK.elim
    rw[Jz hv] at g';exact (MO (s:=⟨tm,_,[]⟩) g').elim
   ·refine Go.wpIn_mono (dN hT iH En SF g' (by rw[hn];exact hok2) hA.2) ?_;rintro e a' w' ⟨R',s',hK,g2⟩
    refine⟨R',s',?_,g2⟩;rw[yc];revert hK;unfold Ve;split
    ·rintro⟨j,hj,he⟩
     exact⟨j,by rw[CF fun _=>hj];exact he⟩
    ·exact .inl
    ·exact .inl
    exact id
   ·rw[yc];have h1:=CB k x i hx;unfold SE at h1;split at h1
    ·rename_i tm Ky;exact⟨tm,Ky⟩
    exact h1.elim
   ·by_cases hv:xs.length≠0→ok xs.length i
    ·rw[CF hv];exact .inl (hend i hv)
    rw[Jz hv];exact .inr ⟨_,rfl⟩
   rintro e a' w' ⟨R',s',hK,g2⟩
   rcases hK with hK|⟨s0,rfl⟩
   ·exact⟨R',s',hK,g2⟩
   exact (MO g2).elim
 |.scope _,c,R,s,a,w,K,ro,hro,g,hok,h=>by simp[VC] at h
 |.label _,c,R,s,a,w,K,ro,hro,g,hok,h=>by simp[VC] at h
 |.goto _,c,R,s,a,w,K,ro,hro,g,hok,h=>by simp[VC] at h
 |.refuse _,c,R,s,a,w,K,ro,hro,g,hok,h=>by simp[VC] at h
def lits:List Nat:=[0,1,2,3,4,5,6,7,8,9,10,11,12,13,14,15]
def G8:List Nat→List PV→Option (List (Nat×AV))
 |_,[]=>some []
 |[],_::_=>none
 | k::ks,p::r=>match G8 ks r with
   |some t=>some ((k,.pv p)::t)
   |none=>none
def SG (args:List PV)(K:AS→Prop):Prop:=
 match G8 lits args with
 |some tm=>K ⟨tm,1000000000,[]⟩
 |none=>False
def Ad (T:Tab)(s:AS):List ResultVar→(List AV→Prop)→Prop
 |[],K=>K []
 | rv::r,K=>match rv with
   | .tmp t=>match lk s.tm t with
     |some v=>Ad T s r fun vs=>K (v::vs)
     |none=>False
   | .cell x t=>match lk s.tm x with
     | some v=>match Eo v with
       |true=>o7 T s.hp t v fun u=>Ad T s r fun vs=>K (u::vs)
       |false=>False
     |none=>False
def MQ (hp:List (Nat×av))(vs:List AV)(Q:PV→Prop):Prop:=
 match vs with
 | [v]=>match vw hp v with
   |some p=>Q p
   |none=>False
 | _=>match D5 hp vs with
   |some ps=>Q (.fF ps)
   |none=>False
def fnK (T:Tab)(rs:List ResultVar)(Q:PV→Prop)(e:Exit)(s:AS):Prop:=
 match e with
 |.normal=>Ad T s rs fun vs=>MQ s.hp vs Q
 |.ret=>Ad T s rs fun vs=>MQ s.hp vs Q
 |_=>False
def CG (P:Program)(tmps:Array Value):ResultVar→Sem Value
 |.tmp t=>pure (tmps.getD t undef)
 |.cell a t=>do loadVar t (←asAddr (tmps.getD a undef))
theorem nI {c:Ctx}{R:Real}{s:AS}{a:Act}{w:World}(g:aR c R s a w)(hT:bC P T):∀(rs:List ResultVar) {K:List AV→Prop},Ad T s rs K →
  ∃vs us,(rs.mapM (CG P a.tmps)).run P w=.ok us w∧K vs∧FL (ah (aH c R s.hp) w s.hp R) vs us
 |[],K,h=>⟨[],[],by simp,h,rfl⟩
 | rv::r,K,h=>by
   simp only[Ad] at h;split at h
   ·rename_i t;split at h;rotate_left;cases h
    rename_i v hv;obtain⟨vs,us,h1,h2,h3⟩:=nI g hT r h;obtain⟨x,hx,hr⟩:=g.slots t v hv;refine⟨v::vs,x::us,?_,h2,⟨x,us,rfl,hr,h3⟩⟩;simp[List.mapM_cons,CG,h1,hx]
   rename_i x t;split at h;rotate_left;cases h
   rename_i v hv;split at h;rotate_left;cases h
   rename_i hp';obtain⟨xv,hx,hr⟩:=g.slots x v hv;obtain⟨y,z,h1,h2,h3⟩:=o8 g hT (fun b box hb=>hb) h hr;obtain⟨vs,us,h4,h5,h6⟩:=nI g hT r h2;obtain⟨ad,rfl⟩:=sN hp' hr;refine⟨z::vs,y::us,?_,h5,⟨y,us,rfl,h3,h6⟩⟩;have h7:(loadVar t ad).run P w=.ok y w:=by simpa[Instr.loadAt,Instr.sureAddr] using h1
   simp[List.mapM_cons,CG,hx,asAddr,h7,h4]
theorem G9 {c:Ctx}{R:Real}{s:AS}{a:Act}{w:World}(g:aR c R s a w){vs:List AV}{us:List Value}{Q:PV→Prop}(h:MQ s.hp vs Q)
  (hv:FL (ah (aH c R s.hp) w s.hp R) vs us):∃r v,(if hu:us.toArray.size=1 then us.toArray[0] else .tuple us.toArray)=v∧Q r∧aU c.F w r v:=by
 have hN:∀r,c.F r→aH c R s.hp r:=fun r h=>.inl h
 have h2:∀b,∀r,ax R b r (lk s.hp b)→¬c.F r:=fun b r ho=>g.free r ⟨b,ho⟩
 have hl:=hv.length;unfold MQ at h;split at h
 ·rename_i v;obtain⟨u,r,rfl,hu,hr⟩:=hv;simp only[FL] at hr;subst hr;split at h
  ·rename_i p hp;refine⟨p,u,by simp,h,mG g (fun b box hb=>hb) hN v p u (fun b _=>h2 b) hp hu⟩
  exact h.elim
 rename_i hne;split at h;rotate_left;cases h
 rename_i ps hps;have hsz:us.toArray.size≠1:=by
  intro e;simp only[List.size_toArray] at e;rw[e] at hl;match vs with
  |[v]=>exact hne v rfl
  |[]=>simp at hl
  |_::_::_=>simp at hl
 refine⟨.fF ps,.tuple us.toArray,by rw[dif_neg hsz],h,?_⟩;simp only[aU];refine⟨us.toArray,rfl,?_⟩;exact fT g (fun b box hb=>hb) hN vs ps _ (fun b _=>h2 b) hps (by rw[bZ];exact hv)
theorem CJ:∀(ks:List Nat) (k:Nat) (args:List PV) (tm:List (Nat×AV)) (t:Nat) (v:AV),(∀i x,ks[i]? = some x→x=k+i)→G8 ks args=some tm→lk tm t=some v →
  k≤t∧∃p,args[t-k]? = some p∧v=.pv p
 |ks,k,[],tm,t,v,_,hn,h=>by cases ks<;>simp only[G8,Option.some.injEq] at hn<;>subst hn<;>simp[lk] at h
 |[],k,p::r,tm,t,v,_,hn,h=>by simp[G8] at hn
 | k'::ks,k,p::r,tm,t,v,hk,hn,h=>by
   simp only[G8] at hn;split at hn
   ·rename_i tm' Ky;simp only[Option.some.injEq] at hn;subst hn;have hk0:k'=k:=by simpa using hk 0 k' rfl
    subst hk0;rw[aj] at h;split at h
    ·rename_i e;simp only[Option.some.injEq] at h;subst e;subst h;exact⟨Nat.le_refl _,p,by simp,rfl⟩
    rename_i e;obtain⟨h1,q,h2,h3⟩:=CJ ks (k'+1) r tm' t v (fun i x hx=>by have:=hk (i+1) x (by simpa using hx);omega) Ky h;refine⟨by omega,q,?_,h3⟩;rw[show t-k'=(t-(k'+1))+1 from by omega,List.getElem?_cons_succ];exact h2
   cases hn
theorem CK:∀i x,lits[i]? = some x→x=0+i:=by
 intro i x h;rcases i with _|_|_|_|_|_|_|_|_|_|_|_|_|_|_|_|i<;>simp[lits] at h<;>omega
def codeOf (fn:Func):Code:=
 match fn.body with
 |some c=>c
 |none=>.skip
structure bE (P:Program)(f:FuncId)(fn:Func):Prop where
 func:P.funcs[f]? = some fn
 body:fn.body.isSome=true
 name:(fn.name == "runtime.NumGoroutine")=false
 ok:codeOk fn.ntmps (codeOf fn)=true
theorem nJ {c:Ctx}{R:Real}{s:AS}(hwl:c.w.heap.size≤c.lo)(SH:∀r o,c.fix r=some o→r<c.lo){fn:Func}{Rr:Ending→World→Prop}:∀(Ds:List Nat) (a:Act) (w:World),aR c R s a w→Marks c.lo (owned R s.hp) w a.defers Ds →
  ∃w',w.heap.size≤w'.heap.size∧aR c R s { a with defers:=[] } w'∧(LeavesIn Fence.wide 0 P fn a.tmps Rr [] .returning w'→LeavesInM Fence.wide 0 P fn a.tmps Rr a.defers .returning w)
 | [],a,w,g,mk=>by
   have e:a.defers=[]:=by simpa using mk.eq
   have ea:({ a with defers:=[] }:Act)=a:=by cases a;simp only at e;subst e;rfl
   refine⟨w,Nat.le_refl _,by rw[ea];exact g,fun h=>by rw[e];exact h⟩
 | D::Ds,a,w,g,mk=>by
   have e:a.defers=mark D::Ds.map mark:=by simpa using mk.eq
   have hD:=mk.obj D (by simp);have aaU:=mk.low D (by simp);have hDf:=mk.free D (by simp);have hnd:=List.nodup_cons.1 mk.nodup;let a1:Act:={ a with defers:=Ds.map mark }
   have mk1:Marks c.lo (owned R s.hp) (w.putObj D (.deferred none)) a1.defers Ds:=by
    refine⟨fun d hd=>mk.low d (by simp[hd]),rfl,hnd.2,fun d hd=>?_,fun d hd=>mk.free d (by simp[hd])⟩;rw[World.putObj_heap_other (fun (e:d=D)=>hnd.1 (by rw[←e];exact hd))];exact mk.obj d (by simp[hd])
   have g1:aR c R s a1 (w.putObj D (.deferred none)):=by
    refine g.nK (c2:=c) rfl rfl (fun v y h=>g.kept v y h) (fun r _ h=>h) (fun r o ho hc _=>?_) (by simp) ⟨rfl,rfl,rfl⟩ g.free ?_ ?_ g.eG ⟨rfl,g.lo.2.1,by rw[World.putObj_size];exact g.lo.2.2⟩ ⟨Ds,mk1⟩
    ·rw[World.putObj_heap_other]
     ·exact ho
     rintro rfl
     rcases hc with h|h|h
     ·have:=g.lo.2.1;omega
     ·rw[hD] at ho;simp only[Option.some.injEq] at ho;rw[←ho] at h;cases h
     exact hDf h
    ·refine⟨fun r o h=>?_,g.fixed.free,g.fixed.nc⟩;have:=SH r o h;rw[World.putObj_heap_other (by omega)];exact g.fixed.obj r o h
    exact g.gq.trans (O':=fun r=>r=D) ⟨by simp,fun r _ hn=>World.putObj_heap_other hn,rfl,rfl,rfl⟩ fun r hr h=>by omega
   obtain⟨w2,hsz,g2,hl⟩:=nJ hwl SH Ds a1 _ g1 mk1;refine⟨w2,Nat.le_trans (by simp) hsz,g2,fun h=>?_⟩;rw[e];refine⟨by simp,.inl ⟨D,_,rfl,run_takeDeferred hD,hl h⟩⟩
theorem MR (hT:bC P T)(iH:∀(c:Ctx) (R:Real) (s:AS) (a:Act) (w:World) (id:Nat) (ops:Array Oper) (K:Exit→AS→Prop) (ro:Option Nat),aR c R s a w→kL c.n ops.toList=true →
  VC P T (.region id ops true) s K→(Code.region id ops true).wpIn (W1 ro) 0 P (fun e a' w'=>∃R' s',K e s'∧aR c R' s' a' w') a w)
  {f:FuncId} {fn:Func} (hf:bE P f fn) {args:List PV} (hl:Nat.ble args.length fn.ntmps=true) {Q:PV→Prop}
  (h:SG args fun s=>VC P T (codeOf fn) s (fnK T fn.results.toList Q)):PC P f args Q:=by
 unfold SG at h;split at h
 case h_2=>exact h.elim
 rename_i Rt MS;refine⟨⟨fn,hf.func,hf.body,hf.name⟩,fun F w bG hF hargs=>?_⟩;have hbody:fn.body=some (codeOf fn):=by
  have:=hf.body;unfold codeOf;cases hb:fn.body with
  |none=>rw[hb] at this;cases this
  |some c=>rfl
 have hl:=Nat.le_of_ble_eq_true hl;rw[iF] at hargs;have hcl:bG.size=args.length:=by have:=hargs.length;simpa using this
 let c:Ctx:={ F:=F,O:=fun _=>False,w:=w,n:=fn.ntmps,hF:=hF,K:=fun _ _=>False,hK:=fun _ _ h=>h.elim,fix:=fun _=>none,n0:=(0,fun _ _ _ _ _=>False),lo:=w.heap.size }
 let R:Real:=⟨fun _=>0,fun _=>true,fun _=>(0,[]),⟨fun _=>False,fun _=>False,w,(0,fun _ _ _ _ _=>False)⟩⟩
 have hno:∀r,¬owned R [] r:=by rintro r ⟨b,hb⟩;exact hb
 have XG:∀r,aH c R [] r→F r:=fun r h=>h.resolve_right (hno r)
 refine callsIn_wide.1 (callsIn_of_wp_marks (n:=0) hf.func hbody trivial ?_);have g:aR c R ⟨Rt,1000000000,[]⟩ { tmps:=bG++Array.replicate (fn.ntmps-bG.size) undef,defers:=[] } w:=by
  refine⟨?_,?_,⟨rfl,Nat.zero_le _,Nat.le_refl _⟩,⟨[],Marks.nil⟩,ou.none,?_,?_,?_,iZ.refl _ _,?_,fun _ _ h=>h.elim⟩
  ·intro t v hv;obtain⟨_,p,hp,rfl⟩:=CJ lits 0 args Rt t v CK MS hv;obtain⟨x,hx,hr⟩:=hargs.get hp;have hx':bG[t]? = some x:=by simpa using hx
   refine⟨x,?_,?_⟩
   ·have:=size_of_getElem? hx';simp only;rw[Array.getElem?_append_left this];exact hx'
   simp only[ah];exact bN (fun r _ h=>XG r h) (fun _ _ _=>rfl) _ _ hr
  ·show (bG++Array.replicate (fn.ntmps-bG.size) undef).size=fn.ntmps
   simp;omega
  ·intro b box hb;simp[lk] at hb
  ·intro b b' r hb;exact hb.elim
  ·rintro r ⟨b,hb⟩;exact hb.elim
  rintro r ⟨b,hb⟩;exact hb.elim
 refine Go.wpIn_mono (dN (ro:=none) hT iH (codeOf fn) ⟨fun _ h=>(by cases h),fun _ _ h=>(by cases h)⟩ g hf.ok h) ?_;rintro e a' Ru ⟨R',s',hK,Rw⟩
 obtain⟨Ds,Vf⟩:=Rw.marks;obtain⟨w',Vg,g',hleave⟩:=nJ (P:=P) (fn:=fn) (Rr:=fun e w'=>∃v r,e=.returned v∧Q r∧aU F w' r v∧Same w w') (Nat.le_refl _) (fun _ _ h=>(by cases h)) Ds a' Ru Rw Vf;have fin:(Ad T s' fn.results.toList fun vs=>MQ s'.hp vs Q)→LeavesInM Fence.wide 0 P fn a'.tmps (fun e w'=>∃v r,e=.returned v∧Q r∧aU F w' r v∧Same w w') a'.defers .returning Ru:=by
  intro hK;refine hleave ?_;obtain⟨vs,us,h1,h2,h3⟩:=nI g' hT _ hK;obtain⟨r,v,h4,h5,h6⟩:=G9 g' h2 h3;refine⟨v,?_,v,r,rfl,h5,h6,g'.gq⟩;have hres:results fn a'.tmps=(fn.results.mapM (CG P a'.tmps) >>= fun vs=>pure (if h:vs.size=1 then vs[0] else .tuple vs)):=by
   unfold results;congr 2
  have hm:(fn.results.mapM (CG P a'.tmps)).run P w'=.ok us.toArray w':=by
   rw[Array.mapM_eq_mapM_toList,Sem.run_map,h1];rfl
  rw[hres];simp only[Sem.run_bind,hm,Result.andThen_ok,Sem.run_pure];exact congrArg (fun x=>Result.ok x w') h4
 cases e with
 |normal=>exact fin hK
 |ret=>exact fin hK
 |exit i=>exact hK.elim
 |goto l=>exact hK.elim
 |panic ch=>exact hK.elim
 |outgrown=>exact hK.elim
def AY:List Nat→List AV→Option (List (Nat×AV))
 |_,[]=>some []
 |[],_::_=>none
 | k::ks,p::r=>match AY ks r with
   |some t=>some ((k,p)::t)
   |none=>none
def SI (args:List AV)(hp:List (Nat×av))(K:AS→Prop):Prop:=
 match AY lits args with
 |some tm=>K ⟨tm,1000000000,hp⟩
 |none=>False
def Rx (vs:List AV):AV:=
 match gu vs with
 |some ps=>.pv (.fF ps)
 |none=>.fF vs
def MU (hp:List (Nat×av))(vs:List AV)(Q:AV→List (Nat×av)→Prop):Prop:=
 match vs with
 |[v]=>Kz hp v Q
 | _=>match Rx vs with
   |v=>Kz hp v Q
def fnG (T:Tab)(rs:List ResultVar)(Q:AV→List (Nat×av)→Prop)(e:Exit)(s:AS):Prop:=
 match e with
 |.normal=>Ad T s rs fun vs=>MU s.hp vs Q
 |.ret=>Ad T s rs fun vs=>MU s.hp vs Q
 |_=>False
theorem Ep:∀(ks:List Nat) (k:Nat) (args:List AV) (tm:List (Nat×AV)) (t:Nat) (v:AV),(∀i x,ks[i]? = some x→x=k+i)→AY ks args=some tm→lk tm t=some v →
  k≤t∧args[t-k]? = some v
 |ks,k,[],tm,t,v,_,hn,h=>by cases ks<;>simp only[AY,Option.some.injEq] at hn<;>subst hn<;>simp[lk] at h
 |[],k,p::r,tm,t,v,_,hn,h=>by simp[AY] at hn
 | k'::ks,k,p::r,tm,t,v,hk,hn,h=>by
   simp only[AY] at hn;split at hn
   ·rename_i tm' Ky;simp only[Option.some.injEq] at hn;subst hn;have hk0:k'=k:=by simpa using hk 0 k' rfl
    subst hk0;rw[aj] at h;split at h
    ·rename_i e;simp only[Option.some.injEq] at h;subst e;subst h;exact⟨Nat.le_refl _,by simp⟩
    rename_i e;obtain⟨h1,h2⟩:=Ep ks (k'+1) r tm' t v (fun i x hx=>by have:=hk (i+1) x (by simpa using hx);omega) Ky h;refine⟨by omega,?_⟩;rw[show t-k'=(t-(k'+1))+1 from by omega,List.getElem?_cons_succ];exact h2
   cases hn
theorem He {c:Ctx}{R:Real}{hp:List (Nat×av)}{w:World}(g:xk c R hp w){vs:List AV}{us:List Value}{Q:AV→List (Nat×av)→Prop}(h:MU hp vs Q)
  (hv:FL (ah (aH c R hp) w hp R) vs us):∃r hp' R',Q r hp'∧xk c R' hp' w∧ah (aH c R' hp') w hp' R' r (if hu:us.toArray.size=1 then us.toArray[0] else .tuple us.toArray):=by
 have hl:=hv.length;unfold MU at h;split at h
 ·rename_i v;obtain⟨u,r,rfl,hu,hr⟩:=hv;simp only[FL] at hr;subst hr;exact kM h g (by simpa using hu)
 rename_i hne;have hsz:us.toArray.size≠1:=by
  intro e;simp only[List.size_toArray] at e;rw[e] at hl;match vs with
  |[v]=>exact hne v rfl
  |[]=>simp at hl
  |_::_::_=>simp at hl
 rw[dif_neg hsz];refine kM h g ?_;have hv':=(bZ _ _ _ _ _ _).2 hv;unfold Rx;split
 ·rename_i ps hps;have:=uL hps;subst this;simp only[ah,aU];exact⟨us.toArray,rfl,oW _ _ hv'⟩
 simp only[ah];exact⟨us.toArray,rfl,hv'⟩
theorem Er (hT:bC P T)(iH:∀(c:Ctx) (R:Real) (s:AS) (a:Act) (w:World) (id:Nat) (ops:Array Oper) (K:Exit→AS→Prop) (ro:Option Nat),aR c R s a w→kL c.n ops.toList=true →
  VC P T (.region id ops true) s K→(Code.region id ops true).wpIn (W1 ro) 0 P (fun e a' w'=>∃R' s',K e s'∧aR c R' s' a' w') a w)
  {f:FuncId} {fn:Func} (hf:bE P f fn) {args:List AV} {hp:List (Nat×av)} (hl:Nat.ble args.length fn.ntmps=true) {Q:AV→List (Nat×av)→Prop}
  (h:SI args hp fun s=>VC P T (codeOf fn) s (fnG T fn.results.toList Q)):GC P f args hp Q:=by
 unfold SI at h;split at h
 case h_2=>exact h.elim
 rename_i Rt MS;refine⟨⟨fn,hf.func,hf.body,hf.name⟩,fun c R w bG hh hargs=>?_⟩;have hbody:fn.body=some (codeOf fn):=by
  have:=hf.body;unfold codeOf;cases hb:fn.body with
  |none=>rw[hb] at this;cases this
  |some c=>rfl
 have hl:=Nat.le_of_ble_eq_true hl;rw[bZ] at hargs;have hcl:bG.size=args.length:=by have:=hargs.length;simpa using this
 let c':Ctx:={ c with n:=fn.ntmps,lo:=w.heap.size }
 have KA:xk c' R hp w:=⟨hh.boxes,hh.inj,hh.free,hh.gq,hh.eG,hh.kept,hh.fixed,⟨hh.lo.1,Nat.le_trans hh.lo.2.1 hh.lo.2.2,Nat.le_refl _⟩⟩;refine callsIn_wide.1 (callsIn_of_wp_marks (n:=0) hf.func hbody trivial ?_);have g:aR c' R ⟨Rt,1000000000,hp⟩ { tmps:=bG++Array.replicate (fn.ntmps-bG.size) undef,defers:=[] } w:=by
  refine KA.JA ?_ ?_ ⟨[],Marks.nil⟩
  ·intro t v hv;obtain⟨_,hp⟩:=Ep lits 0 args Rt t v CK MS hv;obtain⟨x,hx,hr⟩:=hargs.get hp;have hx':bG[t]? = some x:=by simpa using hx
   refine⟨x,?_,hr⟩;have:=size_of_getElem? hx';simp only;rw[Array.getElem?_append_left this];exact hx'
  show (bG++Array.replicate (fn.ntmps-bG.size) undef).size=fn.ntmps
  simp;omega
 refine Go.wpIn_mono (dN (c:=c') (ro:=none) hT iH (codeOf fn) ⟨fun _ h=>(by cases h),hh.fixed.nc⟩ g hf.ok h) ?_;rintro e a' Ru ⟨R',s',hK,Rw⟩
 obtain⟨Ds,Vf⟩:=Rw.marks;obtain⟨w',Vg,g',hleave⟩:=nJ (c:=c') (P:=P) (fn:=fn) (Rr:=fun e w'=>∃v r hp' R',e=.returned v∧Q r hp'∧xk c R' hp' w'∧ah (aH c R' hp') w' hp' R' r v) hh.gq.size (fun r o h=>size_of_getElem? (hh.fixed.obj r o h)) Ds a' Ru Rw Vf;have fin:(Ad T s' fn.results.toList fun vs=>MU s'.hp vs Q)→LeavesInM Fence.wide 0 P fn a'.tmps (fun e w'=>∃v r hp' R',e=.returned v∧Q r hp'∧xk c R' hp' w'∧ah (aH c R' hp') w' hp' R' r v) a'.defers .returning Ru:=by
  intro hK;refine hleave ?_;obtain⟨vs,us,h1,h2,h3⟩:=nI g' hT _ hK;obtain⟨r,hp',R2,h4,h5,h6⟩:=He g'.hap h2 h3;refine⟨_,?_,_,r,hp',R2,rfl,h4,⟨h5.boxes,h5.inj,h5.free,h5.gq,h5.eG,h5.kept,h5.fixed,⟨h5.lo.1,hh.lo.2.1,?_⟩⟩,h6⟩;rotate_left
  ·have h1:w.heap.size≤w'.heap.size:=h5.lo.2.2;exact Nat.le_trans hh.lo.2.2 h1
  have hres:results fn a'.tmps=(fn.results.mapM (CG P a'.tmps) >>= fun vs=>pure (if h:vs.size=1 then vs[0] else .tuple vs)):=by
   unfold results;congr 2
  have hm:(fn.results.mapM (CG P a'.tmps)).run P w'=.ok us.toArray w':=by
   rw[Array.mapM_eq_mapM_toList,Sem.run_map,h1];rfl
  rw[hres];simp only[Sem.run_bind,hm,Result.andThen_ok,Sem.run_pure]
 cases e with
 |normal=>exact fin hK
 |ret=>exact fin hK
 |exit i=>exact hK.elim
 |goto l=>exact hK.elim
 |panic ch=>exact hK.elim
 |outgrown=>exact hK.elim
def P5 (o:Option av):Prop:=
 match o with
 | some (.tr _ _ rest st)=>match st with
   |some true=>True
   |some false=>rest=[]
   |none=>rest=[]
 |_=>False
def fnY (e:Exit)(s:AS):Prop:=
 match e with
 |.normal=>P5 (lk s.hp 999)
 |.ret=>P5 (lk s.hp 999)
 |_=>False
def Vh (P:Program)(l:Nat)(aT:List PV)(xs:List (List PV))(K:AS→Prop):Prop:=
 match G8 lits (.fn (.yield l) [] []::aT) with
 |some tm=>K ⟨tm,1000000000,[(999,.tr (P,l) 0 xs (some false))]⟩
 |none=>False
theorem Hf (hT:bC P T)(iH:∀(c:Ctx) (R:Real) (s:AS) (a:Act) (w:World) (id:Nat) (ops:Array Oper) (K:Exit→AS→Prop) (ro:Option Nat),aR c R s a w→kL c.n ops.toList=true →
  VC P T (.region id ops true) s K→(Code.region id ops true).wpIn (W1 ro) 0 P (fun e a' w'=>∃R' s',K e s'∧aR c R' s' a' w') a w)
  {f:FuncId} {fn:Func} (hf:bE P f fn) {aT:List PV} {xs:List (List PV)} (hl:Nat.ble (aT.length+1) fn.ntmps=true) (Vi:fn.results.toList=[])
  (h:∀l,Vh P l aT xs fun s=>VC P T (codeOf fn) s fnY):Kw P f aT xs:=by
 refine⟨⟨fn,hf.func,hf.body,hf.name⟩,fun l J D w bG hY hD hJ Vj=>?_⟩;have h:=h l;unfold Vh at h;split at h
 case h_2=>exact h.elim
 rename_i Rt MS;have hbody:fn.body=some (codeOf fn):=by
  have:=hf.body;unfold codeOf;cases hb:fn.body with
  |none=>rw[hb] at this;cases this
  |some c=>rfl
 have hl:=Nat.le_of_ble_eq_true hl;have hargs:cZ D w (.fn (.yield l) [] []::aT) (#[Value.func (.yield l) #[] #[]]++bG).toList:=by
  simp only[cZ,aU,Array.toList_append,List.cons_append,List.nil_append];exact⟨_,_,rfl,⟨#[],#[],rfl,rfl,rfl⟩,Vj⟩
 generalize hca : #[Value.func (.yield l) #[] #[]]++bG=ca at hargs;rw[iF] at hargs;have hcl:ca.size=aT.length+1:=by have:=hargs.length;simpa using this
 let c:Ctx:={ F:=fun _=>False,O:=D,w:=w,n:=fn.ntmps,hF:=fun _ h=>h.elim,K:=fun _ _=>False,hK:=fun _ _ h=>h.elim,fix:=fun _=>none,n0:=(w.heap.size,J),lo:=w.heap.size }
 let R:Real:=⟨fun _=>0,fun _=>true,fun _=>(0,[]),⟨fun _=>False,D,w,(w.heap.size,J)⟩⟩
 let dY:List (Nat×av):=[(999,.tr (P,l) 0 xs (some false))]
 have hown:∀b r,ax R b r (lk dY b)→b=999∧D r:=by
  intro b r h;simp only[dY,aj] at h;split at h
  ·rename_i e;exact⟨e.symm,h⟩
  exact h.elim
 have XG:∀r,aH c R dY r→D r:=fun r h=>h.elim (fun h=>h.elim) fun⟨b,h⟩=>(hown b r h).2
 refine callsIn_wide.1 (callsIn_of_wp_marks (n:=0) hf.func hbody trivial ?_);have g:aR c R ⟨Rt,1000000000,dY⟩ { tmps:=ca++Array.replicate (fn.ntmps-ca.size) undef,defers:=[] } w:=by
  refine⟨?_,?_,⟨rfl,Nat.le_refl _,Nat.le_refl _⟩,⟨[],Marks.nil⟩,ou.none,?_,?_,fun _ _ h=>h,iZ.refl _ _,?_,fun _ _ h=>h.elim⟩
  ·intro t v hv;obtain⟨_,p,hp,rfl⟩:=CJ lits 0 _ Rt t v CK MS hv;obtain⟨x,hx,hr⟩:=hargs.get hp;have hx':ca[t]? = some x:=by simpa using hx
   refine⟨x,?_,?_⟩
   ·have:=size_of_getElem? hx';simp only;rw[Array.getElem?_append_left this];exact hx'
   simp only[ah];exact bN (fun r _ h=>XG r h) (fun _ _ _=>rfl) _ _ hr
  ·show (ca++Array.replicate (fn.ntmps-ca.size) undef).size=fn.ntmps
   simp;omega
  ·intro b box hb;simp only[dY,aj] at hb;split at hb
   ·rename_i e;subst e;simp only[Option.some.injEq] at hb;subst hb;exact⟨rfl,hY,hJ,wN.refl _ _ _ _,hD,fun r h=>.inl (XG r h)⟩
   simp[lk] at hb
  ·intro b b' r h h';rw[(hown b r h).1,(hown b' r h').1]
  rintro r ⟨b,h⟩
  exact .inl (hown b r h).2
 refine Go.wpIn_mono (dN (ro:=none) hT iH (codeOf fn) ⟨fun _ h=>(by cases h),fun _ _ h=>(by cases h)⟩ g hf.ok h) ?_;rintro e a' Ru ⟨R',s',hK,Rw⟩
 obtain⟨Ds,Vf⟩:=Rw.marks;obtain⟨w',Vg,g',hleave⟩:=nJ (P:=P) (fn:=fn) (Rr:=fun e w'=>(∃v,e=.returned v)∧∃rest st Z D' wy,J rest st Z D' wy∧wN w.heap.size Z D' wy w'∧(st=true∨rest=[])) (Nat.le_refl _) (fun _ _ h=>(by cases h)) Ds a' Ru Rw Vf;have fin:P5 (lk s'.hp 999)→LeavesInM Fence.wide 0 P fn a'.tmps (fun e w'=>(∃v,e=.returned v)∧∃rest st Z D' wy,J rest st Z D' wy∧wN w.heap.size Z D' wy w'∧(st=true∨rest=[])) a'.defers .returning Ru:=by
  intro hK;refine hleave ?_;have hres:(results fn a'.tmps).run P w'=.ok (.tuple #[]) w':=by
   have h1:results fn a'.tmps=(fn.results.mapM (CG P a'.tmps) >>= fun vs=>pure (if h:vs.size=1 then vs[0] else .tuple vs)):=by
    unfold results;congr 2
   have h2:(fn.results.mapM (CG P a'.tmps)).run P w'=.ok #[] w':=by
    rw[Array.mapM_eq_mapM_toList,Sem.run_map,Vi];simp
   rw[h1];simp only[Sem.run_bind,h2,Result.andThen_ok,Sem.run_pure];simp
  refine⟨_,hres,⟨_,rfl⟩,?_⟩;unfold P5 at hK;split at hK
  ·rename_i y ver rest st hb;obtain⟨_,_,k1,k2,_,_⟩:=g'.boxes 999 _ hb;have hn:=g'.lo.1;rw[hn] at k1 k2;refine⟨rest,_,_,_,_,k1,k2,?_⟩;split at hK
   ·exact .inl rfl
   ·exact .inr hK
   exact .inr hK
  exact hK.elim
 cases e with
 |normal=>exact fin hK
 |ret=>exact fin hK
 |exit i=>exact hK.elim
 |goto l=>exact hK.elim
 |panic ch=>exact hK.elim
 |outgrown=>exact hK.elim
end
mutual
def flatK (P:Program):Nat→TypeId→Option (List EK)
 |0,_=>none
 | d+1,t=>match P.underlying t with
   |some .bool=>some [.bool]
   |some (.int k)=>some [.int k]
   |some .string=>some [.str]
   | some (.struct fs)=>match P.stoodInHeld t with
     |true=>none
     |false=>rD P d fs.toList 0
   |_=>none
def rD (P:Program):Nat→List Field→Nat→Option (List EK)
 |_,[],_=>some []
 |0,_::_,_=>none
 | d+1,f::fs,off=>match f.name == "_",Nat.beq f.offset off with
   | false,true=>match flatK P d f.type with
     | some a=>match Nat.beq (P.cellsOf f.type) a.length,Nat.beq a.length 0 with
       | true,false=>match rD P d fs (off+a.length) with
         |some b=>some (a++b)
         |none=>none
       |_,_=>none
     |none=>none
   |_,_=>none
end
theorem kg {k:EK}{ks:List EK}{x y:Value}{xs ys:List Value}{b:Bool}:iY (k::ks) (x::xs) (y::ys)=some b↔∃a c,SK k x y=some a∧iY ks xs ys=some c∧b=(a&&c):=by
 simp only[iY];cases h:SK k x y with
 |none=>simp
 | some a=>
   simp only[Option.some.injEq];cases ks with
   | nil=>
     cases xs<;>cases ys<;>simp[iY]
     constructor
     ·rintro rfl;rfl
     rintro rfl;rfl
   | cons k2 ks=>
     simp only;cases h2:iY (k2::ks) xs ys with
     |none=>simp
     | some c=>
       simp only[Option.some.injEq];constructor
       ·rintro rfl;exact⟨a,c,rfl,rfl,rfl⟩
       rintro⟨_,_,rfl,rfl,rfl⟩;rfl
theorem Es:∀{ks:List EK} {xs ys:List Value} {b:Bool},iY ks xs ys=some b→xs.length=ks.length∧ys.length=ks.length
 |[],[],[],b,_=>⟨rfl,rfl⟩
 |[],[],_::_,b,h=>by simp[iY] at h
 |[],_::_,_,b,h=>by simp[iY] at h
 |k::ks,[],_,b,h=>by simp[iY] at h
 |k::ks,_::_,[],b,h=>by simp[iY] at h
 | k::ks,x::xs,y::ys,b,h=>by
   obtain⟨a,c,_,h2,_⟩:=kg.1 h;have:=Es h2;simp[this]
theorem Et {xs ys:List Value}{b:Bool}(h:iY [] xs ys=some b):b=true:=by
 cases xs<;>cases ys<;>simp[iY] at h
 exact h
theorem vL:∀{k1 k2:List EK} {xs ys:List Value} {b:Bool},iY (k1++k2) xs ys=some b →
  ∃a c,iY k1 (xs.take k1.length) (ys.take k1.length)=some a∧iY k2 (xs.drop k1.length) (ys.drop k1.length)=some c∧b=(a&&c)
 |[],k2,xs,ys,b,h=>⟨true,b,by simp[iY],by simpa using h,by simp⟩
 |k::k1,k2,[],ys,b,h=>by simp[iY] at h
 |k::k1,k2,x::xs,[],b,h=>by simp[iY] at h
 | k::k1,k2,x::xs,y::ys,b,h=>by
   rw[List.cons_append] at h;obtain⟨a,c,h1,h2,rfl⟩:=kg.1 h;obtain⟨a',c',h3,h4,rfl⟩:=vL h2;refine⟨a&&a',c',?_,by simpa using h4,by simp[Bool.and_assoc]⟩;simp only[List.length_cons,List.take_succ_cons];exact kg.2 ⟨a,a',h1,h3,rfl⟩
section
variable {P:Program}
def Vk (P:Program)(d:Nat):Prop:=∀(t:TypeId) (ks:List EK) (n:Nat) (w:World),flatK P d t=some ks→d≤n →
 (∀(x y:Value) (b:Bool),(match P.underlying t with|some (.struct _)=>False|_=>True)→iY ks [x] [y]=some b→(Op.equalIn n t x y).run P w=.ok b w) ∧
 (∀(xs ys:Array Value) (b:Bool),(match P.underlying t with|some (.struct _)=>True|_=>False)→iY ks xs.toList ys.toList=some b→(Op.equalIn n t (.agg xs) (.agg ys)).run P w=.ok b w)
theorem Vl:∀(d:Nat),Vk P d:=by
 intro d;induction d using Nat.strongRecOn with
 | _ d ih=>
   intro t ks n w h hn;cases d with
   |zero=>simp[flatK] at h
   | succ d=>
     obtain⟨m,rfl⟩:∃m,n=m+1:=⟨n-1,by omega⟩;simp only[flatK] at h;split at h
     ·rename_i hu;simp only[Option.some.injEq] at h;subst h;refine⟨fun x y b _ hb=>?_,fun xs ys b hs=>by rw[hu] at hs;exact hs.elim⟩;obtain⟨a,c,h1,h2,rfl⟩:=kg.1 hb;simp only[iY,Option.some.injEq] at h2;subst h2;cases x<;>cases y<;>simp[SK] at h1
      subst h1;simpa using run_equalIn_bool w m t _ _ hu
     ·rename_i k hu;simp only[Option.some.injEq] at h;subst h;refine⟨fun x y b _ hb=>?_,fun xs ys b hs=>by rw[hu] at hs;exact hs.elim⟩;obtain⟨a,c,h1,h2,rfl⟩:=kg.1 hb;simp only[iY,Option.some.injEq] at h2;subst h2;cases x<;>cases y<;>simp only[SK] at h1<;>try (cases h1;done)
      split at h1
      ·rename_i e1 e2;have e1:=of_decide_eq_true e1;have e2:=of_decide_eq_true e2;subst e1;subst e2;simp only[Option.some.injEq] at h1;subst h1;simpa using run_equalIn_int w m t _ _ _ _ hu
      cases h1
     ·rename_i hu;simp only[Option.some.injEq] at h;subst h;refine⟨fun x y b _ hb=>?_,fun xs ys b hs=>by rw[hu] at hs;exact hs.elim⟩;obtain⟨a,c,h1,h2,rfl⟩:=kg.1 hb;simp only[iY,Option.some.injEq] at h2;subst h2;cases x<;>cases y<;>simp only[SK] at h1<;>try (cases h1;done)
      simp only[Option.some.injEq] at h1;subst h1;simpa using run_equalIn_string w m t _ _ hu
     ·rename_i fs hu;split at h
      ·cases h
      rename_i hst;refine⟨fun x y b hs=>by rw[hu] at hs;exact hs.elim,fun xs ys b _ hb=>?_⟩;have UB:P.fieldsOf t=fs:=by simp[Program.fieldsOf,hu]
      rw[run_equalIn_struct w m t xs ys (by rw[UB];exact hu) hst,UB];have key:∀(d':Nat) (fl:List Field) (off:Nat) (ks:List EK) (b:Bool),d'≤d→rD P d' fl off=some ks→iY ks (xs.toList.drop off) (ys.toList.drop off)=some b →
        (Op.eqFields m xs ys fl).run P w=.ok b w:=by
       intro d';induction d' with
       | zero=>
         intro fl off ks b _ h hb;cases fl with
         | nil=>
           simp only[rD,Option.some.injEq] at h;subst h;have:=Et hb;subst this;simp[Op.eqFields]
         |cons f fl=>simp[rD] at h
       | succ d' ih2=>
         intro fl off ks b hd' h hb;cases fl with
         | nil=>
           simp only[rD,Option.some.injEq] at h;subst h;have:=Et hb;subst this;simp[Op.eqFields]
         | cons f fl=>
           simp only[rD] at h;split at h
           ·rename_i hnm hoff;have hoff:=Nat.eq_of_beq_eq_true hoff;split at h
            ·rename_i ka hka;split at h
             ·rename_i hsz hk0;have hsz:=Nat.eq_of_beq_eq_true hsz;have hk0:=Nat.ne_of_beq_eq_false hk0;split at h
              ·rename_i kb hkb;simp only[Option.some.injEq] at h;subst h;obtain⟨a1,a2,q1,q2,rfl⟩:=vL hb;rw[List.drop_drop,List.drop_drop] at q2;have hrest:=ih2 fl (off+ka.length) kb a2 (by omega) hkb q2;obtain⟨e1,e2⟩:=ih d' (by omega) f.type ka m w hka (by omega);have hne:(f.name ≠ "_")=True:=by simp only[ne_eq,eq_iff_iff,iff_true];intro e;rw[e] at hnm;simp at hnm
               have hlen:=Es q1;have lx:off+ka.length≤xs.size:=by have:=hlen.1;simp at this;omega
               have ly:off+ka.length≤ys.size:=by have:=hlen.2;simp at this;omega
               obtain⟨ii,Vm⟩:∃ii,P.info? f.type=some ii:=by
                cases Vm:P.info? f.type with
                |some ii=>exact⟨ii,rfl⟩
                | none=>
                  have hun:P.underlying f.type=none:=by unfold Program.underlying;rw[Vm]
                  cases d'<;>simp[flatK,hun] at hka
               have hsize:ii.size=ka.length:=by rw[←hsz];simp[Program.cellsOf,Vm]
               have hparts:∃x y,(Go.part f.type xs f.offset).run P w=.ok x w∧(Go.part f.type ys f.offset).run P w=.ok y w∧(Op.equalIn m f.type x y).run P w=.ok a1 w:=by
                cases Ry:P.underlying f.type with
                |none=>cases d'<;>simp[flatK,Ry] at hka
                | some dd=>
                  have plain:(match dd with|.struct _=>False|.array _ _=>False|_=>True)→ka.length=1→∃x y,(Go.part f.type xs f.offset).run P w=.ok x w∧(Go.part f.type ys f.offset).run P w=.ok y w ∧
                    (Op.equalIn m f.type x y).run P w=.ok a1 w:=by
                   intro hpl h1;have g1:xs[off]? = some xs[off]:=Array.getElem?_eq_getElem (by omega);have g2:ys[off]? = some ys[off]:=Array.getElem?_eq_getElem (by omega);refine⟨xs[off],ys[off],?_,?_,e1 _ _ a1 (by rw[Ry];cases dd<;>first|trivial|exact hpl) ?_⟩
                   ·rw[hoff];cases dd<;>first|exact hpl.elim|simp[Go.part,isAgg,run_underlying Ry,g1]
                   ·rw[hoff];cases dd<;>first|exact hpl.elim|simp[Go.part,isAgg,run_underlying Ry,g2]
                   rw[h1] at q1;have t1:(xs.toList.drop off).take 1=[xs[off]]:=by
                    rw[List.drop_eq_getElem_cons (by simpa using (by omega:off<xs.size))];simp
                   have t2:(ys.toList.drop off).take 1=[ys[off]]:=by
                    rw[List.drop_eq_getElem_cons (by simpa using (by omega:off<ys.size))];simp
                   rw[t1,t2] at q1;exact q1
                  cases d' with
                  |zero=>simp[flatK] at hka
                  | succ d'=>
                    simp only[flatK,Ry] at hka;cases dd<;>simp only at hka<;>try (cases hka;done)
                    ·simp only[Option.some.injEq] at hka;exact plain trivial (by rw[←hka];rfl)
                    ·simp only[Option.some.injEq] at hka;exact plain trivial (by rw[←hka];rfl)
                    ·simp only[Option.some.injEq] at hka;exact plain trivial (by rw[←hka];rfl)
                    refine⟨.agg (xs.extract off (off+ii.size)),.agg (ys.extract off (off+ii.size)),?_,?_,e2 _ _ a1 (by rw[Ry];trivial) ?_⟩
                    ·rw[hoff];simp[Go.part,isAgg,run_underlying Ry,sizeOf,typeInfo,Vm]
                    ·rw[hoff];simp[Go.part,isAgg,run_underlying Ry,sizeOf,typeInfo,Vm]
                    have f1:(xs.extract off (off+ii.size)).toList=(xs.toList.drop off).take ka.length:=by simp[Array.toList_extract,List.extract,hsize]
                    have f2:(ys.extract off (off+ii.size)).toList=(ys.toList.drop off).take ka.length:=by simp[Array.toList_extract,List.extract,hsize]
                    rw[f1,f2];exact q1
               obtain⟨x,y,p1,p2,p3⟩:=hparts;simp only[Op.eqFields,hne,if_true,Sem.run_bind,p1,p2,p3,Result.andThen_ok];cases a1 with
               |false=>simp
               |true=>simpa using hrest
              cases h
             cases h
            cases h
           cases h
      exact key d fs.toList 0 ks b (Nat.le_refl _) h (by simpa using hb)
     cases h
theorem eO {t:TypeId}{ks:List EK}(h:flatK P 20 t=some ks)(hs:(match P.underlying t with|some (.struct _)=>true|_=>false)=true):Vn P t ks:=by
 intro w xs ys b hb;refine (Vl 20 t ks 10000 w h (by omega)).2 xs ys b ?_ hb;cases hu:P.underlying t with
 |none=>rw[hu] at hs;cases hs
 |some d=>rw[hu] at hs;cases d<;>first|trivial|cases hs
end
end Go.AX
namespace Go.AX
theorem MV {α:Type}:∀{l:List (Nat×α)} {t:Nat} {v:α},lk l t=some v→(t,v)∈l
 |[],t,v,h=>by simp[lk] at h
 | (k,u)::r,t,v,h=>by
   rw[aj] at h;split at h
   ·rename_i e;simp only[Option.some.injEq] at h;subst e;subst h;exact List.mem_cons_self
   exact List.mem_cons_of_mem _ (MV h)
theorem Ae {P:Program}{T:Tab}(h:∀x∈T,bD P x.1 x.2):bC P T:=fun t i hl=>h (t,i) (MV hl)
def fE {α:Type}(m:(α→Prop)→Prop):Prop:=∀K,m K→∃x,K x∧∀K',K' x→m K'
theorem aQ {α:Type}(x:α):fE fun K=>K x:=fun K h=>⟨x,h,fun _ h=>h⟩
theorem ko {α:Type}:fE fun (_:α→Prop)=>False:=fun _ h=>h.elim
theorem aC {α:Type}{p:Prop}{m:(α→Prop)→Prop}(h:p→fE m):fE fun K=>p∧m K:=fun K ⟨hp,hm⟩=>
 let ⟨x,h1,h2⟩:=h hp K hm;⟨x,h1,fun K' h'=>⟨hp,h2 K' h'⟩⟩
theorem jw {α β:Type}{m:β→(α→Prop)→Prop}(h:∀b,fE (m b)):fE fun K=>∃b,m b K:=fun K ⟨b,hm⟩=>
 let ⟨x,h1,h2⟩:=h b K hm;⟨x,h1,fun K' h'=>⟨b,h2 K' h'⟩⟩
theorem CO {α β:Type}{m:(α→Prop)→Prop}(f:α→β)(h:fE m):fE fun K=>m fun x=>K (f x):=fun K hm=>
 let ⟨x,h1,h2⟩:=h _ hm;⟨f x,h1,fun K' h'=>h2 _ h'⟩
theorem P6 {α:Type}{m:(α→Prop)→Prop}{o h':Option Int}{n:Nat}(h:fE m):fE fun K=>SL o h' n (m K):=by
 intro K hm;cases o with
 | none=>
   obtain⟨x,h1,h2⟩:=h K (by simpa only[SL] using hm);exact⟨x,h1,fun K' h'=>by simpa only[SL] using h2 K' h'⟩
 | some i=>
   obtain⟨a,b,hm⟩:=(by simpa only[SL] using hm:h'=some i∧0<n∧m K);obtain⟨x,h1,h2⟩:=h K hm;exact⟨x,h1,fun K' h'=>by simpa only[SL] using ⟨a,b,h2 K' h'⟩⟩
theorem kN {α:Type}{m:(α→Prop)→Prop}{lo:Int}{o:Option Int}{hi:Int}(h:fE m):fE fun K=>Gs lo o hi (m K):=by
 intro K hm;cases o with
 | none=>
   obtain⟨x,h1,h2⟩:=h K (by simpa only[Gs] using hm);exact⟨x,h1,fun K' h'=>by simpa only[Gs] using h2 K' h'⟩
 | some i=>
   obtain⟨a,b,hm⟩:=(by simpa only[Gs] using hm:lo≤i∧i≤hi∧m K);obtain⟨x,h1,h2⟩:=h K hm;exact⟨x,h1,fun K' h'=>by simpa only[Gs] using ⟨a,b,h2 K' h'⟩⟩
theorem MW (op:BinOp)(k:IntKind)(a b:Int):fE (KC op k a b):=by
 unfold KC;cases op<;>first|exact aQ _|exact ko|exact aC fun _=>aQ _
theorem MX (op:BinOp)(a b:ByteArray):fE (MZ op a b):=by
 unfold MZ;cases op<;>first|exact aQ _|exact ko|exact aC fun _=>aQ _
theorem JB (op:BinOp)(b:Bool):fE (Js op b):=by
 unfold Js;cases op<;>first|exact aQ _|exact ko
theorem bn {α:Type}{m:(α→Prop)→Prop}{K:α→Prop}{x:α}(h:K x)(hm:∀K',K' x→m K'):∃x,K x∧∀K',K' x→m K':=⟨x,h,hm⟩
theorem ay {α:Type}{m m':(α→Prop)→Prop}{K:α→Prop}(hd:fE m)(h:m K)(hm:∀K',m K'→m' K'):∃x,K x∧∀K',K' x→m' K':=
 let ⟨x,h1,h2⟩:=hd K h;⟨x,h1,fun K' h'=>hm K' (h2 K' h')⟩
theorem M0 (i:TI)(op:BinOp)(x y:AV):fE (Hg i op x y):=by
 intro K h;unfold Hg at h;repeat' split at h
 all_goals first
  |exact h.elim
  |exact bn h fun K' h'=>by unfold Hg;simp only[*]<;>first|exact h'|simp
  |exact ay (JB _ _) h fun K' h'=>by unfold Hg;simp only[*]<;>first|exact h'|simp
theorem Hl (op:BinOp)(k:IntKind)(a b:Int):fE (uM op k a b):=by
 intro K h;unfold uM at h;split at h
 ·exact⟨_,h.2,fun K' h'=>by unfold uM;exact⟨h.1,h'⟩⟩
 ·exact⟨_,h.2,fun K' h'=>by unfold uM;exact⟨h.1,h'⟩⟩
 exact h.elim
theorem M4 (T:Tab)(op:BinOp)(t:TypeId)(x y:AV):fE (zW T op t x y):=by
 intro K h;unfold zW at h;repeat' split at h
 all_goals first
  |exact h.elim
  |exact bn h fun K' h'=>by unfold zW;simp only[*]<;>first|exact h'|simp
  |exact ay (Hl _ _ _ _) h fun K' h'=>by unfold zW;simp only[*]<;>first|exact h'|simp
  |exact ay (MW _ _ _ _) h fun K' h'=>by unfold zW;simp only[*]<;>first|exact h'|simp
  |exact ay (MX _ _ _) h fun K' h'=>by unfold zW;simp only[*]<;>first|exact h'|simp
  |exact ay (M0 _ _ _ _) h fun K' h'=>by unfold zW;simp only[*]<;>first|exact h'|simp
theorem KD (T:Tab)(H:List (Nat×av))(op:BinOp)(t:TypeId)(x y:AV):fE (xW T H op t x y):=by
 intro K h;unfold xW at h;repeat' split at h
 all_goals first
  |exact h.elim
  |exact ay (JB _ _) h fun K' h'=>by unfold xW;simp only[*]<;>first|exact h'|simp
  |exact ay (M4 _ _ _ _ _) h fun K' h'=>by unfold xW;simp only[*]<;>first|exact h'|simp
theorem pq (i:TI)(cs:List AV):fE (nL i cs):=by
 intro K h;unfold nL at h;repeat' split at h
 all_goals first
  |exact h.elim
  |exact bn h fun K' h'=>by unfold nL;simp only[*]<;>first|exact h'|simp
theorem yg (i:TI)(cs:List PV):fE (sP i cs):=by
 intro K h;unfold sP at h;repeat' split at h
 all_goals first
  |exact h.elim
  |exact bn h fun K' h'=>by unfold sP;simp only[*]<;>first|exact h'|simp
theorem M5 (off:Nat)(i:TI)(row:List PV):fE fun K=>match part off i.size row with
  |some cs=>sP i cs K
  |none=>False:=by
 cases h:part off i.size row with
 |some cs=>exact yg i cs
 |none=>exact ko
theorem P7 (off:Nat)(row cs:List PV)(F:List PV→AV×List (Nat×av)):fE fun K=>match gZ off row cs with
  |some row'=>K (F row')
  |none=>False:=by
 cases h:gZ off row cs with
 |some cs=>exact aQ _
 |none=>exact ko
theorem KE (T:Tab)(H:List (Nat×av))(t:TypeId)(x:AV):fE (o7 T H t x):=by
 intro K h;unfold o7 at h;repeat' split at h
 all_goals first
  |exact h.elim
  |exact bn h fun K' h'=>by unfold o7;simp only[*]<;>first|exact h'|simp
  |exact ay (pq _ _) h fun K' h'=>by unfold o7;simp only[*]<;>first|exact h'|simp
  |exact ay (jw fun _=>aC fun _=>M5 _ _ _) h fun K' h'=>by unfold o7;simp only[*]<;>first|exact h'|simp
  |exact ay (yg _ _) h fun K' h'=>by unfold o7;simp only[*]<;>first|exact h'|simp
theorem yh (T:Tab)(H:List (Nat×av))(t:TypeId)(x:AV)(f:Nat):fE (jq T H t x f):=by
 intro K h;unfold jq at h;repeat' split at h
 all_goals first
  |exact h.elim
  |exact bn h fun K' h'=>by unfold jq;simp only[*]<;>first|exact h'|simp
theorem M6 (T:Tab)(t:TypeId)(x:AV)(f:Nat):fE (Ee T t x f):=by
 intro K h;unfold Ee at h;repeat' split at h
 all_goals first
  |exact h.elim
  |exact bn h fun K' h'=>by unfold Ee;simp only[*]<;>first|exact h'|simp
  |exact ay (pq _ _) h fun K' h'=>by unfold Ee;simp only[*]<;>first|exact h'|simp
  |exact ay (yg _ _) h fun K' h'=>by unfold Ee;simp only[*]<;>first|exact h'|simp
theorem yj (T:Tab)(H:List (Nat×av))(t:TypeId)(x ix:AV):fE (cK T H t x ix):=by
 intro K h;unfold cK at h;repeat' split at h
 all_goals first
  |exact h.elim
  |exact bn h fun K' h'=>by unfold cK;simp only[*]<;>first|exact h'|simp
  |exact ay (aC fun _=>aQ _) h fun K' h'=>by unfold cK;simp only[*]<;>first|exact h'|simp
  |exact ay (aC fun _=>aC fun _=>aQ _) h fun K' h'=>by unfold cK;simp only[*]<;>first|exact h'|simp
  |exact ay (jw fun _=>aC fun _=>aQ _) h fun K' h'=>by unfold cK;simp only[*]<;>first|exact h'|simp
  |exact ay (aC fun _=>jw fun _=>aC fun _=>aQ _) h fun K' h'=>by unfold cK;simp only[*]<;>first|exact h'|simp
  |exact ay (aC fun _=>aC fun _=>aC fun _=>aC fun _=>aQ _) h fun K' h'=>by unfold cK;simp only[*]<;>first|exact h'|simp
theorem Ho (T:Tab)(t:TypeId)(x ix:AV):fE (kP T t x ix):=by
 intro K h;unfold kP at h;repeat' split at h
 all_goals first
  |exact h.elim
  |exact bn h fun K' h'=>by unfold kP;simp only[*]<;>first|exact h'|simp
  |exact ay (aC fun _=>aQ _) h fun K' h'=>by unfold kP;simp only[*]<;>first|exact h'|simp
  |exact ay (aC fun _=>aC fun _=>aQ _) h fun K' h'=>by unfold kP;simp only[*]<;>first|exact h'|simp
  |exact ay (jw fun _=>aC fun _=>aQ _) h fun K' h'=>by unfold kP;simp only[*]<;>first|exact h'|simp
  |exact ay (aC fun _=>jw fun _=>aC fun _=>aQ _) h fun K' h'=>by unfold kP;simp only[*]<;>first|exact h'|simp
  |exact ay (aC fun _=>aC fun _=>aC fun _=>aC fun _=>aQ _) h fun K' h'=>by unfold kP;simp only[*]<;>first|exact h'|simp
theorem CP (x:AV)(i:Nat):fE (mH x i):=by
 intro K h;unfold mH at h;repeat' split at h
 all_goals first
  |exact h.elim
  |exact bn h fun K' h'=>by unfold mH;simp only[*]<;>first|exact h'|simp
theorem P8 (op:UnOp)(x:AV):fE (UE op x):=by
 intro K h;unfold UE at h;repeat' split at h
 all_goals first
  |exact h.elim
  |exact bn h fun K' h'=>by unfold UE;simp only[*]<;>first|exact h'|simp
theorem KF (T:Tab)(H:List (Nat×av))(src dst:TypeId)(x:AV):fE (oQ T H src dst x):=by
 intro K h;unfold oQ at h;repeat' split at h
 all_goals first
  |exact h.elim
  |exact bn h fun K' h'=>by unfold oQ;simp only[*]<;>first|exact h'|simp
  |exact ay (aC fun _=>aQ _) h fun K' h'=>by unfold oQ;simp only[*]<;>first|exact h'|simp
  |exact ay (aC fun _=>aC fun _=>aQ _) h fun K' h'=>by unfold oQ;simp only[*]<;>first|exact h'|simp
  |exact ay (jw fun _=>aC fun _=>aQ _) h fun K' h'=>by unfold oQ;simp only[*]<;>first|exact h'|simp
  |exact ay (aC fun _=>jw fun _=>aC fun _=>aQ _) h fun K' h'=>by unfold oQ;simp only[*]<;>first|exact h'|simp
  |exact ay (aC fun _=>aC fun _=>aC fun _=>aC fun _=>aQ _) h fun K' h'=>by unfold oQ;simp only[*]<;>first|exact h'|simp
theorem M7 (T:Tab)(H:List (Nat×av))(t:TypeId)(x:AV):fE (yu T H t x):=by
 intro K h;unfold yu at h;repeat' split at h
 all_goals first
  |exact h.elim
  |exact bn h fun K' h'=>by unfold yu;simp only[*]<;>first|exact h'|simp
theorem Hq (T:Tab)(t:TypeId)(lo hi mx:Option Operand)(vs:List AV):fE (kK T t lo hi mx vs):=by
 intro K h;unfold kK at h;repeat' split at h
 all_goals first
  |exact h.elim
  |exact bn h fun K' h'=>by unfold kK;simp only[*]<;>first|exact h'|simp
  |exact ay (kN (kN (aQ _))) h fun K' h'=>by unfold kK;simp only[*]<;>first|exact h'|simp
  |exact ay (kN (kN (kN (aQ _)))) h fun K' h'=>by unfold kK;simp only[*]<;>first|exact h'|simp
  |exact ay (P6 (kN (kN (kN (aQ _))))) h fun K' h'=>by unfold kK;simp only[*]<;>first|exact h'|simp
  |exact ay (aC fun _=>kN (kN (kN (aQ _)))) h fun K' h'=>by have e1:=h'.1;have h2:=h'.2;clear h' h;subst e1;unfold kK;simp only[*,true_and]
theorem Ht (T:Tab)(H:List (Nat×av))(t:TypeId)(x y:AV):fE (fun (K:AV×List (Nat×av)→Prop)=>l8 T H t x y fun v ws=>K (v,ws)):=by
 intro K h;unfold l8 at h;repeat' split at h
 all_goals first
  |exact h.elim
  |exact bn h fun K' h'=>by unfold l8;simp only[*]<;>first|exact h'|simp
  |exact ay (jw fun _=>aC fun _=>P7 _ _ _ fun row=>(.pv (.sc undef),[(_,.arr _ _ _ (List.set _ _ row))])) h fun K' h'=>by unfold l8;simp only[*]<;>first|exact h'|simp
theorem M8 (T:Tab)(H:List (Nat×av))(t:TypeId)(vs:List AV)(id:Nat):fE (fun (K:AV×List (Nat×av)→Prop)=>oK T H t vs id fun v ws=>K (v,ws)):=by
 intro K h;unfold oK at h;simp only[bW] at h;repeat' split at h
 all_goals first
  |exact h.elim
  |exact bn h fun K' h'=>by unfold oK;simp only[bW, *]<;>first|exact h'|simp
  |exact ay (aC fun _=>aQ _) h fun K' h'=>by unfold oK;simp only[bW, *]<;>first|exact h'|simp
  |exact ay (aC fun _=>aC fun _=>aQ _) h fun K' h'=>by unfold oK;simp only[bW, *]<;>first|exact h'|simp
  |exact ay (jw fun _=>aC fun _=>aQ _) h fun K' h'=>by unfold oK;simp only[bW, *]<;>first|exact h'|simp
  |exact ay (aC fun _=>jw fun _=>aC fun _=>aQ _) h fun K' h'=>by unfold oK;simp only[bW, *]<;>first|exact h'|simp
  |exact ay (aC fun _=>aC fun _=>aC fun _=>aC fun _=>aQ _) h fun K' h'=>by unfold oK;simp only[bW, *]<;>first|exact h'|simp
theorem KG (H:List (Nat×av))(f:Fn)(nf:Nat)(vs:List AV):fE (fun (K:AV×List (Nat×av)→Prop)=>AL H f nf vs fun v ws=>K (v,ws)):=by
 intro K h;unfold AL at h;repeat' split at h
 all_goals first
  |exact h.elim
  |exact bn h fun K' h'=>by unfold AL;simp only[*]<;>first|exact h'|simp
theorem Hu (T:Tab)(t:TypeId)(ks:List Nat)(vs:List AV):fE (uG T t ks vs):=by
 intro K h;unfold uG at h;repeat' split at h
 all_goals first
  |exact h.elim
  |exact bn h fun K' h'=>by unfold uG;simp only[*]<;>first|exact h'|simp
theorem sQ (T:Tab)(H:List (Nat×av))(t:TypeId)(len:Nat)(ks:List Nat)(vs:List AV)(id:Nat):fE (fun (K:AV×List (Nat×av)→Prop)=>jd T H t len ks vs id fun v ws=>K (v,ws)):=by
 intro K h;unfold jd at h;simp only[bW] at h;repeat' split at h
 all_goals first
  |exact h.elim
  |exact bn h fun K' h'=>by unfold jd;simp only[bW, *]<;>first|exact h'|simp
theorem KH (T:Tab)(t:TypeId)(vs:List AV)(id:Nat):fE (fun (K:AV×List (Nat×av)→Prop)=>oP T t vs id fun v ws=>K (v,ws)):=by
 intro K h;unfold oP at h;simp only[bW] at h;repeat' split at h
 all_goals first
  |exact h.elim
  |exact bn h fun K' h'=>by unfold oP;simp only[bW, *]<;>first|exact h'|simp
  |exact ay (aC fun _=>aQ _) h fun K' h'=>by unfold oP;simp only[bW, *]<;>first|exact h'|simp
  |exact ay (aC fun _=>aC fun _=>aQ _) h fun K' h'=>by unfold oP;simp only[bW, *]<;>first|exact h'|simp
  |exact ay (jw fun _=>aC fun _=>aQ _) h fun K' h'=>by unfold oP;simp only[bW, *]<;>first|exact h'|simp
  |exact ay (aC fun _=>jw fun _=>aC fun _=>aQ _) h fun K' h'=>by unfold oP;simp only[bW, *]<;>first|exact h'|simp
  |exact ay (aC fun _=>aC fun _=>aC fun _=>aC fun _=>aQ _) h fun K' h'=>by unfold oP;simp only[bW, *]<;>first|exact h'|simp
theorem Hw (T:Tab)(t:TypeId)(id:Nat):fE (fun (K:AV×List (Nat×av)→Prop)=>uH T t id fun v ws=>K (v,ws)):=by
 intro K h;unfold uH at h;repeat' split at h
 all_goals first
  |exact h.elim
  |exact bn h fun K' h'=>by unfold uH;simp only[*]<;>first|exact h'|simp
theorem M9 (T:Tab)(t:TypeId)(x:AV)(id:Nat):fE (fun (K:AV×List (Nat×av)→Prop)=>Km T t x id fun v ws=>K (v,ws)):=by
 intro K h;unfold Km at h;repeat' split at h
 all_goals first
  |exact h.elim
  |exact bn h fun K' h'=>by unfold Km;simp only[*]<;>first|exact h'|simp
theorem Hy (T:Tab)(H:List (Nat×av))(src dst:TypeId)(x:AV):fE (fun (K:AV×List (Nat×av)→Prop)=>l7 T H src dst x fun v ws=>K (v,ws)):=by
 intro K h;unfold l7 at h;repeat' split at h
 all_goals first
  |exact h.elim
  |exact bn h fun K' h'=>by unfold l7;simp only[*]<;>first|exact h'|simp
  |exact ay (aC fun _=>aQ _) h fun K' h'=>by unfold l7;simp only[*]<;>first|exact h'|simp
  |exact ay (CO (fun v=>(v,[])) (KF T H src dst x)) h fun K' h'=>by unfold l7;simp only[*]<;>first|exact h'|simp
theorem Eu (T:Tab)(H:List (Nat×av))(t:TypeId)(lo hi mx:Option Operand)(vs:List AV):fE (fun (K:AV×List (Nat×av)→Prop)=>jG T H t lo hi mx vs fun v ws=>K (v,ws)):=by
 intro K h;unfold jG at h;repeat' split at h
 all_goals first
  |exact h.elim
  |exact bn h fun K' h'=>by unfold jG;simp only[*]<;>first|exact h'|simp
  |exact ay (CO (fun v=>(v,_)) (Hq T t lo hi mx _)) h fun K' h'=>by unfold jG;simp only[*]<;>first|exact h'|simp
theorem Na (tw:Bool)(rows:List (List PV))(b ver:Nat)(e:TypeId)(st:Nat)(l h:Option Int):fE (fun (K:AV×List (Nat×av)→Prop)=>Hz tw rows b ver e st l h fun v ws=>K (v,ws)):=by
 intro K hk;unfold Hz at hk;repeat' split at hk
 all_goals first
  |exact hk.elim
  |exact bn hk fun K' h'=>by unfold Hz;exact h'
  |exact ay (aC fun _=>aC fun _=>aQ _) hk fun K' h'=>by unfold Hz;exact h'
  |exact ay (aC fun _=>aC fun _=>aC fun _=>aC fun _=>aQ _) hk fun K' h'=>by unfold Hz;exact h'
theorem Ev (T:Tab)(H:List (Nat×av))(t:TypeId)(lo hi mx:Option Operand)(vs:List AV):fE (fun (K:AV×List (Nat×av)→Prop)=>jZ T H t lo hi mx vs fun v ws=>K (v,ws)):=by
 intro K h;unfold jZ at h;repeat' split at h
 all_goals first
  |exact h.elim
  |exact ay (Eu T H t lo hi mx _) h fun K' h'=>by unfold jZ;simp only[*]<;>first|exact h'|simp
  |exact ay (Na _ _ _ _ _ _ _ _) h fun K' h'=>by unfold jZ;simp only[*]<;>first|exact h'|simp
theorem HV (T:Tab)(H:List (Nat×av))(t:TypeId)(x:AV):fE (fun (K:AV×List (Nat×av)→Prop)=>uI T H t x fun v ws=>K (v,ws)):=by
 intro K h;unfold uI at h;repeat' split at h
 all_goals first
  |exact h.elim
  |exact bn h fun K' h'=>by unfold uI;simp only[*]<;>first|exact h'|simp
theorem KI (T:Tab)(H:List (Nat×av))(t:TypeId)(vs:List AV)(id:Nat):fE (fun (K:AV×List (Nat×av)→Prop)=>oC T H t vs id fun v ws=>K (v,ws)):=by
 intro K h;unfold oC at h;repeat' split at h
 all_goals first
  |exact h.elim
  |exact ay (M8 T H t _ id) h fun K' h'=>by unfold oC;simp only[*]<;>first|exact h'|simp
  |exact ay (aC fun _=>aQ _) h fun K' h'=>by unfold oC;simp only[*]<;>first|exact h'|simp
theorem KJ (T:Tab)(H:List (Nat×av))(t:TypeId)(lo hi mx:Option Operand)(b ver st l0:Nat)(r:List AV):fE (fun (K:AV×List (Nat×av)→Prop)=>AZ T H t lo hi mx b ver st l0 r fun v ws=>K (v,ws)):=by
 intro K h;unfold AZ at h;repeat' split at h
 all_goals first
  |exact h.elim
  |exact ay (aC fun _=>aC fun _=>aC fun _=>aC fun _=>aQ _) h fun K' h'=>by unfold AZ;simp only[*]<;>first|exact h'|simp
theorem KL (T:Tab)(H:List (Nat×av))(t:TypeId)(lo hi mx:Option Operand)(b ver:Nat)(r:List AV):fE (fun (K:AV×List (Nat×av)→Prop)=>A7 T H t lo hi mx b ver r fun v ws=>K (v,ws)):=by
 intro K h;unfold A7 at h;repeat' split at h
 all_goals first
  |exact h.elim
  |exact ay (aC fun _=>aC fun _=>aC fun _=>aC fun _=>aC fun _=>aC fun _=>aQ _) h fun K' h'=>by unfold A7;simp only[*]<;>first|exact h'|simp
theorem Ew (T:Tab)(H:List (Nat×av))(t:TypeId)(lo hi mx:Option Operand)(vs:List AV):fE (fun (K:AV×List (Nat×av)→Prop)=>lQ T H t lo hi mx vs fun v ws=>K (v,ws)):=by
 intro K h;unfold lQ at h;repeat' split at h
 all_goals first
  |exact h.elim
  |exact ay (Ev T H t lo hi mx _) h fun K' h'=>by unfold lQ;simp only[*]<;>first|exact h'|simp
  |exact ay (KJ _ _ _ _ _ _ _ _ _ _ _) h fun K' h'=>by unfold lQ;simp only[*]<;>first|exact h'|simp
  |exact ay (KL _ _ _ _ _ _ _ _ _) h fun K' h'=>by unfold lQ;simp only[*]<;>first|exact h'|simp
theorem P9 (mx:Bool)(vs:List AV):fE (PG mx vs):=by
 intro K h;unfold PG at h;repeat' split at h
 all_goals first
  |exact h.elim
  |exact bn h fun K' h'=>by unfold PG;simp only[*]<;>first|exact h'|simp
theorem Nb (r:PV)(H:List (Nat×av))(ids:List Nat):fE fun (K:AV×List (Nat×av)→Prop)=>match wQ r with
  |true=>K (.pv r,[])
  | false=>match D7 H ids with
    |some fs=>K (.pv r,fs)
    |none=>False:=by
 cases h:wQ r with
 |true=>exact aQ _
 | false=>cases h2:D7 H ids with
   |some fs=>exact aQ _
   |none=>exact ko
theorem KM (P:Program)(H:List (Nat×av))(vs:List AV):fE fun (K:AV×List (Nat×av)→Prop)=>AP P H vs fun v ws=>K (v,ws):=by
 intro K h;unfold AP at h;split at h
 ·split at h
  ·exact ay (jw fun r=>aC fun _=>Nb r _ _) h fun K' h'=>by unfold AP;simp only[*]<;>first|exact h'|simp
  exact h.elim
 exact h.elim
theorem oD {m:(AV→Prop)→Prop}(h:fE m):fE fun (K:AV×List (Nat×av)→Prop)=>m fun v=>K (v,[]):=CO (fun v=>(v,[])) h
theorem Nc (H:List (Nat×av))(op:UnOp)(x:AV):fE (Ko H op x):=by
 cases x with
 | cB b ver i off=>
   intro K h;unfold Ko at h;simp only at h;repeat' split at h
   all_goals first
    |exact h.elim
    |exact bn h fun K' h'=>by unfold Ko;simp only[*]<;>first|exact h'|simp
 |_=>exact P8 op _
theorem HY (T:Tab)(H:List (Nat×av))(t:TypeId)(x:AV):fE (pu T H t x):=by
 intro K h;unfold pu at h;repeat' split at h
 all_goals first
  |exact h.elim
  |exact ay (aC fun _=>pq _ _) h fun K' h'=>by unfold pu;simp only[*]<;>first|exact h'|simp
  |exact ay (KE T H t _) h fun K' h'=>by unfold pu;first|exact h'|(simp only[*]<;>first|exact h'|simp)|(split<;>first|exact h'|simp_all)
theorem Ey (T:Tab)(H:List (Nat×av))(t:TypeId)(x y:AV):fE (fun (K:AV×List (Nat×av)→Prop)=>jH T H t x y fun v ws=>K (v,ws)):=by
 intro K h;unfold jH at h;repeat' split at h
 all_goals first
  |exact h.elim
  |exact ay (aC fun _=>aQ (_,_)) h fun K' h'=>by unfold jH;simp only[*]<;>first|exact h'|simp
  |exact ay (Ht T H t _ y) h fun K' h'=>by unfold jH;first|exact h'|(simp only[*]<;>first|exact h'|simp)|(split<;>first|exact h'|simp_all)
theorem Nf (T:Tab)(H:List (Nat×av))(t:TypeId)(x ix:AV):fE (Ez T H t x ix):=by
 intro K h;unfold Ez at h;repeat' split at h
 all_goals first
  |exact h.elim
  |exact ay (aC fun _=>aC fun _=>aQ _) h fun K' h'=>by unfold Ez;simp only[*]<;>first|exact h'|simp
  |exact ay (yj T H t _ ix) h fun K' h'=>by unfold Ez;first|exact h'|(simp only[*]<;>first|exact h'|simp)|(split<;>first|exact h'|simp_all)
theorem KN (T:Tab)(H:List (Nat×av))(t:TypeId)(x:AV):fE (vM T H t x):=by
 intro K h;unfold vM at h;repeat' split at h
 all_goals first
  |exact h.elim
  |exact ay (M7 T H t _) h fun K' h'=>by unfold vM;first|exact h'|(simp only[*]<;>first|exact h'|simp)|(split<;>first|exact h'|simp_all)
  |exact bn h fun K' h'=>by unfold vM;simp only[*]<;>first|exact h'|simp
theorem EA (T:Tab)(t:TypeId)(len:Nat)(ks:List Nat)(cs:List AV)(id:Nat):fE (fun (K:AV×List (Nat×av)→Prop)=>qi T t len ks cs id fun v ws=>K (v,ws)):=by
 intro K h;unfold qi at h;simp only[bW] at h;repeat' split at h
 all_goals first
  |exact h.elim
  |exact bn h fun K' h'=>by unfold qi;simp only[bW];simp only[*]<;>first|exact h'|simp
theorem EB (T:Tab)(H:List (Nat×av))(t:TypeId)(len:Nat)(ks:List Nat)(vs:List AV)(id:Nat):fE (fun (K:AV×List (Nat×av)→Prop)=>lN T H t len ks vs id fun v ws=>K (v,ws)):=by
 intro K h;unfold lN at h;split at h
 ·rename_i hp;split at h
  ·exact ay (EA T t len ks _ id) h fun K' h'=>by unfold lN;simp only[hp];exact h'
  rename_i vs hne;refine ay (sQ T H t len ks _ id) h fun K' h'=>?_
  unfold lN;simp only[hp];exact h'
 rename_i hp;exact ay (sQ T H t len ks _ id) h fun K' h'=>by unfold lN;simp only[hp];exact h'
theorem KO (T:Tab)(H:List (Nat×av))(t:TypeId)(d:AV)(k kv id:Nat):fE (fun (K:AV×List (Nat×av)→Prop)=>vN T H t d k kv id fun v ws=>K (v,ws)):=by
 intro K h;unfold vN at h;simp only[bW] at h;repeat' split at h
 all_goals first
  |exact h.elim
  |exact ay (aC fun _=>aQ (_,_)) h fun K' h'=>by unfold vN;simp only[bW];simp only[*]<;>first|exact h'|simp
theorem yw (T:Tab)(t:TypeId)(ver:Nat)(o:Option av)(src:Nat→Option (List (List PV)))(b:Nat):fE (fun (K:AV×List (Nat×av)→Prop)=>rE T t ver o src b fun v ws=>K (v,ws)):=by
 intro K h;unfold rE at h;simp only[bW] at h;repeat' split at h
 all_goals first
  |exact h.elim
  |exact ay (aC fun _=>aQ (_,_)) h fun K' h'=>by unfold rE;simp only[bW];simp only[*]<;>first|exact h'|simp
theorem KP (T:Tab)(H:List (Nat×av))(t:TypeId)(b ver:Nat)(x:AV):fE (fun (K:AV×List (Nat×av)→Prop)=>vO T H t b ver x fun v ws=>K (v,ws)):=by
 intro K h;unfold vO at h;split at h
 ·exact ay (yw T t ver _ _ b) h fun K' h'=>by unfold vO;exact h'
 ·split at h
  ·exact h.elim
  rename_i hb;exact ay (yw T t ver _ _ b) h fun K' h'=>by unfold vO;simp only[hb];exact h'
 exact h.elim
theorem KQ (T:Tab)(H:List (Nat×av))(t:TypeId)(vs:List AV)(id:Nat):fE (fun (K:AV×List (Nat×av)→Prop)=>qK T H t vs id fun v ws=>K (v,ws)):=by
 intro K h;unfold qK at h;repeat' split at h
 all_goals first
  |exact h.elim
  |exact ay (KO T H t _ _ _ id) h fun K' h'=>by unfold qK;simp only[*]<;>first|exact h'|simp
  |exact ay (KP T H t _ _ _) h fun K' h'=>by unfold qK;first|(simp only[*];done)|(simp only[*]<;>first|exact h'|simp)|(split<;>first|exact h'|simp_all)
  |exact ay (KI T H t _ id) h fun K' h'=>by unfold qK;first|exact h'|(simp only[*]<;>first|exact h'|simp)|(repeat' split)<;>first|exact h'|simp_all
theorem HZ (T:Tab)(t:TypeId)(id:Nat):fE (fun (K:AV×List (Nat×av)→Prop)=>uJ T t id fun v ws=>K (v,ws)):=by
 intro K h;unfold uJ at h;split at h
 ·exact bn h fun K' h'=>by unfold uJ;simp only[*]<;>first|exact h'|simp
 exact h.elim
theorem KR (T:Tab)(H:List (Nat×av))(t:TypeId)(x ix:AV):fE (AR T H t x ix):=by
 intro K h;unfold AR at h;repeat' split at h
 all_goals first
  |exact h.elim
  |exact ay (aC fun _=>aC fun _=>aQ _) h fun K' h'=>by unfold AR;simp only[*]<;>first|exact h'|simp
theorem EC (T:Tab)(H:List (Nat×av))(t:TypeId)(x ix y:AV):fE (fun (K:AV×List (Nat×av)→Prop)=>qd T H t x ix y fun v ws=>K (v,ws)):=by
 intro K h;unfold qd at h;repeat' split at h
 all_goals first
  |exact h.elim
  |exact ay (aC fun _=>aC fun _=>aQ (_,_)) h fun K' h'=>by unfold qd;simp only[*]<;>first|exact h'|simp
theorem H6 (T:Tab)(H:List (Nat×av))(t:TypeId)(x:AV):fE (q9 T H t x):=by
 intro K h;unfold q9 at h;repeat' split at h
 all_goals first
  |exact h.elim
  |exact ay (aC fun _=>pq _ _) h fun K' h'=>by unfold q9;simp only[*]<;>first|exact h'|simp
  |exact ay (HY T H t _) h fun K' h'=>by unfold q9;first|exact h'|(simp only[*]<;>first|exact h'|simp)|(split<;>first|exact h'|simp_all)
theorem ED (T:Tab)(H:List (Nat×av))(t:TypeId)(x y:AV):fE (fun (K:AV×List (Nat×av)→Prop)=>nH T H t x y fun v ws=>K (v,ws)):=by
 intro K h;unfold nH at h;repeat' split at h
 all_goals first
  |exact h.elim
  |exact ay (aC fun _=>aQ (_,_)) h fun K' h'=>by unfold nH;simp only[*]<;>first|exact h'|simp
  |exact ay (Ey T H t _ y) h fun K' h'=>by unfold nH;first|exact h'|(simp only[*]<;>first|exact h'|simp)|(split<;>first|exact h'|simp_all)
theorem Ng (T:Tab)(H:List (Nat×av))(t:TypeId)(x ix:AV):fE (H7 T H t x ix):=by
 intro K h;unfold H7 at h;repeat' split at h
 all_goals first
  |exact h.elim
  |exact ay (aC fun _=>aC fun _=>aQ _) h fun K' h'=>by unfold H7;simp only[*]<;>first|exact h'|simp
  |exact ay (Nf T H t _ ix) h fun K' h'=>by unfold H7;first|exact h'|(simp only[*]<;>first|exact h'|simp)|(split<;>first|exact h'|simp_all)
theorem H8 (T:Tab)(H:List (Nat×av))(src dst:TypeId)(x:AV):fE (fun (K:AV×List (Nat×av)→Prop)=>rf T H src dst x fun v ws=>K (v,ws)):=by
 intro K h;unfold rf at h;repeat' split at h
 all_goals first
  |exact h.elim
  |exact bn h fun K' h'=>by unfold rf;simp only[*]<;>first|exact h'|simp
  |exact ay (Hy T H src dst _) h fun K' h'=>by unfold rf;first|exact h'|(simp only[*]<;>first|exact h'|simp)|(split<;>first|exact h'|simp_all)
theorem Nh (T:Tab)(H:List (Nat×av))(t:TypeId)(x ix:AV):fE (GJ T H t x ix):=by
 intro K h;unfold GJ at h;repeat' split at h
 all_goals first
  |exact h.elim
  |exact ay (aC fun _=>aC fun _=>aQ _) h fun K' h'=>by unfold GJ;simp only[*]<;>first|exact h'|simp
  |exact ay (Ng T H t _ ix) h fun K' h'=>by unfold GJ;first|exact h'|(simp only[*]<;>first|exact h'|simp)|(split<;>first|exact h'|simp_all)
theorem KS (T:Tab)(H:List (Nat×av))(t:TypeId)(x:AV):fE (yx T H t x):=by
 intro K h;unfold yx at h;repeat' split at h
 all_goals first
  |exact h.elim
  |exact ay (KN T H t _) h fun K' h'=>by unfold yx;first|exact h'|(simp only[*]<;>first|exact h'|simp)|(split<;>first|exact h'|simp_all)
  |exact bn h fun K' h'=>by unfold yx;simp only[*]<;>first|exact h'|simp
theorem KT (T:Tab)(H:List (Nat×av))(t:TypeId)(b ver k kv:Nat):fE (fun (K:AV×List (Nat×av)→Prop)=>A8 T H t b ver k kv fun v ws=>K (v,ws)):=by
 intro K h;unfold A8 at h;simp only[bW] at h;repeat' split at h
 all_goals first
  |exact h.elim
  |exact ay (aC fun _=>aQ (_,_)) h fun K' h'=>by unfold A8;simp only[bW];simp only[*]<;>first|exact h'|simp
theorem KU (T:Tab)(H:List (Nat×av))(t:TypeId)(vs:List AV)(id:Nat):fE (fun (K:AV×List (Nat×av)→Prop)=>vG T H t vs id fun v ws=>K (v,ws)):=by
 intro K h;unfold vG at h;repeat' split at h
 all_goals first
  |exact h.elim
  |exact ay (KT T H t _ _ _ _) h fun K' h'=>by unfold vG;simp only[*]<;>first|exact h'|simp
  |exact ay (KQ T H t _ id) h fun K' h'=>by unfold vG;first|exact h'|(simp only[*]<;>first|exact h'|simp)|(split<;>first|exact h'|simp_all)
theorem KV (T:Tab)(H:List (Nat×av))(t:TypeId)(x:AV):fE (xX T H t x):=by
 intro K h;unfold xX at h;repeat' split at h
 all_goals first
  |exact h.elim
  |exact ay (KS T H t _) h fun K' h'=>by unfold xX;first|exact h'|(simp only[*]<;>first|exact h'|simp)|(split<;>first|exact h'|simp_all)
  |exact bn h fun K' h'=>by unfold xX;simp only[*]<;>first|exact h'|simp
theorem H9 (T:Tab)(t:TypeId)(x ix:AV):fE (rq T t x ix):=by
 intro K h;unfold rq at h;repeat' split at h
 all_goals first
  |exact h.elim
  |exact ay (aC fun _=>pq _ _) h fun K' h'=>by unfold rq;simp only[*]<;>first|exact h'|simp
  |exact ay (Ho T t _ ix) h fun K' h'=>by unfold rq;first|exact h'|(simp only[*]<;>first|exact h'|simp)|(split<;>first|exact h'|simp_all)
theorem Af (T:Tab)(t:TypeId)(ks:List Nat)(vs:List AV):fE (jo T t ks vs):=by
 intro K h;unfold jo at h;split at h;rotate_left;cases h
 rename_i i hi;split at h
 ·rename_i n e hd;repeat' split at h
  all_goals first
   |exact h.elim
   |exact bn h fun K' h'=>by unfold jo;simp only[*]<;>first|exact h'|simp
 rename_i hne;refine ay (Hu T t ks vs) h fun K' h'=>?_
 unfold jo;simp only[hi];exact h'
theorem JC (P:Program)(T:Tab)(op:Op)(vs:List AV)(H:List (Nat×av))(id:Nat):fE fun (K:AV×List (Nat×av)→Prop)=>cop P T op vs H id fun v ws=>K (v,ws):=by
 intro K h;unfold cop at h;repeat' split at h
 all_goals first
  |exact h.elim
  |exact bn h fun K' h'=>by unfold cop;simp only[*]<;>first|exact h'|simp
  |exact ay (Hw T _ id) h fun K' h'=>by unfold cop;simp only[*]<;>first|exact h'|simp
  |exact ay (M9 T _ _ id) h fun K' h'=>by unfold cop;simp only[*]<;>first|exact h'|simp
  |exact ay (oD (Af T _ _ _)) h fun K' h'=>by unfold cop;simp only[*]<;>first|exact h'|simp
  |exact ay (EB T H _ _ _ _ id) h fun K' h'=>by unfold cop;simp only[*]<;>first|exact h'|simp
  |exact ay (oD (H6 T H _ _)) h fun K' h'=>by unfold cop;simp only[*]<;>first|exact h'|simp
  |exact ay (ED T H _ _ _) h fun K' h'=>by unfold cop;simp only[*]<;>first|exact h'|simp
  |exact ay (oD (KD T H _ _ _ _)) h fun K' h'=>by unfold cop;simp only[*]<;>first|exact h'|simp
  |exact ay (oD (Nc H _ _)) h fun K' h'=>by unfold cop;simp only[*]<;>first|exact h'|simp
  |exact ay (H8 T H _ _ _) h fun K' h'=>by unfold cop;simp only[*]<;>first|exact h'|simp
  |exact ay (KG H _ _ _) h fun K' h'=>by unfold cop;simp only[*]<;>first|exact h'|simp
  |exact ay (KH T _ _ id) h fun K' h'=>by unfold cop;simp only[*]<;>first|exact h'|simp
  |exact ay (Ew T H _ _ _ _ _) h fun K' h'=>by unfold cop;simp only[*]<;>first|exact h'|simp
  |exact ay (oD (yh T H _ _ _)) h fun K' h'=>by unfold cop;simp only[*]<;>first|exact h'|simp
  |exact ay (oD (M6 T _ _ _)) h fun K' h'=>by unfold cop;simp only[*]<;>first|exact h'|simp
  |exact ay (oD (Nh T H _ _ _)) h fun K' h'=>by unfold cop;simp only[*]<;>first|exact h'|simp
  |exact ay (oD (H9 T _ _ _)) h fun K' h'=>by unfold cop;simp only[*]<;>first|exact h'|simp
  |exact ay (oD (CP _ _)) h fun K' h'=>by unfold cop;simp only[*]<;>first|exact h'|simp
  |exact ay (KM P H _) h fun K' h'=>by unfold cop;simp only[*]<;>first|exact h'|simp
  |exact ay (KU T H _ _ id) h fun K' h'=>by unfold cop;simp only[*]<;>first|exact h'|simp
  |exact ay (oD (KV T H _ _)) h fun K' h'=>by unfold cop;simp only[*]<;>first|exact h'|simp
  |exact ay (HZ T _ id) h fun K' h'=>by unfold cop;simp only[*]<;>first|exact h'|simp
  |exact ay (oD (KR T H _ _ _)) h fun K' h'=>by unfold cop;simp only[*]<;>first|exact h'|simp
  |exact ay (EC T H _ _ _ _) h fun K' h'=>by unfold cop;simp only[*]<;>first|exact h'|simp
  |exact ay (HV T H _ _) h fun K' h'=>by unfold cop;simp only[*]<;>first|exact h'|simp
  |exact ay (oD (P9 _ _)) h fun K' h'=>by unfold cop;simp only[*]<;>first|exact h'|simp
theorem kr {tm tm':List (Nat×AV)}:∀{xs:List Operand} {vs:List AV},(∀t∈tmpsOf xs,lk tm' t=lk tm t)→Rm tm xs=some vs→Rm tm' xs=some vs
 |[],vs,_,h=>h
 | x::xs,vs,hs,h=>by
   simp only[Rm] at h ⊢;split at h
   ·rename_i v hv;have hv':gq tm' x=some v:=by
     rw[←hv];unfold gq;cases x with
     |tmp t=>exact hs t (by simp[tmpsOf])
     |const v=>rfl
     |func f=>rfl
     |«global» g=>rfl
    split at h
    ·rename_i Ju hvs;rw[hv'];simp only;rw[kr (fun t ht=>hs t (by cases x<;>simp[tmpsOf,ht])) hvs];exact h
    cases h
   cases h
theorem jM {hp hp':List (Nat×av)}:∀{ids:List Nat} {H:List (Nat×av)},(∀b∈ids,lk hp' b=lk hp b)→iw hp ids=some H→iw hp' ids=some H
 |[],H,_,h=>h
 | i::r,H,hs,h=>by
   simp only[iw] at h ⊢;rw[hs i (by simp)];split at h
   ·rename_i bx hbx;split at h
    ·rename_i t ht;rw[jM (fun b hb=>hs b (by simp[hb])) ht];exact h
    cases h
   cases h
theorem Ni {P:Program}{T:Tab}{op:Op}{vs:List AV}{hp:List (Nat×av)}{id:Nat}{K:AV→List (Nat×av)→List Nat→Prop}(h:sM P T op vs hp id K) :
  ∃v ws ids,K v ws ids∧∀(hp':List (Nat×av)),(∀b∈ids,lk hp' b=lk hp b)→∀K':AV→List (Nat×av)→List Nat→Prop,K' v ws ids→sM P T op vs hp' id K':=by
 unfold sM at h;simp only at h;split at h;rotate_left;cases h
 rename_i H hH;obtain⟨⟨v,ws⟩,h1,h2⟩:=JC P T op vs H id (fun x=>K x.1 x.2 (Co op vs)) h;refine⟨v,ws,Co op vs,h1,fun hp' hb K' lT=>?_⟩;unfold sM;simp only;rw[jM hb hH];exact h2 (fun x=>K' x.1 x.2 (Co op vs)) lT
theorem KW {P:Program}{T:Tab}{op:Op}{vs:List AV}{hp:List (Nat×av)}{id:Nat}{K:AV→List (Nat×av)→List Nat→Prop}(h:sM P T op vs hp id K) :
  ∃v ws ids,K v ws ids∧ids=Co op vs∧∀(hp':List (Nat×av)),(∀b∈ids,lk hp' b=lk hp b)→∀K':AV→List (Nat×av)→List Nat→Prop,K' v ws ids→sM P T op vs hp' id K':=by
 unfold sM at h;simp only at h;split at h;rotate_left;cases h
 rename_i H hH;obtain⟨⟨v,ws⟩,h1,h2⟩:=JC P T op vs H id (fun x=>K x.1 x.2 (Co op vs)) h;refine⟨v,ws,Co op vs,h1,rfl,fun hp' hb K' lT=>?_⟩;unfold sM;simp only;rw[jM hb hH];exact h2 (fun x=>K' x.1 x.2 (Co op vs)) lT
theorem yA {x y:Nat}:∀{l:List Nat},x∈snoc l y↔x∈l∨x=y
 |[]=>by simp[snoc]
 |z::l=>by simp[snoc,yA (l:=l),or_assoc]
theorem yB {hp:List (Nat×av)}:∀{n:Nat} {todo seen:List Nat},∀b∈seen,b∈sS hp n todo seen
 |0,_,_,b,h=>h
 |_+1,[],_,b,h=>h
 | n+1,x::todo,seen,b,h=>by
   simp only[sS];split
   ·exact yB b h
   split<;>exact yB b (yA.2 (.inl h))
theorem kQ {hp hp':List (Nat×av)}:∀{n:Nat} {todo seen:List Nat},(∀b∈sS hp n todo seen,lk hp' b=lk hp b)→sS hp' n todo seen=sS hp n todo seen
 |0,_,_,_=>rfl
 |_+1,[],_,_=>rfl
 | n+1,x::todo,seen,h=>by
   simp only[sS] at h ⊢;cases hm:x9 x seen with
   | true=>
     simp only[hm] at h ⊢;exact kQ h
   | false=>
     simp only[hm] at h ⊢;have hx:lk hp' x=lk hp x:=by
      refine h x ?_;split<;>exact yB x (yA.2 (.inr rfl))
     rw[hx];cases hl:lk hp x with
     |none=>simp only[hl] at h ⊢;exact kQ h
     |some bx=>cases bx<;>simp only[hl] at h ⊢ <;> exact kQ h
theorem qL {hp hp':List (Nat×av)}:∀{l:List Nat},(∀b∈l,lk hp' b=lk hp b)→nM hp' l=nM hp l
 |[],_=>rfl
 | x::r,h=>by
   simp only[nM];rw[h x (by simp),qL fun b hb=>h b (by simp[hb])]
theorem Nj {P:Program}{vs:List AV}{hp:List (Nat×av)}{id:Nat}{K:AV→List (Nat×av)→List Nat→Prop}(h:gC P hp id vs K) :
  ∃v ws ids,K v ws ids∧∀(hp':List (Nat×av)),(∀b∈ids,lk hp' b=lk hp b)→∀K':AV→List (Nat×av)→List Nat→Prop,K' v ws ids→gC P hp' id vs K':=by
 unfold gC at h;split at h;rotate_left;cases h
 rename_i fv args;split at h;rotate_left;cases h
 rename_i f first aT hfn
 simp only at h;split at h;rotate_left;cases h
 rename_i H hH;obtain⟨r,h1,Gy,h⟩:=h;split at h;rotate_left;cases h
 rename_i hok;have h0:=h;rw[sU,sV] at h;have h:=iI _ _ _ h;refine⟨_,_,_,h,fun hp' hb K' lT=>?_⟩;have hb1:=fun b hb'=>hb b (List.mem_append_left _ hb')
 have hb2:=fun b hb'=>hb b (List.mem_append_right _ hb')
 unfold gC;simp only[hfn];rw[kQ hb1,jM hb1 hH];simp only;refine⟨r,h1,Gy,?_⟩;have:SQ (iV 1 H) (gP 1 H) id hp' h1=SQ (iV 1 H) (gP 1 H) id hp h1:=by
  unfold SQ;rw[qL hb2]
 rw[this,hok];simp only;rw[sU,sV] at h0 ⊢;exact fK _ _ _ h0 lT
theorem SS {P:Program}{vs:List AV}{hp:List (Nat×av)}{id:Nat}{K:AV→List (Nat×av)→List Nat→Prop}(h:gV P hp id vs K) :
  ∃v ws ids,K v ws ids∧∀(hp':List (Nat×av)),(∀b∈ids,lk hp' b=lk hp b)→∀K':AV→List (Nat×av)→List Nat→Prop,K' v ws ids→gV P hp' id vs K':=by
 obtain⟨v,ws,ids,h1,h2⟩:=Nj h;refine⟨v,[],ids,(rz h1).1,fun hp' hb K' lT=>?_⟩;exact h2 hp' hb _ (vP hb h1 lT)
theorem SV {P:Program}{vs:List AV}{hp:List (Nat×av)}{K:AV→List (Nat×av)→List Nat→Prop}(h:dC P hp vs K) :
  ∃v ws ids,K v ws ids∧(∀b∈dx vs,b∈ids)∧∀(hp':List (Nat×av)),(∀b∈ids,lk hp' b=lk hp b)→∀K':AV→List (Nat×av)→List Nat→Prop,K' v ws ids→dC P hp' vs K':=by
 unfold dC at h;simp only at h;split at h;rotate_left;cases h
 rename_i H hH;split at h;rotate_left;cases h
 rename_i f first aT ps hm
 obtain⟨r,hpc,h⟩:=h;split at h;rotate_left;cases h
 rename_i hs;refine⟨_,_,_,h,fun b hb=>List.mem_append_left _ hb,fun hp' hb K' lT=>?_⟩;have hb1:=fun b hb'=>hb b (List.mem_append_right _ hb')
 unfold dC;simp only;rw[kQ hb1,jM hb1 hH];simp only[hm];refine⟨r,hpc,?_⟩;rw[hs];exact lT
theorem yD {hp hp':List (Nat×av)}:∀{ids:List Nat},(∀b∈ids,lk hp' b=lk hp b)→iw hp' ids=iw hp ids
 |[],_=>rfl
 | i::r,h=>by
   simp only[iw];rw[h i (by simp),yD fun b hb=>h b (by simp[hb])]
theorem vQ {hp hp':List (Nat×av)}{vs:List AV}(h:∀b∈dx vs,lk hp' b=lk hp b):Jt hp' vs=Jt hp vs:=by
 unfold Jt;split
 ·rename_i p args;rw[yD fun b hb=>h b (by simp only[dx,refs,List.nil_append];exact hb)]
 rfl
theorem SX {P:Program}{T:Tab}{op:Op}(hc:jr op=true){vs:List AV}{hp:List (Nat×av)}{id:Nat}{K:AV→List (Nat×av)→List Nat→Prop}(h:lC P T op vs hp id K) :
  ∃v ws ids,K v ws ids∧∀(hp':List (Nat×av)),(∀b∈ids,lk hp' b=lk hp b)→∀K':AV→List (Nat×av)→List Nat→Prop,K' v ws ids→lC P T op vs hp' id K':=by
 unfold lC at h;split at h
 ·rename_i hd;obtain⟨v,ws,ids,h1,h2,h3⟩:=SV h;refine⟨v,ws,ids,h1,fun hp' hb K' lT=>?_⟩;unfold lC;rw[vQ fun b hb'=>hb b (h2 b hb'),hd];exact h3 hp' hb K' lT
 rename_i hd;have hn:Co op vs=dx vs:=by
  cases op<;>simp only[jr] at hc<;>first|rfl|(cases hc;done)
 obtain⟨v,ws,ids,h1,h2,h3⟩:=KW h;rw[hn] at h2;subst h2;refine⟨v,ws,_,h1,fun hp' hb K' lT=>?_⟩;unfold lC;rw[vQ hb,hd];exact h3 hp' hb K' lT
theorem SY {P:Program}{vs:List AV}{hp:List (Nat×av)}{K:AV→List (Nat×av)→List Nat→Prop}(h:yC P hp vs K) :
  ∃v ws ids,K v ws ids∧∀(hp':List (Nat×av)),(∀b∈ids,lk hp' b=lk hp b)→∀K':AV→List (Nat×av)→List Nat→Prop,K' v ws ids→yC P hp' vs K':=by
 unfold yC at h;split at h;rotate_left;cases h
 split at h;rotate_left;cases h
 rename_i y ver rest st h9;split at h;rotate_left;cases h
 split at h;rotate_left;cases h
 split at h;rotate_left;cases h
 rename_i ps hps;obtain⟨e,x,r,e2,hle,hK⟩:=h;refine⟨_,_,_,hK,fun hp' hb K' lT=>?_⟩;unfold yC;simp only[hb 999 (by simp),h9,hps];exact⟨e,x,r,e2,hle,lT⟩
theorem Qa {P:Program}{T:Tab}(hg:gen T=false){o:Oper}{tm:List (Nat×AV)}{hp:List (Nat×av)}{id:Nat}{K:AV→List (Nat×av)→List Nat→Prop}(h:MB P T o tm hp id K) :
  ∃v ws ids,K v ws ids∧∀(tm':List (Nat×AV)) (hp':List (Nat×av)),(∀t∈tmpsOf (iG o.op),lk tm' t=lk tm t)→(∀b∈ids,lk hp' b=lk hp b) →
   ∀K':AV→List (Nat×av)→List Nat→Prop,K' v ws ids→MB P T o tm' hp' id K':=by
 unfold MB at h;split at h;rotate_left;cases h
 rename_i vs hvs;split at h
 ·rename_i hc;split at h
  ·rename_i hy;obtain⟨v,ws,ids,h1,h2⟩:=SY h;refine⟨v,ws,ids,h1,fun tm' hp' ht hb K' lT=>?_⟩;unfold MB;rw[kr ht hvs];simp only[hc,hy];exact h2 hp' hb K' lT
  rename_i hy;rw[hg] at h;rcases h with (h|h)|h
  rotate_left 2
  ·obtain⟨v,ws,ids,h1,h2⟩:=SS h;refine⟨v,ws,ids,h1,fun tm' hp' ht hb K' lT=>?_⟩;unfold MB;rw[kr ht hvs,hg];simp only[hc,hy];exact .inr (h2 hp' hb K' lT)
  ·obtain⟨v,ws,ids,h1,h2⟩:=SX hc h;refine⟨v,ws,ids,h1,fun tm' hp' ht hb K' lT=>?_⟩;unfold MB;rw[kr ht hvs];simp only[hc,hy];exact .inl (.inl (h2 hp' hb K' lT))
  obtain⟨v,ws,ids,h1,h2⟩:=Nj h;refine⟨v,ws,ids,h1,fun tm' hp' ht hb K' lT=>?_⟩;unfold MB;rw[kr ht hvs];simp only[hc,hy];exact .inl (.inr (h2 hp' hb K' lT))
 rename_i hc;obtain⟨v,ws,ids,h1,h2⟩:=Ni h;refine⟨v,ws,ids,h1,fun tm' hp' ht hb K' lT=>?_⟩;unfold MB;rw[kr ht hvs];simp only[hc];exact h2 hp' hb K' lT
section
variable {α:Type}
def acc (S:Nat→Bool):List (List (Nat×α))→Nat→List (Nat×α)→List (Nat×α)
 |[],_,s=>s
 |ws::r,i,s=>acc S r (i+1) (if S i then ws++s else s)
theorem gT {ws s:List (Nat×α)}{t:Nat}(h:t∉keys ws):lk (ws++s) t=lk s t:=by
 induction ws with
 |nil=>rfl
 | cons x ws ih=>
   obtain⟨k,v⟩:=x;simp only[keys,List.mem_cons,not_or] at h;rw[List.cons_append,aj,if_neg (Ne.symm h.1),ih h.2]
theorem pz {ws s s':List (Nat×α)}{t:Nat}(h:t∈keys ws):lk (ws++s) t=lk (ws++s') t:=by
 induction ws with
 |nil=>simp[keys] at h
 | cons x ws ih=>
   obtain⟨k,v⟩:=x;simp only[keys,List.mem_cons] at h;rw[List.cons_append,List.cons_append,aj,aj];split
   ·rfl
   rename_i hk;exact ih (h.resolve_left (Ne.symm hk))
theorem jV {ws s s':List (Nat×α)}{t:Nat}(h:lk s t=lk s' t):lk (ws++s) t=lk (ws++s') t:=by
 by_cases hk:t∈keys ws
 ·exact pz hk
 rw[gT hk,gT hk,h]
theorem ku:∀(l:List (List (Nat×α))) (i:Nat) (s:List (Nat×α)),acc (fun _=>false) l i s=s
 |[],_,_=>rfl
 |ws::r,i,s=>by simp only[acc,Bool.false_eq_true,if_false,ku r]
theorem iW {S S':Nat→Bool}(t:Nat):∀(l:List (List (Nat×α))) (i:Nat) (s s':List (Nat×α)),lk s t=lk s' t →
  (∀k ws,l[k]? = some ws→t∈keys ws→S (i+k)=S' (i+k))→lk (acc S l i s) t=lk (acc S' l i s') t
 |[],_,_,_,h,_=>h
 | ws::r,i,s,s',h,hS=>by
   simp only[acc];refine iW t r (i+1) _ _ ?_ fun k oL hk ht=>by
    have:=hS (k+1) oL (by simpa using hk) ht;rwa [show i+(k+1)=i+1+k from by omega] at this
   by_cases hk:t∈keys ws
   ·have:=hS 0 ws rfl hk;simp only[Nat.add_zero] at this;rw[this];split
    ·exact jV h
    exact h
   have h1:lk (ws++s) t=lk s t:=gT hk;have h2:lk (ws++s') t=lk s' t:=gT hk;split<;>split<;>simp[h1,h2,h]
theorem EF {S:Nat→Bool}(t:Nat):∀(l:List (List (Nat×α))) (i:Nat) (s:List (Nat×α)) (j:Nat) (ws:List (Nat×α)),l[j]? = some ws→t∈keys ws→S (i+j)=true →
  (∀k oL,l[k]? = some oL→t∈keys oL→S (i+k)=true→k≤j)→∀s',lk (acc S l i s) t=lk (ws++s') t
 |[],_,_,j,_,h,_,_,_,_=>by simp at h
 | w0::r,i,s,0,ws,h,ht,hS,hk,s'=>by
   simp only[List.getElem?_cons_zero,Option.some.injEq] at h;subst h;simp only[Nat.add_zero] at hS;simp only[acc,hS,if_true];rw[iW (S':=fun _=>false) t r (i+1) _ (w0++s) rfl ?_,ku]
   ·exact pz ht
   intro k oL hk' ht';cases hb:S (i+1+k) with
   |false=>rfl
   | true=>
     have:=hk (k+1) oL (by simpa using hk') ht' (by rw[show i+(k+1)=i+1+k from by omega];exact hb);omega
 | w0::r,i,s,j+1,ws,h,ht,hS,hk,s'=>by
   simp only[acc];refine EF t r (i+1) _ j ws (by simpa using h) ht (by rw[show i+1+j=i+(j+1) from by omega];exact hS) (fun k oL hk' ht' hS'=>?_) s';have:=hk (k+1) oL (by simpa using hk') ht' (by rw[show i+(k+1)=i+1+k from by omega];exact hS');omega
theorem JD {S S':Nat→Bool}{l:List (List (Nat×α))}{s:List (Nat×α)}{j:Nat}{ws:List (Nat×α)}(hj:l[j]? = some ws)(hS:∀k,S' k=(S k||Nat.beq k j))(t:Nat)
  (hw:∀k oL,l[k]? = some oL→t∈keys ws→t∈keys oL→S k=true→k<j):lk (acc S' l 0 s) t=lk (ws++acc S l 0 s) t:=by
 by_cases ht:t∈keys ws
 ·refine EF t l 0 s j ws hj ht (by rw[hS];simp) (fun k oL hk ht' Ib=>?_) _;rw[Nat.zero_add,hS,Bool.or_eq_true] at Ib;rcases Ib with h|h
  ·exact Nat.le_of_lt (hw k oL hk ht ht' h)
  exact Nat.le_of_eq (Nat.eq_of_beq_eq_true h)
 rw[gT ht];refine iW t l 0 s s rfl fun k oL hk ht'=>?_
 rw[Nat.zero_add,hS];cases hb:Nat.beq k j with
 |false=>simp
 | true=>
   have:=Nat.eq_of_beq_eq_true hb;subst this;rw[hj] at hk;cases hk;exact absurd ht' ht
theorem mJ {S:Nat→Bool}:∀(l:List (List (Nat×α))) (i:Nat) (s:List (Nat×α)),acc S l (i+1) s=acc (fun k=>S (k+1)) l i s
 |[],_,_=>rfl
 |ws::r,i,s=>by simp only[acc];rw[mJ r]
end
def Ag (d:Option Nat)(v:AV):List (Nat×AV):=
 match d with
 |some d=>[(d,v)]
 |none=>[]
theorem sW (tm:List (Nat×AV))(d:Option Nat)(v:AV):Sy tm d v=Ag d v++tm:=by cases d<;>rfl
section
variable {P:Program}{T:Tab}{c:Ctx}
def KX (P:Program)(c:Ctx)(ops:Array Oper)(base:Nat)(o:Oper)(i:Nat)(v:AV)(ws:List (Nat×av))(e:oZ)(tm:List (Nat×AV))(hp:List (Nat×av)):Prop:=
 ∀(R:Real) (tm':List (Nat×AV)) (hp':List (Nat×av)) (nx:Nat) (a:Act) (w:World),(∀t∈e.look,lk tm' t=lk tm t)→(∀b∈e.rd,lk hp' b=lk hp b)→base+i<nx →
  (∀t,o.dst=some t→t<c.n)→aR c R ⟨tm',nx,hp'⟩ a w→∀(ro:Option Nat) (Q:Exit→Act→World→Prop),
   if Region.wanted o (yielded ops a.tmps) then o.wpIn (W1 ro) 0 P a w (fun a' w'=>∃R',aR c R' ⟨Ag o.dst v++tm',nx,ws++hp'⟩ a' w') Q
   else ∃R',aR c R' ⟨Ag o.dst v++tm',nx,ws++hp'⟩ (a.put o.dst undef) w
theorem KX.congr {ops:Array Oper}{base:Nat}{o:Oper}{i:Nat}{v:AV}{ws:List (Nat×av)}{e:oZ}{tm UH:List (Nat×AV)}{hp hp2:List (Nat×av)}
  (h:KX P c ops base o i v ws e tm hp) (ht:∀t,lk UH t=lk tm t) (hh:∀b,lk hp2 b=lk hp b):KX P c ops base o i v ws e UH hp2:=by
 intro R tm' hp' nx a w h1 h2 h3 h4 g ro Q;exact h R tm' hp' nx a w (fun t htl=>(h1 t htl).trans (ht t)) (fun b hb=>(h2 b hb).trans (hh b)) h3 h4 g ro Q
theorem JE (hgen:gen T=false){ops:List Oper}{base:Nat}{o:Oper}{i:Nat}{tm:List (Nat×AV)}{hp:List (Nat×av)}{tr:List oZ}{kn:List (Nat×Bool)}{K:RC}
  (h:Rp P T ops base o i tm hp tr kn K):∃v ws e,K (Ag o.dst v++tm) (ws++hp) (e::tr) kn∧e.dst=o.dst∧e.wr=keys ws∧(∀d∈rA ops o,d∈e.look) ∧
   ∀tm' hp' mr,(∀t∈e.look,lk tm' t=lk tm t)→(∀b∈e.rd,lk hp' b=lk hp b)→∀K':RC,K' (Ag o.dst v++tm') (ws++hp') (e::mr) kn→Rp P T ops base o i tm' hp' mr kn K':=by
 unfold Rp at h;split at h
 ·exact h.elim
 rename_i hn;obtain⟨v,ws,ids,h1,h2⟩:=Qa hgen h;simp only[qh,xg,sW] at h1;refine⟨v,ws,_,h1,rfl,rfl,fun d hd=>List.mem_append_left _ hd,fun tm' hp' mr ht hb K' lT=>?_⟩;unfold Rp;rw[hb (base+i) (by simp),hn];simp only;refine h2 tm' hp' (fun t hx=>ht t (List.mem_append_right _ hx)) (fun b hx=>hb b (List.mem_cons_of_mem _ hx)) _ ?_;simp only[qh,xg,sW];exact lT
theorem A9 {ops:List Oper}{o:Oper}{tm:List (Nat×AV)}{hp:List (Nat×av)}{tr:List oZ}{kn:List (Nat×Bool)}{K:RC}
  (h:vJ ops o tm hp tr kn K):∃v ws e,K (Ag o.dst v++tm) (ws++hp) (e::tr) kn∧e.dst=o.dst∧e.wr=keys ws∧(∀d∈rA ops o,d∈e.look) ∧
   ∀tm' hp' mr,(∀t∈e.look,lk tm' t=lk tm t)→(∀b∈e.rd,lk hp' b=lk hp b)→∀K':RC,K' (Ag o.dst v++tm') (ws++hp') (e::mr) kn→vJ ops o tm' hp' mr kn K':=by
 unfold vJ at h;simp only[qh,sW] at h;refine⟨_,[],_,h,rfl,rfl,fun d hd=>hd,fun tm' hp' mr ht hb K' lT=>?_⟩;unfold vJ;simp only[qh,sW];exact lT
theorem xq (hgen:gen T=false){ops:List Oper}{base:Nat}{o:Oper}{i:Nat}{wt:Bool}{tm:List (Nat×AV)}{hp:List (Nat×av)}{tr:List oZ}{kn:List (Nat×Bool)}{K:RC}
  (h:SA P T ops base o i wt tm hp tr kn K):∃v ws e,K (Ag o.dst v++tm) (ws++hp) (e::tr) kn∧e.dst=o.dst∧e.wr=keys ws∧(∀d∈rA ops o,d∈e.look) ∧
   ∀tm' hp' mr,(∀t∈e.look,lk tm' t=lk tm t)→(∀b∈e.rd,lk hp' b=lk hp b)→∀K':RC,K' (Ag o.dst v++tm') (ws++hp') (e::mr) kn→SA P T ops base o i wt tm' hp' mr kn K':=by
 cases wt with
 |true=>exact JE hgen h
 |false=>exact A9 h
theorem KY (hgen:gen T=false){ops:List Oper}{base:Nat}{o:Oper}{i:Nat}{tm:List (Nat×AV)}{hp:List (Nat×av)}{tr:List oZ}{kn:List (Nat×Bool)}{K:RC}
  (h:mI P T ops base o i tm hp tr kn K):∃v ws e Ab Qb,(∀t,lk Qb t=lk tm t)∧K (Ag o.dst v++Qb) (ws++hp) (e::tr) Ab∧e.dst=o.dst∧e.wr=keys ws ∧
   ∀tm' hp' mr,(∀t∈e.look,lk tm' t=lk tm t)→(∀b∈e.rd,lk hp' b=lk hp b)→∀K':RC,(∀S9,(∀t,lk S9 t=lk tm' t)→K' (Ag o.dst v++S9) (ws++hp') (e::mr) Ab) →
    mI P T ops base o i tm' hp' mr kn K':=by
 unfold mI at h;split at h
 ·rename_i hg;obtain⟨v,ws,e,h1,h2,h3,h4,h5⟩:=JE hgen h;refine⟨v,ws,e,kn,tm,fun _=>rfl,h1,h2,h3,fun tm' hp' mr ht hb K' lT=>?_⟩;unfold mI;rw[hg];exact h5 tm' hp' mr ht hb K' (lT tm' fun _=>rfl)
 rename_i j want hg;split at h
 ·exact h.elim
 rename_i d hd;have hmem:d∈rA ops o:=by simp[rA,hd]
 split at h;rotate_left;cases h
 rename_i vv hv;split at h
 ·rename_i b;split at h
  ·rename_i kb hkn;cases b with
   | true=>
     obtain⟨v,ws,e,h1,h2,h3,h4,h5⟩:=xq hgen h;refine⟨v,ws,e,kn,tm,fun _=>rfl,h1,h2,h3,fun tm' hp' mr ht hb K' lT=>?_⟩;unfold mI;simp only[hg,hd,ht d (h4 d hmem),hv,hkn];exact h5 tm' hp' mr ht hb K' (lT tm' fun _=>rfl)
   | false=>
     obtain⟨v,ws,e,h1,h2,h3,h4,h5⟩:=xq hgen h;refine⟨v,ws,e,kn,tm,fun _=>rfl,h1,h2,h3,fun tm' hp' mr ht hb K' lT=>?_⟩;unfold mI;simp only[hg,hd,ht d (h4 d hmem),hv,hkn];exact h5 tm' hp' mr ht hb K' (lT tm' fun _=>rfl)
  rename_i hkn;have same:∀(b':Bool) (tm':List (Nat×AV)),lk tm' d=some (.pv (.sc (.bool b')))→∀t,lk ((d,AV.pv (.sc (.bool b')))::tm') t=lk tm' t:=by
   intro b' tm' hb' t;rw[aj];split
   ·rename_i e;rw[←e,hb']
   rfl
  cases b with
  | true=>
    obtain⟨v,ws,e,h1,h2,h3,h4,h5⟩:=xq hgen (h.1 rfl);refine⟨v,ws,e,_,_,same true tm hv,h1,h2,h3,fun tm' hp' mr ht hb K' lT=>?_⟩;have hv':lk tm' d=some (.pv (.sc (.bool true))):=(ht d (h4 d hmem)).trans hv;unfold mI;simp only[hg,hd,hv',hkn];refine⟨fun _=>h5 _ hp' mr (fun t hx=>?_) hb K' (lT _ (same true tm' hv')),fun h=>(by cases h)⟩;rw[same true tm' hv',same true tm hv];exact ht t hx
  | false=>
    obtain⟨v,ws,e,h1,h2,h3,h4,h5⟩:=xq hgen (h.2 rfl);refine⟨v,ws,e,_,_,same false tm hv,h1,h2,h3,fun tm' hp' mr ht hb K' lT=>?_⟩;have hv':lk tm' d=some (.pv (.sc (.bool false))):=(ht d (h4 d hmem)).trans hv;unfold mI;simp only[hg,hd,hv',hkn];refine⟨fun h=>(by cases h),fun _=>h5 _ hp' mr (fun t hx=>?_) hb K' (lT _ (same false tm' hv'))⟩;rw[same false tm' hv',same false tm hv];exact ht t hx
 ·obtain⟨v,ws,e,h1,h2,h3,h4,h5⟩:=A9 h;refine⟨v,ws,e,kn,tm,fun _=>rfl,h1,h2,h3,fun tm' hp' mr ht hb K' lT=>?_⟩;unfold mI;simp only[hg,hd,ht d (h4 d hmem),hv];exact h5 tm' hp' mr ht hb K' (lT tm' fun _=>rfl)
 exact h.elim
theorem Nk (hT:bC P T)(hgen:gen T=false){ops:Array Oper}{base:Nat}{o:Oper}{i:Nat}{tm:List (Nat×AV)}{hp:List (Nat×av)}{tr:List oZ}{kn:List (Nat×Bool)}{K:RC}
  (h:mI P T ops.toList base o i tm hp tr kn K):∃v ws e Ab Qb,(∀t,lk Qb t=lk tm t)∧K (Ag o.dst v++Qb) (ws++hp) (e::tr) Ab∧e.dst=o.dst∧e.wr=keys ws ∧
   KX P c ops base o i v ws e tm hp:=by
 obtain⟨v,ws,e,Ab,Qb,h1,h2,h3,h4,h5⟩:=KY hgen h;refine⟨v,ws,e,Ab,Qb,h1,h2,h3,h4,fun R tm' hp' nx a w ht hb hn hd g ro Q=>?_⟩;have hv:=h5 tm' hp' [] ht hb (fun UH hp2 _ _=>(∀t,lk UH t=lk (Ag o.dst v++tm') t)∧hp2=ws++hp') fun S9 ht'=>⟨fun t=>jV (ht' t),rfl⟩
 have hs:=vK (s:=⟨tm',nx,hp'⟩) g hT (ops:=ops) hn hd hv ro Q;split
 ·rename_i hw;rw[if_pos hw] at hs;refine Oper.wpIn_mono ?_ hs;rintro a' w' ⟨R',UH,hp2,mr,kn2,⟨hk,rfl⟩,g'⟩
  exact⟨R',g'.congr (fun t=>(hk t).symm) fun _=>rfl⟩
 rename_i hw;rw[if_neg hw] at hs;obtain⟨UH,hp2,mr,kn2,⟨hk,rfl⟩,g'⟩:=hs;exact⟨R,g'.congr (fun t=>(hk t).symm) fun _=>rfl⟩
end
theorem EG {x:Nat}:∀{l:List Nat},x9 x l=true↔x∈l
 |[]=>by simp[x9]
 | y::r=>by
   simp only[x9,List.mem_cons];split
   ·rename_i h;simp[Nat.eq_of_beq_eq_true h]
   rename_i h;have:=Nat.ne_of_beq_eq_false h;simp[this,EG]
theorem nO {x:Nat}:∀{l l':List Nat},x∈l→x∈l'→meet l l'=true
 |[],_,h,_=>by simp at h
 | y::r,l',h,h'=>by
   simp only[meet];split
   ·rfl
   rename_i hm;rcases List.mem_cons.1 h with rfl|h
   ·rw[EG.2 h'] at hm;cases hm
   exact nO h h'
theorem EH (d:Option Nat)(v:AV):keys (Ag d v)=dl d:=by cases d<;>rfl
section
variable {P:Program}{T:Tab}{c:Ctx}
theorem EI (hT:bC P T)(hg:gen T=false){ops:Array Oper}{base:Nat}{K:RK}:∀(l:List Oper) (i:Nat) {tm:List (Nat×AV)} {hp:List (Nat×av)} {tr:List oZ} {kn:List (Nat×Bool)},
  GV P T ops.toList base l i tm hp tr kn K→∃(wT:List (List (Nat×AV))) (wH:List (List (Nat×av))) (es:List oZ) (Vq:List (Nat×AV)) (Nl:List (Nat×av)),
   wT.length=l.length∧wH.length=l.length∧es.length=l.length∧K Vq Nl (es.reverse++tr)∧(∀t,lk Vq t=lk (acc (fun _=>true) wT 0 tm) t)∧(∀b,lk Nl b=lk (acc (fun _=>true) wH 0 hp) b) ∧
   ∀k o,l[k]? = some o→∃v ws e,wT[k]? = some (Ag o.dst v)∧wH[k]? = some ws∧es[k]? = some e∧e.dst=o.dst∧e.wr=keys ws ∧
    KX P c ops base o (i+k) v ws e (acc (fun x=>Nat.blt x k) wT 0 tm) (acc (fun x=>Nat.blt x k) wH 0 hp)
 |[],i,tm,hp,tr,kn,h=>⟨[],[],[],tm,hp,rfl,rfl,rfl,h,fun _=>rfl,fun _=>rfl,fun k o hk=>by simp at hk⟩
 | o::r,i,tm,hp,tr,kn,h=>by
   simp only[GV] at h;obtain⟨v,ws,e,Ab,Qb,h1,h2,h3,h4,h5⟩:=Nk (c:=c) hT hg h;obtain⟨wT,wH,es,Vq,Nl,l1,l2,l3,hK,hf,hf',hall⟩:=EI hT hg r (i+1) h2;have e0:(fun x=>Nat.blt x 0)=fun _=>false:=by
    funext x
    cases hb:Nat.blt x 0 with
    |false=>rfl
    |true=>rw[Nat.blt_eq] at hb;omega
   have e1:∀k,(fun x=>Nat.blt (x+1) (k+1))=fun x=>Nat.blt x k:=by
    intro k;funext x
    rw[Bool.eq_iff_iff,Nat.blt_eq,Nat.blt_eq];omega
   have e2:∀k,Nat.blt 0 (k+1)=true:=by intro k;rw[Nat.blt_eq];omega
   have hst:∀(S:Nat→Bool) t,lk (acc S wT 0 (Ag o.dst v++Qb)) t=lk (acc S wT 0 (Ag o.dst v++tm)) t:=fun S t=>iW t wT 0 _ _ (jV (h1 t)) fun _ _ _ _=>rfl
   refine⟨Ag o.dst v::wT,ws::wH,e::es,Vq,Nl,by simp[l1],by simp[l2],by simp[l3],?_,?_,?_,?_⟩
   ·simpa using hK
   ·intro t;rw[hf t,hst];simp only[acc,if_true,mJ]
   ·intro b;rw[hf' b];simp only[acc,if_true,mJ]
   intro k o' hk;cases k with
   | zero=>
     simp only[List.getElem?_cons_zero,Option.some.injEq] at hk;subst hk;refine⟨v,ws,e,rfl,rfl,rfl,h3,h4,?_⟩;rw[e0,ku,ku];exact h5
   | succ k=>
     obtain⟨v',oL,e',a1,a2,a3,a4,a5,a6⟩:=hall k o' (by simpa using hk);refine⟨v',oL,e',by simpa using a1,by simpa using a2,by simpa using a3,a4,a5,?_⟩;rw[show i+(k+1)=i+1+k from by omega];refine a6.congr (fun t=>?_) fun b=>?_
     ·simp only[acc,e2,if_true,mJ,e1];exact (hst _ t).symm
     simp only[acc,e2,if_true,mJ,e1]
theorem Ah {α:Type}{l l':List α}{k:Nat}(h:k<l.length):nth (l++l') k=nth l k:=by
 rw[o6,o6,List.getElem?_append_left h]
def Closed (ops:List Oper)(S:Nat→Bool):Prop:=∀k o,ops[k]? = some o→S k=true→∀e∈o.after.toList,Region.binds .any e=true→S e.on=true
theorem pE {S:Nat→Bool}{Ac:List Nat}(KZ:∀k m,nth Ac k=some m→S k=true→∀x,m.testBit x=true→S x=true):∀(es:List Edge),
  (∀e∈es,Region.binds .any e=true→S e.on=true)→∀x,(Em Ac es).testBit x=true→S x=true
 |[],_,x,h=>by simp[Em] at h
 | e::r,hS,x,h=>by
   simp only[Em] at h;split at h
   ·rename_i hb;have CS:=hS e (by simp) hb;rw[Nat.testBit_or,Nat.testBit_or,Bool.or_eq_true,Bool.or_eq_true] at h;rcases h with (h|h)|h
    ·rw[Nat.testBit_two_pow] at h;simp only[decide_eq_true_eq] at h;rw[←h];exact CS
    ·split at h
     ·rename_i m hm;exact KZ e.on m hm CS x h
     simp at h
    exact pE KZ r (fun e' Ai=>hS e' (by simp[Ai])) x h
   exact pE KZ r (fun e' Ai=>hS e' (by simp[Ai])) x h
theorem nP {i:Nat}:∀{es:List Edge},sO i es=true→∀e∈es,Region.binds .any e=true→e.on<i
 |[],_,e,he,_=>by simp at he
 | x::r,h,e,he,hb=>by
   simp only[sO] at h;split at h
   ·rw[Bool.and_eq_true] at h;rcases List.mem_cons.1 he with rfl|he
    ·have:=h.1;rwa [Nat.blt_eq] at this
    exact nP h.2 e he hb
   rename_i hx;rcases List.mem_cons.1 he with rfl|he
   ·rw[hb] at hx;cases hx
   exact nP h e he hb
theorem sZ {e:oZ}{m:Nat}:∀{l:List oZ} {k0:Nat},xh e m l k0=true→∀k x,l[k]? = some x→jL x e=true→m.testBit (k0+k)=true
 |[],_,_,k,x,hk,_=>by simp at hk
 | y::r,k0,h,k,x,hk,hc=>by
   simp only[xh,Bool.and_eq_true,Bool.or_eq_true,Bool.not_eq_true'] at h;cases k with
   | zero=>
     simp only[List.getElem?_cons_zero,Option.some.injEq] at hk;subst hk;exact h.1.resolve_left (by simp[hc])
   | succ k=>
     have:=sZ h.2 k x (by simpa using hk) hc;rwa [show k0+1+k=k0+(k+1) from by omega] at this
def Sep (ops:List Oper)(es:List oZ)(S:Nat→Bool)(i:Nat)(o:Oper)(e:oZ):Prop:=
 (∀ed∈o.after.toList,Region.binds .any ed=true→ed.on<i) ∧
 ((∀ed∈o.after.toList,Region.binds .any ed=true→S ed.on=true)→∀k x,k<i→es[k]? = some x→jL x e=true→S k=true)
theorem uN {ops:List Oper}{all:List oZ}{S:Nat→Bool}(hS:Closed ops S):∀(r:List Oper) (es:List oZ) (i:Nat) (Ac:List Nat),PY all r es i Ac=true →
  ops.drop i=r→all.drop i=es→Ac.length=i→(∀k m,nth Ac k=some m→S k=true→∀x,m.testBit x=true→S x=true) →
  ∀k o,r[k]? = some o→∃e,es[k]? = some e∧Sep ops all S (i+k) o e
 |[],es,i,Ac,_,_,_,_,_,k,o,hk=>by simp at hk
 | o0::r,es,i,Ac,h,hops,hes,hlen,KZ,k,o,hk=>by
   simp only[PY] at h;cases es with
   |nil=>simp at h
   | cons e0 es=>
     simp only[Bool.and_eq_true] at h;obtain⟨h1,h2,h3⟩:=h;have ho0:ops[i]? = some o0:=by
      have:=congrArg (fun l=>l[0]?) hops;simpa using this
     have Vr:(∀e∈o0.after.toList,Region.binds .any e=true→S e.on=true)→∀x,(Em Ac o0.after.toList).testBit x=true→S x=true:=fun he=>pE KZ _ he
     cases k with
     | zero=>
       simp only[List.getElem?_cons_zero,Option.some.injEq] at hk;subst hk;refine⟨e0,rfl,fun ed Md hb=>nP h1 ed Md hb,fun he k x hki hx hc=>?_⟩;have:=sZ h2 k x (by rw[List.getElem?_take];simp only[Nat.add_zero] at hki;rw[if_pos hki];exact hx) hc;rw[Nat.zero_add] at this;exact Vr he k this
     | succ k=>
       obtain⟨e,he,hsep⟩:=uN hS r es (i+1) (Ac++[Em Ac o0.after.toList]) h3 (by rw[←List.drop_drop,hops];rfl) (by rw[←List.drop_drop,hes];rfl) (by simp[hlen])
        (fun k' m hk' Ib x hx=>by
         rcases Nat.lt_or_ge k' Ac.length with hlt|hge
         ·rw[Ah hlt] at hk';exact KZ k' m hk' Ib x hx
         rw[o6,List.getElem?_append_right hge] at hk';have:k' - Ac.length=0:=by
          rcases Nat.eq_zero_or_pos (k' - Ac.length) with h|h
          ·exact h
          rw[List.getElem?_eq_none (by simp;omega)] at hk';cases hk'
         rw[this] at hk';simp only[List.getElem?_cons_zero,Option.some.injEq] at hk';subst hk';have hki:k'=i:=by omega
         subst hki;exact Vr (fun ed Md hb=>hS _ o0 ho0 Ib ed Md hb) x hx)
        k o (by simpa using hk)
       refine⟨e,by simpa using he,?_⟩;rw[show i+(k+1)=i+1+k from by omega];exact hsep
end
section
variable {P:Program}{T:Tab}{c:Ctx}
theorem yF {n:Nat}:∀{l:List Oper},kL n l=true→∀(k:Nat) (o:Oper),l[k]? = some o→∀t,o.dst=some t→t<n
 |[],_,k,o,hk,_,_=>by simp at hk
 | x::r,h,k,o,hk,t,ht=>by
   simp only[kL] at h;cases k with
   | zero=>
     simp only[List.getElem?_cons_zero,Option.some.injEq] at hk;subst hk;rw[ht] at h;simp only at h;split at h
     ·rename_i hb;rwa [Nat.blt_eq] at hb
     cases h
   | succ k=>
     refine yF (l:=r) ?_ k o (by simpa using hk) t ht;split at h
     ·split at h
      ·exact h
      cases h
     exact h
theorem yG {x y:oZ}{t:Nat}(h:t∈dl x.dst)(h':t∈y.look):jL x y=true∧jL y x=true:=by
 constructor<;>simp[jL,nO h h']
theorem Ba {x y:oZ}{t:Nat}(h:t∈dl x.dst)(h':t∈dl y.dst):jL x y=true∧jL y x=true:=by
 constructor<;>simp[jL,nO h h',nO h' h]
theorem EJ {x y:oZ}{t:Nat}(h:t∈x.wr)(h':t∈y.rd):jL x y=true∧jL y x=true:=by
 constructor<;>simp[jL,nO h h']
theorem EL {x y:oZ}{t:Nat}(h:t∈x.wr)(h':t∈y.wr):jL x y=true∧jL y x=true:=by
 constructor<;>simp[jL,nO h h',nO h' h]
theorem any_ok {ops:Array Oper}{base nx:Nat}{tm:List (Nat×AV)}{hp:List (Nat×av)}{wT:List (List (Nat×AV))}{wH:List (List (Nat×av))}{es:List oZ}{Q:Exit→Act→World→Prop}
  (hall:∀k o,ops.toList[k]? = some o→∃v ws e,wT[k]? = some (Ag o.dst v)∧wH[k]? = some ws∧es[k]? = some e∧e.dst=o.dst∧e.wr=keys ws ∧
    KX P c ops base o k v ws e (acc (fun x=>Nat.blt x k) wT 0 tm) (acc (fun x=>Nat.blt x k) wH 0 hp))
  (hlT:wT.length=ops.size) (hlH:wH.length=ops.size) (RA:Vd ops.toList es=true) (hn:base+ops.size≤nx) (hd:kL c.n ops.toList=true)
  (ro:Option Nat) (hfin:∀R a w,aR c R ⟨acc (fun _=>true) wT 0 tm,nx,acc (fun _=>true) wH 0 hp⟩ a w→Q .normal a w) :
  ∀(fuel:Nat) (listed:Array Bool) (R:Real) (a:Act) (w:World),listed.size=ops.size→Closed ops.toList (fun k=>listed.getD k false)→listed.toList.count false≤fuel →
   aR c R ⟨acc (fun k=>listed.getD k false) wT 0 tm,nx,acc (fun k=>listed.getD k false) wH 0 hp⟩ a w→wpAnyIn (W1 ro) 0 P .any ops Q fuel listed a w:=by
 have Vs:∀k o,ops[k]? = some o→∀ed∈o.after.toList,Region.binds .any ed=true→ed.on<k:=by
  intro k o ho;obtain⟨e,_,hs⟩:=uN (S:=fun _=>true) (fun _ _ _ _ _ _ _=>rfl) ops.toList es 0 [] RA rfl rfl rfl (fun _ m h=>by simp[nth] at h) k o (by rw[Array.getElem?_toList];exact ho);have:=hs.1;rwa [Nat.zero_add] at this
 have hdone:∀listed:Array Bool,listed.size=ops.size→Region.ready .any ops listed=[]→∀k,k<ops.size→listed.getD k false=true:=by
  intro listed hsz hr k;induction k using Nat.strongRecOn with
  | ind k ih=>
    intro hk;cases hb:listed.getD k false with
    |true=>rfl
    | false=>
      exfalso;have:k∈Region.ready .any ops listed:=by
       rw[mem_ready];refine⟨?_,ops[k],by simp[hk],fun ed Md hbd=>?_⟩
       ·have hk':k<listed.size:=by omega
        simp[hk'] at hb ⊢;exact hb
       have hlt:=Vs k ops[k] (by simp[hk]) ed (by simpa using Md) hbd;exact ih ed.on hlt (by omega)
      rw[hr] at this;simp at this
 have hend:∀(listed:Array Bool) (R:Real) (a:Act) (w:World),listed.size=ops.size→Region.ready .any ops listed=[] →
   aR c R ⟨acc (fun k=>listed.getD k false) wT 0 tm,nx,acc (fun k=>listed.getD k false) wH 0 hp⟩ a w→Q .normal a w:=by
  intro listed R a w hsz hr g;refine hfin R a w (g.congr (fun t=>iW t wT 0 _ _ rfl fun k ws hk _=>?_) fun b=>iW b wH 0 _ _ rfl fun k ws hk _=>?_)
  ·rw[Nat.zero_add];exact (hdone listed hsz hr k (by rw[←hlT];exact (List.getElem?_eq_some_iff.1 hk).1)).symm
  rw[Nat.zero_add];exact (hdone listed hsz hr k (by rw[←hlH];exact (List.getElem?_eq_some_iff.1 hk).1)).symm
 intro fuel;induction fuel with
 | zero=>
   intro listed R a w hsz hcl hc g;have hr:Region.ready .any ops listed=[]:=by
    cases hr:Region.ready .any ops listed with
    |nil=>rfl
    | cons j r=>
      exfalso;have hj:j∈Region.ready .any ops listed:=by rw[hr];simp
      rw[mem_ready] at hj;obtain⟨h0,o,ho,_⟩:=hj;have hjl:j<listed.size:=by rw[hsz];exact (Array.getElem?_eq_some_iff.1 ho).1
      have:false∈listed.toList:=by
       have:listed[j]=false:=by simpa[hjl] using h0
       rw[←this];simp
      have:=List.count_pos_iff.2 this;omega
   exact⟨hr,hend listed R a w hsz hr g⟩
 | succ fuel ih=>
   intro listed R a w hsz hcl hc g;refine⟨fun hr=>hend listed R a w hsz hr g,fun i hi=>?_⟩;rw[mem_ready] at hi;obtain⟨h0,o,ho,hpre⟩:=hi;have hio:i<ops.size:=(Array.getElem?_eq_some_iff.1 ho).1;have hil:i<listed.size:=by omega
   have hif:listed.getD i false=false:=by simpa[hil] using h0
   have K3:ops.toList[i]? = some o:=by rw[Array.getElem?_toList];exact ho
   obtain⟨v,ws,e,a1,a2,a3,a4,a5,a6⟩:=hall i o K3;have hsep:∀k o',ops.toList[k]? = some o'→∃e,es[k]? = some e∧Sep ops.toList es (fun k=>listed.getD k false) k o' e:=by
    intro k o' hk;have:=uN hcl ops.toList es 0 [] RA rfl rfl rfl (fun _ m h=>by simp[nth] at h) k o' hk;rwa [Nat.zero_add] at this
   have hS:∀k x,es[k]? = some x→k<ops.size→jL x e=true→jL e x=true→listed.getD k false=Nat.blt k i:=by
    intro k x hx hk hc1 hc2;rcases Nat.lt_trichotomy k i with hlt|heq|hgt
    ·obtain⟨e',Ai,hs⟩:=hsep i o K3;rw[a3] at Ai;cases Ai;have hk1:listed.getD k false=true:=hs.2 (fun ed Md hb=>hpre ed (by simpa using Md) hb) k x hlt hx hc1;have hk2:Nat.blt k i=true:=by rw[Nat.blt_eq];exact hlt
     rw[hk1,hk2]
    ·subst heq;rw[hif];cases hb:Nat.blt k k with
     |false=>rfl
     |true=>rw[Nat.blt_eq] at hb;omega
    have hb':Nat.blt k i=false:=by
     cases hb:Nat.blt k i with
     |false=>rfl
     |true=>rw[Nat.blt_eq] at hb;omega
    rw[hb'];cases hb:listed.getD k false with
    |false=>rfl
    | true=>
      exfalso;have hok:ops.toList[k]? = some ops[k]:=by simp[hk]
      obtain⟨e',Ai,hs⟩:=hsep k ops[k] hok;rw[hx] at Ai;cases Ai;have:=hs.2 (fun ed Md hbd=>hcl k ops[k] hok hb ed Md hbd) i e hgt a3 hc2;simp only at this;rw[hif] at this;cases this
   have RB:∀k,k<ops.size→∃o' v' oL e',ops[k]? = some o'∧wT[k]? = some (Ag o'.dst v')∧wH[k]? = some oL∧es[k]? = some e'∧e'.dst=o'.dst∧e'.wr=keys oL:=by
    intro k hk;obtain⟨v',oL,e',b1,b2,b3,b4,b5,_⟩:=hall k ops[k] (by simp[hk]);exact⟨ops[k],v',oL,e',by simp[hk],b1,b2,b3,b4,b5⟩
   have hTk:∀k oL,wT[k]? = some oL→∃e',es[k]? = some e'∧k<ops.size∧keys oL=dl e'.dst:=by
    intro k oL hk;have hkn:k<ops.size:=by rw[←hlT];exact (List.getElem?_eq_some_iff.1 hk).1
    obtain⟨o',v',w',e',_,b1,_,b3,b4,_⟩:=RB k hkn;rw[hk] at b1;simp only[Option.some.injEq] at b1;exact⟨e',b3,hkn,by rw[b1,EH,b4]⟩
   have hHk:∀k oL,wH[k]? = some oL→∃e',es[k]? = some e'∧k<ops.size∧keys oL=e'.wr:=by
    intro k oL hk;have hkn:k<ops.size:=by rw[←hlH];exact (List.getElem?_eq_some_iff.1 hk).1
    obtain⟨o',v',w',e',_,_,b2,b3,_,b5⟩:=RB k hkn;rw[hk] at b2;simp only[Option.some.injEq] at b2;exact⟨e',b3,hkn,by rw[b2,b5]⟩
   have hop:=a6 R _ _ nx a w (fun t ht=>iW (S:=fun k=>listed.getD k false) t wT 0 tm tm rfl fun k oL hk htk=>by
     obtain⟨e',Ai,hkn,hke⟩:=hTk k oL hk;rw[Nat.zero_add];rw[hke] at htk;exact hS k e' Ai hkn (yG htk ht).1 (yG htk ht).2)
    (fun b hb=>iW (S:=fun k=>listed.getD k false) b wH 0 hp hp rfl fun k oL hk htk=>by
     obtain⟨e',Ai,hkn,hke⟩:=hHk k oL hk;rw[Nat.zero_add];rw[hke] at htk;exact hS k e' Ai hkn (EJ htk hb).1 (EJ htk hb).2)
    (by omega) (fun t ht=>yF hd i o K3 t ht) g ro Q
   have hS':∀k,(listed.setIfInBounds i true).getD k false=(listed.getD k false||Nat.beq k i):=by
    intro k;by_cases hki:k=i
    ·subst hki;simp[hil]
    rw[getD_set_ne false (Ne.symm hki)];cases hb:Nat.beq k i with
    |false=>simp
    |true=>exact absurd (Nat.eq_of_beq_eq_true hb) hki
   have hnext:∀R' a' w',aR c R' ⟨Ag o.dst v++acc (fun k=>listed.getD k false) wT 0 tm,nx,ws++acc (fun k=>listed.getD k false) wH 0 hp⟩ a' w' →
     wpAnyIn (W1 ro) 0 P .any ops Q fuel (listed.setIfInBounds i true) a' w':=by
    intro R' a' w' g';refine ih _ R' a' w' (by simp[hsz]) ?_ ?_ (g'.congr (fun t=>?_) fun b=>?_)
    ·intro k o' hk Ib ed Md hb;simp only at Ib ⊢;rw[hS',Bool.or_eq_true] at Ib ⊢;rcases Ib with h|h
     ·exact .inl (hcl k o' hk h ed Md hb)
     have:=Nat.eq_of_beq_eq_true h;subst this;rw[K3] at hk;cases hk;exact .inl (hpre ed (by simpa using Md) hb)
    ·rw[Array.toList_setIfInBounds,List.count_set (by simpa using hil)];have:listed.toList[i]'(by simpa using hil)=false:=by simpa[hil] using h0
     have hm:false∈listed.toList:=by rw[←this];simp
     have hp:=List.count_pos_iff.2 hm;rw[this];show listed.toList.count false-1+0≤fuel
     omega
    ·refine JD a1 hS' t fun k oL hk ht ht' Ib=>?_
     obtain⟨e',Ai,hkn,hke⟩:=hTk k oL hk;rw[hke] at ht';rw[EH,←a4] at ht;rw[hS k e' Ai hkn (Ba ht' ht).1 (Ba ht' ht).2] at Ib;rwa [Nat.blt_eq] at Ib
    refine JD a2 hS' b fun k oL hk ht ht' Ib=>?_
    obtain⟨e',Ai,hkn,hke⟩:=hHk k oL hk;rw[hke] at ht';rw[←a5] at ht;rw[hS k e' Ai hkn (EL ht' ht).1 (EL ht' ht).2] at Ib;rwa [Nat.blt_eq] at Ib
   unfold wpOpIn;rw[ho];simp only;split
   ·rename_i hw;rw[if_pos hw] at hop;exact Oper.wpIn_mono (fun a' w' ⟨R',g'⟩=>hnext R' a' w' g') hop
   rename_i hw;rw[if_neg hw] at hop;obtain⟨R',g'⟩:=hop;exact⟨fun _ _=>trivial,hnext R' _ w g'⟩
theorem aR.drawn {R:Real}{s:AS}{a:Act}{w:World}(g:aR c R s a w)(n:Nat):aR c R s a { w with drawn:=n }:=by
 have hN:∀r,r<w.heap.size→aH c R s.hp r→aH c R s.hp r:=fun r _ h=>h
 have hw:∀r,r<w.heap.size→¬aH c R s.hp r→({ w with drawn:=n }:World).heap[r]? = w.heap[r]? :=fun _ _ _=>rfl
 have h1:∀b off v,aI R b off v (lk s.hp b)→aI R b off v (lk s.hp b):=fun b off v h=>h
 have h2:∀b ver v,aD R b ver v (lk s.hp b)→aD R b ver v (lk s.hp b):=fun b ver v h=>h
 have h3:∀b ver i off v,aK R b ver i off v (lk s.hp b)→aK R b ver i off v (lk s.hp b):=fun b ver i off v h=>h
 refine⟨fun t v hv=>?_,g.size,g.lo,g.marks.imp fun Ds hm=>hm.kept (fun _ _ _=>rfl) (fun _ _ h=>h),g.fixed.kept (fun _ _ _=>rfl) (fun _ _ h=>h),fun b box hb=>?_,g.inj,g.free,⟨g.gq.size,g.gq.keep,g.gq.os,g.gq.tape,g.gq.output⟩,g.eG,fun v x h=>bF hN hw h1 h2 h3 v x (g.kept v x h)⟩
 ·obtain⟨x,hx,hr⟩:=g.slots t v hv;exact⟨x,hx,bF hN hw h1 h2 h3 v x hr⟩
 have hr:=g.boxes b box hb;cases box with
 | var cells=>
   simp only[dm] at hr ⊢;obtain⟨cur,e,ha,hb⟩:=hr;exact⟨cur,e,ha,bg hN hw h1 h2 h3 cells _ hb⟩
 | ny cells=>
   simp only[dm] at hr ⊢;obtain⟨cur,e,fr,ha,hn,hb⟩:=hr;exact⟨cur,e,fr,ha,hn,bL hN hw cells _ hb⟩
 | arr e ver st rows=>
   simp only[dm] at hr ⊢;obtain⟨xs,ha,hb⟩:=hr;exact⟨xs,ha,aN hN hw st rows xs hb⟩
 | bX ver st rows=>
   simp only[dm] at hr ⊢;exact bN hN hw _ _ hr
 | tr y ver rest st=>
   obtain⟨k0,kh,k1,k2,k3,k4⟩:=hr;exact⟨k0,kh,k1,⟨k2.size,k2.keep,k2.os,k2.tape,k2.output⟩,k3,k4⟩
 |bR e' ver st j ed sd pre row post=>exact gQ hN hw rfl rfl rfl (fun k _=>rfl) rfl (fun vs h=>bg hN hw h1 h2 h3 _ _ h) hr
 |mp kk kv es=>exact hr
 | dL e' ver st pre row post=>
   obtain⟨xs,h8,h9,h10,h11,h12⟩:=hr;exact⟨xs,h8,aN hN hw _ _ _ h9,h10,bg hN hw h1 h2 h3 _ _ h11,aN hN hw _ _ _ h12⟩
theorem xu (hm:P.follows .mixedOrders=true)(hT:bC P T)(hg:gen T=false:=by rfl):∀(c:Ctx) (R:Real) (s:AS) (a:Act) (w:World) (id:Nat) (ops:Array Oper) (K:Exit→AS→Prop) (ro:Option Nat),aR c R s a w→kL c.n ops.toList=true →
  VC P T (.region id ops true) s K→(Code.region id ops true).wpIn (W1 ro) 0 P (fun e a' w'=>∃R' s',K e s'∧aR c R' s' a' w') a w:=by
 intro c R s a w id ops K ro g hd h;simp only[VC] at h;obtain⟨tm,nx,hp⟩:=s;simp only at h;split at h;rotate_left;cases h
 rename_i hb;have hb:=Nat.le_of_ble_eq_true hb;obtain⟨wT,wH,es,Vq,Nl,l1,l2,l3,⟨RA,hK⟩,hf,hf',hall⟩:=EI (c:=c) hT hg ops.toList 0 h;simp only[List.append_nil,List.reverse_reverse] at RA;have g0:aR c R ⟨tm,nx,hp⟩ a { w with drawn:=w.drawn+1 }:=g.drawn _;have hfalse:(fun k=>(Array.replicate ops.size false).getD k false)=fun _=>false:=by
  funext k
  simp only[Array.getD_eq_getD_getElem?,Array.getElem?_replicate];split<;>rfl
 refine wpIn_region_any hm (any_ok (hall:=fun k o hk=>by
  have:=hall k o hk;rwa [Nat.zero_add] at this) (by simpa using l1) (by simpa using l2) RA (by simpa using hb) hd ro ?_ ops.size _ R a _ (by simp) ?_ ?_ ?_)
 ·intro R' a' w' g';exact⟨R',_,hK,g'.congr hf hf'⟩
 ·intro k o hk hS;have:=congrFun hfalse k;rw[hfalse] at hS;cases hS
 ·simp
 rw[hfalse,ku,ku];exact g0
end
section
variable {P:Program}{T:Tab}
theorem PC.mono {f:FuncId}{args:List PV}{Q Q':PV→Prop}(h:PC P f args Q)(hq:∀r,Q r→Q' r):PC P f args Q':=
 ⟨h.1,fun F w bG hF ha=>(h.2 F w bG hF ha).mono fun e w' ⟨v,r,a,b,c,d⟩=>⟨v,r,a,hq r b,c,d⟩⟩
theorem PC.le {f:FuncId}{args:List PV}{r:PV}(h:PC P f args fun x=>Nq x r):dH P f args r:=
 ⟨h.1,fun F w bG hF ha=>(h.2 F w bG hF ha).mono fun e w' ⟨v,x,a,b,c,d⟩=>⟨v,r,a,rfl,kC (fun _ h=>h) _ _ _ b c,d⟩⟩
theorem ai {f:FuncId}{args vV:List PV}{r:PV}(h:dH P f vV r)(e:uP args vV):dH P f args r:=
 ⟨h.1,fun F w bG hF ha=>h.2 F w bG hF (lS (fun _ h=>h) _ _ _ e ha)⟩
def Vz (args:List AV)(hp:List (Nat×av))(vV:List AV)(dY:List (Nat×av)):Prop:=
 match Ih hp with
 | ρ0=>match mt hp dY 1000 ρ0 (iJ hp dY ρ0 (pairs args vV [])) with
   | some ρ=>match yJ ρ hp dY with
     |true=>Ak ρ hp dY (Aj ρ args vV)
     |false=>False
   |none=>False
theorem aW {f:FuncId}{args vV:List AV}{hp dY:List (Nat×av)}{r:AV}{hp':List (Nat×av)}(h:gY P f vV dY r hp')(e:Vz args hp vV dY):gY P f args hp r hp':=by
 refine⟨h.1,fun c R w bG hh ha=>?_⟩;simp only[Vz] at e;split at e
 ·rename_i ρ _;split at e
  ·rename_i hf;have H:=CW hf e;exact h.2 c (j3 ρ R) w bG (hh.weaken H) (kU H _ _ _ (pI e) ha)
  exact e.elim
 exact e.elim
theorem Ny {N:Nat→Prop}{w:World}{st:Nat}{rows:List (List PV)}{v:Value}(h:aU N w (.sl false st rows) v) :
  aU N w (.sl true st rows) v∨(rows=[]∧aU N w (.sc (.slice none 0 0)) v):=by
 simp only[aU] at h ⊢;obtain⟨p,len,cap,rfl,h2,h3,h4,h5⟩:=h;cases p with
 | none=>
   obtain⟨_,h6⟩:=h4 rfl;subst h6;have:len=0:=by omega
   subst this;exact .inr ⟨List.eq_nil_of_length_eq_zero h2.symm,rfl⟩
 |some a=>exact .inl ⟨some a,len,cap,rfl,h2,h3,fun h=>(by cases h),h5⟩
theorem JK {N:Nat→Prop}{w:World}{st:Nat}{rows:List (List PV)}{b:List PV}:∀{a:List PV} {vs:List Value},cZ N w (a ++ .sl false st rows::b) vs →
  cZ N w (a ++ .sl true st rows::b) vs∨(rows=[]∧cZ N w (a ++ .sc (.slice none 0 0)::b) vs)
 | [],vs,h=>by
   simp only[List.nil_append,cZ] at h ⊢;obtain⟨v,r,e,h1,h2⟩:=h;rcases Ny h1 with h1|⟨h0,h1⟩
   ·exact .inl ⟨v,r,e,h1,h2⟩
   exact .inr ⟨h0,v,r,e,h1,h2⟩
 | x::a,vs,h=>by
   simp only[List.cons_append,cZ] at h ⊢;obtain⟨v,r,e,h1,h2⟩:=h;rcases JK h2 with h2|⟨h0,h2⟩
   ·exact .inl ⟨v,r,e,h1,h2⟩
   exact .inr ⟨h0,v,r,e,h1,h2⟩
theorem VA {f:FuncId}(a:List PV){b:List PV}{st:Nat}{rows:List (List PV)}{Q:PV→Prop}(h1:PC P f (a ++ .sl true st rows::b) Q)
  (h2:rows=[]→PC P f (a ++ .sc (.slice none 0 0)::b) Q):PC P f (a ++ .sl false st rows::b) Q:=
 ⟨h1.1,fun F w bG hF ha=>by
  rcases JK ha with h|⟨h0,h⟩
  ·exact h1.2 F w bG hF h
  exact (h2 h0).2 F w bG hF h⟩
theorem EW {N:Nat→Prop}{w:World}{hp:List (Nat×av)}{R:Real}{st:Nat}{rows:List (List PV)}{b:List AV}:∀{a:List AV} {vs:List Value},bB N w hp R (a ++ .pv (.sl false st rows)::b) vs →
  bB N w hp R (a ++ .pv (.sl true st rows)::b) vs∨(rows=[]∧bB N w hp R (a ++ .pv (.sc (.slice none 0 0))::b) vs)
 | [],vs,h=>by
   simp only[List.nil_append,bB] at h ⊢;obtain⟨v,r,e,h1,h2⟩:=h;simp only[ah] at h1 ⊢;rcases Ny h1 with h1|⟨h0,h1⟩
   ·exact .inl ⟨v,r,e,h1,h2⟩
   exact .inr ⟨h0,v,r,e,h1,h2⟩
 | x::a,vs,h=>by
   simp only[List.cons_append,bB] at h ⊢;obtain⟨v,r,e,h1,h2⟩:=h;rcases EW h2 with h2|⟨h0,h2⟩
   ·exact .inl ⟨v,r,e,h1,h2⟩
   exact .inr ⟨h0,v,r,e,h1,h2⟩
theorem Nz {f:FuncId}(a:List AV){b:List AV}{hp:List (Nat×av)}{st:Nat}{rows:List (List PV)}{Q:AV→List (Nat×av)→Prop}(h1:GC P f (a ++ .pv (.sl true st rows)::b) hp Q)
  (h2:rows=[]→GC P f (a ++ .pv (.sc (.slice none 0 0))::b) hp Q):GC P f (a ++ .pv (.sl false st rows)::b) hp Q:=
 ⟨h1.1,fun c R w bG hh ha=>by
  rcases EW ha with h|⟨h0,h⟩
  ·exact h1.2 c R w bG hh h
  exact (h2 h0).2 c R w bG hh h⟩
mutual
def wV:PV→Prop
 |.sl _ _ rows=>rows.length≤9223372036854775807
 |.agg cs=>Br cs
 |_=>True
def Br:List PV→Prop
 |[]=>True
 |p::r=>wV p∧Br r
end
mutual
theorem NA {N:Nat→Prop}{w:World}:∀(p:PV) (v:Value),aU N w p v→wV p
 | .sl _ _ rows,v,h=>by
   simp only[aU] at h;obtain⟨p,len,cap,_,h2,h3,_⟩:=h;simp only[wV];omega
 | .agg cs,v,h=>by
   simp only[aU] at h;obtain⟨vs,_,h⟩:=h;simp only[wV];exact NC cs _ h
 |.sc _,_,_=>by simp only[wV]
 |.fF _,_,_=>by simp only[wV]
 |.bT _ _,_,_=>by simp only[wV]
 |.fn _ _ _,_,_=>by simp only[wV]
 |.junk,_,_=>by simp only[wV]
 |.Gw _ _,_,_=>by simp only[wV]
theorem NC {N:Nat→Prop}{w:World}:∀(ps:List PV) (vs:List Value),fG N w ps vs→Br ps
 |[],_,_=>trivial
 | p::ps,vs,h=>by
   simp only[fG] at h;obtain⟨v,r,_,_,h1,h2⟩:=h;exact⟨NA p v h1,NC ps r h2⟩
end
theorem ND {N:Nat→Prop}{w:World}:∀(ps:List PV) (vs:List Value),cZ N w ps vs→Br ps
 |[],_,_=>trivial
 | p::ps,vs,h=>by
   simp only[cZ] at h;obtain⟨v,r,_,h1,h2⟩:=h;exact⟨NA p v h1,ND ps r h2⟩
theorem bE.enters {f:FuncId}{fn:Func}(h:bE P f fn):Enters P f:=⟨fn,h.func,h.body,h.name⟩
theorem jN {f:FuncId}{fn:Func}(he:bE P f fn){args:List PV}{Q:PV→Prop}(h:Br args→PC P f args Q):PC P f args Q:=
 ⟨he.enters,fun F w bG hF ha=>(h (ND args _ ha)).2 F w bG hF ha⟩
theorem eD {α:Type}(f:α→List PV)(l:List α)(k:Nat)(h:k<l.length):(l.map f)[((k:Nat):Int).toNat]? = some (f l[k]):=by
 simp[h]
theorem La {α:Type}(f:α→List PV)(l:List α){i:Int}{k:Nat}(e:i=(k:Int))(h:k<l.length):(l.map f)[i.toNat]? = some (f l[k]):=by
 subst e;simp[h]
theorem dec_lt {k n:Nat}(h:k<n):n-(k+1)<n-k:=by omega
theorem lU {n:Int}(h0:0≤n)(h:n≤18446744073709551615):IntKind.u64.wrap n=n:=by
 simp[IntKind.wrap,IntKind.bits,IntKind.signed];omega
theorem bI {n:Int}(h0 : -9223372036854775808≤n)(h:n≤9223372036854775807):IntKind.i64.wrap n=n:=by
 simp[IntKind.wrap,IntKind.bits,IntKind.signed];omega
end
theorem fk {b:Bool}{p q:Prop}(h:b=true→p)(k:b=false→q):(b=true→p)∧(b=false→q):=⟨h,k⟩
theorem lr (l:List (List PV)):fC l l:=bH l
theorem aO {P:Program}{T:Tab}{c:Code}{s:AS}{K:Exit→AS→Prop}{X:Prop}(h:VC P T c s K):VC P T c s K∨X:=Or.inl h
theorem aX {a b c:Prop}(h:a):(a∨b)∨c:=.inl (.inl h)
theorem dV {a b c:Prop}(h:b):(a∨b)∨c:=.inl (.inr h)
theorem znb {m n:Nat}(h:Nat.ble m n=true):m≤n:=Nat.le_of_ble_eq_true h
theorem tF {α:Type}{a:α}{l:List α}:(a::l).length=l.length+1:=rfl
theorem uX {α:Type}:([]:List α).length=0:=rfl
theorem jg {α β:Type}{f:α→β}{l:List α}:(l.map f).length=l.length:=List.length_map ..
theorem JL {α:Type}{a b:List α}:(a++b).length=a.length+b.length:=List.length_append
theorem l9 {p:Prop}[Decidable p]:(decide p=true)=p:=decide_eq_true_eq
theorem Gu {p:Prop}[Decidable p]:(decide p=false)=¬p:=propext decide_eq_false_iff_not
theorem aL {p:Prop}(h:p:=by (repeat' first|(with_reducible first|exact⟨⟩|exact rfl|exact lr _)|((conv=>whnf);with_reducible first|apply And.intro|exact⟨⟩)|exact rfl|exact fun h=>h|exact lr _)<;>fail):p:=h
theorem aZ {p:Prop}(h:p:=by (repeat' first|(with_reducible first|exact⟨⟩|exact rfl|exact lr _)|((conv=>whnf);with_reducible first|apply And.intro|exact⟨⟩)|exact rfl|exact fun h=>h|assumption|exact lr _)<;>fail):p:=h
theorem bQ {p:Prop}(h:False:=by first|exact absurd hc (by decide)|(simp only[*,reduceCtorEq] at hc<;>fail)):p:=h.elim
theorem cu {p:Prop}(h:False:=by first|exact absurd hc (by decide)|(simp only[*,reduceCtorEq,Bool.not_true,Bool.not_false] at hc<;>fail)):p:=h.elim
theorem zx5 {p:Prop}(h:p:=by first|rfl|exact znb rfl|omega|(simp only[tF,uX,jg,JL];omega)):p:=h
theorem zx7 {p:Prop}(h:p:=by focus (simp only[List.length_map];omega)):p:=h
theorem aP {p q:Prop}(h:q)(k:p:=by first|rfl|exact znb rfl|omega|(simp only[tF,uX,jg,JL];omega)):p∧q:=⟨k,h⟩
theorem UJ {p q:Prop}(h:q)(k:p:=by (simp only[List.length_map];omega)):p∧q:=⟨k,h⟩
theorem XM {α β:Type}{f:α→β}{a:α}{l:List α}:(a::l).map f=f a::l.map f:=rfl
theorem zmn {α β:Type}{f:α→β}:([]:List α).map f=[]:=rfl
theorem zca {α:Type}{a:α}{l m:List α}:(a::l)++m=a::(l++m):=rfl
theorem zna {α:Type}{l:List α}:[]++l=l:=rfl
theorem zma {α β:Type}{f:α→β}{a b:List α}:(a++b).map f=a.map f++b.map f:=List.map_append
theorem zx8 {p:Prop}(h:p:=by simp only[List.length_set,Yl,Array.size_setIfInBounds,size_swp];omega):p:=h
theorem eZ {P:Program}{f:FuncId}{fn:Func}(h:P.funcs[f]? = some fn)(k:(fn.body.isSome&&(!(fn.name == "runtime.NumGoroutine")&&codeOk fn.ntmps (codeOf fn)))=true:=by kernel_rfl):bE P f fn:=by
 simp only[Bool.and_eq_true,Bool.not_eq_true'] at k;exact⟨h,k.1,k.2.1,k.2.2⟩
end Go.AX
end
section
universe u
variable {α:Type}
namespace Go.AX
abbrev uu (n:Int):PV:=.sc (.int .u64 n)
abbrev ii (n:Int):PV:=.sc (.int .i64 n)
abbrev bl (b:Bool):PV:=.sc (.bool b)
abbrev bK:PV:=.sc (.slice none 0 0)
abbrev unit:PV:=.fF []
structure Pl where
 node:Int
 aM:Int
deriving DecidableEq,Inhabited
def Pl.c (x:Pl):List PV:=[ii x.node,uu x.aM]
def iX (l:List Pl):PV:=.sl false 2 (l.map Pl.c)
structure Fr where
 first:Int
 ak:List Pl
deriving DecidableEq,Inhabited
def Fr.c (f:Fr):List PV:=[uu f.first,iX f.ak]
def gH (l:List Fr):PV:=.sl false 2 (l.map Fr.c)
structure Lg where
 id:Int
 w:Int
 a:Int
 au:List Fr
 closed:Int
 last:Int
deriving DecidableEq,Inhabited
def Lg.c (l:Lg):List PV:=[uu l.id,ii l.w,ii l.a,gH l.au,ii l.closed,uu l.last]
def xC (l:List UInt8):PV:=.sl false 1 (l.map aB)
structure Ft where
 bO:Int
 n:Int
 set:List Pl
 at_:Int
 since:Int
 tag:Int
 done:Int
 body:List UInt8
deriving DecidableEq,Inhabited
def Ft.c (f:Ft):List PV:=[uu f.bO,uu f.n,iX f.set,ii f.at_,uu f.since,uu f.tag,ii f.done,xC f.body]
structure Rq where
 to:Pl
 kind:Int
 bO:Int
 n:Int
 dz:Int
 sure:Int
 copy:Int
 body:List UInt8
 keep:List Int
deriving DecidableEq,Inhabited
def Iq (n:Int):List PV:=[uu n]
def xD (l:List Int):PV:=.sl false 1 (l.map Iq)
def Rq.c (r:Rq):List PV:=[ii r.to.node,uu r.to.aM,ii r.kind,uu r.bO,uu r.n,uu r.dz,uu r.sure,ii r.copy,xC r.body,xD r.keep]
def BG (l:List Rq):PV:=.sl false 10 (l.map Rq.c)
structure Rs where
 from_:Pl
 kind:Int
 code:Int
 bO:Int
 n:Int
 dz:Int
 sure:Int
 body:List UInt8
deriving DecidableEq,Inhabited
def Rs.c (r:Rs):List PV:=[ii r.from_.node,uu r.from_.aM,ii r.kind,ii r.code,uu r.bO,uu r.n,uu r.dz,uu r.sure,xC r.body]
def BH {α:Type}(p:α→Bool):List α→Int
 |[]=>-1
 | x::r=>match p x with
   |true=>0
   | false=>match BH p r with
     |.ofNat n=>n+1
     |.negSucc _=>-1
theorem mY {α:Type}(p:α→Bool):∀{l:List α},(∀x∈l,p x=false)→BH p l = -1
 |[],_=>rfl
 | x::r,h=>by
   have e:=mY p (l:=r) fun y hy=>h y (by simp[hy])
   simp only[BH,h x (by simp),e];rfl
theorem Db {α:Type}(p:α→Bool):∀{l:List α} {k:Nat} (hk:k<l.length),(∀j (hj:j<l.length),j<k→p l[j]=false)→p l[k]=true→BH p l=k
 |[],k,hk,_,_=>by simp at hk
 | x::r,0,_,_,h=>by
   simp only[List.getElem_cons_zero] at h;simp[BH,h]
 | x::r,k+1,hk,h,h'=>by
   have h0:=h 0 (by simp) (by omega);simp only[List.getElem_cons_zero] at h0;simp only[List.getElem_cons_succ] at h';have:=Db p (l:=r) (k:=k) (by simpa using hk) (fun j hj hlt=>by
    have:=h (j+1) (by simpa using hj) (by omega);simpa using this) h'
   simp only[BH,h0,this];show ((k:Int)+1=_)
   omega
theorem tN {α:Type}(p:α→Bool):∀(l:List α),(BH p l = -1∧∀x∈l,p x=false)∨∃k,∃hk:k<l.length,BH p l=(k:Nat)∧p l[k]=true∧∀j (hj:j<l.length),j<k→p l[j]=false
 |[]=>.inl ⟨rfl,by simp⟩
 | x::r=>by
   cases hx:p x with
   | true=>
     refine .inr ⟨0,by simp,?_,by simpa using hx,by simp⟩;simp[BH,hx]
   | false=>
     rcases tN p r with ⟨h1,h2⟩|⟨k,hk,h1,h2,h3⟩
     ·refine .inl ⟨?_,?_⟩
      ·simp only[BH,hx,h1];rfl
      intro y hy;rcases List.mem_cons.1 hy with rfl|hy
      ·exact hx
      exact h2 y hy
     refine .inr ⟨k+1,by simpa using hk,?_,by simpa using h2,?_⟩
     ·simp only[BH,hx,h1];show ((k:Int)+1=_)
      omega
     intro j hj hlt;cases j with
     |zero=>simpa using hx
     |succ j=>simpa using h3 j (by simpa using hj) (by omega)
theorem Ir {α:Type}(p:α→Bool)(l:List α):decide (BH p l≥0)=l.any p:=by
 rw[Bool.eq_iff_iff];simp only[decide_eq_true_eq,List.any_eq_true];rcases tN p l with ⟨h1,h2⟩|⟨k,hk,h1,h2,h3⟩
 ·rw[h1];constructor
  ·intro h;omega
  rintro⟨x,hx,hp⟩;rw[h2 x hx] at hp;cases hp
 rw[h1];exact⟨fun _=>⟨l[k],List.getElem_mem hk,h2⟩,fun _=>by omega⟩
theorem Pl.eta (x:Pl):(⟨x.node,x.aM⟩:Pl)=x:=rfl
theorem Pl.beq (x y:Pl):((x.node==y.node)&&(x.aM==y.aM))=(x==y):=by
 rw[Bool.eq_iff_iff];simp only[Bool.and_eq_true,beq_iff_eq];cases x;cases y;simp
theorem Pl.VN (x:Pl)(a b:Int):((a==x.node)&&(b==x.aM))=(x==⟨a,b⟩):=by
 rw[Bool.eq_iff_iff];simp only[Bool.and_eq_true,beq_iff_eq];cases x;simp;omega
theorem Pl.VO (x:Pl)(a b:Int):((x.node==a)&&(x.aM==b))=(x==⟨a,b⟩):=by
 rw[Bool.eq_iff_iff];simp only[Bool.and_eq_true,beq_iff_eq];cases x;simp
theorem eX {k:Nat}{l:List α}{q:(j:Nat)→j<l.length→Prop}(h:∀j (hj:j<l.length),j<k→q j hj)(hk:∀(hj:k<l.length),q k hj):∀j (hj:j<l.length),j<k+1→q j hj:=by
 intro j hj hjk;rcases Nat.lt_succ_iff_lt_or_eq.1 hjk with hj'|rfl
 ·exact h j hj hj'
 exact hk hj
theorem u7 {l:List α}{q:α→Prop}(h:∀j (hj:j<l.length),j<l.length→q l[j]):∀x∈l,q x:=by
 intro x hx;obtain⟨j,hj,rfl⟩:=List.getElem_of_mem hx;exact h j hj hj
end Go.AX
end
section
namespace Go.AX
def N0:Nat→Prop:=fun _=>False
def Rd (P:Program)(w:World)(t:TypeId)(n:Nat)(Q:List PV→Prop):Prop:=
 P.cellsOf t=n∧∀(H:Type) (enc:TypeId×Value→H) (base:Nat) (spare:Nat→Bool) (held:Bool) (fuel:Nat) (cs:List Value) (x:DataW H×List MemPlace),
  DataW.trod enc P w base spare held fuel t cs=some x→∃row,row.length=n∧fG N0 w row cs∧Q row
section
variable {P:Program}{w:World}{t e:TypeId}{n:Nat}{Q Q':List PV→Prop}
theorem Rd.imp (h:Rd P w t n Q)(hq:∀row,row.length=n→Q row→Q' row):Rd P w t n Q':=
 ⟨h.1,fun H enc base spare held fuel cs x hx=>by
  obtain⟨row,h1,h2,h3⟩:=h.2 H enc base spare held fuel cs x hx;exact⟨row,h1,h2,hq row h1 h3⟩⟩
theorem Ij {k:IntKind}(hu:P.underlying t=some (.int k))(hc:P.cellsOf t=1):Rd P w t 1 (fun row=>∃i,row=[.sc (.int k i)]∧(Lit.int k i).wf=true):=
 ⟨hc,fun H enc base spare held fuel cs x hx=>by
  obtain⟨i,rfl,_,hw⟩:=DataW.trod_int hu hx;exact⟨[.sc (.int k i)],rfl,⟨_,_,rfl,rfl,by simp only[aU],by simp only[fG]⟩,i,rfl,hw⟩⟩
theorem CY {N:Nat→Prop}{st:Nat}:∀{rows:List (List PV)} {vs:List Value},(∀i (h:i<rows.length),rows[i].length=st∧dM N w rows[i] (vs.drop (i*st)))→bf N w st rows vs
 |[],vs,_=>by simp only[bf]
 | r::rows,vs,h=>by
   have h0:=h 0 (by simp);simp only[List.getElem_cons_zero,Nat.zero_mul,List.drop_zero] at h0;refine⟨h0.1,h0.2,CY fun i hi=>?_⟩;have:=h (i+1) (by simpa using hi);simp only[List.getElem_cons_succ] at this;rw[List.drop_drop,show st+i*st=(i+1)*st from by rw[Nat.add_mul];omega];exact this
theorem yS (hu:P.underlying t=some (.slice e))(hc:P.cellsOf t=1)(hn:0<n)(he:Rd P w e n Q):Rd P w t 1 (fun row=>∃rows,row=[.sl false n rows]∧∀r∈rows,r.length=n∧Q r):=
 ⟨hc,fun H enc base spare held fuel cs x hx=>by
  rcases Deep.open_slice hu hx with ⟨rfl,_⟩|⟨a,len,cap,m,fu,D,Pl,rfl,hb,hl,hm,XP,_,hel⟩
  ·refine⟨[.sl false n []],rfl,⟨_,_,rfl,rfl,?_,by simp only[fG]⟩,[],rfl,by simp⟩;simp only[aU];exact⟨none,0,0,rfl,rfl,⟨Nat.le_refl _,by omega⟩,fun _=>(by simp),fun a ha=>(by cases ha)⟩
  have hlm:len≤m:=by rw[XP];split<;>omega
  have ex:∀i,i<len→∃row:List PV,row.length=n∧Q row∧∃xA,xA.length=n∧(∀j,j<n→w.cell? ((a.add (i*n)).add j)=xA[j]?)∧fG N0 w row xA:=by
   intro i hi;obtain⟨xA,h1,h2⟩:=hel i (by omega);rw[he.1] at h1;obtain⟨row,q1,q2,q3⟩:=he.2 H enc base spare held _ _ _ h2;obtain⟨_,h3,h4⟩:=World.cells?_some h1;exact⟨row,q1,q3,xA,h3,h4,q2⟩
  have ⟨f,hf⟩:∃f:Nat→List PV,∀i,i<len→(f i).length=n∧Q (f i)∧∃xA,xA.length=n∧(∀j,j<n→w.cell? ((a.add (i*n)).add j)=xA[j]?)∧fG N0 w (f i) xA:=by
   refine⟨fun i=>if h:i<len then (ex i h).choose else [],fun i hi=>?_⟩;simp only[hi,dif_pos];exact (ex i hi).choose_spec
  refine⟨[.sl false n ((List.range len).map f)],rfl,⟨_,_,rfl,rfl,?_,by simp only[fG]⟩,_,rfl,?_⟩
  ·simp only[aU];refine⟨some a,len,cap,rfl,by simp,⟨hl,by unfold maxLen at hm;omega⟩,fun h=>(by cases h),fun a' ha=>?_⟩;simp only[Option.some.injEq] at ha;subst ha;by_cases h0:len=0
   ·subst h0;exact .inl rfl
   right
   have Tg:=(hf 0 (by omega)).2.2;obtain⟨xA,h1,h2,_⟩:=Tg;have h2:=h2 0 hn;simp only[Nat.zero_mul] at h2;have hcell:(w.cell? ((a.add 0).add 0)).isSome=true:=by rw[h2];simp;omega
   have e0:(a.add 0).add 0=a:=by simp[Addr.add]
   rw[e0] at hcell;obtain⟨blk,off,spot⟩:=a;unfold World.cell? at hcell;simp only at hcell;split at hcell
   ·rename_i cur ty fr hg;have hs:spot=none:=by
     cases spot with
     |none=>rfl
     |some _=>simp at hcell
    subst hs;refine⟨rfl,id,cur,ty,fr,hg,CY fun i hi=>?_⟩;simp only[List.length_map,List.length_range] at hi;simp only[List.getElem_map,List.getElem_range];obtain⟨q1,q2,xA,q3,q4,q5⟩:=hf i hi;refine⟨q1,?_⟩;rw[dX] at q5;rw[bM];have e1:xA=((cur.toList.drop off).drop (i*n)).take n:=by
     apply List.ext_getElem?;intro j;by_cases hj:j<n
     ·rw[←q4 j hj,addr_add,addr_add];simp only[World.cell?,hg,List.getElem?_take,hj,if_true,List.getElem?_drop,Option.isSome_none,Bool.false_eq_true,if_false];rw[←Nat.add_assoc,Array.getElem?_toList]
     rw[List.getElem?_eq_none (by omega),List.getElem?_eq_none (by simp;omega)]
    have:=q5.fp.app (((cur.toList.drop off).drop (i*n)).drop n);rw[e1,List.take_append_drop] at this;exact this
   simp at hcell
  intro r hr;obtain⟨i,hi,rfl⟩:=List.mem_map.1 hr;simp only[List.mem_range] at hi;exact⟨(hf i hi).1,(hf i hi).2.1⟩⟩
def QF:List (Nat×(List PV→Prop))→List PV→Prop
 |[],row=>row=[]
 |(n,Q)::r,row=>∃a b,row=a++b∧a.length=n∧Q a∧QF r b
def RG:List (Nat×(List PV→Prop))→Nat
 |[]=>0
 |(n,_)::r=>n+RG r
def Yn (P:Program)(w:World):Nat→List Field→List (Nat×(List PV→Prop))→Prop
 |_,[],[]=>True
 |off,f::fs,(n,Q)::r=>f.offset=off∧Rd P w f.type n Q∧Yn P w (off+n) fs r
 |_,_,_=>False
theorem NF {α:Type}{R:α→Value→Prop}:∀{l l':List α} {m m':List Value},FC R l m→FC R l' m'→FC R (l++l') (m++m')
 |[],l',m,m',h,h'=>by simp only[FC] at h;subst h;exact h'
 |p::ps,l',m,m',h,h'=>by obtain⟨v,r,rfl,h1,h2,h3⟩:=h;exact⟨v,r++m',rfl,h1,h2,NF h3 h'⟩
theorem Bt {H:Type}{enc:TypeId×Value→H}{base:Nat}{spare:Nat→Bool}{held:Bool}{fu:Nat}{cs:List Value}:∀{fs:List Field} {sp:List (Nat×(List PV→Prop))} {off:Nat},
  Yn P w off fs sp→(∀f∈fs,∃y,DataW.trod enc P w base spare held fu f.type ((cs.drop f.offset).take (P.cellsOf f.type))=some y)→cs.length=off+RG sp →
  ∃row,row.length=RG sp∧fG N0 w row (cs.drop off)∧QF sp row
 | [],[],off,_,_,hl=>by
   refine⟨[],rfl,?_,rfl⟩;simp only[fG];exact List.drop_eq_nil_of_le (by simp only[RG] at hl;omega)
 |[],_::_,_,h,_,_=>h.elim
 |_::_,[],_,h,_,_=>h.elim
 | f::fs,(n,Q)::r,off,h,hx,hl=>by
   obtain⟨rfl,h1,h2⟩:=h;obtain⟨y,hy⟩:=hx f (by simp);obtain⟨a,a1,a2,a3⟩:=h1.2 H enc base spare held _ _ _ hy;rw[h1.1] at a2;obtain⟨b,b1,b2,b3⟩:=Bt h2 (fun g hg=>hx g (by simp[hg])) (by simp only[RG] at hl;omega);refine⟨a++b,by simp only[List.length_append,RG];omega,?_,a,b,rfl,a1,a3,b3⟩;rw[dX] at a2 b2 ⊢;have:=NF a2 b2;rw[show cs.drop (f.offset+n)=(cs.drop f.offset).drop n from by rw[List.drop_drop],List.take_append_drop] at this;exact this
theorem mW {fs:Array Field}{sp:List (Nat×(List PV→Prop))}(hu:P.underlying t=some (.struct fs))(hc:P.cellsOf t=RG sp)(hf:Yn P w 0 fs.toList sp):Rd P w t (RG sp) (QF sp):=
 ⟨hc,fun H enc base spare held fuel cs x hx=>by
  obtain⟨xs,fu,rfl,_,hl,hlen,hel⟩:=DataW.trod_struct hu hx;have:=Bt (H:=H) (enc:=enc) (base:=base) (spare:=spare) (held:=held) (fu:=fu) (cs:=cs) hf (fun f hf=>by
   obtain⟨i,hi,rfl⟩:=List.getElem_of_mem hf;simp only[Array.length_toList] at hi;refine⟨xs[i]'(by omega),?_⟩;rw[hel i _ (by simp[hi])];simp) (by omega)
  simpa using this⟩
theorem Am {H:Reach}{base:Nat}{v:Value}(hu:(match P.underlying t with|some (.struct _)=>false|some (.array _ _)=>false|some .bool=>true|some (.int _)=>true|some .string=>true|some (.slice _)=>true|_=>false)=true)
  (h:Value.okWide P w H base t v):∀cs,v ≠ .agg cs:=by
 rintro cs rfl
 unfold Value.okWide at h;split at h
 ·rename_i e;rw[e] at hu;simp at hu
 ·rename_i e;rw[e] at hu;simp at hu
 unfold Cell.okWide at h;split at h<;>simp_all [Cell.ok]
theorem Qf {H:Type}{enc:TypeId×Value→H}{base:Nat}{spare:Nat→Bool}{held:Bool}{v:Value}{d:DataW H}{ps:List MemPlace}(hr:Rd P w t 1 Q)(hv:∀cs,v ≠ .agg cs)
  (h:DataW.Trod enc P w base spare held t v d ps):∃p,Q [p]∧aU N0 w p v:=by
 obtain⟨fuel,h⟩:=h;have e:v.cells = #[v]:=by cases v<;>first|rfl|exact absurd rfl (hv _)
 rw[e] at h;obtain⟨row,h1,h2,h3⟩:=hr.2 _ _ _ _ _ _ _ _ h;match row,h1 with
 | [p],_=>
   obtain⟨x,r,hx,_,hp,_⟩:=h2;simp only[List.cons.injEq] at hx;obtain⟨rfl,_⟩:=hx;exact⟨p,h3,hp⟩
theorem CZ {H:Type}{enc:TypeId×Value→H}{base VD:Nat}{r:Reach}{spare:Nat→Bool}{held:Bool}{v:Value}{d:DataW H}{ps:List MemPlace}{fs:Array Field}(hu:P.underlying t=some (.struct fs))(hr:Rd P w t n Q)
  (hv:Value.okWide P w r VD t v) (h:DataW.Trod enc P w base spare held t v d ps):∃row,Q row∧aU N0 w (.agg row) v:=by
 obtain⟨fuel,h⟩:=h;have ⟨cs,e⟩:∃cs,v=.agg cs:=by
  unfold Value.okWide at hv;rw[hu] at hv;obtain⟨cs,e,_⟩:=hv;exact⟨cs,e⟩
 subst e;obtain⟨row,h1,h2,h3⟩:=hr.2 _ _ _ _ _ _ _ _ h;exact⟨row,h3,by simp only[aU];exact⟨cs,rfl,h2⟩⟩
end
end Go.AX
end
