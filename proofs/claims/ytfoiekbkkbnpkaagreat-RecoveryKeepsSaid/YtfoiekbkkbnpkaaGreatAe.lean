/-
  Conditions: none. A framework for walks: abstract values, memory, and conditions that suffice; the chapters in plain terms.
-/
import Derived.Test.YtfoiekbkkbnpkaaGreatAd
import Derived.Deep.LoopGhost
import Derived.Deep.Slices
import Derived.Carry
set_option linter.unusedSectionVars false
set_option linter.unusedVariables false
set_option linter.unusedSimpArgs false
section
namespace Go.AX
theorem WH {P:Program}{c:Ctx}{R:Real}{s:AS}{a:Act}{w:World}{ro:Option Nat}(g:bG c R s a w)(hro:Ou c ro)
  {go:Operand} {ps:Array Tmp} {NR KW:Code} {f:FuncId} {bF:List PV} {xs:List (List PV)}  (hs:abh P f bF xs)
  (hps:∀t∈ps.toList,t<c.n) {ι:Type} {st:Nat→ι→AS} (hgo:∀i,jE (st 0 i).tm go=some (.pv (.fn (.func f) [] bF))) (h0:∃i,uQ s (st 0 i)) (hlow:∀k i,GV (st k i).tm=true) {K:Exit→AS→Prop} {A:Nat→ι→List PV→AS→Prop}
  (aeY:∀(l:Nat) (c':Ctx) (k:Nat) (i:ι) (x:List PV) (tm:List (Nat×AV)) (R:Real) (a:Act) (w:World),c'.n=c.n→Ou c' (some l)→xs[k]? = some x→WE ps.toList x (st k i).tm=some tm →
   bG c' R ⟨tm,(st k i).nx,(st k i).hp⟩ a w→NR.wpIn (W1 (some l)) 0 P (Exit.then (fun a1 w1=>∃R1 s1,A k i x s1∧bG c' R1 s1 a1 w1) (fun _ _ _=>False)) a w)
  (aeZ:∀(l:Nat) (c':Ctx) (k:Nat) (i:ι) (x:List PV) (s1:AS) (R:Real) (a:Act) (w:World),c'.n=c.n→Ou c' (some l)→xs[k]? = some x→A k i x s1 →
   bG c' R s1 a w→KW.wpIn (W1 (some l)) 0 P (fun e a' w'=>∃R' s',rfK (st k i).tm (fun s''=>∃j,uQ s'' (st (k+1) j)) K e s'∧bG c' R' s' a' w') a w)
  (ae0:∀k i x,xs[k]? = some x→∃tm,WE ps.toList x (st k i).tm=some tm) (hend:∀i,K .normal (st xs.length i)) :
  (Code.rangeFunc go ps NR KW).wpIn (W1 ro) 0 P (fun e a' w'=>∃R' s',K e s'∧bG c R' s' a' w') a w:=by
 obtain⟨i0,h0⟩:=h0;obtain⟨R0,g0⟩:=h0 c R a w g;have Td:=vV g0 (hgo i0);obtain⟨Ds,mk0⟩:=g0.marks;refine wpIn_rangeFunc fun fn _=>?_
 have hent:∃(l dfr:Nat) (Dm:List Nat) (W1':World),(Instr.enterLoop fn a.tmps ps NR KW ro).run P w=.ok (l,Dm.map mark) W1' ∧
   (∀r,r<w.heap.size→W1'.heap[r]? = w.heap[r]?)∧w.heap.size≤W1'.heap.size∧(W1'.os=w.os∧W1'.tape=w.tape∧W1'.output=w.output)∧w.heap.size≤l∧l<W1'.heap.size ∧
   W1'.heap[l]? = some (.loop { state:=.ready,pending:=none,fn:=fn,tmps:=a.tmps,params:=ps,assign:=NR,body:=KW,defers:=dfr })∧Dm.Nodup ∧
   (∀d∈Dm,w.heap.size≤d∧W1'.heap[d]? = some (.deferred (some []))∧d≠l):=by
  cases hr:ro with
  | none=>
    refine⟨w.heap.size+1,w.heap.size,[w.heap.size],_,run_enterLoop_outer _ _ _ _ _,fun r hr=>?_,by simp;omega,⟨rfl,rfl,rfl⟩,by omega,by simp,?_,by simp,?_⟩
    ·rw[Go.RowKit.Below.heap_alloc _ _ _ (by simp;omega),Go.RowKit.Below.heap_alloc _ _ _ hr]
    ·have:=World.alloc_heap_new (w.alloc (.deferred (some []))) (.loop { state:=.ready,pending:=none,fn:=fn,tmps:=a.tmps,params:=ps,assign:=NR,body:=KW,defers:=w.heap.size });rwa [World.size_alloc] at this
    intro d hd;simp only[List.mem_singleton] at hd;subst hd;exact⟨Nat.le_refl _,(Go.RowKit.Below.heap_alloc _ _ _ (by simp)).trans (World.alloc_heap_new w _),by omega⟩
  | some l0=>
    obtain⟨r0,hr0⟩:=hro.lp l0 hr;have hl0:=g.fixed.obj l0 _ hr0;refine⟨w.heap.size,r0.defers,[],_,run_enterLoop_inner hl0 _ _ _ _ _,fun r hr=>Go.RowKit.Below.heap_alloc _ _ _ hr,by simp,⟨rfl,rfl,rfl⟩,Nat.le_refl _,by simp,World.alloc_heap_new w _,by simp,by simp⟩
 obtain⟨l,dfr,Dm,W,hrun,hold,hsz,hos,hlw,hlW,ahd,aju,PW⟩:=hent;let UE:LoopState→Option Code→Loop:=fun s p=>{ state:=s,pending:=p,fn:=fn,tmps:=a.tmps,params:=ps,assign:=NR,body:=KW,defers:=dfr }
 simp only[ak,bJ] at Td;obtain⟨fs,cs,hval,hfs,hcs⟩:=Td;simp only[eY] at hfs;have hfs:fs = #[]:=by simpa using hfs
 subst hfs;let ao:Act:={ a with defers:=Dm.map mark++a.defers }
 have hcw:c.w.heap.size≤w.heap.size:=g.jE.size;have YQ:∀r o,c.fix r=some o→r<w.heap.size:=fun r o h=>size_of_getElem? (g.fixed.obj r o h)
 have gT:c.fix l=none:=by
  cases h:c.fix l with
  |none=>rfl
  |some o=>have:=YQ l o h;omega
 have hDs:∀d∈Ds,d<w.heap.size:=fun d hd=>size_of_getElem? (mk0.obj d hd)
 have hlD:l∉Dm++Ds:=by
  intro h;rcases List.mem_append.1 h with h|h
  ·exact (PW l h).2.2 rfl
  have:=hDs l h;omega
 have J6:∀r,owned R0 (st 0 i0).hp r→r<w.heap.size:=fun r ⟨b,h⟩=>g0.kM h
 have kM:∀r,owned R s.hp r→r<w.heap.size:=fun r ⟨b,h⟩=>g.kM h
 have hE:mr (fun _=>False) w W:=⟨hsz,fun r hr _=>hold r hr,hos.1,hos.2.1,hos.2.2⟩;have mkW:Marks c.lo (owned R0 (st 0 i0).hp) W ao.defers (Dm++Ds):=by
  refine⟨fun d hd=>?_,?_,?_,fun d hd=>?_,fun d hd=>?_⟩
  ·rcases List.mem_append.1 hd with h|h
   ·exact Nat.le_trans g.lo.2.2 (PW d h).1
   exact mk0.low d h
  ·simp only[ao,List.map_append,mk0.eq]
  ·rw[List.nodup_append];refine⟨aju,mk0.nodup,fun x hx y hy e=>?_⟩;have h1:=(PW x hx).1;have h2:=hDs y hy;omega
  ·rcases List.mem_append.1 hd with h|h
   ·exact (PW d h).2.1
   rw[hold d (hDs d h)];exact mk0.obj d h
  rcases List.mem_append.1 hd with h|h
  ·exact fun ho=>by have:=J6 d ho;have:=(PW d h).1;omega
  exact mk0.free d h
 have hF0:∀r,r<w.heap.size→cbF c (fun _=>False) l W r→c.F r:=by
  rintro r hr ⟨h,_⟩
  rcases h with h|h|h
  ·exact h
  ·exact h.elim
  omega
 have GW:bG (cb c (fun _=>False) l W) R0 (st 0 i0) ao W:=by
  refine g0.sJ (c2:=cb c (fun _=>False) l W) rfl rfl (fun v y h=>g0.kept v y h) hF0 (fun r o ho _ _=>by rw[hold r (size_of_getElem? ho)];exact ho) hsz hos
   (fun r ho hf=>g0.free r ho (hF0 r (J6 r ho) hf)) (g0.fixed.kept (fun r hr _=>hold r hr) (fun _ _ h=>h)) (mr.refl _ _) (fun r ho=>.inl ?_) ⟨rfl,g.lo.2.1,Nat.le_trans g.lo.2.2 hsz⟩ ⟨_,mkW⟩
  exact g0.iw r ho
 let D0:Nat→Prop:=Dst c l (Dm++Ds) R0 (st 0 i0).hp
 have hD0:∀r,D0 r→r<W.heap.size:=by
  rintro r (h|h|⟨o,h⟩|h|h)
  ·have:=J6 r h;omega
  ·omega
  ·have:=YQ r o h;omega
  ·rcases List.mem_append.1 h with h|h
   ·exact size_of_getElem? (PW r h).2.1
   have:=hDs r h;omega
  have:=c.hF r h;omega
 have hJ0:∃R s,RJ c ao l W.heap.size (Dm++Ds) UE xs st K R s xs false (fun _=>False) D0 W:=
  ⟨R0,st 0 i0,fun r h=>h.elim,Nat.le_refl _,g.jE.trans hE fun _ _ h=>h.elim,fun r=>Iff.rfl,hD0,GW,mkW,fun _=>⟨0,i0,rfl,by simp,Nat.zero_le _,ahd⟩,fun h=>by cases h⟩
 have hY:YH (P,l) W.heap.size fun rest UD Z D wy=>∃R s,RJ c ao l W.heap.size (Dm++Ds) UE xs st K R s rest UD Z D wy:=
  MI (fn:=fn) (dfr:=dfr) (fun _ _=>rfl) (by omega) (by omega) hlD gT hlW (by have:=g.lo.2.1;have:=g.lo.2.2;omega) g.lo.2.1 (by have:=g.lo.2.2;omega) hro.nc hps hlow
   (fun c' k i x tm R a w h1 h2 h3 h4 h5=>aeY l c' k i x tm R a w h1 h2 h3 h4 h5) (fun c' k i x s1 R a w h1 h2 h3 h4 h5=>aeZ l c' k i x s1 R a w h1 h2 h3 h4 h5) ae0
 have hcs':eY D0 W bF cs.toList:=by
  refine pM (N:=aV c R0 (st 0 i0).hp) (w:=w) (fun r cur e fr h hd=>?_) (fun r cur e fr h _=>by rw[hold r (size_of_getElem? h)];exact h) _ _ hcs;have hr:=size_of_getElem? h;rcases hd with hd|hd|⟨o,hd⟩|hd|hd
  ·exact .inr hd
  ·omega
  ·have h1:=g.fixed.obj r o hd;rw[h] at h1;simp only[Option.some.injEq] at h1;have:=hro.nc r o hd;rw[←h1] at this;cases this
  ·rcases List.mem_append.1 hd with hd|hd
   ·have:=(PW r hd).1;omega
   have h1:=mk0.obj r hd;rw[h] at h1;cases h1
  exact .inl hd
 obtain⟨acf,hcall⟩:=hs;obtain⟨fnf,eH,J7,ajv⟩:=acf;have hbn:fnf.body.isNone=false:=by cases uM:fnf.body<;>simp[uM] at J7 ⊢
 have hC:=hcall l _ D0 W cs hY hD0 hJ0 hcs';refine⟨l,Dm.map mark,W,{ target:=.fn (.func f) cs,args:=#[.func (.yield l) #[] #[]] },W,f,#[.func (.yield l) #[] #[]]++cs,W,hrun,?_,fun _ _=>trivial,?_,fun e=>(by cases e),?_⟩
 ·simp only[resolve,hval];simp[Deferred.ofValue,Act.eval]
 ·simp only[invoke,callFunc,run_program,Sem.run_bind,Result.andThen_ok,eH,ajv,hbn];simp
 refine FB (hC.mono ?_);rintro e w3 ⟨⟨v,rfl⟩,rest,UD,Z,D,wy,⟨R5,s5,J⟩,hE5,hdone⟩
 have Dw:D l:=(J.dd l).2 (.inr (.inl rfl));have hZD:∀r,D r→¬Z r:=fun r hd hz=>(J.zz r hz).2.2 hd
 have ajw:c.w.heap.size≤wy.heap.size:=J.jE.size;have hn1:c.w.heap.size≤W.heap.size:=by omega
 have fin:∀(o o':Obj),wy.heap[l]? = some o→o.isCells=false→w3.heap[l]? = some o∧bG c R5 s5 ao (w3.putObj l o'):=by
  intro o o' ho hoc;have hl3:=hE5.keep l o ho (hZD l Dw) (.inr (.inr Dw));refine⟨hl3,?_⟩;have hsz5:wy.heap.size≤(w3.putObj l o').heap.size:=by rw[World.putObj_size];exact hE5.size
  have hFc:∀r,r<wy.heap.size→c.F r→cbF c Z l wy r:=fun r hr h=>⟨.inl h,hr⟩
  have hkeep:∀r o,wy.heap[r]? = some o→(r<W.heap.size∨o.isCells=true∨D r)→¬Z r→r≠l→(w3.putObj l o').heap[r]? = some o:=by
   intro r o hr hc hz hne;rw[World.putObj_heap_other hne];exact hE5.keep r o hr hz hc
  refine J.g.sJ (c2:=c) rfl rfl (fun v y h=>J.g.kept v y h) hFc ?_ hsz5 ⟨hE5.os,hE5.tape,hE5.output⟩ (fun r h hf=>J.g.free r h (hFc r (J.dlt r ((J.dd r).2 (.inl h))) hf)) ?_ ?_ ?_ ⟨rfl,g.lo.2.1,?_⟩ ⟨Dm++Ds,?_⟩
  ·intro r o hr hc hf;refine hkeep r o hr (hc.imp (fun h=>?_) fun h=>h.imp id fun h=>(J.dd r).2 (.inl h)) (fun hz=>hf ⟨.inr (.inl hz),size_of_getElem? hr⟩) fun e=>hf ⟨.inr (.inr e),size_of_getElem? hr⟩
   have h:r<c.n0.1:=h;have:=g.lo.2.1;have:=g.lo.2.2;omega
  ·refine⟨fun r o h=>?_,fun r o h=>J.g.fixed.free r o h,hro.nc⟩;have hD:=(J.dd r).2 (.inr (.inr (.inl ⟨o,h⟩)));exact hkeep r o (J.g.fixed.obj r o h) (.inr (.inr hD)) (hZD r hD) fun e=>by rw[e,gT] at h;cases h
  ·refine⟨Nat.le_trans J.jE.size hsz5,fun r hr hn=>?_,hE5.os.trans J.jE.os,hE5.tape.trans J.jE.tape,hE5.output.trans J.jE.output⟩;have h1:=J.jE.keep r hr hn;have hx:c.w.heap[r]? = some c.w.heap[r]:=by simp[hr]
   rw[hx] at h1 ⊢;exact hkeep r _ h1 (.inl (by omega)) (fun hz=>by have:=(J.zz r hz).1;omega) (by omega)
  ·intro r h;rcases J.g.iw r h with h|h
   ·exact h
   exact .inr (Nat.le_trans ajw h)
  ·have:=g.lo.2.2;have:=J.n1;omega
  refine⟨J.YM.low,J.YM.eq,J.YM.nodup,fun d hd=>?_,J.YM.free⟩;have hD:=(J.dd d).2 (.inr (.inr (.inr (.inl hd))));exact hkeep d _ (J.YM.obj d hd) (.inr (.inr hD)) (hZD d hD) fun e=>hlD (e▸hd)
 cases UD with
 | false=>
   obtain⟨k,i,rfl,hrest,hkl,hlr⟩:=J.run rfl;have hrn:rest=[]:=hdone.resolve_left (by simp);have hk:k=xs.length:=by
    have:=congrArg List.length hrest;rw[hrn] at this;simp at this;omega
   subst hk;obtain⟨hl3,G⟩:=fin _ (.loop { UE .ready none with state:=.exhausted }) hlr rfl;refine⟨none,_,run_endLoop (P:=P) hl3 (by simp[UE]),?_⟩;exact⟨R5,_,hend i,G⟩
 | true=>
   obtain⟨e,code,hj,hK,hlr⟩:=J.out rfl;obtain⟨hl3,G⟩:=fin _ (.loop { UE .done (some code) with state:=.exhausted }) hlr rfl;refine⟨some code,_,run_endLoop (P:=P) hl3 (by simp[UE]),?_⟩;cases e with
   | ret=>
     simp only[J5,Option.some.injEq] at hj;subst hj;exact wpIn_ret ⟨R5,_,hK,G⟩
   | exit id=>
     simp only[J5,Option.some.injEq] at hj;subst hj;exact wpIn_exit ⟨R5,_,hK,G⟩
   |normal=>cases hj
   |goto t=>cases hj
   |panic ch=>cases hj
   |outgrown=>cases hj
def Rb:List Oper→Bool
 |[]=>true
 | o::r=>match o.guard with
   |none=>Rb r
   |some _=>false
def ad4:Code→Bool
 | .region _ ops draw=>match draw with
   |true=>false
   |false=>Rb ops.toList
 |.skip=>true
 |_=>false
def aiK (ι:Type)(st:ι→AS)(K:Exit→AS→Prop)(e:Exit)(s:AS):Prop:=
 match e with
 |.normal=>∃i,uQ s (st i)
 |e=>K e s
def abf (X:AS→Prop)(K:Exit→AS→Prop)(e:Exit)(s:AS):Prop:=
 match e with
 |.normal=>X s
 |e=>K e s
def af4 (id:Nat)(K:Exit→AS→Prop)(e:Exit)(s:AS):Prop:=
 match e with
 | .exit i=>match Nat.beq i id with
   |true=>K .normal s
   |false=>K e s
 |e=>K e s
def meet:List Nat→List Nat→Bool
 |[],_=>false
 | x::r,l=>match El x l with
   |true=>true
   |false=>meet r l
def dl (d:Option Nat):List Nat:=
 match d with
 |some d=>[d]
 |none=>[]
def mY (x y:uO):Bool:=meet (dl x.dst) y.look||(meet (dl y.dst) x.look||(meet (dl x.dst) (dl y.dst)||(meet x.wr y.rd||(meet y.wr x.rd||meet x.wr y.wr))))
def KV (Gm:List Nat):List Edge→Nat
 |[]=>0
 | e::r=>match Region.binds .any e with
   | true=>((2 ^ e.on ||| (match nth Gm e.on with
     |some m=>m
     |none=>0)) ||| KV Gm r)
   |false=>KV Gm r
def y7 (i:Nat):List Edge→Bool
 |[]=>true
 | e::r=>match Region.binds .any e with
   |true=>Nat.blt e.on i&&y7 i r
   |false=>y7 i r
def Dz (e:uO)(m:Nat):List uO→Nat→Bool
 |[],_=>true
 |x::r,k=>(!(mY x e)||m.testBit k)&&Dz e m r (k+1)
def abg (all:List uO):List Oper→List uO→Nat→List Nat→Bool
 |[],_,_,_=>true
 | o::r,es,i,Gm=>match es with
   |[]=>false
   | e::es=>match KV Gm o.after.toList with
     |m=>y7 i o.after.toList&&(Dz e m (all.take i) 0&&abg all r es (i+1) (Gm++[m]))
def af5 (ops:List Oper)(tr:List uO):Bool:=abg tr ops tr 0 []
def ad5 (ps:List Nat)(x:List PV)(tm:List (Nat×AV))(K:List (Nat×AV)→Prop):Prop:=
 match WE ps x tm with
 |some tm=>K tm
 |none=>False
def aiL (X:AS→Prop)(e:Exit)(s:AS):Prop:=
 match e with
 |.normal=>X s
 |_=>False
def VC (P:Program)(T:Tab):Code→AS→(Exit→AS→Prop)→Prop
 |.skip,s,K=>K .normal s
 | .seq a b,s,K=>match ad4 a with
   |true=>VC P T a s (abf (fun s=>VC P T b s K) K)
   |false=>VC P T a s (abf (fun s=>VC P T b s K) K)∨∃(ι:Type) (st:ι→AS),VC P T a s (aiK ι st K)∧∀i,VC P T b (st i) K
 | .cond c x y,s,K=>match jE s.tm c with
   | some (.pv (.sc v))=>match v with
     |.bool b=>(b=true→VC P T x s K)∧(b=false→VC P T y s K)
     |_=>False
   | some (.dM b ver _ off)=>match s with
     | ⟨tm,nx,hp⟩=>match lk hp b with
       | some (.tr y' v rest st)=>match st with
         | none=>match Nat.beq ver v with
           | true=>match off with
             |0=>VC P T x ⟨tm,nx,(b,.tr y' v rest (some false))::hp⟩ K∧VC P T y ⟨tm,nx,(b,.tr y' v rest (some true))::hp⟩ K
             |1=>VC P T x ⟨tm,nx,(b,.tr y' v rest (some true))::hp⟩ K∧VC P T y ⟨tm,nx,(b,.tr y' v rest (some false))::hp⟩ K
             |_=>False
           |false=>False
         |some _=>False
       |_=>False
   |_=>False
 | .rangeFunc go ps NR KW,s,K=>∃(f:FuncId) (bF:List PV) (xs:List (List PV)),abh P f bF xs∧∃(ι:Type) (ok:Nat→ι→Prop) (st:Nat→ι→AS),(∃i,uQ s (st 0 i)) ∧
   (∀i,jE (st 0 i).tm go=some (.pv (.fn (.func f) [] bF)))∧(∀k i,GV (st k i).tm=true) ∧
   (∀k x i,xs[k]? = some x→ad5 ps.toList x (st k i).tm fun tm=>(k≠0→ok k i)→VC P T NR ⟨tm,(st k i).nx,(st k i).hp⟩ (aiL fun s1=>VC P T KW s1 (rfK (st k i).tm (fun s2=>∃j,ok (k+1) j∧uQ s2 (st (k+1) j)) K))) ∧
   ∀i,(xs.length≠0→ok xs.length i)→K .normal (st xs.length i)
 |.block id c,s,K=>VC P T c s (af4 id K)
 |.exit id,s,K=>K (.exit id) s
 |.ret,s,K=>K .ret s
 |.loop c,s,K=>∃(ι:Type) (st:ι→AS) (μ:ι→Nat),(∃i,uQ s (st i))∧∀i,VC P T c (st i) (abf (fun s'=>∃j,μ j<μ i∧uQ s' (st j)) K)
 | .region id ops draw,s,K=>match s with
   | ⟨tm,nx,hp⟩=>match Nat.ble ((id+2)*1000+ops.toList.length) nx with
     | true=>match draw with
       |false=>Oo P (mk3 T) ops.toList ((id+2)*1000) ops.toList 0 tm hp [] [] fun tm hp tr=>K .normal ⟨tm,nx,hp⟩
       |true=>Oo P T ops.toList ((id+2)*1000) ops.toList 0 tm hp [] [] fun tm hp tr=>af5 ops.toList tr.reverse=true∧K .normal ⟨tm,nx,hp⟩
     |false=>False
 |_,_,_=>False
def codeOk (n:Nat):Code→Bool
 |.seq a b=>codeOk n a&&codeOk n b
 |.cond _ a b=>codeOk n a&&codeOk n b
 |.block _ a=>codeOk n a
 |.loop a=>codeOk n a
 |.region _ ops _=>nN n ops.toList
 |.rangeFunc _ ps a b=>ps.toList.all (fun t=>Nat.blt t n)&&(codeOk n a&&codeOk n b)
 |_=>true
section
variable {P:Program}{T:Tab}
theorem wpIn_loop_ghost {F:Fence}{n:Nat}{P:Program}{Q:Exit→Act→World→Prop}{a:Act}{w:World}{c:Code}(I:Nat→Act→World→Prop)(n₀:Nat)(h₀:I n₀ a w)
  (round:∀m a w,I m a w→c.wpIn F n P (Exit.then (fun a' w'=>∃n',n'<m∧I n' a' w') Q) a w):(Code.loop c).wpIn F n P Q a w:=by
 refine wpIn_loop (fun a w=>∃n,I n a w) (fun a w=>leastOf (fun n=>I n a w)) ⟨n₀,h₀⟩ ?_;intro a w hI;refine Go.wpIn_mono (round _ a w (leastOf_spec hI).1) ?_;intro e a' w' hq;cases e with
 | normal=>
   obtain⟨n',hlt,hI'⟩:=hq;exact show (∃n,I n a' w')∧leastOf (fun n=>I n a' w')<leastOf (fun n=>I n a w) from ⟨⟨n',hI'⟩,Nat.lt_of_le_of_lt ((leastOf_spec ⟨n',hI'⟩).2 n' hI') hlt⟩
 |exit id=>exact hq
 |goto l=>exact hq
 |ret=>exact hq
 |panic ch=>exact hq
 |outgrown=>exact hq
def abj (s:AS):AS:=⟨s.tm,s.nx,[(0,.arr 0 0 1 [[]])]⟩
theorem WG {c:Ctx}{R:Real}{s:AS}{a:Act}{w:World}(g:bG c R (abj s) a w):False:=by
 obtain⟨xs,_,h⟩:=g.boxes 0 (.arr 0 0 1 [[]]) rfl;simp only[cK] at h;exact absurd h.1 (by decide)
open Classical in
noncomputable def stB {ι:Type} (ok:Nat→ι→Prop) (st:Nat→ι→AS) (k:Nat) (i:ι):AS:=if k≠0→ok k i then st k i else abj (st k i)
theorem Ju {ι:Type}{ok:Nat→ι→Prop}{st:Nat→ι→AS}{k:Nat}{i:ι}(h:k≠0→ok k i):stB ok st k i=st k i:=if_pos h
theorem Rc {ι:Type}{ok:Nat→ι→Prop}{st:Nat→ι→AS}{k:Nat}{i:ι}(h:¬(k≠0→ok k i)):stB ok st k i=abj (st k i):=if_neg h
theorem Em {ι:Type}{ok:Nat→ι→Prop}{st:Nat→ι→AS}{k:Nat}{i:ι}:(stB ok st k i).tm=(st k i).tm:=by
 unfold stB;split<;>rfl
theorem fU (hT:bY P T)(jU:∀(c:Ctx) (R:Real) (s:AS) (a:Act) (w:World) (id:Nat) (ops:Array Oper) (K:Exit→AS→Prop) (ro:Option Nat),bG c R s a w→nN c.n ops.toList=true →
  VC P T (.region id ops true) s K→(Code.region id ops true).wpIn (W1 ro) 0 P (fun e a' w'=>∃R' s',K e s'∧bG c R' s' a' w') a w) :
  ∀(code:Code) {c:Ctx} {R:Real} {s:AS} {a:Act} {w:World} {K:Exit→AS→Prop} {ro:Option Nat},Ou c ro→bG c R s a w→codeOk c.n code=true→VC P T code s K →
   code.wpIn (W1 ro) 0 P (fun e a' w'=>∃R' s',K e s'∧bG c R' s' a' w') a w
 |.skip,c,R,s,a,w,K,ro,hro,g,hok,h=>wpIn_skip ⟨R,s,h,g⟩
 | .seq x y,c,R,s,a,w,K,ro,hro,g,hok,h=>by
   simp only[codeOk,Bool.and_eq_true] at hok;have direct:VC P T x s (abf (fun s=>VC P T y s K) K)→(Code.seq x y).wpIn (W1 ro) 0 P (fun e a' w'=>∃R' s',K e s'∧bG c R' s' a' w') a w:=by
    intro h;refine wpIn_seq (Go.wpIn_mono (fU hT jU x hro g hok.1 h) ?_);rintro e a' w' ⟨R',s',hK,g'⟩
    cases e with
    |normal=>exact fU hT jU y hro g' hok.2 hK
    |exit i=>exact⟨R',s',hK,g'⟩
    |goto l=>exact⟨R',s',hK,g'⟩
    |ret=>exact⟨R',s',hK,g'⟩
    |panic ch=>exact⟨R',s',hK,g'⟩
    |outgrown=>exact⟨R',s',hK,g'⟩
   simp only[VC] at h;split at h
   ·exact direct h
   rcases h with h|⟨ι,st,h,h2⟩
   ·exact direct h
   refine wpIn_seq (Go.wpIn_mono (fU hT jU x hro g hok.1 h) ?_);rintro e a' w' ⟨R',s',hK,g'⟩
   cases e with
   | normal=>
     obtain⟨i,hi⟩:=hK;obtain⟨R2,g2⟩:=hi c R' a' w' g';exact fU hT jU y hro g2 hok.2 (h2 i)
   |exit i=>exact⟨R',s',hK,g'⟩
   |goto l=>exact⟨R',s',hK,g'⟩
   |ret=>exact⟨R',s',hK,g'⟩
   |panic ch=>exact⟨R',s',hK,g'⟩
   |outgrown=>exact⟨R',s',hK,g'⟩
 | .cond cc x y,c,R,s,a,w,K,ro,hro,g,hok,h=>by
   simp only[codeOk,Bool.and_eq_true] at hok;simp only[VC] at h;split at h
   ·rename_i v hv;have hr:=vV g hv;simp only[ak,bJ] at hr;split at h;rotate_left;cases h
    rename_i b;refine wpIn_cond hr ?_;cases b with
    |true=>exact fU hT jU x hro g hok.1 (h.1 rfl)
    |false=>exact fU hT jU y hro g hok.2 (h.2 rfl)
   ·rename_i b ver i off hv;have hr:=vV g hv;obtain⟨tm,nx,hp⟩:=s;simp only at h;split at h;rotate_left;cases h
    rename_i y' v rest st hb;split at h;rotate_left;cases h
    split at h;rotate_left;cases h
    rename_i fD;have fD:=Nat.eq_of_beq_eq_true fD;simp only[ak,hb,bf] at hr;have hval:=hr.2.2 fD (by trivial);have e01:Nat.beq 0 1=false:=rfl;have e11:Nat.beq 1 1=true:=rfl;have hres:∀(q:Bool),R.nil b=(!q)→bG c R ⟨tm,nx,(b,.tr y' v rest (some q))::hp⟩ a w:=by
     intro q hq;have hbx:=g.boxes b _ hb;refine g.upd (s:=⟨tm,nx,hp⟩) (R':=R) (w':=w) (b:=b) (bL:=.tr y' v rest (some q)) (nx':=nx) (fun _ _=>⟨rfl,rfl,rfl⟩) (fun off v h=>?_) (fun ver v h=>?_) (fun ver i off v h=>?_) (fun r h=>.inl ?_) (mr.refl _ _) ?_
     ·simp only[hb,aY] at h
     ·simp only[hb,aU] at h
     ·simp only[hb,bf] at h ⊢;exact⟨h.1,h.2.1,fun _ e=>by cases e⟩
     ·simp only[hb];exact h
     obtain⟨k0,kh,k1,k2,k3,k4⟩:=hbx;refine⟨k0,kh,?_,k2,k3,fun r hn=>k4 r ?_⟩
     ·simp only[Option.getD_none,hq,Bool.not_not] at k1;exact k1
     rcases hn with hn|⟨b2,ho⟩
     ·exact .inl hn
     refine .inr ⟨b2,?_⟩;by_cases e:b2=b
     ·subst e;rw[aC,if_pos rfl] at ho;simp only[hb];exact ho
     rw[aC,if_neg (fun e'=>e e'.symm)] at ho;exact ho
    split at h
    ·refine wpIn_cond hval ?_;cases hn:R.nil b with
     |true=>simpa[hn,e01,e11] using fU hT jU x hro (hres false (by simp[hn])) hok.1 h.1
     |false=>simpa[hn,e01,e11] using fU hT jU y hro (hres true (by simp[hn])) hok.2 h.2
    ·refine wpIn_cond hval ?_;cases hn:R.nil b with
     |true=>simpa[hn,e01,e11] using fU hT jU y hro (hres false (by simp[hn])) hok.2 h.2
     |false=>simpa[hn,e01,e11] using fU hT jU x hro (hres true (by simp[hn])) hok.1 h.1
    exact h.elim
   exact h.elim
 | .block id x,c,R,s,a,w,K,ro,hro,g,hok,h=>by
   simp only[codeOk] at hok;simp only[VC] at h;refine wpIn_block (Go.wpIn_mono (fU hT jU x hro g hok h) ?_);rintro e a' w' ⟨R',s',hK,g'⟩
   cases e with
   | exit i=>
     simp only[Exit.inBlock];simp only[af4] at hK;split at hK
     ·rename_i hb;rw[if_pos (Nat.eq_of_beq_eq_true hb)];exact⟨R',s',hK,g'⟩
     rename_i hb;rw[if_neg (Nat.ne_of_beq_eq_false hb)];exact⟨R',s',hK,g'⟩
   |normal=>exact⟨R',s',hK,g'⟩
   |goto l=>exact⟨R',s',hK,g'⟩
   |ret=>exact⟨R',s',hK,g'⟩
   |panic ch=>exact⟨R',s',hK,g'⟩
   |outgrown=>exact⟨R',s',hK,g'⟩
 |.exit id,c,R,s,a,w,K,ro,hro,g,hok,h=>wpIn_exit ⟨R,s,h,g⟩
 |.ret,c,R,s,a,w,K,ro,hro,g,hok,h=>wpIn_ret ⟨R,s,h,g⟩
 | .loop x,c,R,s,a,w,K,ro,hro,g,hok,h=>by
   simp only[codeOk] at hok;simp only[VC] at h;obtain⟨ι,st,μ,⟨i0,h0⟩,hr⟩:=h;obtain⟨R0,g0⟩:=h0 c R a w g;refine wpIn_loop_ghost (fun n a w=>∃i R,μ i=n∧bG c R (st i) a w) (μ i0) ⟨i0,R0,rfl,g0⟩ ?_;rintro n a' w' ⟨i,R1,rfl,g1⟩
   refine Go.wpIn_mono (fU hT jU x hro g1 hok (hr i)) ?_;rintro e a2 w2 ⟨R2,s2,hK,g2⟩
   cases e with
   | normal=>
     obtain⟨j,hj,he⟩:=hK;obtain⟨R3,g3⟩:=he c R2 a2 w2 g2;exact⟨μ j,hj,j,R3,rfl,g3⟩
   |exit i=>exact⟨R2,s2,hK,g2⟩
   |goto l=>exact⟨R2,s2,hK,g2⟩
   |ret=>exact⟨R2,s2,hK,g2⟩
   |panic ch=>exact⟨R2,s2,hK,g2⟩
   |outgrown=>exact⟨R2,s2,hK,g2⟩
 | .region id ops draw,c,R,s,a,w,K,ro,hro,g,hok,h=>by
   simp only[codeOk] at hok;cases draw with
   |true=>exact jU c R s a w id ops K ro g hok h
   | false=>
     simp only[VC] at h;obtain⟨tm,nx,hp⟩:=s;simp only at h;split at h;rotate_left;cases h
     rename_i hb;refine wpIn_region_list (xK ro hT.mk3 ops.toList 0 (s:=⟨tm,nx,hp⟩) g (by simp only[Nat.add_zero];exact Nat.le_of_ble_eq_true hb) hok h ?_);intro R' tm' hp' qM a' w' hK g';exact⟨R',_,hK,g'⟩
 | .rangeFunc go ps NR KW,c,R,s,a,w,K,ro,hro,g,hok,h=>by
   simp only[codeOk,Bool.and_eq_true] at hok;obtain⟨hps,hok1,hok2⟩:=hok;simp only[VC] at h;obtain⟨f,bF,xs,hs,ι,ok,st,h0,hgo,hlow,Jt,hend⟩:=h;refine Go.wpIn_mono (WH (ps:=ps) (NR:=NR) (KW:=KW) (st:=stB ok st) (K:=fun e s=>K e s∨∃s0,s=abj s0)
    (A:=fun k i x s1=>(k≠0→ok k i)∧VC P T KW s1 (rfK (st k i).tm (fun s2=>∃j,ok (k+1) j∧uQ s2 (st (k+1) j)) K)) g hro hs (fun t ht=>?_) (fun i=>by rw[Em];exact hgo i) (by rw[show stB ok st 0=st 0 from funext fun i=>Ju fun h=>absurd rfl h];exact h0)
    (fun k i=>by rw[Em];exact hlow k i) (fun l c' k i x tm R a w hn ad6 hx Tg g'=>?_) (fun l c' k i x s1 R a w hn ad6 hx hA g'=>?_) (fun k i x hx=>?_) (fun i=>?_)) ?_
   ·have:=List.all_eq_true.1 hps t ht;rwa [Nat.blt_eq] at this
   ·by_cases hv:k≠0→ok k i
    ·rw[Em] at Tg;rw[Ju hv] at g';have h1:=Jt k x i hx;simp only[ad5,Tg] at h1;refine Go.wpIn_mono (fU hT jU NR ad6 g' (by rw[hn];exact hok1) (h1 hv)) ?_;rintro e a' w' ⟨R',s',hK,g2⟩
     cases e with
     |normal=>exact⟨R',s',⟨hv,hK⟩,g2⟩
     |exit i=>exact hK.elim
     |goto l=>exact hK.elim
     |ret=>exact hK.elim
     |panic ch=>exact hK.elim
     |outgrown=>exact hK.elim
    rw[Rc hv] at g';exact (WG (s:=⟨tm,_,[]⟩) g').elim
   ·refine Go.wpIn_mono (fU hT jU KW ad6 g' (by rw[hn];exact hok2) hA.2) ?_;rintro e a' w' ⟨R',s',hK,g2⟩
    refine⟨R',s',?_,g2⟩;rw[Em];revert hK;unfold rfK;split
    ·rintro⟨j,hj,he⟩
     exact⟨j,by rw[Ju fun _=>hj];exact he⟩
    ·exact .inl
    ·exact .inl
    exact id
   ·rw[Em];have h1:=Jt k x i hx;unfold ad5 at h1;split at h1
    ·rename_i tm Tg;exact⟨tm,Tg⟩
    exact h1.elim
   ·by_cases hv:xs.length≠0→ok xs.length i
    ·rw[Ju hv];exact .inl (hend i hv)
    rw[Rc hv];exact .inr ⟨_,rfl⟩
   rintro e a' w' ⟨R',s',hK,g2⟩
   rcases hK with hK|⟨s0,rfl⟩
   ·exact⟨R',s',hK,g2⟩
   exact (WG g2).elim
 |.scope _,c,R,s,a,w,K,ro,hro,g,hok,h=>by simp[VC] at h
 |.label _,c,R,s,a,w,K,ro,hro,g,hok,h=>by simp[VC] at h
 |.goto _,c,R,s,a,w,K,ro,hro,g,hok,h=>by simp[VC] at h
 |.refuse _,c,R,s,a,w,K,ro,hro,g,hok,h=>by simp[VC] at h
def lits:List Nat:=[0,1,2,3,4,5,6,7,8,9,10,11,12,13,14,15]
def Ov:List Nat→List PV→Option (List (Nat×AV))
 |_,[]=>some []
 |[],_::_=>none
 | k::ks,p::r=>match Ov ks r with
   |some t=>some ((k,.pv p)::t)
   |none=>none
def ad7 (args:List PV)(K:AS→Prop):Prop:=
 match Ov lits args with
 |some tm=>K ⟨tm,1000000000,[]⟩
 |none=>False
def AB (T:Tab)(s:AS):List ResultVar→(List AV→Prop)→Prop
 |[],K=>K []
 | rv::r,K=>match rv with
   | .tmp t=>match lk s.tm t with
     |some v=>AB T s r fun vs=>K (v::vs)
     |none=>False
   | .cell x t=>match lk s.tm x with
     | some v=>match KX v with
       |true=>uR T s.hp t v fun u=>AB T s r fun vs=>K (u::vs)
       |false=>False
     |none=>False
def WI (hp:List (Nat×aF))(vs:List AV)(Q:PV→Prop):Prop:=
 match vs with
 | [v]=>match vw hp v with
   |some p=>Q p
   |none=>False
 | _=>match GL hp vs with
   |some ps=>Q (.cO ps)
   |none=>False
def fnK (T:Tab)(rs:List ResultVar)(Q:PV→Prop)(e:Exit)(s:AS):Prop:=
 match e with
 |.normal=>AB T s rs fun vs=>WI s.hp vs Q
 |.ret=>AB T s rs fun vs=>WI s.hp vs Q
 |_=>False
def En (P:Program)(tmps:Array Value):ResultVar→Sem Value
 |.tmp t=>pure (tmps.getD t undef)
 |.cell a t=>do loadVar t (←asAddr (tmps.getD a undef))
theorem oL {c:Ctx}{R:Real}{s:AS}{a:Act}{w:World}(g:bG c R s a w)(hT:bY P T):∀(rs:List ResultVar) {K:List AV→Prop},AB T s rs K →
  ∃vs us,(rs.mapM (En P a.tmps)).run P w=.ok us w∧K vs∧FL (ak (aV c R s.hp) w s.hp R) vs us
 |[],K,h=>⟨[],[],by simp,h,rfl⟩
 | rv::r,K,h=>by
   simp only[AB] at h;split at h
   ·rename_i t;split at h;rotate_left;cases h
    rename_i v hv;obtain⟨vs,us,h1,h2,h3⟩:=oL g hT r h;obtain⟨x,hx,hr⟩:=g.slots t v hv;refine⟨v::vs,x::us,?_,h2,⟨x,us,rfl,hr,h3⟩⟩;simp[List.mapM_cons,En,h1,hx]
   rename_i x t;split at h;rotate_left;cases h
   rename_i v hv;split at h;rotate_left;cases h
   rename_i hp';obtain⟨xv,hx,hr⟩:=g.slots x v hv;obtain⟨y,z,h1,h2,h3⟩:=uS g hT (fun b box hb=>hb) h hr;obtain⟨vs,us,h4,h5,h6⟩:=oL g hT r h2;obtain⟨ad,rfl⟩:=y5 hp' hr;refine⟨z::vs,y::us,?_,h5,⟨y,us,rfl,h3,h6⟩⟩;have h7:(loadVar t ad).run P w=.ok y w:=by simpa[Instr.loadAt,Instr.sureAddr] using h1
   simp[List.mapM_cons,En,hx,asAddr,h7,h4]
theorem Ow {c:Ctx}{R:Real}{s:AS}{a:Act}{w:World}(g:bG c R s a w){vs:List AV}{us:List Value}{Q:PV→Prop}(h:WI s.hp vs Q)
  (hv:FL (ak (aV c R s.hp) w s.hp R) vs us):∃r v,(if hu:us.toArray.size=1 then us.toArray[0] else .tuple us.toArray)=v∧Q r∧bJ c.F w r v:=by
 have hN:∀r,c.F r→aV c R s.hp r:=fun r h=>.inl h
 have h2:∀b,∀r,aL R b r (lk s.hp b)→¬c.F r:=fun b r ho=>g.free r ⟨b,ho⟩
 have hl:=hv.length;unfold WI at h;split at h
 ·rename_i v;obtain⟨u,r,rfl,hu,hr⟩:=hv;simp only[FL] at hr;subst hr;split at h
  ·rename_i p hp;refine⟨p,u,by simp,h,qR g (fun b box hb=>hb) hN v p u (fun b _=>h2 b) hp hu⟩
  exact h.elim
 rename_i hne;split at h;rotate_left;cases h
 rename_i ps hps;have hsz:us.toArray.size≠1:=by
  intro e;simp only[List.size_toArray] at e;rw[e] at hl;match vs with
  |[v]=>exact hne v rfl
  |[]=>simp at hl
  |_::_::_=>simp at hl
 refine⟨.cO ps,.tuple us.toArray,by rw[dif_neg hsz],h,?_⟩;simp only[bJ];refine⟨us.toArray,rfl,?_⟩;exact iG g (fun b box hb=>hb) hN vs ps _ (fun b _=>h2 b) hps (by rw[eF];exact hv)
theorem Jv:∀(ks:List Nat) (k:Nat) (args:List PV) (tm:List (Nat×AV)) (t:Nat) (v:AV),(∀i x,ks[i]? = some x→x=k+i)→Ov ks args=some tm→lk tm t=some v →
  k≤t∧∃p,args[t-k]? = some p∧v=.pv p
 |ks,k,[],tm,t,v,_,hn,h=>by cases ks<;>simp only[Ov,Option.some.injEq] at hn<;>subst hn<;>simp[lk] at h
 |[],k,p::r,tm,t,v,_,hn,h=>by simp[Ov] at hn
 | k'::ks,k,p::r,tm,t,v,hk,hn,h=>by
   simp only[Ov] at hn;split at hn
   ·rename_i tm' Tg;simp only[Option.some.injEq] at hn;subst hn;have hk0:k'=k:=by simpa using hk 0 k' rfl
    subst hk0;rw[aC] at h;split at h
    ·rename_i e;simp only[Option.some.injEq] at h;subst e;subst h;exact⟨Nat.le_refl _,p,by simp,rfl⟩
    rename_i e;obtain⟨h1,q,h2,h3⟩:=Jv ks (k'+1) r tm' t v (fun i x hx=>by have:=hk (i+1) x (by simpa using hx);omega) Tg h;refine⟨by omega,q,?_,h3⟩;rw[show t-k'=(t-(k'+1))+1 from by omega,List.getElem?_cons_succ];exact h2
   cases hn
theorem DC:∀i x,lits[i]? = some x→x=0+i:=by
 intro i x h;rcases i with _|_|_|_|_|_|_|_|_|_|_|_|_|_|_|_|i<;>simp[lits] at h<;>omega
def codeOf (fn:Func):Code:=
 match fn.body with
 |some c=>c
 |none=>.skip
structure bR (P:Program)(f:FuncId)(fn:Func):Prop where
 func:P.funcs[f]? = some fn
 body:fn.body.isSome=true
 name:(fn.name == "runtime.NumGoroutine")=false
 ok:codeOk fn.ntmps (codeOf fn)=true
theorem oM {c:Ctx}{R:Real}{s:AS}(hwl:c.w.heap.size≤c.lo)(hfx:∀r o,c.fix r=some o→r<c.lo){fn:Func}{Rr:Ending→World→Prop}:∀(Ds:List Nat) (a:Act) (w:World),bG c R s a w→Marks c.lo (owned R s.hp) w a.defers Ds →
  ∃w',w.heap.size≤w'.heap.size∧bG c R s { a with defers:=[] } w'∧(LeavesIn Fence.wide 0 P fn a.tmps Rr [] .returning w'→LeavesInM Fence.wide 0 P fn a.tmps Rr a.defers .returning w)
 | [],a,w,g,mk=>by
   have e:a.defers=[]:=by simpa using mk.eq
   have ea:({ a with defers:=[] }:Act)=a:=by cases a;simp only at e;subst e;rfl
   refine⟨w,Nat.le_refl _,by rw[ea];exact g,fun h=>by rw[e];exact h⟩
 | D::Ds,a,w,g,mk=>by
   have e:a.defers=mark D::Ds.map mark:=by simpa using mk.eq
   have hD:=mk.obj D (by simp);have alL:=mk.low D (by simp);have hDf:=mk.free D (by simp);have hnd:=List.nodup_cons.1 mk.nodup;let a1:Act:={ a with defers:=Ds.map mark }
   have mk1:Marks c.lo (owned R s.hp) (w.putObj D (.deferred none)) a1.defers Ds:=by
    refine⟨fun d hd=>mk.low d (by simp[hd]),rfl,hnd.2,fun d hd=>?_,fun d hd=>mk.free d (by simp[hd])⟩;rw[World.putObj_heap_other (fun (e:d=D)=>hnd.1 (by rw[←e];exact hd))];exact mk.obj d (by simp[hd])
   have g1:bG c R s a1 (w.putObj D (.deferred none)):=by
    refine g.sJ (c2:=c) rfl rfl (fun v y h=>g.kept v y h) (fun r _ h=>h) (fun r o ho hc _=>?_) (by simp) ⟨rfl,rfl,rfl⟩ g.free ?_ ?_ g.iw ⟨rfl,g.lo.2.1,by rw[World.putObj_size];exact g.lo.2.2⟩ ⟨Ds,mk1⟩
    ·rw[World.putObj_heap_other]
     ·exact ho
     rintro rfl
     rcases hc with h|h|h
     ·have:=g.lo.2.1;omega
     ·rw[hD] at ho;simp only[Option.some.injEq] at ho;rw[←ho] at h;cases h
     exact hDf h
    ·refine⟨fun r o h=>?_,g.fixed.free,g.fixed.nc⟩;have:=hfx r o h;rw[World.putObj_heap_other (by omega)];exact g.fixed.obj r o h
    exact g.jE.trans (O':=fun r=>r=D) ⟨by simp,fun r _ hn=>World.putObj_heap_other hn,rfl,rfl,rfl⟩ fun r hr h=>by omega
   obtain⟨w2,hsz,g2,hl⟩:=oM hwl hfx Ds a1 _ g1 mk1;refine⟨w2,Nat.le_trans (by simp) hsz,g2,fun h=>?_⟩;rw[e];refine⟨by simp,.inl ⟨D,_,rfl,run_takeDeferred hD,hl h⟩⟩
theorem WJ (hT:bY P T)(jU:∀(c:Ctx) (R:Real) (s:AS) (a:Act) (w:World) (id:Nat) (ops:Array Oper) (K:Exit→AS→Prop) (ro:Option Nat),bG c R s a w→nN c.n ops.toList=true →
  VC P T (.region id ops true) s K→(Code.region id ops true).wpIn (W1 ro) 0 P (fun e a' w'=>∃R' s',K e s'∧bG c R' s' a' w') a w)
  {f:FuncId} {fn:Func} (hf:bR P f fn) {args:List PV} (hl:Nat.ble args.length fn.ntmps=true) {Q:PV→Prop}
  (h:ad7 args fun s=>VC P T (codeOf fn) s (fnK T fn.results.toList Q)):PC P f args Q:=by
 unfold ad7 at h;split at h
 case h_2=>exact h.elim
 rename_i WK Ox;refine⟨⟨fn,hf.func,hf.body,hf.name⟩,fun F w dz hF hargs=>?_⟩;have hbody:fn.body=some (codeOf fn):=by
  have:=hf.body;unfold codeOf;cases hb:fn.body with
  |none=>rw[hb] at this;cases this
  |some c=>rfl
 have hl:=Nat.le_of_ble_eq_true hl;rw[jk] at hargs;have hcl:dz.size=args.length:=by have:=hargs.length;simpa using this
 let c:Ctx:={ F:=F,O:=fun _=>False,w:=w,n:=fn.ntmps,hF:=hF,K:=fun _ _=>False,hK:=fun _ _ h=>h.elim,fix:=fun _=>none,n0:=(0,fun _ _ _ _ _=>False),lo:=w.heap.size }
 let R:Real:=⟨fun _=>0,fun _=>true,fun _=>(0,[]),⟨fun _=>False,fun _=>False,w,(0,fun _ _ _ _ _=>False)⟩⟩
 have hno:∀r,¬owned R [] r:=by rintro r ⟨b,hb⟩;exact hb
 have hNF:∀r,aV c R [] r→F r:=fun r h=>h.resolve_right (hno r)
 refine callsIn_wide.1 (callsIn_of_wp_marks (n:=0) hf.func hbody trivial ?_);have g:bG c R ⟨WK,1000000000,[]⟩ { tmps:=dz++Array.replicate (fn.ntmps-dz.size) undef,defers:=[] } w:=by
  refine⟨?_,?_,⟨rfl,Nat.zero_le _,Nat.le_refl _⟩,⟨[],Marks.nil⟩,tY.none,?_,?_,?_,mr.refl _ _,?_,fun _ _ h=>h.elim⟩
  ·intro t v hv;obtain⟨_,p,hp,rfl⟩:=Jv lits 0 args WK t v DC Ox hv;obtain⟨x,hx,hr⟩:=hargs.get hp;have hx':dz[t]? = some x:=by simpa using hx
   refine⟨x,?_,?_⟩
   ·have:=size_of_getElem? hx';simp only;rw[Array.getElem?_append_left this];exact hx'
   simp only[ak];exact dJ (fun r _ h=>hNF r h) (fun _ _ _=>rfl) _ _ hr
  ·show (dz++Array.replicate (fn.ntmps-dz.size) undef).size=fn.ntmps
   simp;omega
  ·intro b box hb;simp[lk] at hb
  ·intro b b' r hb;exact hb.elim
  ·rintro r ⟨b,hb⟩;exact hb.elim
  rintro r ⟨b,hb⟩;exact hb.elim
 refine Go.wpIn_mono (fU (ro:=none) hT jU (codeOf fn) ⟨fun _ h=>(by cases h),fun _ _ h=>(by cases h)⟩ g hf.ok h) ?_;rintro e a' WL ⟨R',s',hK,WM⟩
 obtain⟨Ds,mkD⟩:=WM.marks;obtain⟨w',aea,g',hleave⟩:=oM (P:=P) (fn:=fn) (Rr:=fun e w'=>∃v r,e=.returned v∧Q r∧bJ F w' r v∧Same w w') (Nat.le_refl _) (fun _ _ h=>(by cases h)) Ds a' WL WM mkD;have fin:(AB T s' fn.results.toList fun vs=>WI s'.hp vs Q)→LeavesInM Fence.wide 0 P fn a'.tmps (fun e w'=>∃v r,e=.returned v∧Q r∧bJ F w' r v∧Same w w') a'.defers .returning WL:=by
  intro hK;refine hleave ?_;obtain⟨vs,us,h1,h2,h3⟩:=oL g' hT _ hK;obtain⟨r,v,h4,h5,h6⟩:=Ow g' h2 h3;refine⟨v,?_,v,r,rfl,h5,h6,g'.jE⟩;have hres:results fn a'.tmps=(fn.results.mapM (En P a'.tmps) >>= fun vs=>pure (if h:vs.size=1 then vs[0] else .tuple vs)):=by
   unfold results;congr 2
  have hm:(fn.results.mapM (En P a'.tmps)).run P w'=.ok us.toArray w':=by
   rw[Array.mapM_eq_mapM_toList,Sem.run_map,h1];rfl
  rw[hres];simp only[Sem.run_bind,hm,Result.andThen_ok,Sem.run_pure];exact congrArg (fun x=>Result.ok x w') h4
 cases e with
 |normal=>exact fin hK
 |ret=>exact fin hK
 |exit i=>exact hK.elim
 |goto l=>exact hK.elim
 |panic ch=>exact hK.elim
 |outgrown=>exact hK.elim
def GX:List Nat→List AV→Option (List (Nat×AV))
 |_,[]=>some []
 |[],_::_=>none
 | k::ks,p::r=>match GX ks r with
   |some t=>some ((k,p)::t)
   |none=>none
def WN (args:List AV)(hp:List (Nat×aF))(K:AS→Prop):Prop:=
 match GX lits args with
 |some tm=>K ⟨tm,1000000000,hp⟩
 |none=>False
def Rf (vs:List AV):AV:=
 match ji vs with
 |some ps=>.pv (.cO ps)
 |none=>.cO vs
def WQ (hp:List (Nat×aF))(vs:List AV)(Q:AV→List (Nat×aF)→Prop):Prop:=
 match vs with
 |[v]=>abk hp v Q
 | _=>match Rf vs with
   |v=>abk hp v Q
def fnG (T:Tab)(rs:List ResultVar)(Q:AV→List (Nat×aF)→Prop)(e:Exit)(s:AS):Prop:=
 match e with
 |.normal=>AB T s rs fun vs=>WQ s.hp vs Q
 |.ret=>AB T s rs fun vs=>WQ s.hp vs Q
 |_=>False
theorem Eo:∀(ks:List Nat) (k:Nat) (args:List AV) (tm:List (Nat×AV)) (t:Nat) (v:AV),(∀i x,ks[i]? = some x→x=k+i)→GX ks args=some tm→lk tm t=some v →
  k≤t∧args[t-k]? = some v
 |ks,k,[],tm,t,v,_,hn,h=>by cases ks<;>simp only[GX,Option.some.injEq] at hn<;>subst hn<;>simp[lk] at h
 |[],k,p::r,tm,t,v,_,hn,h=>by simp[GX] at hn
 | k'::ks,k,p::r,tm,t,v,hk,hn,h=>by
   simp only[GX] at hn;split at hn
   ·rename_i tm' Tg;simp only[Option.some.injEq] at hn;subst hn;have hk0:k'=k:=by simpa using hk 0 k' rfl
    subst hk0;rw[aC] at h;split at h
    ·rename_i e;simp only[Option.some.injEq] at h;subst e;subst h;exact⟨Nat.le_refl _,by simp⟩
    rename_i e;obtain⟨h1,h2⟩:=Eo ks (k'+1) r tm' t v (fun i x hx=>by have:=hk (i+1) x (by simpa using hx);omega) Tg h;refine⟨by omega,?_⟩;rw[show t-k'=(t-(k'+1))+1 from by omega,List.getElem?_cons_succ];exact h2
   cases hn
theorem Oy {c:Ctx}{R:Real}{hp:List (Nat×aF)}{w:World}(g:y8 c R hp w){vs:List AV}{us:List Value}{Q:AV→List (Nat×aF)→Prop}(h:WQ hp vs Q)
  (hv:FL (ak (aV c R hp) w hp R) vs us):∃r hp' R',Q r hp'∧y8 c R' hp' w∧ak (aV c R' hp') w hp' R' r (if hu:us.toArray.size=1 then us.toArray[0] else .tuple us.toArray):=by
 have hl:=hv.length;unfold WQ at h;split at h
 ·rename_i v;obtain⟨u,r,rfl,hu,hr⟩:=hv;simp only[FL] at hr;subst hr;exact xL h g (by simpa using hu)
 rename_i hne;have hsz:us.toArray.size≠1:=by
  intro e;simp only[List.size_toArray] at e;rw[e] at hl;match vs with
  |[v]=>exact hne v rfl
  |[]=>simp at hl
  |_::_::_=>simp at hl
 rw[dif_neg hsz];refine xL h g ?_;have hv':=(eF _ _ _ _ _ _).2 hv;unfold Rf;split
 ·rename_i ps hps;have:=vW hps;subst this;simp only[ak,bJ];exact⟨us.toArray,rfl,qc _ _ hv'⟩
 simp only[ak];exact⟨us.toArray,rfl,hv'⟩
theorem y9 (hT:bY P T)(jU:∀(c:Ctx) (R:Real) (s:AS) (a:Act) (w:World) (id:Nat) (ops:Array Oper) (K:Exit→AS→Prop) (ro:Option Nat),bG c R s a w→nN c.n ops.toList=true →
  VC P T (.region id ops true) s K→(Code.region id ops true).wpIn (W1 ro) 0 P (fun e a' w'=>∃R' s',K e s'∧bG c R' s' a' w') a w)
  {f:FuncId} {fn:Func} (hf:bR P f fn) {args:List AV} {hp:List (Nat×aF)} (hl:Nat.ble args.length fn.ntmps=true) {Q:AV→List (Nat×aF)→Prop}
  (h:WN args hp fun s=>VC P T (codeOf fn) s (fnG T fn.results.toList Q)):GC P f args hp Q:=by
 unfold WN at h;split at h
 case h_2=>exact h.elim
 rename_i WK Ox;refine⟨⟨fn,hf.func,hf.body,hf.name⟩,fun c R w dz hh hargs=>?_⟩;have hbody:fn.body=some (codeOf fn):=by
  have:=hf.body;unfold codeOf;cases hb:fn.body with
  |none=>rw[hb] at this;cases this
  |some c=>rfl
 have hl:=Nat.le_of_ble_eq_true hl;rw[eF] at hargs;have hcl:dz.size=args.length:=by have:=hargs.length;simpa using this
 let c':Ctx:={ c with n:=fn.ntmps,lo:=w.heap.size }
 have Oz:y8 c' R hp w:=⟨hh.boxes,hh.inj,hh.free,hh.jE,hh.iw,hh.kept,hh.fixed,⟨hh.lo.1,Nat.le_trans hh.lo.2.1 hh.lo.2.2,Nat.le_refl _⟩⟩;refine callsIn_wide.1 (callsIn_of_wp_marks (n:=0) hf.func hbody trivial ?_);have g:bG c' R ⟨WK,1000000000,hp⟩ { tmps:=dz++Array.replicate (fn.ntmps-dz.size) undef,defers:=[] } w:=by
  refine Oz.WR ?_ ?_ ⟨[],Marks.nil⟩
  ·intro t v hv;obtain⟨_,hp⟩:=Eo lits 0 args WK t v DC Ox hv;obtain⟨x,hx,hr⟩:=hargs.get hp;have hx':dz[t]? = some x:=by simpa using hx
   refine⟨x,?_,hr⟩;have:=size_of_getElem? hx';simp only;rw[Array.getElem?_append_left this];exact hx'
  show (dz++Array.replicate (fn.ntmps-dz.size) undef).size=fn.ntmps
  simp;omega
 refine Go.wpIn_mono (fU (c:=c') (ro:=none) hT jU (codeOf fn) ⟨fun _ h=>(by cases h),hh.fixed.nc⟩ g hf.ok h) ?_;rintro e a' WL ⟨R',s',hK,WM⟩
 obtain⟨Ds,mkD⟩:=WM.marks;obtain⟨w',aea,g',hleave⟩:=oM (c:=c') (P:=P) (fn:=fn) (Rr:=fun e w'=>∃v r hp' R',e=.returned v∧Q r hp'∧y8 c R' hp' w'∧ak (aV c R' hp') w' hp' R' r v) hh.jE.size (fun r o h=>size_of_getElem? (hh.fixed.obj r o h)) Ds a' WL WM mkD;have fin:(AB T s' fn.results.toList fun vs=>WQ s'.hp vs Q)→LeavesInM Fence.wide 0 P fn a'.tmps (fun e w'=>∃v r hp' R',e=.returned v∧Q r hp'∧y8 c R' hp' w'∧ak (aV c R' hp') w' hp' R' r v) a'.defers .returning WL:=by
  intro hK;refine hleave ?_;obtain⟨vs,us,h1,h2,h3⟩:=oL g' hT _ hK;obtain⟨r,hp',R2,h4,h5,h6⟩:=Oy g'.hap h2 h3;refine⟨_,?_,_,r,hp',R2,rfl,h4,⟨h5.boxes,h5.inj,h5.free,h5.jE,h5.iw,h5.kept,h5.fixed,⟨h5.lo.1,hh.lo.2.1,?_⟩⟩,h6⟩;rotate_left
  ·have h1:w.heap.size≤w'.heap.size:=h5.lo.2.2;exact Nat.le_trans hh.lo.2.2 h1
  have hres:results fn a'.tmps=(fn.results.mapM (En P a'.tmps) >>= fun vs=>pure (if h:vs.size=1 then vs[0] else .tuple vs)):=by
   unfold results;congr 2
  have hm:(fn.results.mapM (En P a'.tmps)).run P w'=.ok us.toArray w':=by
   rw[Array.mapM_eq_mapM_toList,Sem.run_map,h1];rfl
  rw[hres];simp only[Sem.run_bind,hm,Result.andThen_ok,Sem.run_pure]
 cases e with
 |normal=>exact fin hK
 |ret=>exact fin hK
 |exit i=>exact hK.elim
 |goto l=>exact hK.elim
 |panic ch=>exact hK.elim
 |outgrown=>exact hK.elim
def abl (o:Option aF):Prop:=
 match o with
 | some (.tr _ _ rest st)=>match st with
   |some true=>True
   |some false=>rest=[]
   |none=>rest=[]
 |_=>False
def fnY (e:Exit)(s:AS):Prop:=
 match e with
 |.normal=>abl (lk s.hp 999)
 |.ret=>abl (lk s.hp 999)
 |_=>False
def af7 (P:Program)(l:Nat)(bF:List PV)(xs:List (List PV))(K:AS→Prop):Prop:=
 match Ov lits (.fn (.yield l) [] []::bF) with
 |some tm=>K ⟨tm,1000000000,[(999,.tr (P,l) 0 xs (some false))]⟩
 |none=>False
theorem OA (hT:bY P T)(jU:∀(c:Ctx) (R:Real) (s:AS) (a:Act) (w:World) (id:Nat) (ops:Array Oper) (K:Exit→AS→Prop) (ro:Option Nat),bG c R s a w→nN c.n ops.toList=true →
  VC P T (.region id ops true) s K→(Code.region id ops true).wpIn (W1 ro) 0 P (fun e a' w'=>∃R' s',K e s'∧bG c R' s' a' w') a w)
  {f:FuncId} {fn:Func} (hf:bR P f fn) {bF:List PV} {xs:List (List PV)} (hl:Nat.ble (bF.length+1) fn.ntmps=true) (af8:fn.results.toList=[])
  (h:∀l,af7 P l bF xs fun s=>VC P T (codeOf fn) s fnY):abh P f bF xs:=by
 refine⟨⟨fn,hf.func,hf.body,hf.name⟩,fun l J D w dz hY hD hJ af9=>?_⟩;have h:=h l;unfold af7 at h;split at h
 case h_2=>exact h.elim
 rename_i WK Ox;have hbody:fn.body=some (codeOf fn):=by
  have:=hf.body;unfold codeOf;cases hb:fn.body with
  |none=>rw[hb] at this;cases this
  |some c=>rfl
 have hl:=Nat.le_of_ble_eq_true hl;have hargs:eY D w (.fn (.yield l) [] []::bF) (#[Value.func (.yield l) #[] #[]]++dz).toList:=by
  simp only[eY,bJ,Array.toList_append,List.cons_append,List.nil_append];exact⟨_,_,rfl,⟨#[],#[],rfl,rfl,rfl⟩,af9⟩
 generalize hca : #[Value.func (.yield l) #[] #[]]++dz=ca at hargs;rw[jk] at hargs;have hcl:ca.size=bF.length+1:=by have:=hargs.length;simpa using this
 let c:Ctx:={ F:=fun _=>False,O:=D,w:=w,n:=fn.ntmps,hF:=fun _ h=>h.elim,K:=fun _ _=>False,hK:=fun _ _ h=>h.elim,fix:=fun _=>none,n0:=(w.heap.size,J),lo:=w.heap.size }
 let R:Real:=⟨fun _=>0,fun _=>true,fun _=>(0,[]),⟨fun _=>False,D,w,(w.heap.size,J)⟩⟩
 let mg:List (Nat×aF):=[(999,.tr (P,l) 0 xs (some false))]
 have hown:∀b r,aL R b r (lk mg b)→b=999∧D r:=by
  intro b r h;simp only[mg,aC] at h;split at h
  ·rename_i e;exact⟨e.symm,h⟩
  exact h.elim
 have hNF:∀r,aV c R mg r→D r:=fun r h=>h.elim (fun h=>h.elim) fun⟨b,h⟩=>(hown b r h).2
 refine callsIn_wide.1 (callsIn_of_wp_marks (n:=0) hf.func hbody trivial ?_);have g:bG c R ⟨WK,1000000000,mg⟩ { tmps:=ca++Array.replicate (fn.ntmps-ca.size) undef,defers:=[] } w:=by
  refine⟨?_,?_,⟨rfl,Nat.le_refl _,Nat.le_refl _⟩,⟨[],Marks.nil⟩,tY.none,?_,?_,fun _ _ h=>h,mr.refl _ _,?_,fun _ _ h=>h.elim⟩
  ·intro t v hv;obtain⟨_,p,hp,rfl⟩:=Jv lits 0 _ WK t v DC Ox hv;obtain⟨x,hx,hr⟩:=hargs.get hp;have hx':ca[t]? = some x:=by simpa using hx
   refine⟨x,?_,?_⟩
   ·have:=size_of_getElem? hx';simp only;rw[Array.getElem?_append_left this];exact hx'
   simp only[ak];exact dJ (fun r _ h=>hNF r h) (fun _ _ _=>rfl) _ _ hr
  ·show (ca++Array.replicate (fn.ntmps-ca.size) undef).size=fn.ntmps
   simp;omega
  ·intro b box hb;simp only[mg,aC] at hb;split at hb
   ·rename_i e;subst e;simp only[Option.some.injEq] at hb;subst hb;exact⟨rfl,hY,hJ,Dj.refl _ _ _ _,hD,fun r h=>.inl (hNF r h)⟩
   simp[lk] at hb
  ·intro b b' r h h';rw[(hown b r h).1,(hown b' r h').1]
  rintro r ⟨b,h⟩
  exact .inl (hown b r h).2
 refine Go.wpIn_mono (fU (ro:=none) hT jU (codeOf fn) ⟨fun _ h=>(by cases h),fun _ _ h=>(by cases h)⟩ g hf.ok h) ?_;rintro e a' WL ⟨R',s',hK,WM⟩
 obtain⟨Ds,mkD⟩:=WM.marks;obtain⟨w',aea,g',hleave⟩:=oM (P:=P) (fn:=fn) (Rr:=fun e w'=>(∃v,e=.returned v)∧∃rest st Z D' wy,J rest st Z D' wy∧Dj w.heap.size Z D' wy w'∧(st=true∨rest=[])) (Nat.le_refl _) (fun _ _ h=>(by cases h)) Ds a' WL WM mkD;have fin:abl (lk s'.hp 999)→LeavesInM Fence.wide 0 P fn a'.tmps (fun e w'=>(∃v,e=.returned v)∧∃rest st Z D' wy,J rest st Z D' wy∧Dj w.heap.size Z D' wy w'∧(st=true∨rest=[])) a'.defers .returning WL:=by
  intro hK;refine hleave ?_;have hres:(results fn a'.tmps).run P w'=.ok (.tuple #[]) w':=by
   have h1:results fn a'.tmps=(fn.results.mapM (En P a'.tmps) >>= fun vs=>pure (if h:vs.size=1 then vs[0] else .tuple vs)):=by
    unfold results;congr 2
   have h2:(fn.results.mapM (En P a'.tmps)).run P w'=.ok #[] w':=by
    rw[Array.mapM_eq_mapM_toList,Sem.run_map,af8];simp
   rw[h1];simp only[Sem.run_bind,h2,Result.andThen_ok,Sem.run_pure];simp
  refine⟨_,hres,⟨_,rfl⟩,?_⟩;unfold abl at hK;split at hK
  ·rename_i y ver rest st hb;obtain⟨_,_,k1,k2,_,_⟩:=g'.boxes 999 _ hb;have hn:=g'.lo.1;rw[hn] at k1 k2;refine⟨rest,_,_,_,_,k1,k2,?_⟩;split at hK
   ·exact .inl rfl
   ·exact .inr hK
   exact .inr hK
  exact hK.elim
 cases e with
 |normal=>exact fin hK
 |ret=>exact fin hK
 |exit i=>exact hK.elim
 |goto l=>exact hK.elim
 |panic ch=>exact hK.elim
 |outgrown=>exact hK.elim
end
mutual
def flatK (P:Program):Nat→TypeId→Option (List EK)
 |0,_=>none
 | d+1,t=>match P.underlying t with
   |some .bool=>some [.bool]
   |some (.int k)=>some [.int k]
   |some .string=>some [.str]
   | some (.struct fs)=>match P.stoodInHeld t with
     |true=>none
     |false=>xM P d fs.toList 0
   |_=>none
def xM (P:Program):Nat→List Field→Nat→Option (List EK)
 |_,[],_=>some []
 |0,_::_,_=>none
 | d+1,f::fs,off=>match f.name == "_",Nat.beq f.offset off with
   | false,true=>match flatK P d f.type with
     | some a=>match Nat.beq (P.cellsOf f.type) a.length,Nat.beq a.length 0 with
       | true,false=>match xM P d fs (off+a.length) with
         |some b=>some (a++b)
         |none=>none
       |_,_=>none
     |none=>none
   |_,_=>none
end
theorem nY {k:EK}{ks:List EK}{x y:Value}{xs ys:List Value}{b:Bool}:lK (k::ks) (x::xs) (y::ys)=some b↔∃a c,eqV k x y=some a∧lK ks xs ys=some c∧b=(a&&c):=by
 simp only[lK];cases h:eqV k x y with
 |none=>simp
 | some a=>
   simp only[Option.some.injEq];cases ks with
   | nil=>
     cases xs<;>cases ys<;>simp[lK]
     constructor
     ·rintro rfl;rfl
     rintro rfl;rfl
   | cons k2 ks=>
     simp only;cases h2:lK (k2::ks) xs ys with
     |none=>simp
     | some c=>
       simp only[Option.some.injEq];constructor
       ·rintro rfl;exact⟨a,c,rfl,rfl,rfl⟩
       rintro⟨_,_,rfl,rfl,rfl⟩;rfl
theorem KY:∀{ks:List EK} {xs ys:List Value} {b:Bool},lK ks xs ys=some b→xs.length=ks.length∧ys.length=ks.length
 |[],[],[],b,_=>⟨rfl,rfl⟩
 |[],[],_::_,b,h=>by simp[lK] at h
 |[],_::_,_,b,h=>by simp[lK] at h
 |k::ks,[],_,b,h=>by simp[lK] at h
 |k::ks,_::_,[],b,h=>by simp[lK] at h
 | k::ks,x::xs,y::ys,b,h=>by
   obtain⟨a,c,_,h2,_⟩:=nY.1 h;have:=KY h2;simp[this]
theorem KZ {xs ys:List Value}{b:Bool}(h:lK [] xs ys=some b):b=true:=by
 cases xs<;>cases ys<;>simp[lK] at h
 exact h
theorem BV:∀{k1 k2:List EK} {xs ys:List Value} {b:Bool},lK (k1++k2) xs ys=some b →
  ∃a c,lK k1 (xs.take k1.length) (ys.take k1.length)=some a∧lK k2 (xs.drop k1.length) (ys.drop k1.length)=some c∧b=(a&&c)
 |[],k2,xs,ys,b,h=>⟨true,b,by simp[lK],by simpa using h,by simp⟩
 |k::k1,k2,[],ys,b,h=>by simp[lK] at h
 |k::k1,k2,x::xs,[],b,h=>by simp[lK] at h
 | k::k1,k2,x::xs,y::ys,b,h=>by
   rw[List.cons_append] at h;obtain⟨a,c,h1,h2,rfl⟩:=nY.1 h;obtain⟨a',c',h3,h4,rfl⟩:=BV h2;refine⟨a&&a',c',?_,by simpa using h4,by simp[Bool.and_assoc]⟩;simp only[List.length_cons,List.take_succ_cons];exact nY.2 ⟨a,a',h1,h3,rfl⟩
section
variable {P:Program}
def aga (P:Program)(d:Nat):Prop:=∀(t:TypeId) (ks:List EK) (n:Nat) (w:World),flatK P d t=some ks→d≤n →
 (∀(x y:Value) (b:Bool),(match P.underlying t with|some (.struct _)=>False|_=>True)→lK ks [x] [y]=some b→(Op.equalIn n t x y).run P w=.ok b w) ∧
 (∀(xs ys:Array Value) (b:Bool),(match P.underlying t with|some (.struct _)=>True|_=>False)→lK ks xs.toList ys.toList=some b→(Op.equalIn n t (.agg xs) (.agg ys)).run P w=.ok b w)
theorem agb:∀(d:Nat),aga P d:=by
 intro d;induction d using Nat.strongRecOn with
 | _ d ih=>
   intro t ks n w h hn;cases d with
   |zero=>simp[flatK] at h
   | succ d=>
     obtain⟨m,rfl⟩:∃m,n=m+1:=⟨n-1,by omega⟩;simp only[flatK] at h;split at h
     ·rename_i hu;simp only[Option.some.injEq] at h;subst h;refine⟨fun x y b _ hb=>?_,fun xs ys b hs=>by rw[hu] at hs;exact hs.elim⟩;obtain⟨a,c,h1,h2,rfl⟩:=nY.1 hb;simp only[lK,Option.some.injEq] at h2;subst h2;cases x<;>cases y<;>simp[eqV] at h1
      subst h1;simpa using run_equalIn_bool w m t _ _ hu
     ·rename_i k hu;simp only[Option.some.injEq] at h;subst h;refine⟨fun x y b _ hb=>?_,fun xs ys b hs=>by rw[hu] at hs;exact hs.elim⟩;obtain⟨a,c,h1,h2,rfl⟩:=nY.1 hb;simp only[lK,Option.some.injEq] at h2;subst h2;cases x<;>cases y<;>simp only[eqV] at h1<;>try (cases h1;done)
      split at h1
      ·rename_i e1 e2;have e1:=of_decide_eq_true e1;have e2:=of_decide_eq_true e2;subst e1;subst e2;simp only[Option.some.injEq] at h1;subst h1;simpa using run_equalIn_int w m t _ _ _ _ hu
      cases h1
     ·rename_i hu;simp only[Option.some.injEq] at h;subst h;refine⟨fun x y b _ hb=>?_,fun xs ys b hs=>by rw[hu] at hs;exact hs.elim⟩;obtain⟨a,c,h1,h2,rfl⟩:=nY.1 hb;simp only[lK,Option.some.injEq] at h2;subst h2;cases x<;>cases y<;>simp only[eqV] at h1<;>try (cases h1;done)
      simp only[Option.some.injEq] at h1;subst h1;simpa using run_equalIn_string w m t _ _ hu
     ·rename_i fs hu;split at h
      ·cases h
      rename_i hst;refine⟨fun x y b hs=>by rw[hu] at hs;exact hs.elim,fun xs ys b _ hb=>?_⟩;have eH:P.fieldsOf t=fs:=by simp[Program.fieldsOf,hu]
      rw[run_equalIn_struct w m t xs ys (by rw[eH];exact hu) hst,eH];have key:∀(d':Nat) (fl:List Field) (off:Nat) (ks:List EK) (b:Bool),d'≤d→xM P d' fl off=some ks→lK ks (xs.toList.drop off) (ys.toList.drop off)=some b →
        (Op.eqFields m xs ys fl).run P w=.ok b w:=by
       intro d';induction d' with
       | zero=>
         intro fl off ks b _ h hb;cases fl with
         | nil=>
           simp only[xM,Option.some.injEq] at h;subst h;have:=KZ hb;subst this;simp[Op.eqFields]
         |cons f fl=>simp[xM] at h
       | succ d' ih2=>
         intro fl off ks b hd' h hb;cases fl with
         | nil=>
           simp only[xM,Option.some.injEq] at h;subst h;have:=KZ hb;subst this;simp[Op.eqFields]
         | cons f fl=>
           simp only[xM] at h;split at h
           ·rename_i hnm hoff;have hoff:=Nat.eq_of_beq_eq_true hoff;split at h
            ·rename_i ka hka;split at h
             ·rename_i hsz hk0;have hsz:=Nat.eq_of_beq_eq_true hsz;have hk0:=Nat.ne_of_beq_eq_false hk0;split at h
              ·rename_i kb hkb;simp only[Option.some.injEq] at h;subst h;obtain⟨a1,a2,q1,q2,rfl⟩:=BV hb;rw[List.drop_drop,List.drop_drop] at q2;have hrest:=ih2 fl (off+ka.length) kb a2 (by omega) hkb q2;obtain⟨e1,e2⟩:=ih d' (by omega) f.type ka m w hka (by omega);have hne:(f.name ≠ "_")=True:=by simp only[ne_eq,eq_iff_iff,iff_true];intro e;rw[e] at hnm;simp at hnm
               have hlen:=KY q1;have lx:off+ka.length≤xs.size:=by have:=hlen.1;simp at this;omega
               have ly:off+ka.length≤ys.size:=by have:=hlen.2;simp at this;omega
               obtain⟨ii,hii⟩:∃ii,P.info? f.type=some ii:=by
                cases hii:P.info? f.type with
                |some ii=>exact⟨ii,rfl⟩
                | none=>
                  have hun:P.underlying f.type=none:=by unfold Program.underlying;rw[hii]
                  cases d'<;>simp[flatK,hun] at hka
               have hsize:ii.size=ka.length:=by rw[←hsz];simp[Program.cellsOf,hii]
               have hparts:∃x y,(Go.part f.type xs f.offset).run P w=.ok x w∧(Go.part f.type ys f.offset).run P w=.ok y w∧(Op.equalIn m f.type x y).run P w=.ok a1 w:=by
                cases hud:P.underlying f.type with
                |none=>cases d'<;>simp[flatK,hud] at hka
                | some dd=>
                  have plain:(match dd with|.struct _=>False|.array _ _=>False|_=>True)→ka.length=1→∃x y,(Go.part f.type xs f.offset).run P w=.ok x w∧(Go.part f.type ys f.offset).run P w=.ok y w ∧
                    (Op.equalIn m f.type x y).run P w=.ok a1 w:=by
                   intro hpl h1;have g1:xs[off]? = some xs[off]:=Array.getElem?_eq_getElem (by omega);have g2:ys[off]? = some ys[off]:=Array.getElem?_eq_getElem (by omega);refine⟨xs[off],ys[off],?_,?_,e1 _ _ a1 (by rw[hud];cases dd<;>first|trivial|exact hpl) ?_⟩
                   ·rw[hoff];cases dd<;>first|exact hpl.elim|simp[Go.part,isAgg,run_underlying hud,g1]
                   ·rw[hoff];cases dd<;>first|exact hpl.elim|simp[Go.part,isAgg,run_underlying hud,g2]
                   rw[h1] at q1;have t1:(xs.toList.drop off).take 1=[xs[off]]:=by
                    rw[List.drop_eq_getElem_cons (by simpa using (by omega:off<xs.size))];simp
                   have t2:(ys.toList.drop off).take 1=[ys[off]]:=by
                    rw[List.drop_eq_getElem_cons (by simpa using (by omega:off<ys.size))];simp
                   rw[t1,t2] at q1;exact q1
                  cases d' with
                  |zero=>simp[flatK] at hka
                  | succ d'=>
                    simp only[flatK,hud] at hka;cases dd<;>simp only at hka<;>try (cases hka;done)
                    ·simp only[Option.some.injEq] at hka;exact plain trivial (by rw[←hka];rfl)
                    ·simp only[Option.some.injEq] at hka;exact plain trivial (by rw[←hka];rfl)
                    ·simp only[Option.some.injEq] at hka;exact plain trivial (by rw[←hka];rfl)
                    refine⟨.agg (xs.extract off (off+ii.size)),.agg (ys.extract off (off+ii.size)),?_,?_,e2 _ _ a1 (by rw[hud];trivial) ?_⟩
                    ·rw[hoff];simp[Go.part,isAgg,run_underlying hud,sizeOf,typeInfo,hii]
                    ·rw[hoff];simp[Go.part,isAgg,run_underlying hud,sizeOf,typeInfo,hii]
                    have f1:(xs.extract off (off+ii.size)).toList=(xs.toList.drop off).take ka.length:=by simp[Array.toList_extract,List.extract,hsize]
                    have f2:(ys.extract off (off+ii.size)).toList=(ys.toList.drop off).take ka.length:=by simp[Array.toList_extract,List.extract,hsize]
                    rw[f1,f2];exact q1
               obtain⟨x,y,p1,p2,p3⟩:=hparts;simp only[Op.eqFields,hne,if_true,Sem.run_bind,p1,p2,p3,Result.andThen_ok];cases a1 with
               |false=>simp
               |true=>simpa using hrest
              cases h
             cases h
            cases h
           cases h
      exact key d fs.toList 0 ks b (Nat.le_refl _) h (by simpa using hb)
     cases h
theorem iy {t:TypeId}{ks:List EK}(h:flatK P 20 t=some ks)(hs:(match P.underlying t with|some (.struct _)=>true|_=>false)=true):agf P t ks:=by
 intro w xs ys b hb;refine (agb 20 t ks 10000 w h (by omega)).2 xs ys b ?_ hb;cases hu:P.underlying t with
 |none=>rw[hu] at hs;cases hs
 |some d=>rw[hu] at hs;cases d<;>first|trivial|cases hs
end
end Go.AX
namespace Go.AX
theorem WS {α:Type}:∀{l:List (Nat×α)} {t:Nat} {v:α},lk l t=some v→(t,v)∈l
 |[],t,v,h=>by simp[lk] at h
 | (k,u)::r,t,v,h=>by
   rw[aC] at h;split at h
   ·rename_i e;simp only[Option.some.injEq] at h;subst e;subst h;exact List.mem_cons_self
   exact List.mem_cons_of_mem _ (WS h)
theorem Gn {P:Program}{T:Tab}(h:∀x∈T,dw P x.1 x.2):bY P T:=fun t i hl=>h (t,i) (WS hl)
def iW {α:Type}(m:(α→Prop)→Prop):Prop:=∀K,m K→∃x,K x∧∀K',K' x→m K'
theorem bC {α:Type}(x:α):iW fun K=>K x:=fun K h=>⟨x,h,fun _ h=>h⟩
theorem nZ {α:Type}:iW fun (_:α→Prop)=>False:=fun _ h=>h.elim
theorem aR {α:Type}{p:Prop}{m:(α→Prop)→Prop}(h:p→iW m):iW fun K=>p∧m K:=fun K ⟨hp,hm⟩=>
 let ⟨x,h1,h2⟩:=h hp K hm;⟨x,h1,fun K' h'=>⟨hp,h2 K' h'⟩⟩
theorem mJ {α β:Type}{m:β→(α→Prop)→Prop}(h:∀b,iW (m b)):iW fun K=>∃b,m b K:=fun K ⟨b,hm⟩=>
 let ⟨x,h1,h2⟩:=h b K hm;⟨x,h1,fun K' h'=>⟨b,h2 K' h'⟩⟩
theorem Jw {α β:Type}{m:(α→Prop)→Prop}(f:α→β)(h:iW m):iW fun K=>m fun x=>K (f x):=fun K hm=>
 let ⟨x,h1,h2⟩:=h _ hm;⟨f x,h1,fun K' h'=>h2 _ h'⟩
theorem abm {α:Type}{m:(α→Prop)→Prop}{o h':Option Int}{n:Nat}(h:iW m):iW fun K=>inF o h' n (m K):=by
 intro K hm;cases o with
 | none=>
   obtain⟨x,h1,h2⟩:=h K (by simpa only[inF] using hm);exact⟨x,h1,fun K' h'=>by simpa only[inF] using h2 K' h'⟩
 | some i=>
   obtain⟨a,b,hm⟩:=(by simpa only[inF] using hm:h'=some i∧0<n∧m K);obtain⟨x,h1,h2⟩:=h K hm;exact⟨x,h1,fun K' h'=>by simpa only[inF] using ⟨a,b,h2 K' h'⟩⟩
theorem oN {α:Type}{m:(α→Prop)→Prop}{lo:Int}{o:Option Int}{hi:Int}(h:iW m):iW fun K=>NS lo o hi (m K):=by
 intro K hm;cases o with
 | none=>
   obtain⟨x,h1,h2⟩:=h K (by simpa only[NS] using hm);exact⟨x,h1,fun K' h'=>by simpa only[NS] using h2 K' h'⟩
 | some i=>
   obtain⟨a,b,hm⟩:=(by simpa only[NS] using hm:lo≤i∧i≤hi∧m K);obtain⟨x,h1,h2⟩:=h K hm;exact⟨x,h1,fun K' h'=>by simpa only[NS] using ⟨a,b,h2 K' h'⟩⟩
theorem WT (op:BinOp)(k:IntKind)(a b:Int):iW (Ti op k a b):=by
 unfold Ti;cases op<;>first|exact bC _|exact nZ|exact aR fun _=>bC _
theorem WU (op:BinOp)(a b:ByteArray):iW (WV op a b):=by
 unfold WV;cases op<;>first|exact bC _|exact nZ|exact aR fun _=>bC _
theorem Rh (op:BinOp)(b:Bool):iW (Q6 op b):=by
 unfold Q6;cases op<;>first|exact bC _|exact nZ
theorem bV {α:Type}{m:(α→Prop)→Prop}{K:α→Prop}{x:α}(h:K x)(hm:∀K',K' x→m K'):∃x,K x∧∀K',K' x→m K':=⟨x,h,hm⟩
theorem aK {α:Type}{m m':(α→Prop)→Prop}{K:α→Prop}(hd:iW m)(h:m K)(hm:∀K',m K'→m' K'):∃x,K x∧∀K',K' x→m' K':=
 let ⟨x,h1,h2⟩:=hd K h;⟨x,h1,fun K' h'=>hm K' (h2 K' h')⟩
theorem WX (i:TI)(op:BinOp)(x y:AV):iW (OB i op x y):=by
 intro K h;unfold OB at h;repeat' split at h
 all_goals first
  |exact h.elim
  |exact bV h fun K' h'=>by unfold OB;simp only[*]<;>first|exact h'|simp
  |exact aK (Rh _ _) h fun K' h'=>by unfold OB;simp only[*]<;>first|exact h'|simp
theorem OC (op:BinOp)(k:IntKind)(a b:Int):iW (AJ op k a b):=by
 intro K h;unfold AJ at h;split at h
 ·exact⟨_,h.2,fun K' h'=>by unfold AJ;exact⟨h.1,h'⟩⟩
 ·exact⟨_,h.2,fun K' h'=>by unfold AJ;exact⟨h.1,h'⟩⟩
 exact h.elim
theorem WY (T:Tab)(op:BinOp)(t:TypeId)(x y:AV):iW (Gd T op t x y):=by
 intro K h;unfold Gd at h;repeat' split at h
 all_goals first
  |exact h.elim
  |exact bV h fun K' h'=>by unfold Gd;simp only[*]<;>first|exact h'|simp
  |exact aK (OC _ _ _ _) h fun K' h'=>by unfold Gd;simp only[*]<;>first|exact h'|simp
  |exact aK (WT _ _ _ _) h fun K' h'=>by unfold Gd;simp only[*]<;>first|exact h'|simp
  |exact aK (WU _ _ _) h fun K' h'=>by unfold Gd;simp only[*]<;>first|exact h'|simp
  |exact aK (WX _ _ _ _) h fun K' h'=>by unfold Gd;simp only[*]<;>first|exact h'|simp
theorem Tj (T:Tab)(H:List (Nat×aF))(op:BinOp)(t:TypeId)(x y:AV):iW (Eg T H op t x y):=by
 intro K h;unfold Eg at h;repeat' split at h
 all_goals first
  |exact h.elim
  |exact aK (Rh _ _) h fun K' h'=>by unfold Eg;simp only[*]<;>first|exact h'|simp
  |exact aK (WY _ _ _ _ _) h fun K' h'=>by unfold Eg;simp only[*]<;>first|exact h'|simp
theorem uT (i:TI)(cs:List AV):iW (sK i cs):=by
 intro K h;unfold sK at h;repeat' split at h
 all_goals first
  |exact h.elim
  |exact bV h fun K' h'=>by unfold sK;simp only[*]<;>first|exact h'|simp
theorem Ep (i:TI)(cs:List PV):iW (za i cs):=by
 intro K h;unfold za at h;repeat' split at h
 all_goals first
  |exact h.elim
  |exact bV h fun K' h'=>by unfold za;simp only[*]<;>first|exact h'|simp
theorem WZ (off:Nat)(i:TI)(row:List PV):iW fun K=>match part off i.size row with
  |some cs=>za i cs K
  |none=>False:=by
 cases h:part off i.size row with
 |some cs=>exact Ep i cs
 |none=>exact nZ
theorem abn (off:Nat)(row cs:List PV)(F:List PV→AV×List (Nat×aF)):iW fun K=>match kz off row cs with
  |some row'=>K (F row')
  |none=>False:=by
 cases h:kz off row cs with
 |some cs=>exact bC _
 |none=>exact nZ
theorem Tk (T:Tab)(H:List (Nat×aF))(t:TypeId)(x:AV):iW (uR T H t x):=by
 intro K h;unfold uR at h;repeat' split at h
 all_goals first
  |exact h.elim
  |exact bV h fun K' h'=>by unfold uR;simp only[*]<;>first|exact h'|simp
  |exact aK (uT _ _) h fun K' h'=>by unfold uR;simp only[*]<;>first|exact h'|simp
  |exact aK (mJ fun _=>aR fun _=>WZ _ _ _) h fun K' h'=>by unfold uR;simp only[*]<;>first|exact h'|simp
  |exact aK (Ep _ _) h fun K' h'=>by unfold uR;simp only[*]<;>first|exact h'|simp
theorem Er (T:Tab)(H:List (Nat×aF))(t:TypeId)(x:AV)(f:Nat):iW (mG T H t x f):=by
 intro K h;unfold mG at h;repeat' split at h
 all_goals first
  |exact h.elim
  |exact bV h fun K' h'=>by unfold mG;simp only[*]<;>first|exact h'|simp
theorem W9 (T:Tab)(t:TypeId)(x:AV)(f:Nat):iW (KO T t x f):=by
 intro K h;unfold KO at h;repeat' split at h
 all_goals first
  |exact h.elim
  |exact bV h fun K' h'=>by unfold KO;simp only[*]<;>first|exact h'|simp
  |exact aK (uT _ _) h fun K' h'=>by unfold KO;simp only[*]<;>first|exact h'|simp
  |exact aK (Ep _ _) h fun K' h'=>by unfold KO;simp only[*]<;>first|exact h'|simp
theorem Es (T:Tab)(H:List (Nat×aF))(t:TypeId)(x ix:AV):iW (eP T H t x ix):=by
 intro K h;unfold eP at h;repeat' split at h
 all_goals first
  |exact h.elim
  |exact bV h fun K' h'=>by unfold eP;simp only[*]<;>first|exact h'|simp
  |exact aK (aR fun _=>bC _) h fun K' h'=>by unfold eP;simp only[*]<;>first|exact h'|simp
  |exact aK (aR fun _=>aR fun _=>bC _) h fun K' h'=>by unfold eP;simp only[*]<;>first|exact h'|simp
  |exact aK (mJ fun _=>aR fun _=>bC _) h fun K' h'=>by unfold eP;simp only[*]<;>first|exact h'|simp
  |exact aK (aR fun _=>mJ fun _=>aR fun _=>bC _) h fun K' h'=>by unfold eP;simp only[*]<;>first|exact h'|simp
  |exact aK (aR fun _=>aR fun _=>aR fun _=>aR fun _=>bC _) h fun K' h'=>by unfold eP;simp only[*]<;>first|exact h'|simp
theorem OD (T:Tab)(t:TypeId)(x ix:AV):iW (oO T t x ix):=by
 intro K h;unfold oO at h;repeat' split at h
 all_goals first
  |exact h.elim
  |exact bV h fun K' h'=>by unfold oO;simp only[*]<;>first|exact h'|simp
  |exact aK (aR fun _=>bC _) h fun K' h'=>by unfold oO;simp only[*]<;>first|exact h'|simp
  |exact aK (aR fun _=>aR fun _=>bC _) h fun K' h'=>by unfold oO;simp only[*]<;>first|exact h'|simp
  |exact aK (mJ fun _=>aR fun _=>bC _) h fun K' h'=>by unfold oO;simp only[*]<;>first|exact h'|simp
  |exact aK (aR fun _=>mJ fun _=>aR fun _=>bC _) h fun K' h'=>by unfold oO;simp only[*]<;>first|exact h'|simp
  |exact aK (aR fun _=>aR fun _=>aR fun _=>aR fun _=>bC _) h fun K' h'=>by unfold oO;simp only[*]<;>first|exact h'|simp
theorem Jy (x:AV)(i:Nat):iW (qU x i):=by
 intro K h;unfold qU at h;repeat' split at h
 all_goals first
  |exact h.elim
  |exact bV h fun K' h'=>by unfold qU;simp only[*]<;>first|exact h'|simp
theorem abo (op:UnOp)(x:AV):iW (cUn op x):=by
 intro K h;unfold cUn at h;repeat' split at h
 all_goals first
  |exact h.elim
  |exact bV h fun K' h'=>by unfold cUn;simp only[*]<;>first|exact h'|simp
theorem Tm (T:Tab)(H:List (Nat×aF))(src dst:TypeId)(x:AV):iW (uK T H src dst x):=by
 intro K h;unfold uK at h;repeat' split at h
 all_goals first
  |exact h.elim
  |exact bV h fun K' h'=>by unfold uK;simp only[*]<;>first|exact h'|simp
  |exact aK (aR fun _=>bC _) h fun K' h'=>by unfold uK;simp only[*]<;>first|exact h'|simp
  |exact aK (aR fun _=>aR fun _=>bC _) h fun K' h'=>by unfold uK;simp only[*]<;>first|exact h'|simp
  |exact aK (mJ fun _=>aR fun _=>bC _) h fun K' h'=>by unfold uK;simp only[*]<;>first|exact h'|simp
  |exact aK (aR fun _=>mJ fun _=>aR fun _=>bC _) h fun K' h'=>by unfold uK;simp only[*]<;>first|exact h'|simp
  |exact aK (aR fun _=>aR fun _=>aR fun _=>aR fun _=>bC _) h fun K' h'=>by unfold uK;simp only[*]<;>first|exact h'|simp
theorem Xa (T:Tab)(H:List (Nat×aF))(t:TypeId)(x:AV):iW (Et T H t x):=by
 intro K h;unfold Et at h;repeat' split at h
 all_goals first
  |exact h.elim
  |exact bV h fun K' h'=>by unfold Et;simp only[*]<;>first|exact h'|simp
theorem OE (T:Tab)(t:TypeId)(lo hi mx:Option Operand)(vs:List AV):iW (oK T t lo hi mx vs):=by
 intro K h;unfold oK at h;repeat' split at h
 all_goals first
  |exact h.elim
  |exact bV h fun K' h'=>by unfold oK;simp only[*]<;>first|exact h'|simp
  |exact aK (oN (oN (bC _))) h fun K' h'=>by unfold oK;simp only[*]<;>first|exact h'|simp
  |exact aK (oN (oN (oN (bC _)))) h fun K' h'=>by unfold oK;simp only[*]<;>first|exact h'|simp
  |exact aK (abm (oN (oN (oN (bC _))))) h fun K' h'=>by unfold oK;simp only[*]<;>first|exact h'|simp
  |exact aK (aR fun _=>oN (oN (oN (bC _)))) h fun K' h'=>by have e1:=h'.1;have h2:=h'.2;clear h' h;subst e1;unfold oK;simp only[*,true_and]
theorem OG (T:Tab)(H:List (Nat×aF))(t:TypeId)(x y:AV):iW (fun (K:AV×List (Nat×aF)→Prop)=>qC T H t x y fun v ws=>K (v,ws)):=by
 intro K h;unfold qC at h;repeat' split at h
 all_goals first
  |exact h.elim
  |exact bV h fun K' h'=>by unfold qC;simp only[*]<;>first|exact h'|simp
  |exact aK (mJ fun _=>aR fun _=>abn _ _ _ fun row=>(.pv (.sc undef),[(_,.arr _ _ _ (List.set _ _ row))])) h fun K' h'=>by unfold qC;simp only[*]<;>first|exact h'|simp
theorem Xb (T:Tab)(H:List (Nat×aF))(t:TypeId)(vs:List AV)(id:Nat):iW (fun (K:AV×List (Nat×aF)→Prop)=>uw T H t vs id fun v ws=>K (v,ws)):=by
 intro K h;unfold uw at h;simp only[eu] at h;repeat' split at h
 all_goals first
  |exact h.elim
  |exact bV h fun K' h'=>by unfold uw;simp only[eu, *]<;>first|exact h'|simp
  |exact aK (aR fun _=>bC _) h fun K' h'=>by unfold uw;simp only[eu, *]<;>first|exact h'|simp
  |exact aK (aR fun _=>aR fun _=>bC _) h fun K' h'=>by unfold uw;simp only[eu, *]<;>first|exact h'|simp
  |exact aK (mJ fun _=>aR fun _=>bC _) h fun K' h'=>by unfold uw;simp only[eu, *]<;>first|exact h'|simp
  |exact aK (aR fun _=>mJ fun _=>aR fun _=>bC _) h fun K' h'=>by unfold uw;simp only[eu, *]<;>first|exact h'|simp
  |exact aK (aR fun _=>aR fun _=>aR fun _=>aR fun _=>bC _) h fun K' h'=>by unfold uw;simp only[eu, *]<;>first|exact h'|simp
theorem Tn (H:List (Nat×aF))(f:Fn)(nf:Nat)(vs:List AV):iW (fun (K:AV×List (Nat×aF)→Prop)=>GK H f nf vs fun v ws=>K (v,ws)):=by
 intro K h;unfold GK at h;repeat' split at h
 all_goals first
  |exact h.elim
  |exact bV h fun K' h'=>by unfold GK;simp only[*]<;>first|exact h'|simp
theorem OH (T:Tab)(t:TypeId)(ks:List Nat)(vs:List AV):iW (Av T t ks vs):=by
 intro K h;unfold Av at h;repeat' split at h
 all_goals first
  |exact h.elim
  |exact bV h fun K' h'=>by unfold Av;simp only[*]<;>first|exact h'|simp
theorem zb (T:Tab)(H:List (Nat×aF))(t:TypeId)(len:Nat)(ks:List Nat)(vs:List AV)(id:Nat):iW (fun (K:AV×List (Nat×aF)→Prop)=>lS T H t len ks vs id fun v ws=>K (v,ws)):=by
 intro K h;unfold lS at h;simp only[eu] at h;repeat' split at h
 all_goals first
  |exact h.elim
  |exact bV h fun K' h'=>by unfold lS;simp only[eu, *]<;>first|exact h'|simp
theorem Tp (T:Tab)(t:TypeId)(vs:List AV)(id:Nat):iW (fun (K:AV×List (Nat×aF)→Prop)=>uJ T t vs id fun v ws=>K (v,ws)):=by
 intro K h;unfold uJ at h;simp only[eu] at h;repeat' split at h
 all_goals first
  |exact h.elim
  |exact bV h fun K' h'=>by unfold uJ;simp only[eu, *]<;>first|exact h'|simp
  |exact aK (aR fun _=>bC _) h fun K' h'=>by unfold uJ;simp only[eu, *]<;>first|exact h'|simp
  |exact aK (aR fun _=>aR fun _=>bC _) h fun K' h'=>by unfold uJ;simp only[eu, *]<;>first|exact h'|simp
  |exact aK (mJ fun _=>aR fun _=>bC _) h fun K' h'=>by unfold uJ;simp only[eu, *]<;>first|exact h'|simp
  |exact aK (aR fun _=>mJ fun _=>aR fun _=>bC _) h fun K' h'=>by unfold uJ;simp only[eu, *]<;>first|exact h'|simp
  |exact aK (aR fun _=>aR fun _=>aR fun _=>aR fun _=>bC _) h fun K' h'=>by unfold uJ;simp only[eu, *]<;>first|exact h'|simp
theorem OI (T:Tab)(t:TypeId)(id:Nat):iW (fun (K:AV×List (Nat×aF)→Prop)=>Aw T t id fun v ws=>K (v,ws)):=by
 intro K h;unfold Aw at h;repeat' split at h
 all_goals first
  |exact h.elim
  |exact bV h fun K' h'=>by unfold Aw;simp only[*]<;>first|exact h'|simp
theorem Xc (T:Tab)(t:TypeId)(x:AV)(id:Nat):iW (fun (K:AV×List (Nat×aF)→Prop)=>SX T t x id fun v ws=>K (v,ws)):=by
 intro K h;unfold SX at h;repeat' split at h
 all_goals first
  |exact h.elim
  |exact bV h fun K' h'=>by unfold SX;simp only[*]<;>first|exact h'|simp
theorem OJ (T:Tab)(H:List (Nat×aF))(src dst:TypeId)(x:AV):iW (fun (K:AV×List (Nat×aF)→Prop)=>qB T H src dst x fun v ws=>K (v,ws)):=by
 intro K h;unfold qB at h;repeat' split at h
 all_goals first
  |exact h.elim
  |exact bV h fun K' h'=>by unfold qB;simp only[*]<;>first|exact h'|simp
  |exact aK (aR fun _=>bC _) h fun K' h'=>by unfold qB;simp only[*]<;>first|exact h'|simp
  |exact aK (Jw (fun v=>(v,[])) (Tm T H src dst x)) h fun K' h'=>by unfold qB;simp only[*]<;>first|exact h'|simp
theorem K3 (T:Tab)(H:List (Nat×aF))(t:TypeId)(lo hi mx:Option Operand)(vs:List AV):iW (fun (K:AV×List (Nat×aF)→Prop)=>mW T H t lo hi mx vs fun v ws=>K (v,ws)):=by
 intro K h;unfold mW at h;repeat' split at h
 all_goals first
  |exact h.elim
  |exact bV h fun K' h'=>by unfold mW;simp only[*]<;>first|exact h'|simp
  |exact aK (Jw (fun v=>(v,_)) (OE T t lo hi mx _)) h fun K' h'=>by unfold mW;simp only[*]<;>first|exact h'|simp
theorem Xd (tw:Bool)(rows:List (List PV))(b ver:Nat)(e:TypeId)(st:Nat)(l h:Option Int):iW (fun (K:AV×List (Nat×aF)→Prop)=>OL tw rows b ver e st l h fun v ws=>K (v,ws)):=by
 intro K hk;unfold OL at hk;repeat' split at hk
 all_goals first
  |exact hk.elim
  |exact bV hk fun K' h'=>by unfold OL;exact h'
  |exact aK (aR fun _=>aR fun _=>bC _) hk fun K' h'=>by unfold OL;exact h'
  |exact aK (aR fun _=>aR fun _=>aR fun _=>aR fun _=>bC _) hk fun K' h'=>by unfold OL;exact h'
theorem K4 (T:Tab)(H:List (Nat×aF))(t:TypeId)(lo hi mx:Option Operand)(vs:List AV):iW (fun (K:AV×List (Nat×aF)→Prop)=>nS T H t lo hi mx vs fun v ws=>K (v,ws)):=by
 intro K h;unfold nS at h;repeat' split at h
 all_goals first
  |exact h.elim
  |exact aK (K3 T H t lo hi mx _) h fun K' h'=>by unfold nS;simp only[*]<;>first|exact h'|simp
  |exact aK (Xd _ _ _ _ _ _ _ _) h fun K' h'=>by unfold nS;simp only[*]<;>first|exact h'|simp
theorem OM (T:Tab)(H:List (Nat×aF))(t:TypeId)(x:AV):iW (fun (K:AV×List (Nat×aF)→Prop)=>Ay T H t x fun v ws=>K (v,ws)):=by
 intro K h;unfold Ay at h;repeat' split at h
 all_goals first
  |exact h.elim
  |exact bV h fun K' h'=>by unfold Ay;simp only[*]<;>first|exact h'|simp
theorem Tq (T:Tab)(H:List (Nat×aF))(t:TypeId)(vs:List AV)(id:Nat):iW (fun (K:AV×List (Nat×aF)→Prop)=>tZ T H t vs id fun v ws=>K (v,ws)):=by
 intro K h;unfold tZ at h;repeat' split at h
 all_goals first
  |exact h.elim
  |exact aK (Xb T H t _ id) h fun K' h'=>by unfold tZ;simp only[*]<;>first|exact h'|simp
  |exact aK (aR fun _=>bC _) h fun K' h'=>by unfold tZ;simp only[*]<;>first|exact h'|simp
theorem Tt (T:Tab)(H:List (Nat×aF))(t:TypeId)(lo hi mx:Option Operand)(b ver st l0:Nat)(r:List AV):iW (fun (K:AV×List (Nat×aF)→Prop)=>GY T H t lo hi mx b ver st l0 r fun v ws=>K (v,ws)):=by
 intro K h;unfold GY at h;repeat' split at h
 all_goals first
  |exact h.elim
  |exact aK (aR fun _=>aR fun _=>aR fun _=>aR fun _=>bC _) h fun K' h'=>by unfold GY;simp only[*]<;>first|exact h'|simp
theorem Tv (T:Tab)(H:List (Nat×aF))(t:TypeId)(lo hi mx:Option Operand)(b ver:Nat)(r:List AV):iW (fun (K:AV×List (Nat×aF)→Prop)=>GZ T H t lo hi mx b ver r fun v ws=>K (v,ws)):=by
 intro K h;unfold GZ at h;repeat' split at h
 all_goals first
  |exact h.elim
  |exact aK (aR fun _=>aR fun _=>aR fun _=>aR fun _=>aR fun _=>aR fun _=>bC _) h fun K' h'=>by unfold GZ;simp only[*]<;>first|exact h'|simp
theorem K5 (T:Tab)(H:List (Nat×aF))(t:TypeId)(lo hi mx:Option Operand)(vs:List AV):iW (fun (K:AV×List (Nat×aF)→Prop)=>qb T H t lo hi mx vs fun v ws=>K (v,ws)):=by
 intro K h;unfold qb at h;repeat' split at h
 all_goals first
  |exact h.elim
  |exact aK (K4 T H t lo hi mx _) h fun K' h'=>by unfold qb;simp only[*]<;>first|exact h'|simp
  |exact aK (Tt _ _ _ _ _ _ _ _ _ _ _) h fun K' h'=>by unfold qb;simp only[*]<;>first|exact h'|simp
  |exact aK (Tv _ _ _ _ _ _ _ _ _) h fun K' h'=>by unfold qb;simp only[*]<;>first|exact h'|simp
theorem abp (mx:Bool)(vs:List AV):iW (cMM mx vs):=by
 intro K h;unfold cMM at h;repeat' split at h
 all_goals first
  |exact h.elim
  |exact bV h fun K' h'=>by unfold cMM;simp only[*]<;>first|exact h'|simp
theorem Xe (r:PV)(H:List (Nat×aF))(ids:List Nat):iW fun (K:AV×List (Nat×aF)→Prop)=>match Dn r with
  |true=>K (.pv r,[])
  | false=>match Je H ids with
    |some fs=>K (.pv r,fs)
    |none=>False:=by
 cases h:Dn r with
 |true=>exact bC _
 | false=>cases h2:Je H ids with
   |some fs=>exact bC _
   |none=>exact nZ
theorem Tw (P:Program)(H:List (Nat×aF))(vs:List AV):iW fun (K:AV×List (Nat×aF)→Prop)=>GQ P H vs fun v ws=>K (v,ws):=by
 intro K h;unfold GQ at h;split at h
 ·split at h
  ·exact aK (mJ fun r=>aR fun _=>Xe r _ _) h fun K' h'=>by unfold GQ;simp only[*]<;>first|exact h'|simp
  exact h.elim
 exact h.elim
theorem uf {m:(AV→Prop)→Prop}(h:iW m):iW fun (K:AV×List (Nat×aF)→Prop)=>m fun v=>K (v,[]):=Jw (fun v=>(v,[])) h
theorem Xf (H:List (Nat×aF))(op:UnOp)(x:AV):iW (S9 H op x):=by
 cases x with
 | dM b ver i off=>
   intro K h;unfold S9 at h;simp only at h;repeat' split at h
   all_goals first
    |exact h.elim
    |exact bV h fun K' h'=>by unfold S9;simp only[*]<;>first|exact h'|simp
 |_=>exact abo op _
theorem OP (T:Tab)(H:List (Nat×aF))(t:TypeId)(x:AV):iW (uU T H t x):=by
 intro K h;unfold uU at h;repeat' split at h
 all_goals first
  |exact h.elim
  |exact aK (aR fun _=>uT _ _) h fun K' h'=>by unfold uU;simp only[*]<;>first|exact h'|simp
  |exact aK (Tk T H t _) h fun K' h'=>by unfold uU;first|exact h'|(simp only[*]<;>first|exact h'|simp)|(split<;>first|exact h'|simp_all)
theorem K6 (T:Tab)(H:List (Nat×aF))(t:TypeId)(x y:AV):iW (fun (K:AV×List (Nat×aF)→Prop)=>mX T H t x y fun v ws=>K (v,ws)):=by
 intro K h;unfold mX at h;repeat' split at h
 all_goals first
  |exact h.elim
  |exact aK (aR fun _=>bC (_,_)) h fun K' h'=>by unfold mX;simp only[*]<;>first|exact h'|simp
  |exact aK (OG T H t _ y) h fun K' h'=>by unfold mX;first|exact h'|(simp only[*]<;>first|exact h'|simp)|(split<;>first|exact h'|simp_all)
theorem Xg (T:Tab)(H:List (Nat×aF))(t:TypeId)(x ix:AV):iW (K7 T H t x ix):=by
 intro K h;unfold K7 at h;repeat' split at h
 all_goals first
  |exact h.elim
  |exact aK (aR fun _=>aR fun _=>bC _) h fun K' h'=>by unfold K7;simp only[*]<;>first|exact h'|simp
  |exact aK (Es T H t _ ix) h fun K' h'=>by unfold K7;first|exact h'|(simp only[*]<;>first|exact h'|simp)|(split<;>first|exact h'|simp_all)
theorem Tx (T:Tab)(H:List (Nat×aF))(t:TypeId)(x:AV):iW (BX T H t x):=by
 intro K h;unfold BX at h;repeat' split at h
 all_goals first
  |exact h.elim
  |exact aK (Xa T H t _) h fun K' h'=>by unfold BX;first|exact h'|(simp only[*]<;>first|exact h'|simp)|(split<;>first|exact h'|simp_all)
  |exact bV h fun K' h'=>by unfold BX;simp only[*]<;>first|exact h'|simp
theorem K8 (T:Tab)(t:TypeId)(len:Nat)(ks:List Nat)(cs:List AV)(id:Nat):iW (fun (K:AV×List (Nat×aF)→Prop)=>vZ T t len ks cs id fun v ws=>K (v,ws)):=by
 intro K h;unfold vZ at h;simp only[eu] at h;repeat' split at h
 all_goals first
  |exact h.elim
  |exact bV h fun K' h'=>by unfold vZ;simp only[eu];simp only[*]<;>first|exact h'|simp
theorem K9 (T:Tab)(H:List (Nat×aF))(t:TypeId)(len:Nat)(ks:List Nat)(vs:List AV)(id:Nat):iW (fun (K:AV×List (Nat×aF)→Prop)=>qa T H t len ks vs id fun v ws=>K (v,ws)):=by
 intro K h;unfold qa at h;split at h
 ·rename_i hp;split at h
  ·exact aK (K8 T t len ks _ id) h fun K' h'=>by unfold qa;simp only[hp];exact h'
  rename_i vs hne;refine aK (zb T H t len ks _ id) h fun K' h'=>?_
  unfold qa;simp only[hp];exact h'
 rename_i hp;exact aK (zb T H t len ks _ id) h fun K' h'=>by unfold qa;simp only[hp];exact h'
theorem Ty (T:Tab)(H:List (Nat×aF))(t:TypeId)(d:AV)(k kv id:Nat):iW (fun (K:AV×List (Nat×aF)→Prop)=>BZ T H t d k kv id fun v ws=>K (v,ws)):=by
 intro K h;unfold BZ at h;simp only[eu] at h;repeat' split at h
 all_goals first
  |exact h.elim
  |exact aK (aR fun _=>bC (_,_)) h fun K' h'=>by unfold BZ;simp only[eu];simp only[*]<;>first|exact h'|simp
theorem Eu (T:Tab)(t:TypeId)(ver:Nat)(o:Option aF)(src:Nat→Option (List (List PV)))(b:Nat):iW (fun (K:AV×List (Nat×aF)→Prop)=>xN T t ver o src b fun v ws=>K (v,ws)):=by
 intro K h;unfold xN at h;simp only[eu] at h;repeat' split at h
 all_goals first
  |exact h.elim
  |exact aK (aR fun _=>bC (_,_)) h fun K' h'=>by unfold xN;simp only[eu];simp only[*]<;>first|exact h'|simp
theorem Tz (T:Tab)(H:List (Nat×aF))(t:TypeId)(b ver:Nat)(x:AV):iW (fun (K:AV×List (Nat×aF)→Prop)=>Ca T H t b ver x fun v ws=>K (v,ws)):=by
 intro K h;unfold Ca at h;split at h
 ·exact aK (Eu T t ver _ _ b) h fun K' h'=>by unfold Ca;exact h'
 ·split at h
  ·exact h.elim
  rename_i hb;exact aK (Eu T t ver _ _ b) h fun K' h'=>by unfold Ca;simp only[hb];exact h'
 exact h.elim
theorem TA (T:Tab)(H:List (Nat×aF))(t:TypeId)(vs:List AV)(id:Nat):iW (fun (K:AV×List (Nat×aF)→Prop)=>wX T H t vs id fun v ws=>K (v,ws)):=by
 intro K h;unfold wX at h;repeat' split at h
 all_goals first
  |exact h.elim
  |exact aK (Ty T H t _ _ _ id) h fun K' h'=>by unfold wX;simp only[*]<;>first|exact h'|simp
  |exact aK (Tz T H t _ _ _) h fun K' h'=>by unfold wX;first|(simp only[*];done)|(simp only[*]<;>first|exact h'|simp)|(split<;>first|exact h'|simp_all)
  |exact aK (Tq T H t _ id) h fun K' h'=>by unfold wX;first|exact h'|(simp only[*]<;>first|exact h'|simp)|(repeat' split)<;>first|exact h'|simp_all
theorem OQ (T:Tab)(t:TypeId)(id:Nat):iW (fun (K:AV×List (Nat×aF)→Prop)=>Az T t id fun v ws=>K (v,ws)):=by
 intro K h;unfold Az at h;split at h
 ·exact bV h fun K' h'=>by unfold Az;simp only[*]<;>first|exact h'|simp
 exact h.elim
theorem TB (T:Tab)(H:List (Nat×aF))(t:TypeId)(x ix:AV):iW (GU T H t x ix):=by
 intro K h;unfold GU at h;repeat' split at h
 all_goals first
  |exact h.elim
  |exact aK (aR fun _=>aR fun _=>bC _) h fun K' h'=>by unfold GU;simp only[*]<;>first|exact h'|simp
theorem La (T:Tab)(H:List (Nat×aF))(t:TypeId)(x ix y:AV):iW (fun (K:AV×List (Nat×aF)→Prop)=>vU T H t x ix y fun v ws=>K (v,ws)):=by
 intro K h;unfold vU at h;repeat' split at h
 all_goals first
  |exact h.elim
  |exact aK (aR fun _=>aR fun _=>bC (_,_)) h fun K' h'=>by unfold vU;simp only[*]<;>first|exact h'|simp
theorem OT (T:Tab)(H:List (Nat×aF))(t:TypeId)(x:AV):iW (xD T H t x):=by
 intro K h;unfold xD at h;repeat' split at h
 all_goals first
  |exact h.elim
  |exact aK (aR fun _=>uT _ _) h fun K' h'=>by unfold xD;simp only[*]<;>first|exact h'|simp
  |exact aK (OP T H t _) h fun K' h'=>by unfold xD;first|exact h'|(simp only[*]<;>first|exact h'|simp)|(split<;>first|exact h'|simp_all)
theorem Lb (T:Tab)(H:List (Nat×aF))(t:TypeId)(x y:AV):iW (fun (K:AV×List (Nat×aF)→Prop)=>sI T H t x y fun v ws=>K (v,ws)):=by
 intro K h;unfold sI at h;repeat' split at h
 all_goals first
  |exact h.elim
  |exact aK (aR fun _=>bC (_,_)) h fun K' h'=>by unfold sI;simp only[*]<;>first|exact h'|simp
  |exact aK (K6 T H t _ y) h fun K' h'=>by unfold sI;first|exact h'|(simp only[*]<;>first|exact h'|simp)|(split<;>first|exact h'|simp_all)
theorem Xh (T:Tab)(H:List (Nat×aF))(t:TypeId)(x ix:AV):iW (OU T H t x ix):=by
 intro K h;unfold OU at h;repeat' split at h
 all_goals first
  |exact h.elim
  |exact aK (aR fun _=>aR fun _=>bC _) h fun K' h'=>by unfold OU;simp only[*]<;>first|exact h'|simp
  |exact aK (Xg T H t _ ix) h fun K' h'=>by unfold OU;first|exact h'|(simp only[*]<;>first|exact h'|simp)|(split<;>first|exact h'|simp_all)
theorem OV (T:Tab)(H:List (Nat×aF))(src dst:TypeId)(x:AV):iW (fun (K:AV×List (Nat×aF)→Prop)=>xE T H src dst x fun v ws=>K (v,ws)):=by
 intro K h;unfold xE at h;repeat' split at h
 all_goals first
  |exact h.elim
  |exact bV h fun K' h'=>by unfold xE;simp only[*]<;>first|exact h'|simp
  |exact aK (OJ T H src dst _) h fun K' h'=>by unfold xE;first|exact h'|(simp only[*]<;>first|exact h'|simp)|(split<;>first|exact h'|simp_all)
theorem Xi (T:Tab)(H:List (Nat×aF))(t:TypeId)(x ix:AV):iW (Oe T H t x ix):=by
 intro K h;unfold Oe at h;repeat' split at h
 all_goals first
  |exact h.elim
  |exact aK (aR fun _=>aR fun _=>bC _) h fun K' h'=>by unfold Oe;simp only[*]<;>first|exact h'|simp
  |exact aK (Xh T H t _ ix) h fun K' h'=>by unfold Oe;first|exact h'|(simp only[*]<;>first|exact h'|simp)|(split<;>first|exact h'|simp_all)
theorem TF (T:Tab)(H:List (Nat×aF))(t:TypeId)(x:AV):iW (Ev T H t x):=by
 intro K h;unfold Ev at h;repeat' split at h
 all_goals first
  |exact h.elim
  |exact aK (Tx T H t _) h fun K' h'=>by unfold Ev;first|exact h'|(simp only[*]<;>first|exact h'|simp)|(split<;>first|exact h'|simp_all)
  |exact bV h fun K' h'=>by unfold Ev;simp only[*]<;>first|exact h'|simp
theorem TG (T:Tab)(H:List (Nat×aF))(t:TypeId)(b ver k kv:Nat):iW (fun (K:AV×List (Nat×aF)→Prop)=>G8 T H t b ver k kv fun v ws=>K (v,ws)):=by
 intro K h;unfold G8 at h;simp only[eu] at h;repeat' split at h
 all_goals first
  |exact h.elim
  |exact aK (aR fun _=>bC (_,_)) h fun K' h'=>by unfold G8;simp only[eu];simp only[*]<;>first|exact h'|simp
theorem TH (T:Tab)(H:List (Nat×aF))(t:TypeId)(vs:List AV)(id:Nat):iW (fun (K:AV×List (Nat×aF)→Prop)=>BQ T H t vs id fun v ws=>K (v,ws)):=by
 intro K h;unfold BQ at h;repeat' split at h
 all_goals first
  |exact h.elim
  |exact aK (TG T H t _ _ _ _) h fun K' h'=>by unfold BQ;simp only[*]<;>first|exact h'|simp
  |exact aK (TA T H t _ id) h fun K' h'=>by unfold BQ;first|exact h'|(simp only[*]<;>first|exact h'|simp)|(split<;>first|exact h'|simp_all)
theorem TJ (T:Tab)(H:List (Nat×aF))(t:TypeId)(x:AV):iW (Eh T H t x):=by
 intro K h;unfold Eh at h;repeat' split at h
 all_goals first
  |exact h.elim
  |exact aK (TF T H t _) h fun K' h'=>by unfold Eh;first|exact h'|(simp only[*]<;>first|exact h'|simp)|(split<;>first|exact h'|simp_all)
  |exact bV h fun K' h'=>by unfold Eh;simp only[*]<;>first|exact h'|simp
theorem OW (T:Tab)(t:TypeId)(x ix:AV):iW (xG T t x ix):=by
 intro K h;unfold xG at h;repeat' split at h
 all_goals first
  |exact h.elim
  |exact aK (aR fun _=>uT _ _) h fun K' h'=>by unfold xG;simp only[*]<;>first|exact h'|simp
  |exact aK (OD T t _ ix) h fun K' h'=>by unfold xG;first|exact h'|(simp only[*]<;>first|exact h'|simp)|(split<;>first|exact h'|simp_all)
theorem Gp (T:Tab)(t:TypeId)(ks:List Nat)(vs:List AV):iW (mF T t ks vs):=by
 intro K h;unfold mF at h;split at h;rotate_left;cases h
 rename_i i hi;split at h
 ·rename_i n e hd;repeat' split at h
  all_goals first
   |exact h.elim
   |exact bV h fun K' h'=>by unfold mF;simp only[*]<;>first|exact h'|simp
 rename_i hne;refine aK (OH T t ks vs) h fun K' h'=>?_
 unfold mF;simp only[hi];exact h'
theorem Ri (P:Program)(T:Tab)(op:Op)(vs:List AV)(H:List (Nat×aF))(id:Nat):iW fun (K:AV×List (Nat×aF)→Prop)=>cop P T op vs H id fun v ws=>K (v,ws):=by
 intro K h;unfold cop at h;repeat' split at h
 all_goals first
  |exact h.elim
  |exact bV h fun K' h'=>by unfold cop;simp only[*]<;>first|exact h'|simp
  |exact aK (OI T _ id) h fun K' h'=>by unfold cop;simp only[*]<;>first|exact h'|simp
  |exact aK (Xc T _ _ id) h fun K' h'=>by unfold cop;simp only[*]<;>first|exact h'|simp
  |exact aK (uf (Gp T _ _ _)) h fun K' h'=>by unfold cop;simp only[*]<;>first|exact h'|simp
  |exact aK (K9 T H _ _ _ _ id) h fun K' h'=>by unfold cop;simp only[*]<;>first|exact h'|simp
  |exact aK (uf (OT T H _ _)) h fun K' h'=>by unfold cop;simp only[*]<;>first|exact h'|simp
  |exact aK (Lb T H _ _ _) h fun K' h'=>by unfold cop;simp only[*]<;>first|exact h'|simp
  |exact aK (uf (Tj T H _ _ _ _)) h fun K' h'=>by unfold cop;simp only[*]<;>first|exact h'|simp
  |exact aK (uf (Xf H _ _)) h fun K' h'=>by unfold cop;simp only[*]<;>first|exact h'|simp
  |exact aK (OV T H _ _ _) h fun K' h'=>by unfold cop;simp only[*]<;>first|exact h'|simp
  |exact aK (Tn H _ _ _) h fun K' h'=>by unfold cop;simp only[*]<;>first|exact h'|simp
  |exact aK (Tp T _ _ id) h fun K' h'=>by unfold cop;simp only[*]<;>first|exact h'|simp
  |exact aK (K5 T H _ _ _ _ _) h fun K' h'=>by unfold cop;simp only[*]<;>first|exact h'|simp
  |exact aK (uf (Er T H _ _ _)) h fun K' h'=>by unfold cop;simp only[*]<;>first|exact h'|simp
  |exact aK (uf (W9 T _ _ _)) h fun K' h'=>by unfold cop;simp only[*]<;>first|exact h'|simp
  |exact aK (uf (Xi T H _ _ _)) h fun K' h'=>by unfold cop;simp only[*]<;>first|exact h'|simp
  |exact aK (uf (OW T _ _ _)) h fun K' h'=>by unfold cop;simp only[*]<;>first|exact h'|simp
  |exact aK (uf (Jy _ _)) h fun K' h'=>by unfold cop;simp only[*]<;>first|exact h'|simp
  |exact aK (Tw P H _) h fun K' h'=>by unfold cop;simp only[*]<;>first|exact h'|simp
  |exact aK (TH T H _ _ id) h fun K' h'=>by unfold cop;simp only[*]<;>first|exact h'|simp
  |exact aK (uf (TJ T H _ _)) h fun K' h'=>by unfold cop;simp only[*]<;>first|exact h'|simp
  |exact aK (OQ T _ id) h fun K' h'=>by unfold cop;simp only[*]<;>first|exact h'|simp
  |exact aK (uf (TB T H _ _ _)) h fun K' h'=>by unfold cop;simp only[*]<;>first|exact h'|simp
  |exact aK (La T H _ _ _ _) h fun K' h'=>by unfold cop;simp only[*]<;>first|exact h'|simp
  |exact aK (OM T H _ _) h fun K' h'=>by unfold cop;simp only[*]<;>first|exact h'|simp
  |exact aK (uf (abp _ _)) h fun K' h'=>by unfold cop;simp only[*]<;>first|exact h'|simp
theorem og {tm tm':List (Nat×AV)}:∀{xs:List Operand} {vs:List AV},(∀t∈tmpsOf xs,lk tm' t=lk tm t)→evs tm xs=some vs→evs tm' xs=some vs
 |[],vs,_,h=>h
 | x::xs,vs,hs,h=>by
   simp only[evs] at h ⊢;split at h
   ·rename_i v hv;have hv':jE tm' x=some v:=by
     rw[←hv];unfold jE;cases x with
     |tmp t=>exact hs t (by simp[tmpsOf])
     |const v=>rfl
     |func f=>rfl
     |«global» g=>rfl
    split at h
    ·rename_i Q8 hvs;rw[hv'];simp only;rw[og (fun t ht=>hs t (by cases x<;>simp[tmpsOf,ht])) hvs];exact h
    cases h
   cases h
theorem mZ {hp hp':List (Nat×aF)}:∀{ids:List Nat} {H:List (Nat×aF)},(∀b∈ids,lk hp' b=lk hp b)→kG hp ids=some H→kG hp' ids=some H
 |[],H,_,h=>h
 | i::r,H,hs,h=>by
   simp only[kG] at h ⊢;rw[hs i (by simp)];split at h
   ·rename_i bx hbx;split at h
    ·rename_i t ht;rw[mZ (fun b hb=>hs b (by simp[hb])) ht];exact h
    cases h
   cases h
theorem Xj {P:Program}{T:Tab}{op:Op}{vs:List AV}{hp:List (Nat×aF)}{id:Nat}{K:AV→List (Nat×aF)→List Nat→Prop}(h:yZ P T op vs hp id K) :
  ∃v ws ids,K v ws ids∧∀(hp':List (Nat×aF)),(∀b∈ids,lk hp' b=lk hp b)→∀K':AV→List (Nat×aF)→List Nat→Prop,K' v ws ids→yZ P T op vs hp' id K':=by
 unfold yZ at h;simp only at h;split at h;rotate_left;cases h
 rename_i H hH;obtain⟨⟨v,ws⟩,h1,h2⟩:=Ri P T op vs H id (fun x=>K x.1 x.2 (Ji op vs)) h;refine⟨v,ws,Ji op vs,h1,fun hp' hb K' qf=>?_⟩;unfold yZ;simp only;rw[mZ hb hH];exact h2 (fun x=>K' x.1 x.2 (Ji op vs)) qf
theorem TK {P:Program}{T:Tab}{op:Op}{vs:List AV}{hp:List (Nat×aF)}{id:Nat}{K:AV→List (Nat×aF)→List Nat→Prop}(h:yZ P T op vs hp id K) :
  ∃v ws ids,K v ws ids∧ids=Ji op vs∧∀(hp':List (Nat×aF)),(∀b∈ids,lk hp' b=lk hp b)→∀K':AV→List (Nat×aF)→List Nat→Prop,K' v ws ids→yZ P T op vs hp' id K':=by
 unfold yZ at h;simp only at h;split at h;rotate_left;cases h
 rename_i H hH;obtain⟨⟨v,ws⟩,h1,h2⟩:=Ri P T op vs H id (fun x=>K x.1 x.2 (Ji op vs)) h;refine⟨v,ws,Ji op vs,h1,rfl,fun hp' hb K' qf=>?_⟩;unfold yZ;simp only;rw[mZ hb hH];exact h2 (fun x=>K' x.1 x.2 (Ji op vs)) qf
theorem Ew {x y:Nat}:∀{l:List Nat},x∈snoc l y↔x∈l∨x=y
 |[]=>by simp[snoc]
 |z::l=>by simp[snoc,Ew (l:=l),or_assoc]
theorem Ey {hp:List (Nat×aF)}:∀{n:Nat} {todo seen:List Nat},∀b∈seen,b∈ze hp n todo seen
 |0,_,_,b,h=>h
 |_+1,[],_,b,h=>h
 | n+1,x::todo,seen,b,h=>by
   simp only[ze];split
   ·exact Ey b h
   split<;>exact Ey b (Ew.2 (.inl h))
theorem oP {hp hp':List (Nat×aF)}:∀{n:Nat} {todo seen:List Nat},(∀b∈ze hp n todo seen,lk hp' b=lk hp b)→ze hp' n todo seen=ze hp n todo seen
 |0,_,_,_=>rfl
 |_+1,[],_,_=>rfl
 | n+1,x::todo,seen,h=>by
   simp only[ze] at h ⊢;cases hm:El x seen with
   | true=>
     simp only[hm] at h ⊢;exact oP h
   | false=>
     simp only[hm] at h ⊢;have hx:lk hp' x=lk hp x:=by
      refine h x ?_;split<;>exact Ey x (Ew.2 (.inr rfl))
     rw[hx];cases hl:lk hp x with
     |none=>simp only[hl] at h ⊢;exact oP h
     |some bx=>cases bx<;>simp only[hl] at h ⊢ <;> exact oP h
theorem wY {hp hp':List (Nat×aF)}:∀{l:List Nat},(∀b∈l,lk hp' b=lk hp b)→sM hp' l=sM hp l
 |[],_=>rfl
 | x::r,h=>by
   simp only[sM];rw[h x (by simp),wY fun b hb=>h b (by simp[hb])]
theorem Xk {P:Program}{vs:List AV}{hp:List (Nat×aF)}{id:Nat}{K:AV→List (Nat×aF)→List Nat→Prop}(h:gC P hp id vs K) :
  ∃v ws ids,K v ws ids∧∀(hp':List (Nat×aF)),(∀b∈ids,lk hp' b=lk hp b)→∀K':AV→List (Nat×aF)→List Nat→Prop,K' v ws ids→gC P hp' id vs K':=by
 unfold gC at h;split at h;rotate_left;cases h
 rename_i fv args;split at h;rotate_left;cases h
 rename_i f first bF hfn
 simp only at h;split at h;rotate_left;cases h
 rename_i H hH;obtain⟨r,h1,NZ,h⟩:=h;split at h;rotate_left;cases h
 rename_i hok;have h0:=h;rw[zf,zh] at h;have h:=kT _ _ _ h;refine⟨_,_,_,h,fun hp' hb K' qf=>?_⟩;have hb1:=fun b hb'=>hb b (List.mem_append_left _ hb')
 have hb2:=fun b hb'=>hb b (List.mem_append_right _ hb')
 unfold gC;simp only[hfn];rw[oP hb1,mZ hb1 hH];simp only;refine⟨r,h1,NZ,?_⟩;have:gOk (lq 1 H) (jV 1 H) id hp' h1=gOk (lq 1 H) (jV 1 H) id hp h1:=by
  unfold gOk;rw[wY hb2]
 rw[this,hok];simp only;rw[zf,zh] at h0 ⊢;exact ja _ _ _ h0 qf
theorem aef {P:Program}{vs:List AV}{hp:List (Nat×aF)}{id:Nat}{K:AV→List (Nat×aF)→List Nat→Prop}(h:gV P hp id vs K) :
  ∃v ws ids,K v ws ids∧∀(hp':List (Nat×aF)),(∀b∈ids,lk hp' b=lk hp b)→∀K':AV→List (Nat×aF)→List Nat→Prop,K' v ws ids→gV P hp' id vs K':=by
 obtain⟨v,ws,ids,h1,h2⟩:=Xk h;refine⟨v,[],ids,(xI h1).1,fun hp' hb K' qf=>?_⟩;exact h2 hp' hb _ (Cb hb h1 qf)
theorem aeg {P:Program}{vs:List AV}{hp:List (Nat×aF)}{K:AV→List (Nat×aF)→List Nat→Prop}(h:dC P hp vs K) :
  ∃v ws ids,K v ws ids∧(∀b∈fq vs,b∈ids)∧∀(hp':List (Nat×aF)),(∀b∈ids,lk hp' b=lk hp b)→∀K':AV→List (Nat×aF)→List Nat→Prop,K' v ws ids→dC P hp' vs K':=by
 unfold dC at h;simp only at h;split at h;rotate_left;cases h
 rename_i H hH;split at h;rotate_left;cases h
 rename_i f first bF ps hm
 obtain⟨r,hpc,h⟩:=h;split at h;rotate_left;cases h
 rename_i hs;refine⟨_,_,_,h,fun b hb=>List.mem_append_left _ hb,fun hp' hb K' qf=>?_⟩;have hb1:=fun b hb'=>hb b (List.mem_append_right _ hb')
 unfold dC;simp only;rw[oP hb1,mZ hb1 hH];simp only[hm];refine⟨r,hpc,?_⟩;rw[hs];exact qf
theorem Ez {hp hp':List (Nat×aF)}:∀{ids:List Nat},(∀b∈ids,lk hp' b=lk hp b)→kG hp' ids=kG hp ids
 |[],_=>rfl
 | i::r,h=>by
   simp only[kG];rw[h i (by simp),Ez fun b hb=>h b (by simp[hb])]
theorem Cc {hp hp':List (Nat×aF)}{vs:List AV}(h:∀b∈fq vs,lk hp' b=lk hp b):Q7 hp' vs=Q7 hp vs:=by
 unfold Q7;split
 ·rename_i p args;rw[Ez fun b hb=>h b (by simp only[fq,refs,List.nil_append];exact hb)]
 rfl
theorem aeh {P:Program}{T:Tab}{op:Op}(hc:mH op=true){vs:List AV}{hp:List (Nat×aF)}{id:Nat}{K:AV→List (Nat×aF)→List Nat→Prop}(h:lC P T op vs hp id K) :
  ∃v ws ids,K v ws ids∧∀(hp':List (Nat×aF)),(∀b∈ids,lk hp' b=lk hp b)→∀K':AV→List (Nat×aF)→List Nat→Prop,K' v ws ids→lC P T op vs hp' id K':=by
 unfold lC at h;split at h
 ·rename_i hd;obtain⟨v,ws,ids,h1,h2,h3⟩:=aeg h;refine⟨v,ws,ids,h1,fun hp' hb K' qf=>?_⟩;unfold lC;rw[Cc fun b hb'=>hb b (h2 b hb'),hd];exact h3 hp' hb K' qf
 rename_i hd;have hn:Ji op vs=fq vs:=by
  cases op<;>simp only[mH] at hc<;>first|rfl|(cases hc;done)
 obtain⟨v,ws,ids,h1,h2,h3⟩:=TK h;rw[hn] at h2;subst h2;refine⟨v,ws,_,h1,fun hp' hb K' qf=>?_⟩;unfold lC;rw[Cc hb,hd];exact h3 hp' hb K' qf
theorem aei {P:Program}{vs:List AV}{hp:List (Nat×aF)}{K:AV→List (Nat×aF)→List Nat→Prop}(h:yC P hp vs K) :
  ∃v ws ids,K v ws ids∧∀(hp':List (Nat×aF)),(∀b∈ids,lk hp' b=lk hp b)→∀K':AV→List (Nat×aF)→List Nat→Prop,K' v ws ids→yC P hp' vs K':=by
 unfold yC at h;split at h;rotate_left;cases h
 split at h;rotate_left;cases h
 rename_i y ver rest st h9;split at h;rotate_left;cases h
 split at h;rotate_left;cases h
 split at h;rotate_left;cases h
 rename_i ps hps;obtain⟨e,x,r,e2,hle,hK⟩:=h;refine⟨_,_,_,hK,fun hp' hb K' qf=>?_⟩;unfold yC;simp only[hb 999 (by simp),h9,hps];exact⟨e,x,r,e2,hle,qf⟩
theorem abq {P:Program}{T:Tab}(hg:gen T=false){o:Oper}{tm:List (Nat×AV)}{hp:List (Nat×aF)}{id:Nat}{K:AV→List (Nat×aF)→List Nat→Prop}(h:Ws P T o tm hp id K) :
  ∃v ws ids,K v ws ids∧∀(tm':List (Nat×AV)) (hp':List (Nat×aF)),(∀t∈tmpsOf (kS o.op),lk tm' t=lk tm t)→(∀b∈ids,lk hp' b=lk hp b) →
   ∀K':AV→List (Nat×aF)→List Nat→Prop,K' v ws ids→Ws P T o tm' hp' id K':=by
 unfold Ws at h;split at h;rotate_left;cases h
 rename_i vs hvs;split at h
 ·rename_i hc;split at h
  ·rename_i hy;obtain⟨v,ws,ids,h1,h2⟩:=aei h;refine⟨v,ws,ids,h1,fun tm' hp' ht hb K' qf=>?_⟩;unfold Ws;rw[og ht hvs];simp only[hc,hy];exact h2 hp' hb K' qf
  rename_i hy;rw[hg] at h;rcases h with (h|h)|h
  rotate_left 2
  ·obtain⟨v,ws,ids,h1,h2⟩:=aef h;refine⟨v,ws,ids,h1,fun tm' hp' ht hb K' qf=>?_⟩;unfold Ws;rw[og ht hvs,hg];simp only[hc,hy];exact .inr (h2 hp' hb K' qf)
  ·obtain⟨v,ws,ids,h1,h2⟩:=aeh hc h;refine⟨v,ws,ids,h1,fun tm' hp' ht hb K' qf=>?_⟩;unfold Ws;rw[og ht hvs];simp only[hc,hy];exact .inl (.inl (h2 hp' hb K' qf))
  obtain⟨v,ws,ids,h1,h2⟩:=Xk h;refine⟨v,ws,ids,h1,fun tm' hp' ht hb K' qf=>?_⟩;unfold Ws;rw[og ht hvs];simp only[hc,hy];exact .inl (.inr (h2 hp' hb K' qf))
 rename_i hc;obtain⟨v,ws,ids,h1,h2⟩:=Xj h;refine⟨v,ws,ids,h1,fun tm' hp' ht hb K' qf=>?_⟩;unfold Ws;rw[og ht hvs];simp only[hc];exact h2 hp' hb K' qf
section
variable {α:Type}
def acc (S:Nat→Bool):List (List (Nat×α))→Nat→List (Nat×α)→List (Nat×α)
 |[],_,s=>s
 |ws::r,i,s=>acc S r (i+1) (if S i then ws++s else s)
theorem jW {ws s:List (Nat×α)}{t:Nat}(h:t∉keys ws):lk (ws++s) t=lk s t:=by
 induction ws with
 |nil=>rfl
 | cons x ws ih=>
   obtain⟨k,v⟩:=x;simp only[keys,List.mem_cons,not_or] at h;rw[List.cons_append,aC,if_neg (Ne.symm h.1),ih h.2]
theorem uV {ws s s':List (Nat×α)}{t:Nat}(h:t∈keys ws):lk (ws++s) t=lk (ws++s') t:=by
 induction ws with
 |nil=>simp[keys] at h
 | cons x ws ih=>
   obtain⟨k,v⟩:=x;simp only[keys,List.mem_cons] at h;rw[List.cons_append,List.cons_append,aC,aC];split
   ·rfl
   rename_i hk;exact ih (h.resolve_left (Ne.symm hk))
theorem nJ {ws s s':List (Nat×α)}{t:Nat}(h:lk s t=lk s' t):lk (ws++s) t=lk (ws++s') t:=by
 by_cases hk:t∈keys ws
 ·exact uV hk
 rw[jW hk,jW hk,h]
theorem oh:∀(l:List (List (Nat×α))) (i:Nat) (s:List (Nat×α)),acc (fun _=>false) l i s=s
 |[],_,_=>rfl
 |ws::r,i,s=>by simp only[acc,Bool.false_eq_true,if_false,oh r]
theorem lu {S S':Nat→Bool}(t:Nat):∀(l:List (List (Nat×α))) (i:Nat) (s s':List (Nat×α)),lk s t=lk s' t →
  (∀k ws,l[k]? = some ws→t∈keys ws→S (i+k)=S' (i+k))→lk (acc S l i s) t=lk (acc S' l i s') t
 |[],_,_,_,h,_=>h
 | ws::r,i,s,s',h,hS=>by
   simp only[acc];refine lu t r (i+1) _ _ ?_ fun k uy hk ht=>by
    have:=hS (k+1) uy (by simpa using hk) ht;rwa [show i+(k+1)=i+1+k from by omega] at this
   by_cases hk:t∈keys ws
   ·have:=hS 0 ws rfl hk;simp only[Nat.add_zero] at this;rw[this];split
    ·exact nJ h
    exact h
   have h1:lk (ws++s) t=lk s t:=jW hk;have h2:lk (ws++s') t=lk s' t:=jW hk;split<;>split<;>simp[h1,h2,h]
theorem Ld {S:Nat→Bool}(t:Nat):∀(l:List (List (Nat×α))) (i:Nat) (s:List (Nat×α)) (j:Nat) (ws:List (Nat×α)),l[j]? = some ws→t∈keys ws→S (i+j)=true →
  (∀k uy,l[k]? = some uy→t∈keys uy→S (i+k)=true→k≤j)→∀s',lk (acc S l i s) t=lk (ws++s') t
 |[],_,_,j,_,h,_,_,_,_=>by simp at h
 | w0::r,i,s,0,ws,h,ht,hS,hk,s'=>by
   simp only[List.getElem?_cons_zero,Option.some.injEq] at h;subst h;simp only[Nat.add_zero] at hS;simp only[acc,hS,if_true];rw[lu (S':=fun _=>false) t r (i+1) _ (w0++s) rfl ?_,oh]
   ·exact uV ht
   intro k uy hk' ht';cases hb:S (i+1+k) with
   |false=>rfl
   | true=>
     have:=hk (k+1) uy (by simpa using hk') ht' (by rw[show i+(k+1)=i+1+k from by omega];exact hb);omega
 | w0::r,i,s,j+1,ws,h,ht,hS,hk,s'=>by
   simp only[acc];refine Ld t r (i+1) _ j ws (by simpa using h) ht (by rw[show i+1+j=i+(j+1) from by omega];exact hS) (fun k uy hk' ht' hS'=>?_) s';have:=hk (k+1) uy (by simpa using hk') ht' (by rw[show i+(k+1)=i+1+k from by omega];exact hS');omega
theorem Rj {S S':Nat→Bool}{l:List (List (Nat×α))}{s:List (Nat×α)}{j:Nat}{ws:List (Nat×α)}(hj:l[j]? = some ws)(hS:∀k,S' k=(S k||Nat.beq k j))(t:Nat)
  (hw:∀k uy,l[k]? = some uy→t∈keys ws→t∈keys uy→S k=true→k<j):lk (acc S' l 0 s) t=lk (ws++acc S l 0 s) t:=by
 by_cases ht:t∈keys ws
 ·refine Ld t l 0 s j ws hj ht (by rw[hS];simp) (fun k uy hk ht' OY=>?_) _;rw[Nat.zero_add,hS,Bool.or_eq_true] at OY;rcases OY with h|h
  ·exact Nat.le_of_lt (hw k uy hk ht ht' h)
  exact Nat.le_of_eq (Nat.eq_of_beq_eq_true h)
 rw[jW ht];refine lu t l 0 s s rfl fun k uy hk ht'=>?_
 rw[Nat.zero_add,hS];cases hb:Nat.beq k j with
 |false=>simp
 | true=>
   have:=Nat.eq_of_beq_eq_true hb;subst this;rw[hj] at hk;cases hk;exact absurd ht' ht
theorem qX {S:Nat→Bool}:∀(l:List (List (Nat×α))) (i:Nat) (s:List (Nat×α)),acc S l (i+1) s=acc (fun k=>S (k+1)) l i s
 |[],_,_=>rfl
 |ws::r,i,s=>by simp only[acc];rw[qX r]
end
def Gq (d:Option Nat)(v:AV):List (Nat×AV):=
 match d with
 |some d=>[(d,v)]
 |none=>[]
theorem zi (tm:List (Nat×AV))(d:Option Nat)(v:AV):adZ tm d v=Gq d v++tm:=by cases d<;>rfl
section
variable {P:Program}{T:Tab}{c:Ctx}
def TL (P:Program)(c:Ctx)(ops:Array Oper)(base:Nat)(o:Oper)(i:Nat)(v:AV)(ws:List (Nat×aF))(e:uO)(tm:List (Nat×AV))(hp:List (Nat×aF)):Prop:=
 ∀(R:Real) (tm':List (Nat×AV)) (hp':List (Nat×aF)) (nx:Nat) (a:Act) (w:World),(∀t∈e.look,lk tm' t=lk tm t)→(∀b∈e.rd,lk hp' b=lk hp b)→base+i<nx →
  (∀t,o.dst=some t→t<c.n)→bG c R ⟨tm',nx,hp'⟩ a w→∀(ro:Option Nat) (Q:Exit→Act→World→Prop),
   if Region.wanted o (yielded ops a.tmps) then o.wpIn (W1 ro) 0 P a w (fun a' w'=>∃R',bG c R' ⟨Gq o.dst v++tm',nx,ws++hp'⟩ a' w') Q
   else ∃R',bG c R' ⟨Gq o.dst v++tm',nx,ws++hp'⟩ (a.put o.dst undef) w
theorem TL.congr {ops:Array Oper}{base:Nat}{o:Oper}{i:Nat}{v:AV}{ws:List (Nat×aF)}{e:uO}{tm tm2:List (Nat×AV)}{hp hp2:List (Nat×aF)}
  (h:TL P c ops base o i v ws e tm hp) (ht:∀t,lk tm2 t=lk tm t) (hh:∀b,lk hp2 b=lk hp b):TL P c ops base o i v ws e tm2 hp2:=by
 intro R tm' hp' nx a w h1 h2 h3 h4 g ro Q;exact h R tm' hp' nx a w (fun t htl=>(h1 t htl).trans (ht t)) (fun b hb=>(h2 b hb).trans (hh b)) h3 h4 g ro Q
theorem Rk (hgen:gen T=false){ops:List Oper}{base:Nat}{o:Oper}{i:Nat}{tm:List (Nat×AV)}{hp:List (Nat×aF)}{tr:List uO}{kn:List (Nat×Bool)}{K:RC}
  (h:vex P T ops base o i tm hp tr kn K):∃v ws e,K (Gq o.dst v++tm) (ws++hp) (e::tr) kn∧e.dst=o.dst∧e.wr=keys ws∧(∀d∈xJ ops o,d∈e.look) ∧
   ∀tm' hp' qM,(∀t∈e.look,lk tm' t=lk tm t)→(∀b∈e.rd,lk hp' b=lk hp b)→∀K':RC,K' (Gq o.dst v++tm') (ws++hp') (e::qM) kn→vex P T ops base o i tm' hp' qM kn K':=by
 unfold vex at h;split at h
 ·exact h.elim
 rename_i hn;obtain⟨v,ws,ids,h1,h2⟩:=abq hgen h;simp only[vY,Dy,zi] at h1;refine⟨v,ws,_,h1,rfl,rfl,fun d hd=>List.mem_append_left _ hd,fun tm' hp' qM ht hb K' qf=>?_⟩;unfold vex;rw[hb (base+i) (by simp),hn];simp only;refine h2 tm' hp' (fun t hx=>ht t (List.mem_append_right _ hx)) (fun b hx=>hb b (List.mem_cons_of_mem _ hx)) _ ?_;simp only[vY,Dy,zi];exact qf
theorem G9 {ops:List Oper}{o:Oper}{tm:List (Nat×AV)}{hp:List (Nat×aF)}{tr:List uO}{kn:List (Nat×Bool)}{K:RC}
  (h:BS ops o tm hp tr kn K):∃v ws e,K (Gq o.dst v++tm) (ws++hp) (e::tr) kn∧e.dst=o.dst∧e.wr=keys ws∧(∀d∈xJ ops o,d∈e.look) ∧
   ∀tm' hp' qM,(∀t∈e.look,lk tm' t=lk tm t)→(∀b∈e.rd,lk hp' b=lk hp b)→∀K':RC,K' (Gq o.dst v++tm') (ws++hp') (e::qM) kn→BS ops o tm' hp' qM kn K':=by
 unfold BS at h;simp only[vY,zi] at h;refine⟨_,[],_,h,rfl,rfl,fun d hd=>hd,fun tm' hp' qM ht hb K' qf=>?_⟩;unfold BS;simp only[vY,zi];exact qf
theorem DF (hgen:gen T=false){ops:List Oper}{base:Nat}{o:Oper}{i:Nat}{wt:Bool}{tm:List (Nat×AV)}{hp:List (Nat×aF)}{tr:List uO}{kn:List (Nat×Bool)}{K:RC}
  (h:vgo P T ops base o i wt tm hp tr kn K):∃v ws e,K (Gq o.dst v++tm) (ws++hp) (e::tr) kn∧e.dst=o.dst∧e.wr=keys ws∧(∀d∈xJ ops o,d∈e.look) ∧
   ∀tm' hp' qM,(∀t∈e.look,lk tm' t=lk tm t)→(∀b∈e.rd,lk hp' b=lk hp b)→∀K':RC,K' (Gq o.dst v++tm') (ws++hp') (e::qM) kn→vgo P T ops base o i wt tm' hp' qM kn K':=by
 cases wt with
 |true=>exact Rk hgen h
 |false=>exact G9 h
theorem TM (hgen:gen T=false){ops:List Oper}{base:Nat}{o:Oper}{i:Nat}{tm:List (Nat×AV)}{hp:List (Nat×aF)}{tr:List uO}{kn:List (Nat×Bool)}{K:RC}
  (h:qV P T ops base o i tm hp tr kn K):∃v ws e Gl tm1,(∀t,lk tm1 t=lk tm t)∧K (Gq o.dst v++tm1) (ws++hp) (e::tr) Gl∧e.dst=o.dst∧e.wr=keys ws ∧
   ∀tm' hp' qM,(∀t∈e.look,lk tm' t=lk tm t)→(∀b∈e.rd,lk hp' b=lk hp b)→∀K':RC,(∀aej,(∀t,lk aej t=lk tm' t)→K' (Gq o.dst v++aej) (ws++hp') (e::qM) Gl) →
    qV P T ops base o i tm' hp' qM kn K':=by
 unfold qV at h;split at h
 ·rename_i hg;obtain⟨v,ws,e,h1,h2,h3,h4,h5⟩:=Rk hgen h;refine⟨v,ws,e,kn,tm,fun _=>rfl,h1,h2,h3,fun tm' hp' qM ht hb K' qf=>?_⟩;unfold qV;rw[hg];exact h5 tm' hp' qM ht hb K' (qf tm' fun _=>rfl)
 rename_i j want hg;split at h
 ·exact h.elim
 rename_i d hd;have hmem:d∈xJ ops o:=by simp[xJ,hd]
 split at h;rotate_left;cases h
 rename_i vv hv;split at h
 ·rename_i b;split at h
  ·rename_i kb hkn;cases b with
   | true=>
     obtain⟨v,ws,e,h1,h2,h3,h4,h5⟩:=DF hgen h;refine⟨v,ws,e,kn,tm,fun _=>rfl,h1,h2,h3,fun tm' hp' qM ht hb K' qf=>?_⟩;unfold qV;simp only[hg,hd,ht d (h4 d hmem),hv,hkn];exact h5 tm' hp' qM ht hb K' (qf tm' fun _=>rfl)
   | false=>
     obtain⟨v,ws,e,h1,h2,h3,h4,h5⟩:=DF hgen h;refine⟨v,ws,e,kn,tm,fun _=>rfl,h1,h2,h3,fun tm' hp' qM ht hb K' qf=>?_⟩;unfold qV;simp only[hg,hd,ht d (h4 d hmem),hv,hkn];exact h5 tm' hp' qM ht hb K' (qf tm' fun _=>rfl)
  rename_i hkn;have same:∀(b':Bool) (tm':List (Nat×AV)),lk tm' d=some (.pv (.sc (.bool b')))→∀t,lk ((d,AV.pv (.sc (.bool b')))::tm') t=lk tm' t:=by
   intro b' tm' hb' t;rw[aC];split
   ·rename_i e;rw[←e,hb']
   rfl
  cases b with
  | true=>
    obtain⟨v,ws,e,h1,h2,h3,h4,h5⟩:=DF hgen (h.1 rfl);refine⟨v,ws,e,_,_,same true tm hv,h1,h2,h3,fun tm' hp' qM ht hb K' qf=>?_⟩;have hv':lk tm' d=some (.pv (.sc (.bool true))):=(ht d (h4 d hmem)).trans hv;unfold qV;simp only[hg,hd,hv',hkn];refine⟨fun _=>h5 _ hp' qM (fun t hx=>?_) hb K' (qf _ (same true tm' hv')),fun h=>(by cases h)⟩;rw[same true tm' hv',same true tm hv];exact ht t hx
  | false=>
    obtain⟨v,ws,e,h1,h2,h3,h4,h5⟩:=DF hgen (h.2 rfl);refine⟨v,ws,e,_,_,same false tm hv,h1,h2,h3,fun tm' hp' qM ht hb K' qf=>?_⟩;have hv':lk tm' d=some (.pv (.sc (.bool false))):=(ht d (h4 d hmem)).trans hv;unfold qV;simp only[hg,hd,hv',hkn];refine⟨fun h=>(by cases h),fun _=>h5 _ hp' qM (fun t hx=>?_) hb K' (qf _ (same false tm' hv'))⟩;rw[same false tm' hv',same false tm hv];exact ht t hx
 ·obtain⟨v,ws,e,h1,h2,h3,h4,h5⟩:=G9 h;refine⟨v,ws,e,kn,tm,fun _=>rfl,h1,h2,h3,fun tm' hp' qM ht hb K' qf=>?_⟩;unfold qV;simp only[hg,hd,ht d (h4 d hmem),hv];exact h5 tm' hp' qM ht hb K' (qf tm' fun _=>rfl)
 exact h.elim
theorem Xl (hT:bY P T)(hgen:gen T=false){ops:Array Oper}{base:Nat}{o:Oper}{i:Nat}{tm:List (Nat×AV)}{hp:List (Nat×aF)}{tr:List uO}{kn:List (Nat×Bool)}{K:RC}
  (h:qV P T ops.toList base o i tm hp tr kn K):∃v ws e Gl tm1,(∀t,lk tm1 t=lk tm t)∧K (Gq o.dst v++tm1) (ws++hp) (e::tr) Gl∧e.dst=o.dst∧e.wr=keys ws ∧
   TL P c ops base o i v ws e tm hp:=by
 obtain⟨v,ws,e,Gl,tm1,h1,h2,h3,h4,h5⟩:=TM hgen h;refine⟨v,ws,e,Gl,tm1,h1,h2,h3,h4,fun R tm' hp' nx a w ht hb hn hd g ro Q=>?_⟩;have hv:=h5 tm' hp' [] ht hb (fun tm2 hp2 _ _=>(∀t,lk tm2 t=lk (Gq o.dst v++tm') t)∧hp2=ws++hp') fun aej ht'=>⟨fun t=>nJ (ht' t),rfl⟩
 have hs:=BU (s:=⟨tm',nx,hp'⟩) g hT (ops:=ops) hn hd hv ro Q;split
 ·rename_i hw;rw[if_pos hw] at hs;refine Oper.wpIn_mono ?_ hs;rintro a' w' ⟨R',tm2,hp2,qM,kn2,⟨hk,rfl⟩,g'⟩
  exact⟨R',g'.congr (fun t=>(hk t).symm) fun _=>rfl⟩
 rename_i hw;rw[if_neg hw] at hs;obtain⟨tm2,hp2,qM,kn2,⟨hk,rfl⟩,g'⟩:=hs;exact⟨R,g'.congr (fun t=>(hk t).symm) fun _=>rfl⟩
end
theorem Le {x:Nat}:∀{l:List Nat},El x l=true↔x∈l
 |[]=>by simp[El]
 | y::r=>by
   simp only[El,List.mem_cons];split
   ·rename_i h;simp[Nat.eq_of_beq_eq_true h]
   rename_i h;have:=Nat.ne_of_beq_eq_false h;simp[this,Le]
theorem sO {x:Nat}:∀{l l':List Nat},x∈l→x∈l'→meet l l'=true
 |[],_,h,_=>by simp at h
 | y::r,l',h,h'=>by
   simp only[meet];split
   ·rfl
   rename_i hm;rcases List.mem_cons.1 h with rfl|h
   ·rw[Le.2 h'] at hm;cases hm
   exact sO h h'
theorem Lf (d:Option Nat)(v:AV):keys (Gq d v)=dl d:=by cases d<;>rfl
section
variable {P:Program}{T:Tab}{c:Ctx}
theorem Lh (hT:bY P T)(hg:gen T=false){ops:Array Oper}{base:Nat}{K:RK}:∀(l:List Oper) (i:Nat) {tm:List (Nat×AV)} {hp:List (Nat×aF)} {tr:List uO} {kn:List (Nat×Bool)},
  Oo P T ops.toList base l i tm hp tr kn K→∃(wT:List (List (Nat×AV))) (wH:List (List (Nat×aF))) (es:List uO) (tmf:List (Nat×AV)) (hpf:List (Nat×aF)),
   wT.length=l.length∧wH.length=l.length∧es.length=l.length∧K tmf hpf (es.reverse++tr)∧(∀t,lk tmf t=lk (acc (fun _=>true) wT 0 tm) t)∧(∀b,lk hpf b=lk (acc (fun _=>true) wH 0 hp) b) ∧
   ∀k o,l[k]? = some o→∃v ws e,wT[k]? = some (Gq o.dst v)∧wH[k]? = some ws∧es[k]? = some e∧e.dst=o.dst∧e.wr=keys ws ∧
    TL P c ops base o (i+k) v ws e (acc (fun x=>Nat.blt x k) wT 0 tm) (acc (fun x=>Nat.blt x k) wH 0 hp)
 |[],i,tm,hp,tr,kn,h=>⟨[],[],[],tm,hp,rfl,rfl,rfl,h,fun _=>rfl,fun _=>rfl,fun k o hk=>by simp at hk⟩
 | o::r,i,tm,hp,tr,kn,h=>by
   simp only[Oo] at h;obtain⟨v,ws,e,Gl,tm1,h1,h2,h3,h4,h5⟩:=Xl (c:=c) hT hg h;obtain⟨wT,wH,es,tmf,hpf,l1,l2,l3,hK,hf,hf',hall⟩:=Lh hT hg r (i+1) h2;have e0:(fun x=>Nat.blt x 0)=fun _=>false:=by
    funext x
    cases hb:Nat.blt x 0 with
    |false=>rfl
    |true=>rw[Nat.blt_eq] at hb;omega
   have e1:∀k,(fun x=>Nat.blt (x+1) (k+1))=fun x=>Nat.blt x k:=by
    intro k;funext x
    rw[Bool.eq_iff_iff,Nat.blt_eq,Nat.blt_eq];omega
   have e2:∀k,Nat.blt 0 (k+1)=true:=by intro k;rw[Nat.blt_eq];omega
   have hst:∀(S:Nat→Bool) t,lk (acc S wT 0 (Gq o.dst v++tm1)) t=lk (acc S wT 0 (Gq o.dst v++tm)) t:=fun S t=>lu t wT 0 _ _ (nJ (h1 t)) fun _ _ _ _=>rfl
   refine⟨Gq o.dst v::wT,ws::wH,e::es,tmf,hpf,by simp[l1],by simp[l2],by simp[l3],?_,?_,?_,?_⟩
   ·simpa using hK
   ·intro t;rw[hf t,hst];simp only[acc,if_true,qX]
   ·intro b;rw[hf' b];simp only[acc,if_true,qX]
   intro k o' hk;cases k with
   | zero=>
     simp only[List.getElem?_cons_zero,Option.some.injEq] at hk;subst hk;refine⟨v,ws,e,rfl,rfl,rfl,h3,h4,?_⟩;rw[e0,oh,oh];exact h5
   | succ k=>
     obtain⟨v',uy,e',a1,a2,a3,a4,a5,a6⟩:=hall k o' (by simpa using hk);refine⟨v',uy,e',by simpa using a1,by simpa using a2,by simpa using a3,a4,a5,?_⟩;rw[show i+(k+1)=i+1+k from by omega];refine a6.congr (fun t=>?_) fun b=>?_
     ·simp only[acc,e2,if_true,qX,e1];exact (hst _ t).symm
     simp only[acc,e2,if_true,qX,e1]
theorem Gr {α:Type}{l l':List α}{k:Nat}(h:k<l.length):nth (l++l') k=nth l k:=by
 rw[uP,uP,List.getElem?_append_left h]
def Closed (ops:List Oper)(S:Nat→Bool):Prop:=∀k o,ops[k]? = some o→S k=true→∀e∈o.after.toList,Region.binds .any e=true→S e.on=true
theorem uW {S:Nat→Bool}{Gm:List Nat}(TN:∀k m,nth Gm k=some m→S k=true→∀x,m.testBit x=true→S x=true):∀(es:List Edge),
  (∀e∈es,Region.binds .any e=true→S e.on=true)→∀x,(KV Gm es).testBit x=true→S x=true
 |[],_,x,h=>by simp[KV] at h
 | e::r,hS,x,h=>by
   simp only[KV] at h;split at h
   ·rename_i hb;have hon:=hS e (by simp) hb;rw[Nat.testBit_or,Nat.testBit_or,Bool.or_eq_true,Bool.or_eq_true] at h;rcases h with (h|h)|h
    ·rw[Nat.testBit_two_pow] at h;simp only[decide_eq_true_eq] at h;rw[←h];exact hon
    ·split at h
     ·rename_i m hm;exact TN e.on m hm hon x h
     simp at h
    exact uW TN r (fun e' Gs=>hS e' (by simp[Gs])) x h
   exact uW TN r (fun e' Gs=>hS e' (by simp[Gs])) x h
theorem sP {i:Nat}:∀{es:List Edge},y7 i es=true→∀e∈es,Region.binds .any e=true→e.on<i
 |[],_,e,he,_=>by simp at he
 | x::r,h,e,he,hb=>by
   simp only[y7] at h;split at h
   ·rw[Bool.and_eq_true] at h;rcases List.mem_cons.1 he with rfl|he
    ·have:=h.1;rwa [Nat.blt_eq] at this
    exact sP h.2 e he hb
   rename_i hx;rcases List.mem_cons.1 he with rfl|he
   ·rw[hb] at hx;cases hx
   exact sP h e he hb
theorem zl {e:uO}{m:Nat}:∀{l:List uO} {k0:Nat},Dz e m l k0=true→∀k x,l[k]? = some x→mY x e=true→m.testBit (k0+k)=true
 |[],_,_,k,x,hk,_=>by simp at hk
 | y::r,k0,h,k,x,hk,hc=>by
   simp only[Dz,Bool.and_eq_true,Bool.or_eq_true,Bool.not_eq_true'] at h;cases k with
   | zero=>
     simp only[List.getElem?_cons_zero,Option.some.injEq] at hk;subst hk;exact h.1.resolve_left (by simp[hc])
   | succ k=>
     have:=zl h.2 k x (by simpa using hk) hc;rwa [show k0+1+k=k0+(k+1) from by omega] at this
def Sep (ops:List Oper)(es:List uO)(S:Nat→Bool)(i:Nat)(o:Oper)(e:uO):Prop:=
 (∀ed∈o.after.toList,Region.binds .any ed=true→ed.on<i) ∧
 ((∀ed∈o.after.toList,Region.binds .any ed=true→S ed.on=true)→∀k x,k<i→es[k]? = some x→mY x e=true→S k=true)
theorem AL {ops:List Oper}{all:List uO}{S:Nat→Bool}(hS:Closed ops S):∀(r:List Oper) (es:List uO) (i:Nat) (Gm:List Nat),abg all r es i Gm=true →
  ops.drop i=r→all.drop i=es→Gm.length=i→(∀k m,nth Gm k=some m→S k=true→∀x,m.testBit x=true→S x=true) →
  ∀k o,r[k]? = some o→∃e,es[k]? = some e∧Sep ops all S (i+k) o e
 |[],es,i,Gm,_,_,_,_,_,k,o,hk=>by simp at hk
 | o0::r,es,i,Gm,h,hops,hes,hlen,TN,k,o,hk=>by
   simp only[abg] at h;cases es with
   |nil=>simp at h
   | cons e0 es=>
     simp only[Bool.and_eq_true] at h;obtain⟨h1,h2,h3⟩:=h;have ho0:ops[i]? = some o0:=by
      have:=congrArg (fun l=>l[0]?) hops;simpa using this
     have agk:(∀e∈o0.after.toList,Region.binds .any e=true→S e.on=true)→∀x,(KV Gm o0.after.toList).testBit x=true→S x=true:=fun he=>uW TN _ he
     cases k with
     | zero=>
       simp only[List.getElem?_cons_zero,Option.some.injEq] at hk;subst hk;refine⟨e0,rfl,fun ed V9 hb=>sP h1 ed V9 hb,fun he k x hki hx hc=>?_⟩;have:=zl h2 k x (by rw[List.getElem?_take];simp only[Nat.add_zero] at hki;rw[if_pos hki];exact hx) hc;rw[Nat.zero_add] at this;exact agk he k this
     | succ k=>
       obtain⟨e,he,hsep⟩:=AL hS r es (i+1) (Gm++[KV Gm o0.after.toList]) h3 (by rw[←List.drop_drop,hops];rfl) (by rw[←List.drop_drop,hes];rfl) (by simp[hlen])
        (fun k' m hk' OY x hx=>by
         rcases Nat.lt_or_ge k' Gm.length with hlt|hge
         ·rw[Gr hlt] at hk';exact TN k' m hk' OY x hx
         rw[uP,List.getElem?_append_right hge] at hk';have:k' - Gm.length=0:=by
          rcases Nat.eq_zero_or_pos (k' - Gm.length) with h|h
          ·exact h
          rw[List.getElem?_eq_none (by simp;omega)] at hk';cases hk'
         rw[this] at hk';simp only[List.getElem?_cons_zero,Option.some.injEq] at hk';subst hk';have hki:k'=i:=by omega
         subst hki;exact agk (fun ed V9 hb=>hS _ o0 ho0 OY ed V9 hb) x hx)
        k o (by simpa using hk)
       refine⟨e,by simpa using he,?_⟩;rw[show i+(k+1)=i+1+k from by omega];exact hsep
end
section
variable {P:Program}{T:Tab}{c:Ctx}
theorem EA {n:Nat}:∀{l:List Oper},nN n l=true→∀(k:Nat) (o:Oper),l[k]? = some o→∀t,o.dst=some t→t<n
 |[],_,k,o,hk,_,_=>by simp at hk
 | x::r,h,k,o,hk,t,ht=>by
   simp only[nN] at h;cases k with
   | zero=>
     simp only[List.getElem?_cons_zero,Option.some.injEq] at hk;subst hk;rw[ht] at h;simp only at h;split at h
     ·rename_i hb;rwa [Nat.blt_eq] at hb
     cases h
   | succ k=>
     refine EA (l:=r) ?_ k o (by simpa using hk) t ht;split at h
     ·split at h
      ·exact h
      cases h
     exact h
theorem EB {x y:uO}{t:Nat}(h:t∈dl x.dst)(h':t∈y.look):mY x y=true∧mY y x=true:=by
 constructor<;>simp[mY,sO h h']
theorem He {x y:uO}{t:Nat}(h:t∈dl x.dst)(h':t∈dl y.dst):mY x y=true∧mY y x=true:=by
 constructor<;>simp[mY,sO h h',sO h' h]
theorem Li {x y:uO}{t:Nat}(h:t∈x.wr)(h':t∈y.rd):mY x y=true∧mY y x=true:=by
 constructor<;>simp[mY,sO h h']
theorem Lj {x y:uO}{t:Nat}(h:t∈x.wr)(h':t∈y.wr):mY x y=true∧mY y x=true:=by
 constructor<;>simp[mY,sO h h',sO h' h]
theorem any_ok {ops:Array Oper}{base nx:Nat}{tm:List (Nat×AV)}{hp:List (Nat×aF)}{wT:List (List (Nat×AV))}{wH:List (List (Nat×aF))}{es:List uO}{Q:Exit→Act→World→Prop}
  (hall:∀k o,ops.toList[k]? = some o→∃v ws e,wT[k]? = some (Gq o.dst v)∧wH[k]? = some ws∧es[k]? = some e∧e.dst=o.dst∧e.wr=keys ws ∧
    TL P c ops base o k v ws e (acc (fun x=>Nat.blt x k) wT 0 tm) (acc (fun x=>Nat.blt x k) wH 0 hp))
  (hlT:wT.length=ops.size) (hlH:wH.length=ops.size) (hfp:af5 ops.toList es=true) (hn:base+ops.size≤nx) (hd:nN c.n ops.toList=true)
  (ro:Option Nat) (hfin:∀R a w,bG c R ⟨acc (fun _=>true) wT 0 tm,nx,acc (fun _=>true) wH 0 hp⟩ a w→Q .normal a w) :
  ∀(fuel:Nat) (listed:Array Bool) (R:Real) (a:Act) (w:World),listed.size=ops.size→Closed ops.toList (fun k=>listed.getD k false)→listed.toList.count false≤fuel →
   bG c R ⟨acc (fun k=>listed.getD k false) wT 0 tm,nx,acc (fun k=>listed.getD k false) wH 0 hp⟩ a w→wpAnyIn (W1 ro) 0 P .any ops Q fuel listed a w:=by
 have agl:∀k o,ops[k]? = some o→∀ed∈o.after.toList,Region.binds .any ed=true→ed.on<k:=by
  intro k o ho;obtain⟨e,_,hs⟩:=AL (S:=fun _=>true) (fun _ _ _ _ _ _ _=>rfl) ops.toList es 0 [] hfp rfl rfl rfl (fun _ m h=>by simp[nth] at h) k o (by rw[Array.getElem?_toList];exact ho);have:=hs.1;rwa [Nat.zero_add] at this
 have hdone:∀listed:Array Bool,listed.size=ops.size→Region.ready .any ops listed=[]→∀k,k<ops.size→listed.getD k false=true:=by
  intro listed hsz hr k;induction k using Nat.strongRecOn with
  | ind k ih=>
    intro hk;cases hb:listed.getD k false with
    |true=>rfl
    | false=>
      exfalso;have:k∈Region.ready .any ops listed:=by
       rw[mem_ready];refine⟨?_,ops[k],by simp[hk],fun ed V9 hbd=>?_⟩
       ·have hk':k<listed.size:=by omega
        simp[hk'] at hb ⊢;exact hb
       have hlt:=agl k ops[k] (by simp[hk]) ed (by simpa using V9) hbd;exact ih ed.on hlt (by omega)
      rw[hr] at this;simp at this
 have hend:∀(listed:Array Bool) (R:Real) (a:Act) (w:World),listed.size=ops.size→Region.ready .any ops listed=[] →
   bG c R ⟨acc (fun k=>listed.getD k false) wT 0 tm,nx,acc (fun k=>listed.getD k false) wH 0 hp⟩ a w→Q .normal a w:=by
  intro listed R a w hsz hr g;refine hfin R a w (g.congr (fun t=>lu t wT 0 _ _ rfl fun k ws hk _=>?_) fun b=>lu b wH 0 _ _ rfl fun k ws hk _=>?_)
  ·rw[Nat.zero_add];exact (hdone listed hsz hr k (by rw[←hlT];exact (List.getElem?_eq_some_iff.1 hk).1)).symm
  rw[Nat.zero_add];exact (hdone listed hsz hr k (by rw[←hlH];exact (List.getElem?_eq_some_iff.1 hk).1)).symm
 intro fuel;induction fuel with
 | zero=>
   intro listed R a w hsz hcl hc g;have hr:Region.ready .any ops listed=[]:=by
    cases hr:Region.ready .any ops listed with
    |nil=>rfl
    | cons j r=>
      exfalso;have hj:j∈Region.ready .any ops listed:=by rw[hr];simp
      rw[mem_ready] at hj;obtain⟨h0,o,ho,_⟩:=hj;have hjl:j<listed.size:=by rw[hsz];exact (Array.getElem?_eq_some_iff.1 ho).1
      have:false∈listed.toList:=by
       have:listed[j]=false:=by simpa[hjl] using h0
       rw[←this];simp
      have:=List.count_pos_iff.2 this;omega
   exact⟨hr,hend listed R a w hsz hr g⟩
 | succ fuel ih=>
   intro listed R a w hsz hcl hc g;refine⟨fun hr=>hend listed R a w hsz hr g,fun i hi=>?_⟩;rw[mem_ready] at hi;obtain⟨h0,o,ho,hpre⟩:=hi;have hio:i<ops.size:=(Array.getElem?_eq_some_iff.1 ho).1;have hil:i<listed.size:=by omega
   have hif:listed.getD i false=false:=by simpa[hil] using h0
   have OZ:ops.toList[i]? = some o:=by rw[Array.getElem?_toList];exact ho
   obtain⟨v,ws,e,a1,a2,a3,a4,a5,a6⟩:=hall i o OZ;have hsep:∀k o',ops.toList[k]? = some o'→∃e,es[k]? = some e∧Sep ops.toList es (fun k=>listed.getD k false) k o' e:=by
    intro k o' hk;have:=AL hcl ops.toList es 0 [] hfp rfl rfl rfl (fun _ m h=>by simp[nth] at h) k o' hk;rwa [Nat.zero_add] at this
   have hS:∀k x,es[k]? = some x→k<ops.size→mY x e=true→mY e x=true→listed.getD k false=Nat.blt k i:=by
    intro k x hx hk hc1 hc2;rcases Nat.lt_trichotomy k i with hlt|heq|hgt
    ·obtain⟨e',Gs,hs⟩:=hsep i o OZ;rw[a3] at Gs;cases Gs;have hk1:listed.getD k false=true:=hs.2 (fun ed V9 hb=>hpre ed (by simpa using V9) hb) k x hlt hx hc1;have hk2:Nat.blt k i=true:=by rw[Nat.blt_eq];exact hlt
     rw[hk1,hk2]
    ·subst heq;rw[hif];cases hb:Nat.blt k k with
     |false=>rfl
     |true=>rw[Nat.blt_eq] at hb;omega
    have hb':Nat.blt k i=false:=by
     cases hb:Nat.blt k i with
     |false=>rfl
     |true=>rw[Nat.blt_eq] at hb;omega
    rw[hb'];cases hb:listed.getD k false with
    |false=>rfl
    | true=>
      exfalso;have hok:ops.toList[k]? = some ops[k]:=by simp[hk]
      obtain⟨e',Gs,hs⟩:=hsep k ops[k] hok;rw[hx] at Gs;cases Gs;have:=hs.2 (fun ed V9 hbd=>hcl k ops[k] hok hb ed V9 hbd) i e hgt a3 hc2;simp only at this;rw[hif] at this;cases this
   have adn:∀k,k<ops.size→∃o' v' uy e',ops[k]? = some o'∧wT[k]? = some (Gq o'.dst v')∧wH[k]? = some uy∧es[k]? = some e'∧e'.dst=o'.dst∧e'.wr=keys uy:=by
    intro k hk;obtain⟨v',uy,e',b1,b2,b3,b4,b5,_⟩:=hall k ops[k] (by simp[hk]);exact⟨ops[k],v',uy,e',by simp[hk],b1,b2,b3,b4,b5⟩
   have hTk:∀k uy,wT[k]? = some uy→∃e',es[k]? = some e'∧k<ops.size∧keys uy=dl e'.dst:=by
    intro k uy hk;have hkn:k<ops.size:=by rw[←hlT];exact (List.getElem?_eq_some_iff.1 hk).1
    obtain⟨o',v',w',e',_,b1,_,b3,b4,_⟩:=adn k hkn;rw[hk] at b1;simp only[Option.some.injEq] at b1;exact⟨e',b3,hkn,by rw[b1,Lf,b4]⟩
   have hHk:∀k uy,wH[k]? = some uy→∃e',es[k]? = some e'∧k<ops.size∧keys uy=e'.wr:=by
    intro k uy hk;have hkn:k<ops.size:=by rw[←hlH];exact (List.getElem?_eq_some_iff.1 hk).1
    obtain⟨o',v',w',e',_,_,b2,b3,_,b5⟩:=adn k hkn;rw[hk] at b2;simp only[Option.some.injEq] at b2;exact⟨e',b3,hkn,by rw[b2,b5]⟩
   have hop:=a6 R _ _ nx a w (fun t ht=>lu (S:=fun k=>listed.getD k false) t wT 0 tm tm rfl fun k uy hk htk=>by
     obtain⟨e',Gs,hkn,hke⟩:=hTk k uy hk;rw[Nat.zero_add];rw[hke] at htk;exact hS k e' Gs hkn (EB htk ht).1 (EB htk ht).2)
    (fun b hb=>lu (S:=fun k=>listed.getD k false) b wH 0 hp hp rfl fun k uy hk htk=>by
     obtain⟨e',Gs,hkn,hke⟩:=hHk k uy hk;rw[Nat.zero_add];rw[hke] at htk;exact hS k e' Gs hkn (Li htk hb).1 (Li htk hb).2)
    (by omega) (fun t ht=>EA hd i o OZ t ht) g ro Q
   have hS':∀k,(listed.setIfInBounds i true).getD k false=(listed.getD k false||Nat.beq k i):=by
    intro k;by_cases hki:k=i
    ·subst hki;simp[hil]
    rw[getD_set_ne false (Ne.symm hki)];cases hb:Nat.beq k i with
    |false=>simp
    |true=>exact absurd (Nat.eq_of_beq_eq_true hb) hki
   have hnext:∀R' a' w',bG c R' ⟨Gq o.dst v++acc (fun k=>listed.getD k false) wT 0 tm,nx,ws++acc (fun k=>listed.getD k false) wH 0 hp⟩ a' w' →
     wpAnyIn (W1 ro) 0 P .any ops Q fuel (listed.setIfInBounds i true) a' w':=by
    intro R' a' w' g';refine ih _ R' a' w' (by simp[hsz]) ?_ ?_ (g'.congr (fun t=>?_) fun b=>?_)
    ·intro k o' hk OY ed V9 hb;simp only at OY ⊢;rw[hS',Bool.or_eq_true] at OY ⊢;rcases OY with h|h
     ·exact .inl (hcl k o' hk h ed V9 hb)
     have:=Nat.eq_of_beq_eq_true h;subst this;rw[OZ] at hk;cases hk;exact .inl (hpre ed (by simpa using V9) hb)
    ·rw[Array.toList_setIfInBounds,List.count_set (by simpa using hil)];have:listed.toList[i]'(by simpa using hil)=false:=by simpa[hil] using h0
     have hm:false∈listed.toList:=by rw[←this];simp
     have hp:=List.count_pos_iff.2 hm;rw[this];show listed.toList.count false-1+0≤fuel
     omega
    ·refine Rj a1 hS' t fun k uy hk ht ht' OY=>?_
     obtain⟨e',Gs,hkn,hke⟩:=hTk k uy hk;rw[hke] at ht';rw[Lf,←a4] at ht;rw[hS k e' Gs hkn (He ht' ht).1 (He ht' ht).2] at OY;rwa [Nat.blt_eq] at OY
    refine Rj a2 hS' b fun k uy hk ht ht' OY=>?_
    obtain⟨e',Gs,hkn,hke⟩:=hHk k uy hk;rw[hke] at ht';rw[←a5] at ht;rw[hS k e' Gs hkn (Lj ht' ht).1 (Lj ht' ht).2] at OY;rwa [Nat.blt_eq] at OY
   unfold wpOpIn;rw[ho];simp only;split
   ·rename_i hw;rw[if_pos hw] at hop;exact Oper.wpIn_mono (fun a' w' ⟨R',g'⟩=>hnext R' a' w' g') hop
   rename_i hw;rw[if_neg hw] at hop;obtain⟨R',g'⟩:=hop;exact⟨fun _ _=>trivial,hnext R' _ w g'⟩
theorem bG.drawn {R:Real}{s:AS}{a:Act}{w:World}(g:bG c R s a w)(n:Nat):bG c R s a { w with drawn:=n }:=by
 have hN:∀r,r<w.heap.size→aV c R s.hp r→aV c R s.hp r:=fun r _ h=>h
 have hw:∀r,r<w.heap.size→¬aV c R s.hp r→({ w with drawn:=n }:World).heap[r]? = w.heap[r]? :=fun _ _ _=>rfl
 have h1:∀b off v,aY R b off v (lk s.hp b)→aY R b off v (lk s.hp b):=fun b off v h=>h
 have h2:∀b ver v,aU R b ver v (lk s.hp b)→aU R b ver v (lk s.hp b):=fun b ver v h=>h
 have h3:∀b ver i off v,bf R b ver i off v (lk s.hp b)→bf R b ver i off v (lk s.hp b):=fun b ver i off v h=>h
 refine⟨fun t v hv=>?_,g.size,g.lo,g.marks.imp fun Ds hm=>hm.kept (fun _ _ _=>rfl) (fun _ _ h=>h),g.fixed.kept (fun _ _ _=>rfl) (fun _ _ h=>h),fun b box hb=>?_,g.inj,g.free,⟨g.jE.size,g.jE.keep,g.jE.os,g.jE.tape,g.jE.output⟩,g.iw,fun v x h=>dF hN hw h1 h2 h3 v x (g.kept v x h)⟩
 ·obtain⟨x,hx,hr⟩:=g.slots t v hv;exact⟨x,hx,dF hN hw h1 h2 h3 v x hr⟩
 have hr:=g.boxes b box hb;cases box with
 | var cells=>
   simp only[dY] at hr ⊢;obtain⟨cur,e,ha,hb⟩:=hr;exact⟨cur,e,ha,bK hN hw h1 h2 h3 cells _ hb⟩
 | nR cells=>
   simp only[dY] at hr ⊢;obtain⟨cur,e,fr,ha,hn,hb⟩:=hr;exact⟨cur,e,fr,ha,hn,dQ hN hw cells _ hb⟩
 | arr e ver st rows=>
   simp only[dY] at hr ⊢;obtain⟨xs,ha,hb⟩:=hr;exact⟨xs,ha,aX hN hw st rows xs hb⟩
 | dS ver st rows=>
   simp only[dY] at hr ⊢;exact dJ hN hw _ _ hr
 | tr y ver rest st=>
   obtain⟨k0,kh,k1,k2,k3,k4⟩:=hr;exact⟨k0,kh,k1,⟨k2.size,k2.keep,k2.os,k2.tape,k2.output⟩,k3,k4⟩
 |iM e' ver st j ed sd pre row post=>exact iQ hN hw rfl rfl rfl (fun k _=>rfl) rfl (fun vs h=>bK hN hw h1 h2 h3 _ _ h) hr
 |mp kk kv es=>exact hr
 | gy e' ver st pre row post=>
   obtain⟨xs,h8,h9,h10,h11,h12⟩:=hr;exact⟨xs,h8,aX hN hw _ _ _ h9,h10,bK hN hw h1 h2 h3 _ _ h11,aX hN hw _ _ _ h12⟩
theorem cZ (hm:P.follows .mixedOrders=true)(hT:bY P T)(hg:gen T=false:=by rfl):∀(c:Ctx) (R:Real) (s:AS) (a:Act) (w:World) (id:Nat) (ops:Array Oper) (K:Exit→AS→Prop) (ro:Option Nat),bG c R s a w→nN c.n ops.toList=true →
  VC P T (.region id ops true) s K→(Code.region id ops true).wpIn (W1 ro) 0 P (fun e a' w'=>∃R' s',K e s'∧bG c R' s' a' w') a w:=by
 intro c R s a w id ops K ro g hd h;simp only[VC] at h;obtain⟨tm,nx,hp⟩:=s;simp only at h;split at h;rotate_left;cases h
 rename_i hb;have hb:=Nat.le_of_ble_eq_true hb;obtain⟨wT,wH,es,tmf,hpf,l1,l2,l3,⟨hfp,hK⟩,hf,hf',hall⟩:=Lh (c:=c) hT hg ops.toList 0 h;simp only[List.append_nil,List.reverse_reverse] at hfp;have g0:bG c R ⟨tm,nx,hp⟩ a { w with drawn:=w.drawn+1 }:=g.drawn _;have hfalse:(fun k=>(Array.replicate ops.size false).getD k false)=fun _=>false:=by
  funext k
  simp only[Array.getD_eq_getD_getElem?,Array.getElem?_replicate];split<;>rfl
 refine wpIn_region_any hm (any_ok (hall:=fun k o hk=>by
  have:=hall k o hk;rwa [Nat.zero_add] at this) (by simpa using l1) (by simpa using l2) hfp (by simpa using hb) hd ro ?_ ops.size _ R a _ (by simp) ?_ ?_ ?_)
 ·intro R' a' w' g';exact⟨R',_,hK,g'.congr hf hf'⟩
 ·intro k o hk hS;have:=congrFun hfalse k;rw[hfalse] at hS;cases hS
 ·simp
 rw[hfalse,oh,oh];exact g0
end
section
variable {P:Program}{T:Tab}
theorem PC.mono {f:FuncId}{args:List PV}{Q Q':PV→Prop}(h:PC P f args Q)(hq:∀r,Q r→Q' r):PC P f args Q':=
 ⟨h.1,fun F w dz hF ha=>(h.2 F w dz hF ha).mono fun e w' ⟨v,r,a,b,c,d⟩=>⟨v,r,a,hq r b,c,d⟩⟩
theorem PC.le {f:FuncId}{args:List PV}{r:PV}(h:PC P f args fun x=>Xo x r):dB P f args r:=
 ⟨h.1,fun F w dz hF ha=>(h.2 F w dz hF ha).mono fun e w' ⟨v,x,a,b,c,d⟩=>⟨v,r,a,rfl,oq (fun _ h=>h) _ _ _ b c,d⟩⟩
theorem aG {f:FuncId}{args Cj:List PV}{r:PV}(h:dB P f Cj r)(e:AP args Cj):dB P f args r:=
 ⟨h.1,fun F w dz hF ha=>h.2 F w dz hF (qd (fun _ h=>h) _ _ _ e ha)⟩
def agt (args:List AV)(hp:List (Nat×aF))(Cj:List AV)(mg:List (Nat×aF)):Prop:=
 match O4 hp with
 | ρ0=>match mt hp mg 1000 ρ0 (kU hp mg ρ0 (pairs args Cj [])) with
   | some ρ=>match EF ρ hp mg with
     |true=>Gu ρ hp mg (Gt ρ args Cj)
     |false=>False
   |none=>False
theorem av {f:FuncId}{args Cj:List AV}{hp mg:List (Nat×aF)}{r:AV}{hp':List (Nat×aF)}(h:dU P f Cj mg r hp')(e:agt args hp Cj mg):dU P f args hp r hp':=by
 refine⟨h.1,fun c R w dz hh ha=>?_⟩;simp only[agt] at e;split at e
 ·rename_i ρ _;split at e
  ·rename_i hf;have H:=JD hf e;exact h.2 c (nT ρ R) w dz (hh.weaken H) (oW H _ _ _ (uZ e) ha)
  exact e.elim
 exact e.elim
theorem Xw {N:Nat→Prop}{w:World}{st:Nat}{rows:List (List PV)}{v:Value}(h:bJ N w (.sl false st rows) v) :
  bJ N w (.sl true st rows) v∨(rows=[]∧bJ N w (.sc (.slice none 0 0)) v):=by
 simp only[bJ] at h ⊢;obtain⟨p,len,cap,rfl,h2,h3,h4,h5⟩:=h;cases p with
 | none=>
   obtain⟨_,h6⟩:=h4 rfl;subst h6;have:len=0:=by omega
   subst this;exact .inr ⟨List.eq_nil_of_length_eq_zero h2.symm,rfl⟩
 |some a=>exact .inl ⟨some a,len,cap,rfl,h2,h3,fun h=>(by cases h),h5⟩
theorem Rt {N:Nat→Prop}{w:World}{st:Nat}{rows:List (List PV)}{b:List PV}:∀{a:List PV} {vs:List Value},eY N w (a ++ .sl false st rows::b) vs →
  eY N w (a ++ .sl true st rows::b) vs∨(rows=[]∧eY N w (a ++ .sc (.slice none 0 0)::b) vs)
 | [],vs,h=>by
   simp only[List.nil_append,eY] at h ⊢;obtain⟨v,r,e,h1,h2⟩:=h;rcases Xw h1 with h1|⟨h0,h1⟩
   ·exact .inl ⟨v,r,e,h1,h2⟩
   exact .inr ⟨h0,v,r,e,h1,h2⟩
 | x::a,vs,h=>by
   simp only[List.cons_append,eY] at h ⊢;obtain⟨v,r,e,h1,h2⟩:=h;rcases Rt h2 with h2|⟨h0,h2⟩
   ·exact .inl ⟨v,r,e,h1,h2⟩
   exact .inr ⟨h0,v,r,e,h1,h2⟩
theorem adq {f:FuncId}(a:List PV){b:List PV}{st:Nat}{rows:List (List PV)}{Q:PV→Prop}(h1:PC P f (a ++ .sl true st rows::b) Q)
  (h2:rows=[]→PC P f (a ++ .sc (.slice none 0 0)::b) Q):PC P f (a ++ .sl false st rows::b) Q:=
 ⟨h1.1,fun F w dz hF ha=>by
  rcases Rt ha with h|⟨h0,h⟩
  ·exact h1.2 F w dz hF h
  exact (h2 h0).2 F w dz hF h⟩
theorem LA {N:Nat→Prop}{w:World}{hp:List (Nat×aF)}{R:Real}{st:Nat}{rows:List (List PV)}{b:List AV}:∀{a:List AV} {vs:List Value},dh N w hp R (a ++ .pv (.sl false st rows)::b) vs →
  dh N w hp R (a ++ .pv (.sl true st rows)::b) vs∨(rows=[]∧dh N w hp R (a ++ .pv (.sc (.slice none 0 0))::b) vs)
 | [],vs,h=>by
   simp only[List.nil_append,dh] at h ⊢;obtain⟨v,r,e,h1,h2⟩:=h;simp only[ak] at h1 ⊢;rcases Xw h1 with h1|⟨h0,h1⟩
   ·exact .inl ⟨v,r,e,h1,h2⟩
   exact .inr ⟨h0,v,r,e,h1,h2⟩
 | x::a,vs,h=>by
   simp only[List.cons_append,dh] at h ⊢;obtain⟨v,r,e,h1,h2⟩:=h;rcases LA h2 with h2|⟨h0,h2⟩
   ·exact .inl ⟨v,r,e,h1,h2⟩
   exact .inr ⟨h0,v,r,e,h1,h2⟩
theorem agu {f:FuncId}(a:List AV){b:List AV}{hp:List (Nat×aF)}{st:Nat}{rows:List (List PV)}{Q:AV→List (Nat×aF)→Prop}(h1:GC P f (a ++ .pv (.sl true st rows)::b) hp Q)
  (h2:rows=[]→GC P f (a ++ .pv (.sc (.slice none 0 0))::b) hp Q):GC P f (a ++ .pv (.sl false st rows)::b) hp Q:=
 ⟨h1.1,fun c R w dz hh ha=>by
  rcases LA ha with h|⟨h0,h⟩
  ·exact h1.2 c R w dz hh h
  exact (h2 h0).2 c R w dz hh h⟩
mutual
def DL:PV→Prop
 |.sl _ _ rows=>rows.length≤9223372036854775807
 |.agg cs=>JF cs
 |_=>True
def JF:List PV→Prop
 |[]=>True
 |p::r=>DL p∧JF r
end
mutual
theorem Xx {N:Nat→Prop}{w:World}:∀(p:PV) (v:Value),bJ N w p v→DL p
 | .sl _ _ rows,v,h=>by
   simp only[bJ] at h;obtain⟨p,len,cap,_,h2,h3,_⟩:=h;simp only[DL];omega
 | .agg cs,v,h=>by
   simp only[bJ] at h;obtain⟨vs,_,h⟩:=h;simp only[DL];exact Xy cs _ h
 |.sc _,_,_=>by simp only[DL]
 |.cO _,_,_=>by simp only[DL]
 |.dL _ _,_,_=>by simp only[DL]
 |.fn _ _ _,_,_=>by simp only[DL]
 |.junk,_,_=>by simp only[DL]
 |.NY _ _,_,_=>by simp only[DL]
theorem Xy {N:Nat→Prop}{w:World}:∀(ps:List PV) (vs:List Value),iX N w ps vs→JF ps
 |[],_,_=>trivial
 | p::ps,vs,h=>by
   simp only[iX] at h;obtain⟨v,r,_,_,h1,h2⟩:=h;exact⟨Xx p v h1,Xy ps r h2⟩
end
theorem Xz {N:Nat→Prop}{w:World}:∀(ps:List PV) (vs:List Value),eY N w ps vs→JF ps
 |[],_,_=>trivial
 | p::ps,vs,h=>by
   simp only[eY] at h;obtain⟨v,r,_,h1,h2⟩:=h;exact⟨Xx p v h1,Xz ps r h2⟩
theorem bR.enters {f:FuncId}{fn:Func}(h:bR P f fn):Enters P f:=⟨fn,h.func,h.body,h.name⟩
theorem qg {f:FuncId}{fn:Func}(he:bR P f fn){args:List PV}{Q:PV→Prop}(h:JF args→PC P f args Q):PC P f args Q:=
 ⟨he.enters,fun F w dz hF ha=>(h (Xz args _ ha)).2 F w dz hF ha⟩
theorem dR {α:Type}(f:α→List PV)(l:List α)(k:Nat)(h:k<l.length):(l.map f)[((k:Nat):Int).toNat]? = some (f l[k]):=by
 simp[h]
theorem O6 {α:Type}(f:α→List PV)(l:List α){i:Int}{k:Nat}(e:i=(k:Int))(h:k<l.length):(l.map f)[i.toNat]? = some (f l[k]):=by
 subst e;simp[h]
theorem dec_lt {k n:Nat}(h:k<n):n-(k+1)<n-k:=by omega
theorem gX {n:Int}(h0:0≤n)(h:n≤18446744073709551615):IntKind.u64.wrap n=n:=by
 simp[IntKind.wrap,IntKind.bits,IntKind.signed];omega
theorem bN {n:Int}(h0 : -9223372036854775808≤n)(h:n≤9223372036854775807):IntKind.i64.wrap n=n:=by
 simp[IntKind.wrap,IntKind.bits,IntKind.signed];omega
end
theorem fk {b:Bool}{p q:Prop}(h:b=true→p)(k:b=false→q):(b=true→p)∧(b=false→q):=⟨h,k⟩
theorem lr (l:List (List PV)):iR l l:=aB l
theorem aP {P:Program}{T:Tab}{c:Code}{s:AS}{K:Exit→AS→Prop}{X:Prop}(h:VC P T c s K):VC P T c s K∨X:=Or.inl h
theorem zoc {P:Program}{T:Tab}{a:Operand}{b c:Code}{s:AS}{K:Exit→AS→Prop}{X:Prop}(h:VC P T (Code.cond a b c) s K):VC P T (Code.cond a b c) s K∨X:=Or.inl h
theorem zos {P:Program}{T:Tab}{b c:Code}{s:AS}{K:Exit→AS→Prop}{X:Prop}(h:VC P T (Code.seq b c) s K):VC P T (Code.seq b c) s K∨X:=Or.inl h
theorem bA {a b c:Prop}(h:a):(a∨b)∨c:=.inl (.inl h)
theorem dn {a b c:Prop}(h:b):(a∨b)∨c:=.inl (.inr h)
theorem znb {m n:Nat}(h:Nat.ble m n=true):m≤n:=Nat.le_of_ble_eq_true h
theorem jQ {α:Type}{a:α}{l:List α}:(a::l).length=l.length+1:=rfl
theorem jR {α:Type}:([]:List α).length=0:=rfl
theorem fE {α β:Type}{f:α→β}{l:List α}:(l.map f).length=l.length:=List.length_map ..
theorem rq {α:Type}{a b:List α}:(a++b).length=a.length+b.length:=List.length_append
theorem iO {p:Prop}[Decidable p]:(decide p=true)=p:=decide_eq_true_eq
theorem w9 {p:Prop}[Decidable p]:(decide p=false)=¬p:=propext decide_eq_false_iff_not
theorem aM {p:Prop}(h:p:=by (repeat' first|(with_reducible first|exact⟨⟩|exact rfl|exact lr _)|((conv=>whnf);with_reducible first|apply And.intro|exact⟨⟩)|exact rfl|exact fun h=>h|exact lr _)<;>fail):p:=h
theorem bD {p:Prop}(h:p:=by (repeat' first|(with_reducible first|exact⟨⟩|exact rfl|exact lr _)|((conv=>whnf);with_reducible first|apply And.intro|exact⟨⟩)|exact rfl|exact fun h=>h|assumption|exact lr _)<;>fail):p:=h
theorem aZ {p:Prop}(h:False:=by first|exact absurd hc (by decide)|(simp only[*,reduceCtorEq] at hc<;>fail)):p:=h.elim
theorem gK {p:Prop}(h:False:=by first|exact absurd hc (by decide)|(simp only[*,reduceCtorEq,Bool.not_true,Bool.not_false] at hc<;>fail)):p:=h.elim
theorem zx5 {p:Prop}(h:p:=by first|rfl|exact znb rfl|omega|(simp only[jQ,jR,fE,rq];omega)):p:=h
theorem zx7 {p:Prop}(h:p:=by focus (simp only[List.length_map];omega)):p:=h
theorem aN {p q:Prop}(h:q)(k:p:=by first|rfl|exact znb rfl|omega|(simp only[jQ,jR,fE,rq];omega)):p∧q:=⟨k,h⟩
theorem zxb {p q:Prop}(h:q)(k:p:=by (simp only[List.length_map];omega)):p∧q:=⟨k,h⟩
theorem zmc {α β:Type}{f:α→β}{a:α}{l:List α}:(a::l).map f=f a::l.map f:=rfl
theorem zmn {α β:Type}{f:α→β}:([]:List α).map f=[]:=rfl
theorem zca {α:Type}{a:α}{l m:List α}:(a::l)++m=a::(l++m):=rfl
theorem zna {α:Type}{l:List α}:[]++l=l:=rfl
theorem zma {α β:Type}{f:α→β}{a b:List α}:(a++b).map f=a.map f++b.map f:=List.map_append
theorem zx8 {p:Prop}(h:p:=by simp only[List.length_set,aiV,Array.size_setIfInBounds,size_swp];omega):p:=h
theorem fC {P:Program}{f:FuncId}{fn:Func}(h:P.funcs[f]? = some fn)(k:(fn.body.isSome&&(!(fn.name == "runtime.NumGoroutine")&&codeOk fn.ntmps (codeOf fn)))=true:=by kernel_rfl):bR P f fn:=by
 simp only[Bool.and_eq_true,Bool.not_eq_true'] at k;exact⟨h,k.1,k.2.1,k.2.2⟩
end Go.AX
end
section
universe u
variable {α:Type}
namespace Go.AX
abbrev uu (n:Int):PV:=.sc (.int .u64 n)
abbrev ii (n:Int):PV:=.sc (.int .i64 n)
abbrev bl (b:Bool):PV:=.sc (.bool b)
abbrev fQ:PV:=.sc (.slice none 0 0)
abbrev unit:PV:=.cO []
structure Pl where
 node:Int
 aI:Int
deriving DecidableEq,Inhabited
def Pl.c (x:Pl):List PV:=[ii x.node,uu x.aI]
def ax (l:List Pl):PV:=.sl false 2 (l.map Pl.c)
structure Fr where
 first:Int
 ah:List Pl
deriving DecidableEq,Inhabited
def Fr.c (f:Fr):List PV:=[uu f.first,ax f.ah]
def cB (l:List Fr):PV:=.sl false 2 (l.map Fr.c)
structure Lg where
 id:Int
 w:Int
 a:Int
 af:List Fr
 closed:Int
 last:Int
deriving DecidableEq,Inhabited
def Lg.c (l:Lg):List PV:=[uu l.id,ii l.w,ii l.a,cB l.af,ii l.closed,uu l.last]
def Cn (l:List UInt8):PV:=.sl false 1 (l.map kX)
structure Ft where
 bP:Int
 n:Int
 set:List Pl
 at_:Int
 since:Int
 tag:Int
 done:Int
 body:List UInt8
deriving DecidableEq,Inhabited
def Ft.c (f:Ft):List PV:=[uu f.bP,uu f.n,ax f.set,ii f.at_,uu f.since,uu f.tag,ii f.done,Cn f.body]
structure Rq where
 to:Pl
 kind:Int
 bP:Int
 n:Int
 au:Int
 sure:Int
 copy:Int
 body:List UInt8
 keep:List Int
deriving DecidableEq,Inhabited
def ai5 (n:Int):List PV:=[uu n]
def slU (l:List Int):PV:=.sl false 1 (l.map ai5)
def Rq.c (r:Rq):List PV:=[ii r.to.node,uu r.to.aI,ii r.kind,uu r.bP,uu r.n,uu r.au,uu r.sure,ii r.copy,Cn r.body,slU r.keep]
def kD (l:List Rq):PV:=.sl false 10 (l.map Rq.c)
structure Rs where
 from_:Pl
 kind:Int
 code:Int
 bP:Int
 n:Int
 au:Int
 sure:Int
 body:List UInt8
deriving DecidableEq,Inhabited
def Rs.c (r:Rs):List PV:=[ii r.from_.node,uu r.from_.aI,ii r.kind,ii r.code,uu r.bP,uu r.n,uu r.au,uu r.sure,Cn r.body]
def uE {α:Type}(p:α→Bool):List α→Int
 |[]=>-1
 | x::r=>match p x with
   |true=>0
   | false=>match uE p r with
     |.ofNat n=>n+1
     |.negSucc _=>-1
theorem o7 {α:Type}(p:α→Bool):∀{l:List α},(∀x∈l,p x=false)→uE p l = -1
 |[],_=>rfl
 | x::r,h=>by
   have e:=o7 p (l:=r) fun y hy=>h y (by simp[hy])
   simp only[uE,h x (by simp),e];rfl
theorem Bc {α:Type}(p:α→Bool):∀{l:List α} {k:Nat} (hk:k<l.length),(∀j (hj:j<l.length),j<k→p l[j]=false)→p l[k]=true→uE p l=k
 |[],k,hk,_,_=>by simp at hk
 | x::r,0,_,_,h=>by
   simp only[List.getElem_cons_zero] at h;simp[uE,h]
 | x::r,k+1,hk,h,h'=>by
   have h0:=h 0 (by simp) (by omega);simp only[List.getElem_cons_zero] at h0;simp only[List.getElem_cons_succ] at h';have:=Bc p (l:=r) (k:=k) (by simpa using hk) (fun j hj hlt=>by
    have:=h (j+1) (by simpa using hj) (by omega);simpa using this) h'
   simp only[uE,h0,this];show ((k:Int)+1=_)
   omega
theorem nk {α:Type}(p:α→Bool):∀(l:List α),(uE p l = -1∧∀x∈l,p x=false)∨∃k,∃hk:k<l.length,uE p l=(k:Nat)∧p l[k]=true∧∀j (hj:j<l.length),j<k→p l[j]=false
 |[]=>.inl ⟨rfl,by simp⟩
 | x::r=>by
   cases hx:p x with
   | true=>
     refine .inr ⟨0,by simp,?_,by simpa using hx,by simp⟩;simp[uE,hx]
   | false=>
     rcases nk p r with ⟨h1,h2⟩|⟨k,hk,h1,h2,h3⟩
     ·refine .inl ⟨?_,?_⟩
      ·simp only[uE,hx,h1];rfl
      intro y hy;rcases List.mem_cons.1 hy with rfl|hy
      ·exact hx
      exact h2 y hy
     refine .inr ⟨k+1,by simpa using hk,?_,by simpa using h2,?_⟩
     ·simp only[uE,hx,h1];show ((k:Int)+1=_)
      omega
     intro j hj hlt;cases j with
     |zero=>simpa using hx
     |succ j=>simpa using h3 j (by simpa using hj) (by omega)
theorem Pf {α:Type}(p:α→Bool)(l:List α):decide (uE p l≥0)=l.any p:=by
 rw[Bool.eq_iff_iff];simp only[decide_eq_true_eq,List.any_eq_true];rcases nk p l with ⟨h1,h2⟩|⟨k,hk,h1,h2,h3⟩
 ·rw[h1];constructor
  ·intro h;omega
  rintro⟨x,hx,hp⟩;rw[h2 x hx] at hp;cases hp
 rw[h1];exact⟨fun _=>⟨l[k],List.getElem_mem hk,h2⟩,fun _=>by omega⟩
theorem Pl.eta (x:Pl):(⟨x.node,x.aI⟩:Pl)=x:=rfl
theorem Pl.beq (x y:Pl):((x.node==y.node)&&(x.aI==y.aI))=(x==y):=by
 rw[Bool.eq_iff_iff];simp only[Bool.and_eq_true,beq_iff_eq];cases x;cases y;simp
theorem Pl.agI (x:Pl)(a b:Int):((a==x.node)&&(b==x.aI))=(x==⟨a,b⟩):=by
 rw[Bool.eq_iff_iff];simp only[Bool.and_eq_true,beq_iff_eq];cases x;simp;omega
theorem Pl.agJ (x:Pl)(a b:Int):((x.node==a)&&(x.aI==b))=(x==⟨a,b⟩):=by
 rw[Bool.eq_iff_iff];simp only[Bool.and_eq_true,beq_iff_eq];cases x;simp
theorem lX {k:Nat}{l:List α}{q:(j:Nat)→j<l.length→Prop}(h:∀j (hj:j<l.length),j<k→q j hj)(hk:∀(hj:k<l.length),q k hj):∀j (hj:j<l.length),j<k+1→q j hj:=by
 intro j hj hjk;rcases Nat.lt_succ_iff_lt_or_eq.1 hjk with hj'|rfl
 ·exact h j hj hj'
 exact hk hj
theorem xU {l:List α}{q:α→Prop}(h:∀j (hj:j<l.length),j<l.length→q l[j]):∀x∈l,q x:=by
 intro x hx;obtain⟨j,hj,rfl⟩:=List.getElem_of_mem hx;exact h j hj hj
end Go.AX
end
section
namespace Go.AX
def N0:Nat→Prop:=fun _=>False
def Rd (P:Program)(w:World)(t:TypeId)(n:Nat)(Q:List PV→Prop):Prop:=
 P.cellsOf t=n∧∀(H:Type) (enc:TypeId×Value→H) (base:Nat) (spare:Nat→Bool) (held:Bool) (fuel:Nat) (cs:List Value) (x:DataW H×List MemPlace),
  DataW.trod enc P w base spare held fuel t cs=some x→∃row,row.length=n∧iX N0 w row cs∧Q row
section
variable {P:Program}{w:World}{t e:TypeId}{n:Nat}{Q Q':List PV→Prop}
theorem Rd.imp (h:Rd P w t n Q)(hq:∀row,row.length=n→Q row→Q' row):Rd P w t n Q':=
 ⟨h.1,fun H enc base spare held fuel cs x hx=>by
  obtain⟨row,h1,h2,h3⟩:=h.2 H enc base spare held fuel cs x hx;exact⟨row,h1,h2,hq row h1 h3⟩⟩
theorem O7 {k:IntKind}(hu:P.underlying t=some (.int k))(hc:P.cellsOf t=1):Rd P w t 1 (fun row=>∃i,row=[.sc (.int k i)]∧(Lit.int k i).wf=true):=
 ⟨hc,fun H enc base spare held fuel cs x hx=>by
  obtain⟨i,rfl,_,hw⟩:=DataW.trod_int hu hx;exact⟨[.sc (.int k i)],rfl,⟨_,_,rfl,rfl,by simp only[bJ],by simp only[iX]⟩,i,rfl,hw⟩⟩
theorem JG {N:Nat→Prop}{st:Nat}:∀{rows:List (List PV)} {vs:List Value},(∀i (h:i<rows.length),rows[i].length=st∧gU N w rows[i] (vs.drop (i*st)))→cK N w st rows vs
 |[],vs,_=>by simp only[cK]
 | r::rows,vs,h=>by
   have h0:=h 0 (by simp);simp only[List.getElem_cons_zero,Nat.zero_mul,List.drop_zero] at h0;refine⟨h0.1,h0.2,JG fun i hi=>?_⟩;have:=h (i+1) (by simpa using hi);simp only[List.getElem_cons_succ] at this;rw[List.drop_drop,show st+i*st=(i+1)*st from by rw[Nat.add_mul];omega];exact this
theorem zu (hu:P.underlying t=some (.slice e))(hc:P.cellsOf t=1)(hn:0<n)(he:Rd P w e n Q):Rd P w t 1 (fun row=>∃rows,row=[.sl false n rows]∧∀r∈rows,r.length=n∧Q r):=
 ⟨hc,fun H enc base spare held fuel cs x hx=>by
  rcases Deep.open_slice hu hx with ⟨rfl,_⟩|⟨a,len,cap,m,fu,D,Pl,rfl,hb,hl,hm,hmm,_,hel⟩
  ·refine⟨[.sl false n []],rfl,⟨_,_,rfl,rfl,?_,by simp only[iX]⟩,[],rfl,by simp⟩;simp only[bJ];exact⟨none,0,0,rfl,rfl,⟨Nat.le_refl _,by omega⟩,fun _=>(by simp),fun a ha=>(by cases ha)⟩
  have hlm:len≤m:=by rw[hmm];split<;>omega
  have ex:∀i,i<len→∃row:List PV,row.length=n∧Q row∧∃DK,DK.length=n∧(∀j,j<n→w.cell? ((a.add (i*n)).add j)=DK[j]?)∧iX N0 w row DK:=by
   intro i hi;obtain⟨DK,h1,h2⟩:=hel i (by omega);rw[he.1] at h1;obtain⟨row,q1,q2,q3⟩:=he.2 H enc base spare held _ _ _ h2;obtain⟨_,h3,h4⟩:=World.cells?_some h1;exact⟨row,q1,q3,DK,h3,h4,q2⟩
  have ⟨f,hf⟩:∃f:Nat→List PV,∀i,i<len→(f i).length=n∧Q (f i)∧∃DK,DK.length=n∧(∀j,j<n→w.cell? ((a.add (i*n)).add j)=DK[j]?)∧iX N0 w (f i) DK:=by
   refine⟨fun i=>if h:i<len then (ex i h).choose else [],fun i hi=>?_⟩;simp only[hi,dif_pos];exact (ex i hi).choose_spec
  refine⟨[.sl false n ((List.range len).map f)],rfl,⟨_,_,rfl,rfl,?_,by simp only[iX]⟩,_,rfl,?_⟩
  ·simp only[bJ];refine⟨some a,len,cap,rfl,by simp,⟨hl,by unfold maxLen at hm;omega⟩,fun h=>(by cases h),fun a' ha=>?_⟩;simp only[Option.some.injEq] at ha;subst ha;by_cases h0:len=0
   ·subst h0;exact .inl rfl
   right
   have aer:=(hf 0 (by omega)).2.2;obtain⟨DK,h1,h2,_⟩:=aer;have h2:=h2 0 hn;simp only[Nat.zero_mul] at h2;have hcell:(w.cell? ((a.add 0).add 0)).isSome=true:=by rw[h2];simp;omega
   have e0:(a.add 0).add 0=a:=by simp[Addr.add]
   rw[e0] at hcell;obtain⟨blk,off,spot⟩:=a;unfold World.cell? at hcell;simp only at hcell;split at hcell
   ·rename_i cur ty fr hg;have hs:spot=none:=by
     cases spot with
     |none=>rfl
     |some _=>simp at hcell
    subst hs;refine⟨rfl,id,cur,ty,fr,hg,JG fun i hi=>?_⟩;simp only[List.length_map,List.length_range] at hi;simp only[List.getElem_map,List.getElem_range];obtain⟨q1,q2,DK,q3,q4,q5⟩:=hf i hi;refine⟨q1,?_⟩;rw[gM] at q5;rw[dN];have e1:DK=((cur.toList.drop off).drop (i*n)).take n:=by
     apply List.ext_getElem?;intro j;by_cases hj:j<n
     ·rw[←q4 j hj,addr_add,addr_add];simp only[World.cell?,hg,List.getElem?_take,hj,if_true,List.getElem?_drop,Option.isSome_none,Bool.false_eq_true,if_false];rw[←Nat.add_assoc,Array.getElem?_toList]
     rw[List.getElem?_eq_none (by omega),List.getElem?_eq_none (by simp;omega)]
    have:=q5.fp.app (((cur.toList.drop off).drop (i*n)).drop n);rw[e1,List.take_append_drop] at this;exact this
   simp at hcell
  intro r hr;obtain⟨i,hi,rfl⟩:=List.mem_map.1 hr;simp only[List.mem_range] at hi;exact⟨(hf i hi).1,(hf i hi).2.1⟩⟩
def QF:List (Nat×(List PV→Prop))→List PV→Prop
 |[],row=>row=[]
 |(n,Q)::r,row=>∃a b,row=a++b∧a.length=n∧Q a∧QF r b
def szF:List (Nat×(List PV→Prop))→Nat
 |[]=>0
 |(n,_)::r=>n+szF r
def RdF (P:Program)(w:World):Nat→List Field→List (Nat×(List PV→Prop))→Prop
 |_,[],[]=>True
 |off,f::fs,(n,Q)::r=>f.offset=off∧Rd P w f.type n Q∧RdF P w (off+n) fs r
 |_,_,_=>False
theorem XB {α:Type}{R:α→Value→Prop}:∀{l l':List α} {m m':List Value},FC R l m→FC R l' m'→FC R (l++l') (m++m')
 |[],l',m,m',h,h'=>by simp only[FC] at h;subst h;exact h'
 |p::ps,l',m,m',h,h'=>by obtain⟨v,r,rfl,h1,h2,h3⟩:=h;exact⟨v,r++m',rfl,h1,h2,XB h3 h'⟩
theorem H6 {H:Type}{enc:TypeId×Value→H}{base:Nat}{spare:Nat→Bool}{held:Bool}{fu:Nat}{cs:List Value}:∀{fs:List Field} {sp:List (Nat×(List PV→Prop))} {off:Nat},
  RdF P w off fs sp→(∀f∈fs,∃y,DataW.trod enc P w base spare held fu f.type ((cs.drop f.offset).take (P.cellsOf f.type))=some y)→cs.length=off+szF sp →
  ∃row,row.length=szF sp∧iX N0 w row (cs.drop off)∧QF sp row
 | [],[],off,_,_,hl=>by
   refine⟨[],rfl,?_,rfl⟩;simp only[iX];exact List.drop_eq_nil_of_le (by simp only[szF] at hl;omega)
 |[],_::_,_,h,_,_=>h.elim
 |_::_,[],_,h,_,_=>h.elim
 | f::fs,(n,Q)::r,off,h,hx,hl=>by
   obtain⟨rfl,h1,h2⟩:=h;obtain⟨y,hy⟩:=hx f (by simp);obtain⟨a,a1,a2,a3⟩:=h1.2 H enc base spare held _ _ _ hy;rw[h1.1] at a2;obtain⟨b,b1,b2,b3⟩:=H6 h2 (fun g hg=>hx g (by simp[hg])) (by simp only[szF] at hl;omega);refine⟨a++b,by simp only[List.length_append,szF];omega,?_,a,b,rfl,a1,a3,b3⟩;rw[gM] at a2 b2 ⊢;have:=XB a2 b2;rw[show cs.drop (f.offset+n)=(cs.drop f.offset).drop n from by rw[List.drop_drop],List.take_append_drop] at this;exact this
theorem wB {fs:Array Field}{sp:List (Nat×(List PV→Prop))}(hu:P.underlying t=some (.struct fs))(hc:P.cellsOf t=szF sp)(hf:RdF P w 0 fs.toList sp):Rd P w t (szF sp) (QF sp):=
 ⟨hc,fun H enc base spare held fuel cs x hx=>by
  obtain⟨xs,fu,rfl,_,hl,hlen,hel⟩:=DataW.trod_struct hu hx;have:=H6 (H:=H) (enc:=enc) (base:=base) (spare:=spare) (held:=held) (fu:=fu) (cs:=cs) hf (fun f hf=>by
   obtain⟨i,hi,rfl⟩:=List.getElem_of_mem hf;simp only[Array.length_toList] at hi;refine⟨xs[i]'(by omega),?_⟩;rw[hel i _ (by simp[hi])];simp) (by omega)
  simpa using this⟩
theorem xg {H:Reach}{base:Nat}{v:Value}(hu:(match P.underlying t with|some (.struct _)=>false|some (.array _ _)=>false|some .bool=>true|some (.int _)=>true|some .string=>true|some (.slice _)=>true|_=>false)=true)
  (h:Value.okWide P w H base t v):∀cs,v ≠ .agg cs:=by
 rintro cs rfl
 unfold Value.okWide at h;split at h
 ·rename_i e;rw[e] at hu;simp at hu
 ·rename_i e;rw[e] at hu;simp at hu
 unfold Cell.okWide at h;split at h<;>simp_all [Cell.ok]
theorem Ru {H:Type}{enc:TypeId×Value→H}{base:Nat}{spare:Nat→Bool}{held:Bool}{v:Value}{d:DataW H}{ps:List MemPlace}(hr:Rd P w t 1 Q)(hv:∀cs,v ≠ .agg cs)
  (h:DataW.Trod enc P w base spare held t v d ps):∃p,Q [p]∧bJ N0 w p v:=by
 obtain⟨fuel,h⟩:=h;have e:v.cells = #[v]:=by cases v<;>first|rfl|exact absurd rfl (hv _)
 rw[e] at h;obtain⟨row,h1,h2,h3⟩:=hr.2 _ _ _ _ _ _ _ _ h;match row,h1 with
 | [p],_=>
   obtain⟨x,r,hx,_,hp,_⟩:=h2;simp only[List.cons.injEq] at hx;obtain⟨rfl,_⟩:=hx;exact⟨p,h3,hp⟩
theorem abz {H:Type}{enc:TypeId×Value→H}{base agx:Nat}{r:Reach}{spare:Nat→Bool}{held:Bool}{v:Value}{d:DataW H}{ps:List MemPlace}{fs:Array Field}(hu:P.underlying t=some (.struct fs))(hr:Rd P w t n Q)
  (hv:Value.okWide P w r agx t v) (h:DataW.Trod enc P w base spare held t v d ps):∃row,Q row∧bJ N0 w (.agg row) v:=by
 obtain⟨fuel,h⟩:=h;have ⟨cs,e⟩:∃cs,v=.agg cs:=by
  unfold Value.okWide at hv;rw[hu] at hv;obtain⟨cs,e,_⟩:=hv;exact⟨cs,e⟩
 subst e;obtain⟨row,h1,h2,h3⟩:=hr.2 _ _ _ _ _ _ _ _ h;exact⟨row,h3,by simp only[bJ];exact⟨cs,rfl,h2⟩⟩
end
end Go.AX
end
