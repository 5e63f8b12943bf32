/-
  Conditions: none. A framework for walks: abstract values, memory, and conditions that suffice; the chapters in plain terms.
-/
import Derived.Test.YtiagceoepkaeoaaGreatAa
import Derived.Great.FillDense
set_option linter.unusedSectionVars false
set_option linter.unusedVariables false
set_option linter.unusedSimpArgs false
section
namespace Go.AX
theorem NA:∀{ps:List PV} {cs:List AV},Nw ps=some cs→cs=ps.map .pv
 |[],cs,h=>by simp only[Nw,Option.some.injEq] at h;simp[←h]
 | p::ps,cs,h=>by
   simp only[Nw] at h;split at h
   ·rename_i t ht;simp only[Option.some.injEq] at h;simp[←h,NA ht]
   cases h
theorem Ko:∀{vs:List Value} {cs:List AV},zAV vs=some cs→cs=vs.map fun v=>.pv (.sc v)
 |[],cs,h=>by simp only[zAV,Option.some.injEq] at h;simp[←h]
 | p::ps,cs,h=>by
   simp only[zAV] at h;split at h
   ·rename_i t ht;simp only[Option.some.injEq] at h;simp[←h,Ko ht]
   cases h
theorem Qc:∀{vs:List Value} {cs:List PV},zPV vs=some cs→cs=vs.map .sc
 |[],cs,h=>by simp only[zPV,Option.some.injEq] at h;simp[←h]
 | p::ps,cs,h=>by
   simp only[zPV] at h;split at h
   ·rename_i t ht;simp only[Option.some.injEq] at h;simp[←h,Qc ht]
   cases h
section
variable {N:Nat→Prop}{w:World}{hp:List (Nat×aA)}{R:Real}
theorem JD {p:PV}(h:cellP p=true){v:Value}(hv:bE N w p v):v.oneCell'=true:=by
 cases p<;>simp only[cellP] at h<;>simp only[bE] at hv<;>try (cases h;done)
 ·subst hv;exact h
 ·obtain⟨p,len,cap,rfl,_⟩:=hv;rfl
 ·obtain⟨g,base,cur,e,fr,rfl,_⟩:=hv;rfl
 obtain⟨fs,cs,rfl,_⟩:=hv;rfl
theorem JE {p:AV}(h:adB p=true){v:Value}(hv:ai N w hp R p v):v.oneCell'=true:=by
 cases p with
 |pv p=>exact JD h (by simpa only[ai] using hv)
 |agg _=>cases h
 |dn _=>cases h
 | ptr b off=>
   simp only[ai] at hv;cases hb:lk hp b with
   |none=>rw[hb] at hv;exact hv.elim
   |some box=>rw[hb] at hv;cases box<;>simp only[aX] at hv<;>(subst hv;rfl)
 | bn b ver i off=>
   simp only[ai] at hv;cases hb:lk hp b with
   |none=>rw[hb] at hv;exact hv.elim
   |some box=>rw[hb] at hv;cases box<;>simp only[aZ] at hv<;>exact hv.2.1
 | sub b ver st lo hi=>
   simp only[ai] at hv;obtain⟨u,_,_,rfl⟩:=hv;exact WX _ _ _ _
 | aB b ver=>
   simp only[ai] at hv;cases hb:lk hp b with
   |none=>rw[hb] at hv;exact hv.elim
   |some box=>rw[hb] at hv;cases box<;>simp only[aS] at hv<;>exact hv.2.1
 | fn f a c=>
   simp only[ai] at hv;obtain⟨fs,cs,rfl,_⟩:=hv;rfl
theorem BS {v:Value}(h:v.oneCell'=true):v.cells = #[v]:=by
 cases v<;>first|rfl|(simp[Value.oneCell'] at h)
theorem jl {i:TI}{v:AV}{cs:List AV}(h:cellsOf i v=some cs){u:Value}(hv:ai N w hp R v u):FC (ai N w hp R) cs u.cells.toList:=by
 unfold cellsOf at h;split at h
 ·split at h
  ·rename_i ps;have:=NA h;subst this;simp only[ai,bE] at hv;obtain⟨vs,rfl,hv⟩:=hv;rw[gM] at hv;exact FC.map (fun p v hv=>by simpa only[ai] using hv) hv
  ·simp only[Option.some.injEq] at h;subst h;simp only[ai] at hv;obtain⟨vs,rfl,hv⟩:=hv;rw[bF] at hv;exact hv
  cases h
 split at h
 ·rename_i hc;simp only[Option.some.injEq] at h;subst h;have h1:=JE hc hv;rw[BS h1];exact⟨u,[],rfl,h1,hv,rfl⟩
 cases h
theorem uY {i:TI}{p:PV}{cs:List PV}(h:lS i p=some cs){u:Value}(hv:bE N w p u):FC (bE N w) cs u.cells.toList:=by
 unfold lS at h;split at h
 ·split at h
  ·simp only[Option.some.injEq] at h;subst h;simp only[bE] at hv;obtain⟨vs,rfl,hv⟩:=hv;rw[gM] at hv;exact hv
  cases h
 split at h
 ·rename_i hc;simp only[Option.some.injEq] at h;subst h;have h1:=JD hc hv;rw[BS h1];exact⟨u,[],rfl,h1,hv,rfl⟩
 cases h
end
def qN (T:Tab)(H:List (Nat×aA))(t:TypeId)(x y:AV)(K:AV→List (Nat×aA)→Prop):Prop:=
 match lk T t with
 | some i=>match x with
   | .ptr b off=>match lk H b with
     | some (.var cells)=>match cellsOf i y with
       | some cs=>match Nat.beq cs.length i.size with
         | true=>match jU off cells cs with
           |some cells'=>K (.pv (.sc undef)) [(b,.var cells')]
           |none=>False
         |false=>False
       |none=>False
     |_=>False
   | .bn b ver k off=>match lk H b with
     | some (.arr e v st rows)=>match Nat.beq ver v with
       | true=>match y with
         | .pv p=>match lS i p with
           | some cs=>match Nat.beq cs.length i.size with
             | true=>∃row,rows[k]? = some row∧match jU off row cs with
               |some row'=>K (.pv (.sc undef)) [(b,.arr e v st (rows.set k row'))]
               |none=>False
             |false=>False
           |none=>False
         |_=>False
       |false=>False
     |_=>False
   |_=>False
 |none=>False
section
variable {P:Program}{T:Tab}{c:Ctx}{R:Real}{s:AS}{a:Act}{w:World}
theorem oO (w:World)(g:Nat)(cs:Array Value):nI (fun r=>r=g) w (w.setRow g cs):=
 ⟨by simp,fun r _ hn=>setRow_other w g r cs hn,rfl,rfl,rfl⟩
theorem tH (g:bB c R s a w)(hT:bO P T){H:List (Nat×aA)}(hH:∀b box,lk H b=some box→lk s.hp b=some box){t:TypeId}{x y:AV}
  {K:AV→List (Nat×aA)→Prop} (h:qN T H t x y K) {u v:Value} (hx:ai (aT c R s.hp) w s.hp R x u) (hy:ai (aT c R s.hp) w s.hp R y v) :
  ∃w' ws,(Instr.storeAt t u v).run P w=.ok () w'∧K (.pv (.sc undef)) ws∧bB c R (s.app ws) a w':=by
 unfold qN at h;split at h;rotate_left;cases h
 rename_i i hi;have hi':=hT _ _ hi;split at h
 ·rename_i b off;split at h;rotate_left;cases h
  rename_i cells hb;have hb':=hH _ _ hb;split at h;rotate_left;cases h
  rename_i cs hcs;split at h;rotate_left;cases h
  rename_i hlen;have hlen:=Nat.eq_of_beq_eq_true hlen;split at h;rotate_left;cases h
  rename_i cells' hset;simp only[ai,hb',aX] at hx;subst hx;obtain⟨cur,e,hg,hc⟩:=(g.boxes b _ hb');rw[bF] at hc;have hcv:=jl hcs hy;obtain⟨hl,hc'⟩:=FC.jU hc hcv hset;have hvs:v.cells.size=i.size:=by rw[←hlen,←hcv.length];simp
  have hrun:=uG (w:=w) hi' hg hvs (off:=off) (by simp at hl;omega) hcv.one;have hrun':(Instr.storeAt t (.pointer (some ⟨R.blk b,off,none⟩)) v).run P w=.ok () (w.setRow (R.blk b) (cur.toList.take off++v.cells.toList++cur.toList.drop (off+v.cells.toList.length)).toArray):=by
   simp only[Instr.storeAt,Instr.sureAddr,pure_bind];exact hrun
  refine⟨_,_,hrun',h,?_⟩;have hR:∀b',b'≠b→R.blk b'=R.blk b'∧R.nil b'=R.nil b'∧R.cap b'=R.cap b':=fun _ _=>⟨rfl,rfl,rfl⟩
  have r1:∀off v,aX R b off v (lk s.hp b)→aX R b off v (some (.var cells')):=fun off v h=>by rw[hb'] at h;exact h
  have r2:∀ver v,aS R b ver v (lk s.hp b)→aS R b ver v (some (.var cells')):=fun _ v h=>by rw[hb'] at h;exact h
  have r3:∀ver i off v,aZ R b ver i off v (lk s.hp b)→aZ R b ver i off v (some (.var cells')):=fun _ _ _ v h=>by rw[hb'] at h;exact h
  have hown:∀r,aI R b r (some (.var cells'))→aI R b r (lk s.hp b)∨w.heap.size≤r:=fun r h=>by rw[hb'];exact .inl h
  have hworld:nI (fun r=>aI R b r (lk s.hp b)) w (w.setRow (R.blk b) (cur.toList.take off++v.cells.toList++cur.toList.drop (off+v.cells.toList.length)).toArray):=by
   refine (oO w _ _).mono ?_;rintro r rfl
   rw[hb'];rfl
  obtain⟨m1,m2,m3,m4,m5⟩:=g.Kk hR r1 r2 r3 hown hworld;refine g.upd hR r1 r2 r3 hown hworld ?_;refine⟨_,e,setRow_heap w _ cur _ e _ hg,?_⟩;rw[bF];exact hc'.imp fun p v h=>bZ m1 m2 m3 m4 m5 p v h
 ·rename_i b ver k off;split at h;rotate_left;cases h
  rename_i e vr st rows hb;have hb':=hH _ _ hb;split at h;rotate_left;cases h
  rename_i gy;split at h;rotate_left;cases h
  rename_i p;split at h;rotate_left;cases h
  rename_i cs hcs;split at h;rotate_left;cases h
  rename_i hlen;have hlen:=Nat.eq_of_beq_eq_true hlen;obtain⟨row,hrow,h⟩:=h;split at h;rotate_left;cases h
  rename_i row' hset;simp only[ai,hb',aZ] at hx;obtain⟨hn,rfl⟩:=hx.2.2 (Nat.eq_of_beq_eq_true gy);simp only[ai] at hy;obtain⟨cur,hg,hs,hle,hm,hr,_⟩:=gU (g.boxes b _ hb') hn;have hcv:=uY hcs hy;have aeJ:k<rows.length:=(List.getElem?_eq_some_iff.1 hrow).1;obtain⟨hrl,hrp⟩:=rH hr hrow;rw[dh] at hrp;have hrc:=hrp.take;rw[hrl] at hrc;obtain⟨hl,hc'⟩:=FC.jU hrc hcv hset;have hvs:v.cells.size=i.size:=by rw[←hlen,←hcv.length];simp
  have hpl:=hrp.length;simp only[List.length_take,List.length_drop,Array.length_toList] at hl hpl;have hks:k*st+st≤cur.size:=by
   have:(k+1)*st≤(R.cap b).1*st:=Nat.mul_le_mul_right _ (by omega);rw[Nat.add_mul] at this;omega
  have hrun:=uG (w:=w) hi' hg hvs (off:=k*st+off) (by have:=hcv.length;simp only[Array.length_toList] at this hl;omega) hcv.one;have hrun':(Instr.storeAt t (.pointer (some ⟨R.blk b,k*st+off,none⟩)) v).run P w =
    .ok () (w.setRow (R.blk b) (cur.toList.take (k*st+off)++v.cells.toList++cur.toList.drop (k*st+off+v.cells.toList.length)).toArray):=by
   simp only[Instr.storeAt,Instr.sureAddr,pure_bind];exact hrun
  refine⟨_,_,hrun',h,?_⟩;have hR:∀b',b'≠b→R.blk b'=R.blk b'∧R.nil b'=R.nil b'∧R.cap b'=R.cap b':=fun _ _=>⟨rfl,rfl,rfl⟩
  have hll:(rows.set k row').length=rows.length:=by simp
  have r1:∀off v,aX R b off v (lk s.hp b)→aX R b off v (some (.arr e vr st (rows.set k row'))):=fun off v h=>by rw[hb'] at h;exact h
  have r2:∀ver v,aS R b ver v (lk s.hp b)→aS R b ver v (some (.arr e vr st (rows.set k row'))):=fun _ v h=>by rw[hb'] at h;simp only[aS,hll] at h ⊢;exact h
  have r3:∀ver i off v,aZ R b ver i off v (lk s.hp b)→aZ R b ver i off v (some (.arr e vr st (rows.set k row'))):=fun _ _ _ v h=>by rw[hb'] at h;exact h
  have hown:∀r,aI R b r (some (.arr e vr st (rows.set k row')))→aI R b r (lk s.hp b)∨w.heap.size≤r:=fun r h=>by rw[hb'];exact .inl h
  have hworld:nI (fun r=>aI R b r (lk s.hp b)) w (w.setRow (R.blk b) (cur.toList.take (k*st+off)++v.cells.toList++cur.toList.drop (k*st+off+v.cells.toList.length)).toArray):=by
   refine (oO w _ _).mono ?_;rintro r rfl
   rw[hb'];exact⟨hn,rfl⟩
  obtain⟨m1,m2,m3,m4,m5⟩:=g.Kk hR r1 r2 r3 hown hworld;refine g.upd hR r1 r2 r3 hown hworld ?_;have Ye:row'.length=st:=(Dh hset).trans hrl;have Yf:=Nt (i:=k) hr aeJ Ye hc';have hyl:(List.take off (List.take st (List.drop (k*st) cur.toList))++v.cells.toList++List.drop (off+v.cells.toList.length) (List.take st (List.drop (k*st) cur.toList))).length=st:=by
   rw[hc'.length];exact Ye
  rw[hyl] at Yf;have heq:cur.toList.take (k*st)++(List.take off (List.take st (List.drop (k*st) cur.toList))++v.cells.toList++List.drop (off+v.cells.toList.length) (List.take st (List.drop (k*st) cur.toList)))++cur.toList.drop (k*st+st) =
    cur.toList.take (k*st+off)++v.cells.toList++cur.toList.drop (k*st+off+v.cells.toList.length):=by
   have e1:List.take off (List.take st (List.drop (k*st) cur.toList))=List.take off (List.drop (k*st) cur.toList):=by
    have:min off st=off:=by omega
    rw[List.take_take,this]
   have e2:List.drop (off+v.cells.toList.length) (List.take st (List.drop (k*st) cur.toList))++cur.toList.drop (k*st+st)=cur.toList.drop (k*st+off+v.cells.toList.length):=by
    have h1:cur.toList.drop (k*st+st)=(cur.toList.drop (k*st)).drop st:=by rw[List.drop_drop]
    have h2:cur.toList.drop (k*st+off+v.cells.toList.length)=(cur.toList.drop (k*st)).drop (off+v.cells.toList.length):=by rw[List.drop_drop,Nat.add_assoc]
    rw[h1,h2,←List.drop_append_of_le_length (by simp only[List.length_take,List.length_drop,Array.length_toList];omega),List.take_append_drop]
   rw[e1,List.take_add];simp only[List.append_assoc] at e2 ⊢;rw[e2]
  rw[heq] at Yf;have hsl:bY R b (rows.set k row').length=.slice (some ⟨R.blk b,0,none⟩) rows.length ((R.cap b).1):=by simp[bY,hn]
  obtain⟨t1,t2,t3⟩:=gD (aV m1 m2 _ _ _ Yf);refine⟨_,?_,t2⟩;rw[hsl,hll];rw[hll] at t1;refine⟨?_,.inr ⟨R.blk b,(R.cap b).1,_,rfl,Nat.zero_le _,setRow_heap w _ cur _ e _ hg,hle,hm,?_,by simp⟩⟩
  ·simp only[List.length_take];omega
  simp only[List.size_toArray,List.length_append,List.length_take,List.length_drop,Array.length_toList];have:=hcv.length;simp only[Array.length_toList] at this hl ⊢;omega
 exact h.elim
end
section
variable {P:Program}{T:Tab}{c:Ctx}{R:Real}{s:AS}{a:Act}{w:World}
theorem bB.sH (g:bB c R s a w){b:Nat}{e:TypeId}{ver st:Nat}{rows:List (List PV)}{R':Real}{w':World}
  (hold:lk s.hp b=none∨∃e0 v P9 zH,lk s.hp b=some (.arr e0 v P9 zH)∧v<ver)
  (hR:∀b',b'≠b→R'.blk b'=R.blk b'∧R'.nil b'=R.nil b'∧R'.cap b'=R.cap b')
  (hworld:nI (fun r=>aI R b r (lk s.hp b)) w w')
  (hown:R'.nil b=false→aI R b (R'.blk b) (lk s.hp b)∨w.heap.size≤R'.blk b)
  {xs:List Value} (ho:w'.ownsRow 0 e st (bY R' b rows.length) rows.length xs) (hr:bK (aT c R s.hp) w st rows xs) (hY:R'.Y=R.Y:=by rfl) :
  bB c R' (s.app [(b,.arr e ver st rows)]) a w' ∧
   ai (aT c R' ((b,.arr e ver st rows)::s.hp)) w' ((b,.arr e ver st rows)::s.hp) R' (.aB b ver) (bY R' b rows.length):=by
 have r1:∀off v,aX R b off v (lk s.hp b)→aX R' b off v (some (.arr e ver st rows)):=by
  intro off v h;rcases hold with hf|⟨e0,v0,P9,zH,hf,hv⟩<;>rw[hf] at h<;>exact h.elim
 have r2:∀fe v,aS R b fe v (lk s.hp b)→aS R' b fe v (some (.arr e ver st rows)):=by
  intro fe v h;rcases hold with hf|⟨e0,v0,P9,zH,hf,hv⟩
  ·rw[hf] at h;exact h.elim
  rw[hf] at h;simp only[aS] at h ⊢;exact⟨by omega,h.2.1,fun x=>by omega⟩
 have r3:∀fe i off v,aZ R b fe i off v (lk s.hp b)→aZ R' b fe i off v (some (.arr e ver st rows)):=by
  intro fe i off v h;rcases hold with hf|⟨e0,v0,P9,zH,hf,hv⟩
  ·rw[hf] at h;exact h.elim
  rw[hf] at h;simp only[aZ] at h ⊢;exact⟨by omega,h.2.1,fun x=>by omega⟩
 have hown':∀r,aI R' b r (some (.arr e ver st rows))→aI R b r (lk s.hp b)∨w.heap.size≤r:=by
  rintro r ⟨h1,rfl⟩
  exact hown h1
 obtain⟨m1,m2,m3,m4,m5⟩:=g.Kk hR r1 r2 r3 hown' hworld hY;refine⟨g.upd hR r1 r2 r3 hown' hworld ⟨xs,ho,aV m1 m2 _ _ _ hr⟩ hY,?_⟩;simp only[ai,ax,if_true];refine⟨Nat.le_refl _,?_,fun _=>rfl⟩;unfold bY;split<;>rfl
def lN (H:List (Nat×aA))(st:Nat)(x:AV):Option (List (List PV)):=
 match x with
 |.pv (.sc (.slice none 0 0))=>some []
 | .pv (.sl _ st' rows)=>match Nat.beq st' st with
   |true=>some rows
   |false=>none
 | .aB b ver=>match uM (lk H b) ver with
   | some (.sl _ st' rows)=>match Nat.beq st' st with
     |true=>some rows
     |false=>none
   |_=>none
 | .sub b ver st1 lo hi=>match uM (lk H b) ver with
   | some (.sl _ st' rows)=>match Nat.beq st' st,Nat.beq st1 st with
     |true,true=>some (Kl rows lo hi)
     |_,_=>none
   |_=>none
 |_=>none
theorem yQ {N:Nat→Prop}{nn:Bool}{st:Nat}{rows:List (List PV)}{u:Value}(h:bE N w (.sl nn st rows) u) :
  ∃p len cap,u=.slice p len cap∧len=rows.length∧len≤cap∧(p=none→rows=[])∧∀ad,p=some ad→∃news:List Value,news.length=rows.length*st ∧
   (∀j v,news[j]? = some v→w.cell? (ad.add j)=some v)∧(∀u∈news,u.oneCell'=true)∧bK N w st rows news:=by
 simp only[bE] at h;obtain⟨p,len,cap,rfl,rfl,⟨hle,_⟩,hnone,hsome⟩:=h;refine⟨p,_,cap,rfl,rfl,hle,fun e=>List.eq_nil_of_length_eq_zero (by have:=(hnone e).2;omega),fun ad e=>?_⟩;rcases hsome ad e with h6|⟨hs,hn,cur,e2,fr,hg,hr⟩
 ·subst h6;exact⟨[],by simp,by simp,by simp,by simp[bK]⟩
 obtain⟨h1,h2,h3⟩:=gD hr;obtain⟨blk,off,spot⟩:=ad;simp only at hs hg hr;subst hs;refine⟨_,?_,?_,h3,h2⟩
 ·simp only[List.length_take,List.length_drop] at h1 ⊢;omega
 intro j v hv;rw[addr_add,zI hg];rw[List.getElem?_take] at hv;split at hv
 ·simp only[List.getElem?_drop] at hv;simpa using hv
 cases hv
theorem add_add (a:Addr)(n m:Nat):(a.add n).add m=a.add (n+m):=by
 unfold Addr.add;by_cases h1:n=0
 ·subst h1;simp
 by_cases h2:m=0
 ·subst h2;simp[h1]
 rw[if_neg h1,if_neg h2,if_neg (by omega)];simp[Nat.add_assoc]
theorem SC (g:bB c R s a w){H:List (Nat×aA)}(hH:∀b box,lk H b=some box→lk s.hp b=some box){st:Nat}{b ver:Nat}{nn:Bool}{rows:List (List PV)}
  (hv:uM (lk H b) ver=some (.sl nn st rows)) {u:Value} (hx:aS R b ver u (lk s.hp b)) :
  ∃p len cap,u=.slice p len cap∧len=rows.length∧len≤cap∧(p=none→rows=[])∧∀ad,p=some ad→∃news:List Value,news.length=rows.length*st ∧
   (∀j v,news[j]? = some v→w.cell? (ad.add j)=some v)∧(∀u∈news,u.oneCell'=true)∧bK (aT c R s.hp) w st rows news:=by
 cases hb:lk H b with
 |none=>rw[hb] at hv;cases hv
 | some box=>
   have hb':=hH _ _ hb;rw[hb] at hv;cases box with
   |var _=>cases hv
   |sD _=>cases hv
   |tr _ _ _ _=>cases hv
   |dN _ _ _ _ _ _=>cases hv
   |mp _ _ _=>cases hv
   |fP _ _ _ _ _ _ _ _ _=>cases hv
   | arr e v P9 zH=>
     simp only[uM] at hv;split at hv
     ·rename_i gy;simp only[Option.some.injEq,PV.sl.injEq] at hv;obtain⟨rfl,rfl,rfl⟩:=hv;rw[hb'] at hx;have:=hx.2.2 (Nat.eq_of_beq_eq_true gy);subst this;obtain⟨xs,ho,hr⟩:=(g.boxes b _ hb');rcases ho.2 with ⟨e1,e2⟩|⟨g',cap,cur,e1,_,hg,hle,hm,hs,ht⟩
      ·have he:zH=[]:=List.eq_nil_of_length_eq_zero e2;subst he;rw[e1];exact⟨none,0,0,rfl,rfl,Nat.le_refl _,fun _=>rfl,fun ad e=>by cases e⟩
      rw[e1];refine⟨_,_,cap,rfl,rfl,hle,fun e=>(by cases e),fun ad e=>?_⟩;simp only[Option.some.injEq] at e;subst e;have hr':bK (aT c R s.hp) w P9 zH cur.toList:=by
       have:=oN (cur.toList.drop (zH.length*P9)) hr;rwa [←ht,List.take_append_drop] at this
      obtain⟨h1,h2,h3⟩:=gD hr';refine⟨xs,ho.1,fun j v hv=>?_,?_,hr⟩
      ·rw[addr_add,zI hg];rw[←ht,List.getElem?_take] at hv;split at hv
       ·simpa using hv
       cases hv
      rw[←ht];exact h3
     cases hv
   | kE v P9 zH=>
     simp only[uM] at hv;split at hv
     ·rename_i gy;simp only[Option.some.injEq,PV.sl.injEq] at hv;obtain⟨rfl,rfl,rfl⟩:=hv;rw[hb'] at hx;have:=hx.2.2 (Nat.eq_of_beq_eq_true gy);subst this;exact yQ (g.boxes b _ hb')
     cases hv
theorem IZ (g:bB c R s a w){H:List (Nat×aA)}(hH:∀b box,lk H b=some box→lk s.hp b=some box){st:Nat}{x:AV}{rows:List (List PV)}
  (h:lN H st x=some rows) {u:Value} (hx:ai (aT c R s.hp) w s.hp R x u) :
  ∃p len cap,u=.slice p len cap∧len=rows.length∧len≤cap∧(p=none→rows=[])∧∀ad,p=some ad→∃news:List Value,news.length=rows.length*st ∧
   (∀j v,news[j]? = some v→w.cell? (ad.add j)=some v)∧(∀u∈news,u.oneCell'=true)∧bK (aT c R s.hp) w st rows news:=by
 unfold lN at h;split at h
 ·simp only[Option.some.injEq] at h;subst h;simp only[ai,bE] at hx;exact⟨none,0,0,hx,rfl,Nat.le_refl _,fun _=>rfl,fun ad e=>by cases e⟩
 ·rename_i nn st' aP;split at h
  ·rename_i hst;simp only[Option.some.injEq] at h;subst h;have:=Nat.eq_of_beq_eq_true hst;subst this;simp only[ai] at hx;exact yQ hx
  cases h
 ·rename_i b ver;split at h
  ·rename_i nn st' aP hv;split at h
   ·rename_i hst;simp only[Option.some.injEq] at h;subst h;have:=Nat.eq_of_beq_eq_true hst;subst this;simp only[ai] at hx;exact SC g hH hv hx
   cases h
  cases h
 ·rename_i b ver st1 lo hi;split at h
  ·rename_i nn st' aP hv;split at h
   ·rename_i hst agp;simp only[Option.some.injEq] at h;subst h;have e1:=Nat.eq_of_beq_eq_true hst;have e2:=Nat.eq_of_beq_eq_true agp;rw[←e1] at e2;subst e2;rw[←e1];clear hst agp e1;simp only[ai] at hx;obtain⟨u',hx,hok,rfl⟩:=hx;obtain⟨p,len,cap,rfl,rfl,hle,hnone,hsome⟩:=SC g hH hv hx;simp only[uw] at hok;have hlen:(Kl aP lo hi).length=hi-lo:=by simp only[Kl,List.length_take,List.length_drop];omega
    cases p with
    | none=>
      have hr0:=hnone rfl;subst hr0;simp only[List.length_nil] at hok hle;refine⟨none,0,0,rfl,by rw[hlen];omega,Nat.le_refl _,fun _=>List.eq_nil_of_length_eq_zero (by rw[hlen];omega),fun ad e=>by cases e⟩
    | some ad=>
      obtain⟨news,n1,n2,n3,n4⟩:=hsome ad rfl;refine⟨_,_,_,rfl,hlen.symm,by omega,fun e=>(by cases e),fun ad' e=>?_⟩;simp only[Option.some.injEq] at e;have hr:=lQ (hi-lo) (mG lo n4);obtain⟨t1,t2,t3⟩:=gD hr;change (Kl aP lo hi).length*_≤_ at t1
      rw[show (List.take (hi-lo) (List.drop lo aP)).length=hi-lo from hlen] at t2 t3;rw[hlen] at t1;by_cases hcl:cap=lo
      ·have hz:hi-lo=0:=by omega
       refine⟨[],by rw[hlen,hz];simp,by simp,by simp,?_⟩;have:Kl aP lo hi=[]:=List.eq_nil_of_length_eq_zero (by rw[hlen];exact hz);rw[this];simp[bK]
      rw[if_neg hcl] at e;subst e;refine⟨(news.drop (lo*st1)).take ((hi-lo)*st1),by rw[List.length_take,hlen];omega,fun j v hj=>?_,t3,t2⟩;rw[List.getElem?_take] at hj;split at hj
      ·rw[List.getElem?_drop] at hj;have:=n2 _ _ hj;rw[←this];rw[add_add]
      cases hj
   cases h
  cases h
 cases h
theorem mH {t e:TypeId}{ty:TypeId}{ei:TI}(ht:P.underlying t=some (.slice e))(hi:cu P e ei)(base p:Option Addr)(sLen sCap cap:Nat)(hle:sLen≤sCap) :
  (Builtin.append_ #[t,t] ty #[.slice base sLen sCap,.slice p 0 cap]).run P w=.ok (.slice base sLen sCap) w:=by
 cases p<;>cases base<;>simp[Builtin.append_,run_underlying ht,hi.run_sizeOf,Builtin.lenOf,hle,Builtin.firstCells,loadCells,loadCellsFrom,storeCells]
def uN (T:Tab)(H:List (Nat×aA))(t:TypeId)(vs:List AV)(id:Nat)(K:AV→List (Nat×aA)→Prop):Prop:=
 match vs with
 | [d,x]=>match lk T t with
   | some i=>match i.d with
     | .slt e=>match lk T e with
       | some ei=>tiF ei fun qb Mj=>match Nat.beq Mj 0,Nat.beq qb 0 with
         | false,false=>match lN H qb x with
           | some aP=>match d with
             |.pv (.sc (.slice none 0 0))=>aP.length*Mj≤140737488355328∧K (.aB id 0) [(id,.arr e 0 qb aP)]
             | .aB b ver=>match lk H b with
               | some (.arr e' v st rows)=>match Nat.beq ver v,Nat.beq st qb,Nat.beq e' e with
                 |true,true,true=>(rows.length+aP.length)*Mj≤140737488355328∧K (.aB b (v+1)) [(b,.arr e (v+1) qb (rows++aP))]
                 |_,_,_=>False
               |_=>False
             | .pv (.P8 st rows)=>match Nat.beq st qb with
               |true=>0<aP.length∧(rows.length+aP.length)*Mj≤140737488355328∧K (.aB id 0) [(id,.arr e 0 qb (rows++aP))]
               |false=>False
             |_=>False
           |none=>False
         |_,_=>False
       |none=>False
     |_=>False
   |none=>False
 |_=>False
theorem wW {n b:Nat}(hb:b≠0)(h:n*b≤140737488355328):n≤maxLen∧(n:Int)≤9223372036854775807∧n≤140737488355328:=by
 have:n≤n*b:=Nat.le_mul_of_pos_right _ (Nat.pos_of_ne_zero hb);unfold maxLen;omega
theorem ng {e:TypeId}{st cap n:Nat}{xs:List Value}{z:Array Value}{w0:World}(hz:z.size=st)(hx:xs.length=n*st)(hc:n≤cap)(hm:cap≤maxLen){w1:World}
  (hw:w1.heap=w0.heap.push (.cells (xs.toArray++Builtin.zeroCells z (cap-n)) e)) :
  w1.ownsRow 0 e st (.slice (some ⟨w0.heap.size,0,none⟩) n cap) n xs:=by
 refine⟨hx,.inr ⟨w0.heap.size,cap,_,rfl,Nat.zero_le _,by rw[hw];exact Array.getElem?_push_size,hc,hm,?_,?_⟩⟩
 ·simp only[Array.size_append,List.size_toArray,size_zeroCells,hz,hx,←Nat.add_mul];congr 1
  omega
 simp only[Array.toList_append];rw[←hx];exact List.take_left
theorem sI (g:bB c R s a w)(hT:bO P T){H:List (Nat×aA)}(hH:∀b box,lk H b=some box→lk s.hp b=some box){id:Nat}(hf:lk s.hp id=none)
  {t ty:TypeId} {d x:AV} {K:AV→List (Nat×aA)→Prop} (h:uN T H t [d,x] id K) {u v:Value} (hd:ai (aT c R s.hp) w s.hp R d u) (hx:ai (aT c R s.hp) w s.hp R x v) :
  ∃y w' R' z ws,(Builtin.append_ #[t,t] ty #[u,v]).run P w=.ok y w'∧K z ws∧bB c R' (s.app ws) a w'∧ai (aT c R' (ws++s.hp)) w' (ws++s.hp) R' z y:=by
 unfold uN at h;simp only[dH] at h;try simp only at h
 split at h;rotate_left;cases h
 rename_i i hi;obtain⟨dd,hdd,iE⟩:=(hT t i hi).iM;split at h;rotate_left;cases h
 rename_i e hte;have ht:P.underlying t=some (.slice e):=by
  rw[hte] at iE;cases dd<;>simp[di] at iE
  subst iE;exact hdd
 split at h;rotate_left;cases h
 rename_i ei qZ;have jd:=hT _ _ qZ;obtain⟨ti,zv,hinfo,hsz,hby,hzero,hzc⟩:=jd.Eu;have W9:zv.cells.size=ei.size:=by have:=jd.Xa;rw[←hzc] at this;simpa using this
 split at h;rotate_left;cases h
 rename_i hb0 hs0;have hb0:=Nat.ne_of_beq_eq_false hb0;have hs0:=Nat.ne_of_beq_eq_false hs0;split at h;rotate_left;cases h
 rename_i aP hsrc;obtain⟨p,len,cap,rfl,rfl,hlc,hpn,hps⟩:=IZ g hH hsrc hx;split at h
 ·-- the Mt is nil
  obtain⟨hbd,hK⟩:=h;simp only[ai,bE] at hd;subst hd;obtain⟨b1,b2,b3⟩:=wW hb0 hbd;by_cases hz:aP.length=0
  ·have he:aP=[]:=List.eq_nil_of_length_eq_zero hz;subst he;have hrun:=mH (P:=P) (w:=w) (ty:=ty) ht jd none p 0 0 cap (Nat.le_refl _);obtain⟨g1,g2⟩:=g.sH (e:=e) (ver:=0) (st:=ei.size) (rows:=[]) (R':=R.at id 0 true 0) (.inl hf) (Real.zJ R id 0 true 0) (nI.refl _ w) (by simp[Real.at])
    (xs:=[]) (by simp only[bY,Real.at,if_true,List.length_nil];exact World.ownsRow_nil w 0 e ei.size) (by simp[bK])
   have hsl:bY (R.at id 0 true 0) id 0=.slice none 0 0:=by simp[bY,Real.at]
   refine⟨_,w,_,_,_,hrun,hK,g1,?_⟩;simp only[List.length_nil,hsl] at g2;exact g2
  cases p with
  |none=>exact absurd (by rw[hpn rfl];rfl) hz
  | some ad=>
    obtain⟨news,n1,n2,n3,n4⟩:=hps ad rfl;have hrun:=run_append_nil (P:=P) w t ty e ti zv ht hinfo hzero ad aP.length cap news (by rw[hsz];exact n1) n2 (by omega) b2 (by rw[hby];omega);have Qa:=grownCap_ge w aP.length 0 e;have hgm:=grownCap_le_maxLen w aP.length 0 e b1;have hsl:bY (R.at id w.heap.size false (grownCap w aP.length 0 e)) id aP.length=.slice (some ⟨w.heap.size,0,none⟩) aP.length (grownCap w aP.length 0 e):=by simp[bY,Real.at]
    have Ev:(w.drew.alloc (.cells (news.toArray++Builtin.zeroCells zv.cells (grownCap w aP.length 0 e-aP.length)) e)).ownsRow 0 e ei.size
      (.slice (some ⟨w.heap.size,0,none⟩) aP.length (grownCap w aP.length 0 e)) aP.length news:=
     ng (w0:=w) W9 n1 Qa hgm rfl
    obtain⟨g1,g2⟩:=g.sH (e:=e) (ver:=0) (st:=ei.size) (rows:=aP) (R':=R.at id w.heap.size false (grownCap w aP.length 0 e)) (.inl hf)
     (Real.zJ R id _ _ _) (w':=w.drew.alloc (.cells (news.toArray++Builtin.zeroCells zv.cells (grownCap w aP.length 0 e-aP.length)) e))
     ⟨by simp,fun r hr _=>(by first|exact heap_alloc_old w.drew _ hr|exact heap_alloc_old w.drew _ r hr),rfl,rfl,rfl⟩ (fun _=>.inr (by simp[Real.at])) (xs:=news) (by rw[hsl];exact Ev) n4
    rw[hsl] at g2;exact⟨_,_,_,_,_,hrun,hK,g1,g2⟩
 ·rename_i b ver;split at h;rotate_left;cases h
  rename_i e' vr st rows hb;have hb':=hH _ _ hb;split at h;rotate_left;cases h
  rename_i gy hst he;have gy:=Nat.eq_of_beq_eq_true gy;have hst:=Nat.eq_of_beq_eq_true hst;have he:=Nat.eq_of_beq_eq_true he;subst gy;subst hst;subst he;obtain⟨hbd,hK⟩:=h;obtain⟨b1,b2,b3⟩:=wW hb0 hbd;simp only[ai,hb'] at hd;have:=hd.2.2 rfl;subst this;obtain⟨xs,ho,hr⟩:=(g.boxes b _ hb');have hlen:(rows++aP).length=rows.length+aP.length:=by simp
  by_cases hz:aP.length=0
  ·have he:aP=[]:=List.eq_nil_of_length_eq_zero hz;subst he;have ad3:∃p0 l0 c0,bY R b rows.length=.slice p0 l0 c0∧l0≤c0:=by
    rcases ho.2 with ⟨e1,e2⟩|⟨g',ad4,cur,e1,_,hg,hle,_⟩
    ·exact⟨_,_,_,e1,Nat.le_refl _⟩
    exact⟨_,_,_,e1,hle⟩
   obtain⟨p0,l0,c0,e1,e2⟩:=ad3;have hrun:=mH (P:=P) (w:=w) (ty:=ty) ht jd p0 p l0 c0 cap e2;rw[←e1] at hrun;obtain⟨g1,g2⟩:=g.sH (b:=b) (e:=e') (ver:=ver+1) (st:=ei.size) (rows:=rows++[]) (R':=R) (.inr ⟨_,_,_,_,hb',Nat.lt_succ_self _⟩) (fun _ _=>⟨rfl,rfl,rfl⟩) (nI.refl _ w)
    (fun hn=>.inl (by rw[hb'];exact⟨hn,rfl⟩)) (xs:=xs) (by simpa using ho) (by simpa using hr)
   simp only[List.append_nil] at g2;exact⟨_,w,R,_,_,hrun,hK,g1,by simpa using g2⟩
  cases p with
  |none=>exact absurd (by rw[hpn rfl];rfl) hz
  | some ad=>
    obtain⟨news,n1,n2,n3,n4⟩:=hps ad rfl;have hrr:bK (aT c R s.hp) w ei.size (rows++aP) (xs++news):=jF hr ho.1 n4;rcases ho.2 with ⟨e1,e2⟩|⟨g',ad4,cur,e1,_,hg,hle,hm,hcs,ht'⟩
    ·-- nil so far
     have he:rows=[]:=List.eq_nil_of_length_eq_zero e2;subst he;have hx0:xs=[]:=List.eq_nil_of_length_eq_zero (by simpa using ho.1);subst hx0;have hrun:=run_append_nil (P:=P) w t ty e' ti zv ht hinfo hzero ad aP.length cap news (by rw[hsz];exact n1) n2 (by omega) (by simpa using (wW hb0 (by simpa using hbd)).2.1) (by rw[hby];simp at hbd;omega);rw[←e1] at hrun;have Qa:=grownCap_ge w aP.length 0 e';have hgm:=grownCap_le_maxLen w aP.length 0 e' (by simpa using b1);have hsl:bY (R.at b w.heap.size false (grownCap w aP.length 0 e')) b ([]++aP).length=.slice (some ⟨w.heap.size,0,none⟩) aP.length (grownCap w aP.length 0 e'):=by simp[bY,Real.at]
     have Ev:(w.drew.alloc (.cells (news.toArray++Builtin.zeroCells zv.cells (grownCap w aP.length 0 e' - aP.length)) e')).ownsRow 0 e' ei.size
       (.slice (some ⟨w.heap.size,0,none⟩) aP.length (grownCap w aP.length 0 e')) aP.length news:=
      ng (w0:=w) W9 n1 Qa hgm rfl
     obtain⟨g1,g2⟩:=g.sH (b:=b) (e:=e') (ver:=ver+1) (st:=ei.size) (rows:=[]++aP) (R':=R.at b w.heap.size false (grownCap w aP.length 0 e')) (.inr ⟨_,_,_,_,hb',Nat.lt_succ_self _⟩)
      (Real.zJ R b _ _ _) (w':=w.drew.alloc (.cells (news.toArray++Builtin.zeroCells zv.cells (grownCap w aP.length 0 e' - aP.length)) e'))
      ⟨by simp,fun r hr _=>(by first|exact heap_alloc_old w.drew _ hr|exact heap_alloc_old w.drew _ r hr),rfl,rfl,rfl⟩ (fun _=>.inr (by simp[Real.at])) (xs:=news) (by rw[hsl];exact Ev) (by simpa using n4)
     rw[hsl] at g2;exact⟨_,_,_,_,_,hrun,hK,g1,g2⟩
    have hnil:R.nil b=false:=by
     cases hn:R.nil b with
     |false=>rfl
     |true=>simp[bY,hn] at e1
    have hgb:g'=R.blk b∧ad4=(R.cap b).1:=by simp[bY,hnil] at e1;exact⟨e1.1.symm,e1.2.symm⟩
    obtain⟨rfl,rfl⟩:=hgb;by_cases hroom:rows.length+aP.length≤(R.cap b).1
    ·have hfit:rows.length*ei.size+news.length≤cur.size:=by rw[n1,hcs,←Nat.add_mul];exact Nat.mul_le_mul_right _ hroom
     have hrun:=run_append_room (P:=P) w t ty e' ti ht hinfo (R.blk b) rows.length ((R.cap b).1) cur hg ad aP.length cap news (by rw[hsz];exact n1) n2 n3 hroom (by rw[hsz];exact hfit);rw[←e1,hsz] at hrun;have hsl:bY R b (rows++aP).length=.slice (some ⟨R.blk b,0,none⟩) (rows.length+aP.length) ((R.cap b).1):=by simp[bY,hnil]
     obtain⟨g1,g2⟩:=g.sH (b:=b) (e:=e') (ver:=ver+1) (st:=ei.size) (rows:=rows++aP) (R':=R) (.inr ⟨_,_,_,_,hb',Nat.lt_succ_self _⟩) (fun _ _=>⟨rfl,rfl,rfl⟩)
      (w':=w.setRow (R.blk b) (cur.toList.take (rows.length*ei.size)++news++cur.toList.drop (rows.length*ei.size+news.length)).toArray)
      ((oO w _ _).mono fun r hr=>by rw[hb'];exact⟨hnil,hr.symm⟩) (fun hn=>.inl (by rw[hb'];exact⟨hn,rfl⟩)) (xs:=xs++news) (by
        rw[hsl];refine⟨by rw[hlen,List.length_append,ho.1,n1,Nat.add_mul],.inr ⟨R.blk b,(R.cap b).1,_,by rw[hlen],Nat.zero_le _,setRow_heap w _ cur _ e' _ hg,by rw[hlen];exact hroom,hm,?_,?_⟩⟩
        ·simp only[List.size_toArray,List.length_append,List.length_take,List.length_drop,Array.length_toList];omega
        rw[hlen,ht',Nat.add_mul,←ho.1,←n1,←List.length_append];exact List.take_left) hrr
     rw[hsl] at g2;exact⟨_,_,_,_,_,hrun,hK,g1,g2⟩
    have holds:∀j v,xs[j]? = some v→w.cell? ((⟨R.blk b,0,none⟩:Addr).add j)=some v:=by
     intro j v hv;rw[addr_add,zI hg];rw[←ht',List.getElem?_take] at hv;split at hv
     ·simpa using hv
     cases hv
    have hrun:=run_append_grow (P:=P) w t ty e' ti zv ht hinfo hzero ⟨R.blk b,0,none⟩ rows.length ((R.cap b).1) xs (by rw[hsz];exact ho.1) holds ad aP.length cap news (by rw[hsz];exact n1) n2 (by omega)
     (by omega) (growslice_fits (by omega) (by rw[hby];exact hbd))
    rw[←e1] at hrun;have Qa:=grownCap_ge w (rows.length+aP.length) ((R.cap b).1) e';have hgm:=grownCap_le_maxLen w (rows.length+aP.length) ((R.cap b).1) e' b1;have hsl:bY (R.at b w.heap.size false (grownCap w (rows.length+aP.length) ((R.cap b).1) e')) b (rows++aP).length =
      .slice (some ⟨w.heap.size,0,none⟩) (rows.length+aP.length) (grownCap w (rows.length+aP.length) ((R.cap b).1) e'):=by simp[bY,Real.at]
    have Ev:(w.drew.alloc (.cells (xs.toArray++news.toArray++Builtin.zeroCells zv.cells (grownCap w (rows.length+aP.length) ((R.cap b).1) e' - (rows.length+aP.length))) e')).ownsRow 0 e' ei.size
      (.slice (some ⟨w.heap.size,0,none⟩) (rows.length+aP.length) (grownCap w (rows.length+aP.length) ((R.cap b).1) e')) (rows.length+aP.length) (xs++news):=
     ng (w0:=w) W9 (by rw[List.length_append,ho.1,n1,Nat.add_mul]) Qa hgm (by rw[show (xs++news).toArray=xs.toArray++news.toArray from by simp];rfl)
    obtain⟨g1,g2⟩:=g.sH (b:=b) (e:=e') (ver:=ver+1) (st:=ei.size) (rows:=rows++aP) (R':=R.at b w.heap.size false (grownCap w (rows.length+aP.length) ((R.cap b).1) e'))
     (.inr ⟨_,_,_,_,hb',Nat.lt_succ_self _⟩) (Real.zJ R b _ _ _)
     (w':=w.drew.alloc (.cells (xs.toArray++news.toArray++Builtin.zeroCells zv.cells (grownCap w (rows.length+aP.length) ((R.cap b).1) e' - (rows.length+aP.length))) e'))
     ⟨by simp,fun r hr _=>(by first|exact heap_alloc_old w.drew _ hr|exact heap_alloc_old w.drew _ r hr),rfl,rfl,rfl⟩ (fun _=>.inr (by simp[Real.at])) (xs:=xs++news) (by rw[hsl,hlen];exact Ev) hrr
    rw[hsl] at g2;exact⟨_,_,_,_,_,hrun,hK,g1,g2⟩
 ·-- nothing is behind the Mt
  rename_i st rows;split at h;rotate_left;cases h
  rename_i hst;have hst:=Nat.eq_of_beq_eq_true hst;subst hst;obtain⟨hz,hbd,hK⟩:=h;obtain⟨b1,b2,b3⟩:=wW hb0 hbd;simp only[ai] at hd;obtain⟨bp,amf,amg,hbe,_,_,_,hbs⟩:=yQ (I4 hd);simp only[bE] at hd;obtain⟨ba,rfl,_,_⟩:=hd;simp only[Value.slice.injEq] at hbe;obtain⟨rfl,rfl,rfl⟩:=hbe;obtain⟨xs,x1,x2,x3,x4⟩:=hbs ba rfl;cases p with
  |none=>exact absurd (by rw[hpn rfl];rfl) (Nat.ne_of_gt hz)
  | some ad=>
    obtain⟨news,n1,n2,n3,n4⟩:=hps ad rfl;have hrr:bK (aT c R s.hp) w ei.size (rows++aP) (xs++news):=jF x4 x1 n4;have hlen:(rows++aP).length=rows.length+aP.length:=by simp
    have hrun:=run_append_grow (P:=P) w t ty e ti zv ht hinfo hzero ba rows.length rows.length xs (by rw[hsz];exact x1) x2 ad aP.length cap news (by rw[hsz];exact n1) n2 (by omega)
     (by omega) (growslice_fits (by omega) (by rw[hby];exact hbd))
    have Qa:=grownCap_ge w (rows.length+aP.length) rows.length e;have hgm:=grownCap_le_maxLen w (rows.length+aP.length) rows.length e b1;have hsl:bY (R.at id w.heap.size false (grownCap w (rows.length+aP.length) rows.length e)) id (rows++aP).length =
      .slice (some ⟨w.heap.size,0,none⟩) (rows.length+aP.length) (grownCap w (rows.length+aP.length) rows.length e):=by simp[bY,Real.at]
    have Ev:(w.drew.alloc (.cells (xs.toArray++news.toArray++Builtin.zeroCells zv.cells (grownCap w (rows.length+aP.length) rows.length e-(rows.length+aP.length))) e)).ownsRow 0 e ei.size
      (.slice (some ⟨w.heap.size,0,none⟩) (rows.length+aP.length) (grownCap w (rows.length+aP.length) rows.length e)) (rows.length+aP.length) (xs++news):=
     ng (w0:=w) W9 (by rw[List.length_append,x1,n1,Nat.add_mul]) Qa hgm (by rw[show (xs++news).toArray=xs.toArray++news.toArray from by simp];rfl)
    obtain⟨g1,g2⟩:=g.sH (e:=e) (ver:=0) (st:=ei.size) (rows:=rows++aP) (R':=R.at id w.heap.size false (grownCap w (rows.length+aP.length) rows.length e)) (.inl hf)
     (Real.zJ R id _ _ _) (w':=w.drew.alloc (.cells (xs.toArray++news.toArray++Builtin.zeroCells zv.cells (grownCap w (rows.length+aP.length) rows.length e-(rows.length+aP.length))) e))
     ⟨by simp,fun r hr _=>(by first|exact heap_alloc_old w.drew _ hr|exact heap_alloc_old w.drew _ r hr),rfl,rfl,rfl⟩ (fun _=>.inr (by simp[Real.at])) (xs:=xs++news) (by rw[hsl,hlen];exact Ev) hrr
    rw[hsl] at g2;exact⟨_,_,_,_,_,hrun,hK,g1,g2⟩
 exact h.elim
end
theorem fQ {α:Type}(l m:List (Nat×α))(t:Nat):lk (l++m) t=match lk l t with
  |some v=>some v
  |none=>lk m t:=by
 induction l with
 |nil=>simp[lk]
 | cons x l ih=>
   obtain⟨k,v⟩:=x;simp only[List.cons_append,ax];split
   ·rfl
   exact ih
section
variable {P:Program}{T:Tab}{c:Ctx}{R:Real}{s:AS}{a:Act}{w:World}
theorem jT (g:bB c R s a w){H:List (Nat×aA)}(hH:∀b box,lk H b=some box→lk s.hp b=some box):∀(bs:List Nat) (fs:List (Nat×aA)),Km H bs=some fs →
  bB c R (s.app fs) a w∧(∀v x,ai (aT c R s.hp) w s.hp R v x→ai (aT c R (fs++s.hp)) w (fs++s.hp) R v x) ∧
   (∀r,aT c R (fs++s.hp) r→aT c R s.hp r)∧(∀b,(lk fs b).isSome=true∨b∈bs→∀r,aI R b r (lk s.hp b)→¬aT c R (fs++s.hp) r)
 | [],fs,h=>by
   simp only[Km,Option.some.injEq] at h;subst h;exact⟨g,fun v x h=>h,fun r h=>h,fun b h=>by simp[lk] at h⟩
 | b::bs,fs,h=>by
   simp only[Km] at h;split at h
   ·rename_i t ht;obtain⟨g1,m1,n1,o1⟩:=jT g hH bs t ht;split at h
    ·rename_i x hx;simp only[Option.some.injEq] at h;subst h;refine⟨g1,m1,n1,fun b' hb'=>?_⟩;rcases hb' with hb'|hb'
     ·exact o1 b' (.inl hb')
     rcases List.mem_cons.1 hb' with rfl|hb'
     ·exact o1 _ (.inl (by rw[hx];rfl))
     exact o1 b' (.inr hb')
    rename_i hnone;have step:∀{box bD:aA},lk H b=some box →
      ((∃e v st rows,box=.arr e v st rows∧bD=.kE v st rows)∨(∃cells ps,box=.var cells∧je cells=some ps∧bD=.sD ps)) →
      bB c R (s.app ((b,bD)::t)) a w∧(∀v x,ai (aT c R s.hp) w s.hp R v x→ai (aT c R ((b,bD)::t++s.hp)) w ((b,bD)::t++s.hp) R v x) ∧
       (∀r,aT c R ((b,bD)::t++s.hp) r→aT c R s.hp r)∧(∀b',(lk ((b,bD)::t) b').isSome=true∨b'∈b::bs→∀r,aI R b' r (lk s.hp b')→¬aT c R ((b,bD)::t++s.hp) r):=by
     intro box bD hb hf;have hl:lk (s.app t).hp b=some box:=by
      show lk (t++s.hp) b=_
      rw[fQ,hnone];exact hH _ _ hb
     obtain⟨g2,m2,n2,o2⟩:=g1.freeze hl hf;refine⟨g2,fun v x h=>m2 v x (m1 v x h),fun r h=>n1 r (n2 r h),fun b' hb' r ho hN=>?_⟩;by_cases e:b'=b
     ·subst e;refine o2 r ?_ hN;rw[hl,←hH _ _ hb];exact ho
     rcases hb' with hb'|hb'
     ·rw[ax,if_neg (fun x=>e x.symm)] at hb';exact o1 b' (.inl hb') r ho (n2 r hN)
     rcases List.mem_cons.1 hb' with rfl|hb'
     ·exact e rfl
     exact o1 b' (.inr hb') r ho (n2 r hN)
    have keep:fs=t→(∀r,¬aI R b r (lk s.hp b))→bB c R (s.app fs) a w∧(∀v x,ai (aT c R s.hp) w s.hp R v x→ai (aT c R (fs++s.hp)) w (fs++s.hp) R v x) ∧
      (∀r,aT c R (fs++s.hp) r→aT c R s.hp r)∧(∀b',(lk fs b').isSome=true∨b'∈b::bs→∀r,aI R b' r (lk s.hp b')→¬aT c R (fs++s.hp) r):=by
     rintro rfl hno
     refine⟨g1,m1,n1,fun b' hb' r ho=>?_⟩;rcases hb' with hb'|hb'
     ·exact o1 b' (.inl hb') r ho
     rcases List.mem_cons.1 hb' with rfl|hb'
     ·exact (hno r ho).elim
     exact o1 b' (.inr hb') r ho
    split at h
    ·rename_i e v st rows hb;simp only[Option.some.injEq] at h;subst h;exact step hb (.inl ⟨_,_,_,_,rfl,rfl⟩)
    ·rename_i cells hb;split at h
     ·rename_i ps hps;simp only[Option.some.injEq] at h;subst h;exact step hb (.inr ⟨_,_,rfl,hps,rfl⟩)
     cases h
    ·rename_i v st rows hb;simp only[Option.some.injEq] at h;exact keep h.symm (fun r=>by rw[hH _ _ hb];exact id)
    ·rename_i cells hb;simp only[Option.some.injEq] at h;exact keep h.symm (fun r=>by rw[hH _ _ hb];exact id)
    ·cases h
    ·cases h
    ·cases h
    ·cases h
    cases h
   cases h
def I5 (H:List (Nat×aA))(f:Fn)(nf:Nat)(vs:List AV)(K:AV→List (Nat×aA)→Prop):Prop:=
 match j4 nf vs,kF nf vs with
 | some xs,some ys=>match I6 H xs,I6 H ys with
   | some ps,some qs=>match Km H (dY xs++dY ys) with
     |some fs=>K (.pv (.fn f ps qs)) fs
     |none=>K (.fn f xs ys) []
   |_,_=>K (.fn f xs ys) []
 |_,_=>False
theorem FL.split {α:Type}{Q:α→Value→Prop}:∀{n:Nat} {l xs ys:List α} {m:List Value},FL Q l m→j4 n l=some xs→kF n l=some ys→FL Q xs (m.take n)∧FL Q ys (m.drop n)
 | 0,l,xs,ys,m,h,h1,h2=>by
   simp only[j4,kF,Option.some.injEq] at h1 h2;subst h1;subst h2;exact⟨by simp[FL],by simpa using h⟩
 |n+1,[],xs,ys,m,h,h1,h2=>by simp[j4] at h1
 | n+1,p::ps,xs,ys,m,h,h1,h2=>by
   obtain⟨v,r,rfl,h3,h⟩:=h;simp only[j4] at h1;split at h1
   ·rename_i t ht;simp only[Option.some.injEq] at h1;subst h1;simp only[kF] at h2;obtain⟨a1,a2⟩:=h.split ht h2;exact⟨⟨v,r.take n,by simp,h3,a1⟩,by simpa using a2⟩
   cases h1
theorem Mv (g:bB c R s a w){H:List (Nat×aA)}(hH:∀b box,lk H b=some box→lk s.hp b=some box){f:Fn}{first aM:Array Value}{vs:List AV}{K:AV→List (Nat×aA)→Prop}
  (h:I5 H f first.size vs K) (hv:FL (ai (aT c R s.hp) w s.hp R) vs (first.toList++aM.toList)) :
  ∃z ws,(Instr.makeFunc f first aM).run P w=.ok (.func f first aM) w∧K z ws∧bB c R (s.app ws) a w∧ai (aT c R (ws++s.hp)) w (ws++s.hp) R z (.func f first aM):=by
 have ref:∀{xs ys:List AV},j4 first.size vs=some xs→kF first.size vs=some ys→K (.fn f xs ys) [] →
   ∃z ws,(Instr.makeFunc f first aM).run P w=.ok (.func f first aM) w∧K z ws∧bB c R (s.app ws) a w∧ai (aT c R (ws++s.hp)) w (ws++s.hp) R z (.func f first aM):=by
  intro xs ys hxs hys h;obtain⟨a1,a2⟩:=hv.split hxs hys;have l1:(first.toList++aM.toList).take first.size=first.toList:=by rw[←Array.length_toList];exact List.take_left
  have l2:(first.toList++aM.toList).drop first.size=aM.toList:=by rw[←Array.length_toList];exact List.drop_left
  rw[l1] at a1;rw[l2] at a2;refine⟨_,[],rfl,h,g,?_⟩;simp only[ai];exact⟨first,aM,rfl,by rw[eO];exact a1,by rw[eO];exact a2⟩
 unfold I5 at h;split at h;rotate_left;cases h
 rename_i xs ys hxs hys;split at h
 ·rename_i ps qs hps hqs;split at h
  ·rename_i fs hfs;obtain⟨g1,m1,n1,o1⟩:=jT g hH _ _ hfs;obtain⟨a1,a2⟩:=hv.split hxs hys;have l1:(first.toList++aM.toList).take first.size=first.toList:=by rw[←Array.length_toList];exact List.take_left
   have l2:(first.toList++aM.toList).drop first.size=aM.toList:=by rw[←Array.length_toList];exact List.drop_left
   rw[l1] at a1;rw[l2] at a2;refine⟨_,fs,rfl,h,g1,?_⟩;simp only[ai,bE];refine⟨first,aM,rfl,?_,?_⟩
   ·exact iF g hH n1 xs ps _ (fun b hb=>o1 b (.inr (by simp[hb]))) hps (by rw[eO];exact a1)
   exact iF g hH n1 ys qs _ (fun b hb=>o1 b (.inr (by simp[hb]))) hqs (by rw[eO];exact a2)
  exact ref hxs hys h
 exact ref hxs hys h
def zK (T:Tab):List (Nat×TypeId)→Bool
 |[]=>true
 | (_,ft)::r=>match lk T ft with
   |some _=>zK T r
   |none=>false
def Qb (T:Tab)(t:TypeId):List Nat→List AV→List AV→Option (List AV)
 |[],[],cells=>some cells
 | f::fs,v::vs,cells=>match zL T t f with
   | some (off,j)=>match cellsOf j v with
     | some cs=>match Nat.beq cs.length j.size with
       | true=>match jU off cells cs with
         |some cells'=>Qb T t fs vs cells'
         |none=>none
       |false=>none
     |none=>none
   |none=>none
 |_,_,_=>none
def Bw (T:Tab)(t:TypeId)(ks:List Nat)(vs:List AV)(K:AV→Prop):Prop:=
 match lk T t with
 | some i=>match i.d with
   | .str fs=>match zK T fs with
     | true=>match zAV i.zero with
       | some z=>match Qb T t ks vs z with
         | some cells=>match zM cells with
           |some v=>K v
           |none=>False
         |none=>False
       |none=>False
     |false=>False
   |_=>False
 |none=>False
theorem uX (off:Nat)(l:List Value)(cs:Array Value)(h:off+l.length≤cs.size) :
  ((l.zipIdx 0).foldl (fun cs (x:Value×Nat)=>cs.setIfInBounds (off+x.2) x.1) cs).toList=cs.toList.take off++l++cs.toList.drop (off+l.length):=by
 obtain⟨h1,h2⟩:=Great.foldl_set off l 0 cs;apply List.ext_getElem?;intro k;rw[Array.getElem?_toList,h2 k];simp only[Nat.add_zero,List.append_assoc,List.getElem?_append,List.length_take,Array.length_toList,List.getElem?_take,List.getElem?_drop,Array.getElem?_toList];have hm:min off cs.size=off:=by omega
 rw[hm];by_cases h3:k<off
 ·rw[if_neg (by omega),if_pos h3,if_pos h3]
 rw[if_neg h3];by_cases h4:k<off+l.length
 ·rw[if_pos ⟨by omega,h4,by omega⟩,if_pos (by omega)]
 rw[if_neg (by omega),if_neg (by omega)];congr 1
 omega
theorem Ew {N:Nat→Prop}{hp:List (Nat×aA)}(hT:bO P T){t:TypeId}{fs:Array Field}(ht:P.underlying t=some (.struct fs)){place:Nat→Option (Nat×Nat)}
  (hpl:∀(f:Nat) (fd:Field) (j:TI),fs[f]? = some fd→cu P fd.type j→place f=some (fd.offset,j.size)) :
  ∀(ks:List Nat) (vs cells cells':List AV) (us:List Value) (zs:Array Value),Qb T t ks vs cells=some cells'→FL (ai N w hp R) vs us→FC (ai N w hp R) cells zs.toList →
   ∃Ut,Instr.fill place zs (ks.zip us)=some Ut∧FC (ai N w hp R) cells' Ut.toList
 | [],[],cells,cells',us,zs,h,hv,hz=>by
   simp only[Qb,Option.some.injEq] at h;subst h;simp only[FL] at hv;subst hv;exact⟨zs,rfl,hz⟩
 |[],v::vs,cells,cells',us,zs,h,hv,hz=>by simp[Qb] at h
 |f::ks,[],cells,cells',us,zs,h,hv,hz=>by simp[Qb] at h
 | f::ks,v::vs,cells,cells',us,zs,h,hv,hz=>by
   obtain⟨u,r,rfl,hu,hv⟩:=hv;simp only[Qb] at h;split at h
   ·rename_i off j hf;split at h
    ·rename_i cs hcs;split at h
     ·rename_i hl;have hl:=Nat.eq_of_beq_eq_true hl;split at h
      ·rename_i c2 hc2;obtain⟨fs',fd,h1,h2,rfl,h4⟩:=qK hT hf;rw[ht] at h1;simp only[Option.some.injEq,TypeDesc.struct.injEq] at h1;subst h1;have hcu:=jl hcs hu;obtain⟨hle,hset⟩:=FC.jU hz hcu hc2;have sJ:u.cells.size=j.size:=by rw[←hl,←hcu.length];simp
       simp only[List.zip_cons_cons,Instr.fill,hpl f fd j h2 h4];have ai5:fd.offset+j.size≤zs.size:=by simp only[Array.length_toList] at hle;omega
       rw[if_neg (by simp[sJ];omega)];have Ey:(u.cells.zipIdx.foldl (fun cs (x:Value×Nat)=>cs.setIfInBounds (fd.offset+x.2) x.1) zs).toList=zs.toList.take fd.offset++u.cells.toList++zs.toList.drop (fd.offset+u.cells.toList.length):=by
        rw[←uX fd.offset u.cells.toList zs (by simpa using hle)];rw[←Array.foldl_toList,Array.toList_zipIdx]
       exact Ew hT ht hpl ks vs c2 cells' r _ h hv (by rw[Ey];exact hset)
      cases h
     cases h
    cases h
   cases h
theorem DR {fs:List Field}{g:Field→Nat×Nat}(h:∀f∈fs,(sizeOf f.type).run P w=.ok (g f).2 w)(h1:∀f∈fs,(g f).1=f.offset) :
  (fs.mapM fun f=>(do pure (f.offset,←sizeOf f.type):Sem (Nat×Nat))).run P w=.ok (fs.map g) w:=by
 induction fs with
 |nil=>simp
 | cons f fs ih=>
   have:=ih (fun f hf=>h f (List.mem_cons_of_mem _ hf)) (fun f hf=>h1 f (List.mem_cons_of_mem _ hf));simp only[List.mapM_cons,Sem.run_bind,h f List.mem_cons_self,Result.andThen_ok,Sem.run_pure,this,List.map_cons];rw[←h1 f List.mem_cons_self]
theorem sK {N:Nat→Prop}{hp:List (Nat×aA)}:∀{vs:List Value},vs.all (·.oneCell')=true→FC (ai N w hp R) (vs.map fun v=>.pv (.sc v)) vs
 |[],_=>rfl
 | v::vs,h=>by
   simp only[List.all_cons,Bool.and_eq_true] at h;exact⟨v,vs,rfl,h.1,by simp only[ai,bE],sK h.2⟩
theorem Kn (hT:bO P T){N:Nat→Prop}{hp:List (Nat×aA)}{t:TypeId}{ks:List Nat}{vs:List AV}{us:List Value}{K:AV→Prop}(h:Bw T t ks vs K)
  (hv:FL (ai N w hp R) vs us):∃y z,(Instr.build t (ks.zip us).toArray).run P w=.ok y w∧K z∧ai N w hp R z y:=by
 unfold Bw at h;split at h;rotate_left;cases h
 rename_i i hi;have hi':=hT _ _ hi;obtain⟨d,hd,iE⟩:=hi'.iM;obtain⟨zv,hz1,hz2,hz3⟩:=hi'.q8 w;split at h;rotate_left;cases h
 rename_i fl hfl;rw[hfl] at iE;cases d<;>simp[di] at iE
 rename_i fs;subst iE;split at h;rotate_left;cases h
 rename_i hfi;split at h;rotate_left;cases h
 rename_i z hz;have:=Ko hz;subst this;split at h;rotate_left;cases h
 rename_i cells hcells;split at h;rotate_left;cases h
 rename_i v hv';have hall:∀f∈fs.toList,∃j,cu P f.type j:=by
  have key:∀l:List Field,zK T (l.map fun f=>(f.offset,f.type))=true→∀f∈l,∃j,cu P f.type j:=by
   intro l;induction l with
   |nil=>intro _ f hf;cases hf
   | cons x l ih=>
     intro h f hf;simp only[List.map_cons,zK] at h;split at h
     ·rename_i j hj;rcases List.mem_cons.1 hf with rfl|hf
      ·exact⟨j,hT _ _ hj⟩
      exact ih h f hf
     cases h
  exact key _ hfi
 have hsz:∀f∈fs.toList,(sizeOf f.type).run P w=.ok (P.cellsOf f.type) w:=by
  intro f hf;obtain⟨j,hj⟩:=hall f hf;obtain⟨x,_,h1,_⟩:=hj.Eu;simp[sizeOf,typeInfo,h1,Program.cellsOf]
 have hmap:=DR (g:=fun f=>(f.offset,P.cellsOf f.type)) hsz (fun _ _=>rfl);have hpl:∀(f:Nat) (fd:Field) (j:TI),fs[f]? = some fd→cu P fd.type j→((fs.map fun f=>(f.offset,P.cellsOf f.type))[f]? : Option (Nat×Nat))=some (fd.offset,j.size):=by
  intro f fd j h1 h2;obtain⟨x,_,h3,h4,_⟩:=h2.Eu;simp[h1,Program.cellsOf,h3,h4]
 obtain⟨Ut,hf1,hf2⟩:=Ew hT hd hpl ks vs _ cells us zv.cells hcells hv (by rw[hz2];exact sK hi'.Uu);refine⟨.agg Ut,v,?_,h,?_⟩
 ·have hm2:(fs.mapM fun f=>(do pure (f.offset,←sizeOf f.type):Sem (Nat×Nat))).run P w=.ok (fs.map fun f=>(f.offset,P.cellsOf f.type)) w:=by
   rw[Array.mapM_eq_mapM_toList,Sem.run_map,hmap];simp only[Result.andThen_ok];rw[←Array.toList_map,Array.toArray_toList]
  simp only[Instr.build,Sem.run_bind,hz1,Result.andThen_ok,run_underlying hd,hm2,hf1,Sem.run_pure]
 unfold zM at hv';split at hv'
 ·rename_i ps hps;simp only[Option.some.injEq] at hv';subst hv';simp only[ai,bE];exact⟨Ut,rfl,by rw[gM];exact q9 hps hf2⟩
 simp only[Option.some.injEq] at hv';subst hv';simp only[ai];exact⟨Ut,rfl,by rw[bF];exact hf2⟩
end
theorem SE {H:List (Nat×aA)}:∀(bs:List Nat) (fs:List (Nat×aA)),Km H bs=some fs→∀b,(lk fs b).isSome=true→(lk H b).isSome=true
 |[],fs,h=>by simp only[Km,Option.some.injEq] at h;subst h;intro b hb;simp[lk] at hb
 | b0::bs,fs,h=>by
   simp only[Km] at h;split at h
   ·rename_i t ht;have ih:=SE bs t ht;split at h
    ·simp only[Option.some.injEq] at h;subst h;exact ih
    have cons:∀(bD:aA),(lk H b0).isSome=true→∀b,(lk ((b0,bD)::t) b).isSome=true→(lk H b).isSome=true:=by
     intro bD h0 b hb;rw[ax] at hb;split at hb
     ·rename_i e;rw[←e];exact h0
     exact ih b hb
    split at h
    ·rename_i hb;simp only[Option.some.injEq] at h;subst h;exact cons _ (by rw[hb];rfl)
    ·rename_i hb;split at h
     ·simp only[Option.some.injEq] at h;subst h;exact cons _ (by rw[hb];rfl)
     cases h
    ·simp only[Option.some.injEq] at h;subst h;exact ih
    ·simp only[Option.some.injEq] at h;subst h;exact ih
    ·cases h
    ·cases h
    ·cases h
    ·cases h
    cases h
   cases h
def Xc:Nat→List Nat→Bool
 |_,[]=>true
 | i,k::r=>match Nat.beq k i with
   |true=>Xc (i+1) r
   |false=>false
theorem SF:∀{i:Nat} {ks:List Nat},Xc i ks=true→ks=List.range' i ks.length
 |i,[],_=>rfl
 | i,k::r,h=>by
   simp only[Xc] at h;split at h
   ·rename_i hk;have hk:=Nat.eq_of_beq_eq_true hk;subst hk;have:=SF h;rw[List.length_cons,List.range'_succ,←this]
   cases h
def I7 (i:TI):List PV→Option (List (List PV))
 |[]=>some []
 | p::r=>match lS i p with
   | some cs=>match Nat.beq cs.length i.size with
     | true=>match I7 i r with
       |some t=>some (cs::t)
       |none=>none
     |false=>none
   |none=>none
def lT (T:Tab)(H:List (Nat×aA))(t:TypeId)(len:Nat)(ks:List Nat)(vs:List AV)(id:Nat)(K:AV→List (Nat×aA)→Prop):Prop:=
 match lk T t with
 | some i=>match i.d with
   | .slt e=>match lk T e with
     | some ei=>tiF ei fun qb Mj=>match Nat.beq qb 0,Xc 0 ks,Nat.beq ks.length len,Nat.ble (len*qb) 16777216 with
       | false,true,true,true=>match I6 H vs with
         | some ps=>match I7 ei ps,Km H (dY vs) with
           | some rows,some fs=>match Nat.beq rows.length len with
             |true=>K (.aB id 0) ((id,.arr e 0 qb rows)::fs)
             |false=>False
           |_,_=>False
         |none=>False
       |_,_,_,_=>False
     |none=>False
   |_=>False
 |none=>False
section
variable {P:Program}{T:Tab}{c:Ctx}{R:Real}{s:AS}{a:Act}{w:World}
theorem adh {st:Nat}:∀(vs:List Value) (i0:Nat) (cells:Array Value),(∀v∈vs,v.cells.size=st)→(i0+vs.length)*st≤cells.size →
  ∃r,Instr.fill (fun i=>some (i*st,st)) cells ((List.range' i0 vs.length).zip vs)=some r ∧
   r.toList=cells.toList.take (i0*st)++(vs.map (·.cells.toList)).flatten++cells.toList.drop ((i0+vs.length)*st)
 |[],i0,cells,_,_=>⟨cells,rfl,by simp⟩
 | v::vs,i0,cells,hv,hle=>by
   have hvs:v.cells.size=st:=hv v List.mem_cons_self;have e1:(i0+(v::vs).length)*st=i0*st+st+vs.length*st:=by simp only[List.length_cons,Nat.add_mul,Nat.one_mul];omega
   have e2:(i0+1+vs.length)*st=i0*st+st+vs.length*st:=by simp only[Nat.add_mul,Nat.one_mul]
   have e3:(i0+1)*st=i0*st+st:=by simp only[Nat.add_mul,Nat.one_mul]
   rw[e1] at hle;have hl:v.cells.toList.length=st:=by simpa using hvs
   have Ey:(v.cells.zipIdx.foldl (fun cs (x:Value×Nat)=>cs.setIfInBounds (i0*st+x.2) x.1) cells).toList=cells.toList.take (i0*st)++v.cells.toList++cells.toList.drop (i0*st+v.cells.toList.length):=by
    rw[←uX (i0*st) v.cells.toList cells (by omega)];rw[←Array.foldl_toList,Array.toList_zipIdx]
   generalize hcs:v.cells.zipIdx.foldl (fun cs (x:Value×Nat)=>cs.setIfInBounds (i0*st+x.2) x.1) cells=cs1 at Ey;have hsz:cs1.size=cells.size:=by
    rw[←Array.length_toList,Ey];simp only[List.length_append,List.length_take,List.length_drop,Array.length_toList,hvs];omega
   obtain⟨r,hr,hk⟩:=adh vs (i0+1) cs1 (fun u hu=>hv u (List.mem_cons_of_mem _ hu)) (by rw[hsz,e2];exact hle);refine⟨r,?_,?_⟩
   ·simp only[List.length_cons,List.range'_succ,List.zip_cons_cons,Instr.fill,hvs];rw[if_neg (by simp;omega),←hr,hcs]
   have h0:(cells.toList.take (i0*st)).length=i0*st:=by simp;omega
   have h1:(cells.toList.take (i0*st)++v.cells.toList).length=i0*st+st:=by rw[List.length_append,h0,hl]
   rw[hk,e1,e2,e3,Ey];have t1:List.take (i0*st+st) (cells.toList.take (i0*st)++v.cells.toList++cells.toList.drop (i0*st+v.cells.toList.length))=cells.toList.take (i0*st)++v.cells.toList:=by
    rw[List.take_left' h1]
   have t2:List.drop (i0*st+st+vs.length*st) (cells.toList.take (i0*st)++v.cells.toList++cells.toList.drop (i0*st+v.cells.toList.length))=cells.toList.drop (i0*st+st+vs.length*st):=by
    rw[←List.drop_drop,List.drop_left' h1,List.drop_drop,hl]
   rw[t1,t2];simp
theorem CQ {N:Nat→Prop}{i:TI}:∀{ps:List PV} {rows:List (List PV)} {us:List Value},I7 i ps=some rows→FL (bE N w) ps us →
  rows.length=ps.length∧(∀v∈us,v.cells.size=i.size)∧bK N w i.size rows (us.map (·.cells.toList)).flatten
 | [],rows,us,h,hu=>by
   simp only[I7,Option.some.injEq] at h;subst h;simp only[FL] at hu;subst hu;exact⟨rfl,by simp,by simp[bK]⟩
 | p::ps,rows,us,h,hu=>by
   obtain⟨v,r,rfl,hv,hu⟩:=hu;simp only[I7] at h;split at h
   ·rename_i cs hcs;split at h
    ·rename_i hl;have hl:=Nat.eq_of_beq_eq_true hl;split at h
     ·rename_i t ht;simp only[Option.some.injEq] at h;subst h;obtain⟨a1,a2,a3⟩:=CQ ht hu;have hc:=uY hcs hv;have hvs:v.cells.size=i.size:=by rw[←hl,←hc.length];simp
      refine⟨by simp[a1],fun u hu=>?_,?_⟩
      ·rcases List.mem_cons.1 hu with rfl|hu
       ·exact hvs
       exact a2 u hu
      simp only[List.map_cons,List.flatten_cons];refine⟨hl,by rw[dh];exact hc.fp.app _,?_⟩;rw[List.drop_left' (by simpa using hvs)];exact a3
     cases h
    cases h
   cases h
theorem oP (g:bB c R s a w)(hT:bO P T){H:List (Nat×aA)}(hH:∀b box,lk H b=some box→lk s.hp b=some box){id:Nat}(hf:lk s.hp id=none)
  {t:TypeId} {len:Nat} {ks:List Nat} {vs:List AV} {us:List Value} {K:AV→List (Nat×aA)→Prop} (h:lT T H t len ks vs id K) (hv:FL (ai (aT c R s.hp) w s.hp R) vs us) :
  ∃y w' R' z ws,(Instr.buildSlice t len (ks.zip us).toArray).run P w=.ok y w'∧K z ws∧bB c R' (s.app ws) a w'∧ai (aT c R' (ws++s.hp)) w' (ws++s.hp) R' z y:=by
 unfold lT at h;simp only[dH] at h;split at h;rotate_left;cases h
 rename_i i hi;obtain⟨d,hd,iE⟩:=(hT t i hi).iM;split at h;rotate_left;cases h
 rename_i e hte;have ht:P.underlying t=some (.slice e):=by
  rw[hte] at iE;cases d<;>simp[di] at iE
  subst iE;exact hd
 split at h;rotate_left;cases h
 rename_i ei qZ;have jd:=hT _ _ qZ;obtain⟨zv,hz1,hz2,hz3⟩:=jd.q8 w;split at h;rotate_left;cases h
 rename_i hs0 hks hkl ags;have hs0:=Nat.ne_of_beq_eq_false hs0;have hks:=SF hks;have hkl:=Nat.eq_of_beq_eq_true hkl;have ags:=Nat.le_of_ble_eq_true ags;split at h;rotate_left;cases h
 rename_i ps hps;split at h;rotate_left;cases h
 rename_i rows fs hrows hfs;split at h;rotate_left;cases h
 rename_i hrl;have hrl:=Nat.eq_of_beq_eq_true hrl;obtain⟨g1,m1,n1,o1⟩:=jT g hH _ _ hfs;have qL:=iF g hH n1 vs ps us (fun b hb=>o1 b (.inr hb)) hps (by rw[eO];exact hv);rw[jf] at qL;obtain⟨q1,q2,q3⟩:=CQ hrows qL;have hul:us.length=len:=by rw[qL.length,←q1,hrl]
 have hcz:((Array.range (len*ei.size)).map fun x=>(if len*ei.size=0 then (#[]:Array Value) else zv.cells)[x%(if len*ei.size=0 then (#[]:Array Value) else zv.cells).size]!).size=len*ei.size:=by simp
 obtain⟨r,hr1,hr2⟩:=adh us 0 ((Array.range (len*ei.size)).map fun x=>(if len*ei.size=0 then (#[]:Array Value) else zv.cells)[x%(if len*ei.size=0 then (#[]:Array Value) else zv.cells).size]!) q2 (by rw[hcz,hul];simp);have hr3:r.toList=(us.map (·.cells.toList)).flatten:=by
  rw[hr2,hul];simp only[Nat.zero_mul,List.take_zero,List.nil_append,Nat.zero_add];rw[List.drop_eq_nil_of_le (by simp),List.append_nil]
 have hff:lk (s.app fs).hp id=none:=by
  show lk (fs++s.hp) id=none
  rw[fQ];cases hx:lk fs id with
  |none=>exact hf
  | some b=>
    have:=SE _ _ hfs id (by rw[hx];rfl);cases hy:lk H id with
    |none=>rw[hy] at this;cases this
    |some box=>rw[hH _ _ hy] at hf;cases hf
 have hq3:bK (aT c R (s.app fs).hp) w ei.size rows r.toList:=by rw[hr3];exact q3
 obtain⟨t1,t2,t3⟩:=gD hq3;have agt:r.toList.length=len*ei.size:=by
  rw[hr3];have:∀us:List Value,(∀v∈us,v.cells.size=ei.size)→(us.map (·.cells.toList)).flatten.length=us.length*ei.size:=by
   intro us;induction us with
   |nil=>intro _;simp
   | cons v us ih=>
     intro h;have:=ih fun u hu=>h u (List.mem_cons_of_mem _ hu)
     simp only[List.map_cons,List.flatten_cons,List.length_append,this,Array.length_toList,h v List.mem_cons_self,List.length_cons,Nat.add_mul];omega
  rw[this us q2,hul]
 have hlm:len≤maxLen:=by
  have:len≤len*ei.size:=Nat.le_mul_of_pos_right _ (Nat.pos_of_ne_zero hs0);unfold maxLen;omega
 obtain⟨R',g2,r2⟩:=g1.Xd (e:=e) (st:=ei.size) (rows:=rows) (w':={ w with heap:=w.heap.push (.cells r e) }) (cur:=r) (cap:=len) hff ⟨rfl,rfl,rfl,rfl⟩ (by omega) hlm
  (by rw[←Array.length_toList];exact agt) hq3
 refine⟨.slice (some ⟨w.heap.size,0,none⟩) len len,_,R',_,_,?_,h,g2,by rw[hrl] at r2;exact r2⟩;rw[hul,←hkl,←hks,hkl] at hr1;have agu:¬len*ei.size>2 ^ 24:=by omega
 by_cases hz:len*ei.size=0
 ·simp only[if_pos hz] at hr1;simp only[Instr.buildSlice,Sem.run_bind,run_underlying ht,Result.andThen_ok,jd.run_sizeOf,if_neg agu,if_pos hz,Sem.run_pure,hr1,newRow,run_newObj]
 simp only[if_neg hz] at hr1;simp only[Instr.buildSlice,Sem.run_bind,run_underlying ht,Result.andThen_ok,jd.run_sizeOf,if_neg agu,if_neg hz,hz1,Sem.run_pure,hr1,newRow,run_newObj]
end
def uZ (T:Tab)(t:TypeId)(vs:List AV)(id:Nat)(K:AV→List (Nat×aA)→Prop):Prop:=
 match vs with
 | [.pv (.sc (.int _ l)),.pv (.sc (.int _ n))]=>match lk T t with
   | some i=>match i.d with
     | .slt e=>match lk T e with
       | some ei=>tiF ei fun qb Mj=>match Nat.beq qb 0,zPV ei.zero with
         |false,some z=>0≤l∧l≤n∧n≤9223372036854775807∧(Mj:Int)*n≤281474976710656∧K (.aB id 0) [(id,.arr e 0 qb (List.replicate l.toNat z))]
         |_,_=>False
       |none=>False
     |_=>False
   |none=>False
 |_=>False
def Bz (T:Tab)(t:TypeId)(id:Nat)(K:AV→List (Nat×aA)→Prop):Prop:=
 match lk T t with
 | some i=>match zAV i.zero with
   |some z=>K (.ptr id 0) [(id,.var z)]
   |none=>False
 |none=>False
def Uv (T:Tab)(t:TypeId)(x:AV)(id:Nat)(K:AV→List (Nat×aA)→Prop):Prop:=
 match lk T t with
 | some i=>match cellsOf i x with
   |some cs=>K (.ptr id 0) [(id,.var cs)]
   |none=>False
 |none=>False
def u6 (T:Tab)(H:List (Nat×aA))(src dst:TypeId)(x:AV)(K:AV→List (Nat×aA)→Prop):Prop:=
 match lk T dst with
 | some dt=>match dt.d with
   | .slt e=>match lk T src,lk T e with
     | some si,some ei=>match si.d,ei.d with
       | .Mw,.zN .u8=>match x with
         |.pv (.sc (.string str))=>str.size≤140737488355328∧K (.pv (.sl false 1 (str.data.toList.map wX))) []
         |_=>False
       |_,_=>False
     |_,_=>False
   |_=>u7 T H src dst x fun v=>K v []
 |none=>False
def ni (T:Tab)(H:List (Nat×aA))(t:TypeId)(lo hi mx:Option Operand)(vs:List AV)(K:AV→List (Nat×aA)→Prop):Prop:=
 match vs with
 | .aB b ver::r=>match uM (lk H b) ver,Km H [b] with
   |some p,some fs=>oQ T t lo hi mx (.pv p::r) fun v=>K v fs
   |_,_=>False
 |_=>oQ T t lo hi mx vs fun v=>K v []
def cMM (mx:Bool)(vs:List AV)(K:AV→Prop):Prop:=
 match vs with
 | [.pv (.sc (.int k a)),.pv (.sc (.int j b))]=>match decide (k=j) with
   | true=>match mx with
     |true=>K (.pv (.sc (.int k (if b>a then b else a))))
     |false=>K (.pv (.sc (.int k (if b<a then b else a))))
   |false=>False
 |_=>False
def I8 (P:Program)(H:List (Nat×aA))(vs:List AV)(K:AV→List (Nat×aA)→Prop):Prop:=
 match vs with
 | .pv (.fn (.func f) first aM)::args=>match I6 H args with
   | some ps=>∃r,bC P f (first++(ps++aM)) r∧match DT r with
     |true=>K (.pv r) []
     | false=>match Km H (dY args) with
       |some fs=>K (.pv r) fs
       |none=>False
   |none=>False
 |_=>False
section
variable {P:Program}{T:Tab}{c:Ctx}{R:Real}{s:AS}{a:Act}{w:World}
theorem FL.imp {α:Type}{Q Q':α→Value→Prop}:∀{l:List α} {m:List Value},FL Q l m→(∀p v,Q p v→Q' p v)→FL Q' l m
 |[],_,h,_=>h
 |p::ps,m,h,hi=>by obtain⟨v,r,e,h1,h2⟩:=h;exact⟨v,r,e,hi _ _ h1,h2.imp hi⟩
theorem Ez {N:Nat→Prop}{st:Nat}{z:List PV}{zs:List Value}(hz:FC (bE N w) z zs)(hst:z.length=st):∀(n:Nat) (L:List Value),
  n*st≤L.length→(∀j,j<n*st→L[j]? = zs[j%st]?)→bK N w st (List.replicate n z) L
 |0,L,_,_=>by simp[bK]
 | n+1,L,hl,h=>by
   have e:(n+1)*st=st+n*st:=by rw[Nat.add_mul];omega
   rw[e] at hl h;have hzl:=hz.length;have ht:L.take st=zs:=by
    apply List.ext_getElem?;intro j;rw[List.getElem?_take];by_cases hj:j<st
    ·rw[if_pos hj,h j (by omega),Nat.mod_eq_of_lt hj]
    rw[if_neg hj];exact (List.getElem?_eq_none (by omega)).symm
   rw[List.replicate_succ];refine⟨hst,?_,Ez hz hst n (L.drop st) (by simp;omega) fun j hj=>?_⟩
   ·rw[dh];have:=hz.fp.app (L.drop st);rw[←ht,List.take_append_drop] at this;exact this
   rw[List.getElem?_drop,h (st+j) (by omega),Nat.add_mod_left]
theorem EA {N:Nat→Prop}:∀{vs:List Value},vs.all (·.oneCell')=true→FC (bE N w) (vs.map .sc) vs
 |[],_=>rfl
 | v::vs,h=>by
   simp only[List.all_cons,Bool.and_eq_true] at h;exact⟨v,vs,rfl,h.1,by simp only[bE],EA h.2⟩
theorem Mx (g:bB c R s a w)(hT:bO P T){id:Nat}(hf:lk s.hp id=none){t:TypeId}{x y:AV}{u v:Value}{K:AV→List (Nat×aA)→Prop}
  (h:uZ T t [x,y] id K) (hx:ai (aT c R s.hp) w s.hp R x u) (hy:ai (aT c R s.hp) w s.hp R y v) :
  ∃z w' R' q ws,(Instr.makeSlice t u v).run P w=.ok z w'∧K q ws∧bB c R' (s.app ws) a w'∧ai (aT c R' (ws++s.hp)) w' (ws++s.hp) R' q z:=by
 unfold uZ at h;simp only[dH] at h;split at h;rotate_left;cases h
 rename_i _ k l j n heq;simp only[List.cons.injEq,and_true] at heq;obtain⟨rfl,rfl⟩:=heq;simp only[ai,bE] at hx hy;subst hx;subst hy;split at h;rotate_left;cases h
 rename_i i hi;obtain⟨d,hd,iE⟩:=(hT t i hi).iM;split at h;rotate_left;cases h
 rename_i e hte;have ht:P.underlying t=some (.slice e):=by
  rw[hte] at iE;cases d<;>simp[di] at iE
  subst iE;exact hd
 split at h;rotate_left;cases h
 rename_i ei qZ;have jd:=hT _ _ qZ;obtain⟨ti,zv,hinfo,hsz,hby,hzero,hzc⟩:=jd.Eu;have W9:zv.cells.size=ei.size:=by have:=jd.Xa;rw[←hzc] at this;simpa using this
 split at h;rotate_left;cases h
 rename_i z hs0 hz;have hs0:=Nat.ne_of_beq_eq_false hs0;have:=Qc hz;subst this;obtain⟨h0,h1,h63,hb,hK⟩:=h;have hrun:=run_make (P:=P) w t e ti zv ht hinfo hzero k j l n h0 h1 (by rw[hby];exact hb) h63;have hle:(List.replicate l.toNat (ei.zero.map PV.sc)).length≤n.toNat:=by simp;omega
 have hrr:bK (aT c R s.hp) w ei.size (List.replicate l.toNat (ei.zero.map PV.sc)) (madeCells zv.cells (n.toNat*ti.size)).toList:=by
  refine Ez (EA jd.Uu) (by simpa using jd.Xa) _ _ ?_ fun j hj=>?_
  ·rw[Array.length_toList,size_madeCells,hsz];exact Nat.mul_le_mul_right _ (by omega)
  have hj2:j<n.toNat*ei.size:=Nat.lt_of_lt_of_le hj (Nat.mul_le_mul_right _ (by omega));rw[hsz];have hlt:j%zv.cells.size<zv.cells.size:=Nat.mod_lt _ (by rw[W9];exact Nat.pos_of_ne_zero hs0);have hmc:(madeCells zv.cells (n.toNat*ei.size))[j]? = some (zv.cells[j%zv.cells.size]!):=by
   simp[madeCells,hj2]
  rw[Array.getElem?_toList,hmc,getElem!_pos zv.cells _ hlt,←hzc,Array.getElem?_toList,←W9];exact (Array.getElem?_eq_getElem hlt).symm
 obtain⟨R',g2,r2⟩:=g.Xd (e:=e) (st:=ei.size) (w':=w.alloc (.cells (madeCells zv.cells (n.toNat*ti.size)) e)) (cap:=n.toNat) hf ⟨rfl,rfl,rfl,rfl⟩ hle (by unfold maxLen;omega)
  (by rw[size_madeCells,hsz]) hrr
 rw[List.length_replicate] at r2;exact⟨_,_,R',_,_,hrun,hK,g2,r2⟩
theorem Kq (g:bB c R s a w)(hT:bO P T){id:Nat}(hf:lk s.hp id=none){t:TypeId}{K:AV→List (Nat×aA)→Prop}(h:Bz T t id K) :
  ∃z w' R' q ws,(Instr.alloc t true (.tuple #[])).run P w=.ok z w'∧K q ws∧bB c R' (s.app ws) a w'∧ai (aT c R' (ws++s.hp)) w' (ws++s.hp) R' q z:=by
 unfold Bz at h;split at h;rotate_left;cases h
 rename_i i hi;have hi':=hT _ _ hi;obtain⟨zv,hz1,hz2,hz3⟩:=hi'.q8 w;split at h;rotate_left;cases h
 rename_i z hz;have:=Ko hz;subst this;obtain⟨R',g2,r2⟩:=g.newVar hf (cells:=i.zero.map fun v=>.pv (.sc v)) (vs:=zv.cells) (t:=t) (by rw[hz2];exact sK hi'.Uu);refine⟨_,_,R',_,_,?_,h,g2,r2⟩;simp[Instr.alloc,hz1,newVar,newRow]
theorem Qd (g:bB c R s a w)(hT:bO P T){id:Nat}(hf:lk s.hp id=none){t:TypeId}{x:AV}{u:Value}{K:AV→List (Nat×aA)→Prop}(h:Uv T t x id K)
  (hx:ai (aT c R s.hp) w s.hp R x u) :
  ∃z w' R' q ws,(Instr.box t u).run P w=.ok z w'∧K q ws∧bB c R' (s.app ws) a w'∧ai (aT c R' (ws++s.hp)) w' (ws++s.hp) R' q z:=by
 unfold Uv at h;split at h;rotate_left;cases h
 split at h;rotate_left;cases h
 rename_i cs hcs;obtain⟨R',g2,r2⟩:=g.newVar hf (vs:=u.cells) (t:=t) (jl hcs hx);refine⟨_,_,R',_,_,?_,h,g2,r2⟩;simp[Instr.box,newVar,newRow]
theorem I9 {N:Nat→Prop}{hp:List (Nat×aA)}{mx:Bool}{x y:AV}{u v:Value}{K:AV→Prop}(h:cMM mx [x,y] K)(hx:ai N w hp R x u)(hy:ai N w hp R y v)(ts:Array TypeId)(ty:TypeId) :
  ∃z q,(if mx then Builtin.max_ ts ty #[u,v] else Builtin.min_ ts ty #[u,v]).run P w=.ok z w∧K q∧ai N w hp R q z:=by
 unfold cMM at h;split at h;rotate_left;cases h
 rename_i _ k a j b heq;simp only[List.cons.injEq,and_true] at heq;obtain⟨rfl,rfl⟩:=heq;simp only[ai,bE] at hx hy;subst hx;subst hy;split at h;rotate_left;cases h
 rename_i hk;have hk:=of_decide_eq_true hk;subst hk;split at h
 ·exact⟨.int k (if b>a then b else a),_,by simp[Builtin.max_,Builtin.max2],h,by simp only[ai,bE]⟩
 exact⟨.int k (if b<a then b else a),_,by simp[Builtin.min_,Builtin.min2],h,by simp only[ai,bE]⟩
theorem MB {α:Type}(a:Array α)(x:α)(f:α→α):(a.push x).modify a.size f=a.push (f x):=by
 apply Array.ext_getElem?;intro i;simp only[Array.getElem?_modify,Array.getElem?_push];by_cases h:a.size=i
 ·subst h;simp
 rw[if_neg h,if_neg (fun e=>h e.symm),if_neg (fun e=>h e.symm)]
theorem zO (e:TypeId)(str:ByteArray):∃cap w',(str.size≤cap∧(str.size≤140737488355328→cap≤9223372036854775807))∧(Conv.stringToBytes e str).run P w=.ok (.slice (some ⟨w.heap.size,0,none⟩) str.size cap) w' ∧
  ∃cur fr,w'.heap=w.heap.push (.cells cur e fr)∧cur.toList.take str.size=(str.data.toList.map fun b=>Value.int .u8 b.toNat)∧w'.os=w.os∧w'.tape=w.tape∧w'.output=w.output:=by
 generalize hX:(str.data.map (fun b=>Value.int .u8 b.toNat)++Array.replicate (grownCap w str.size 0 e-str.size) (Value.int .u8 0))=X;refine⟨grownCap w str.size 0 e,(w.drew.alloc (.cells X e)).freeze ⟨w.heap.size,X.size,none⟩ 1,⟨grownCap_ge w str.size 0 e,fun hb=>by have:=grownCap_le_maxLen w str.size 0 e (by unfold maxLen;omega);unfold maxLen at this;omega⟩,?_,X,(X.size,X.size+1),?_,?_,?_,?_,?_⟩
 ·simp only[Conv.stringToBytes,Sem.run_bind,run_choose,Question.forced,Bool.false_eq_true,if_false,Result.andThen_ok,newRow,run_newObj,Sem.run_pure,markStringish,run_shape];simp only[World.shape?,Array.getElem?_push_size,Result.andThen_ok,run_freeze,Sem.run_pure];rw[←hX];rfl
 ·unfold World.freeze;rw[if_neg (by decide)];have e1:(w.drew.alloc (Obj.cells X e)).heap=w.heap.push (Obj.cells X e):=rfl;simp only[e1];rw[MB];simp
 ·rw[←hX];simp only[Array.toList_append,Array.toList_map];exact List.take_left' (by simp)
 ·rfl
 ·rfl
 rfl
theorem EB {N:Nat→Prop}:∀(bs:List UInt8) (r:List Value),bK N w 1 (bs.map wX) (bs.map (fun b=>Value.int .u8 b.toNat)++r)
 |[],r=>trivial
 |b::bs,r=>⟨rfl,⟨_,_,rfl,rfl,rfl,trivial⟩,by simpa using EB bs r⟩
theorem Kr (g:bB c R s a w)(hT:bO P T){H:List (Nat×aA)}(hH:∀b box,lk H b=some box→lk s.hp b=some box){src dst:TypeId}{x:AV}{K:AV→List (Nat×aA)→Prop}
  (h:u6 T H src dst x K) {u:Value} (hx:ai (aT c R s.hp) w s.hp R x u) :
  ∃z w' R' q ws,(convert src dst u).run P w=.ok z w'∧K q ws∧bB c R' (s.app ws) a w'∧ai (aT c R' (ws++s.hp)) w' (ws++s.hp) R' q z:=by
 unfold u6 at h;split at h;rotate_left;cases h
 rename_i dt hdt;split at h
 ·rename_i e hde;split at h;rotate_left;cases h
  rename_i si ei hsi qZ;split at h;rotate_left;cases h
  rename_i hss hes;split at h;rotate_left;cases h
  rename_i str;simp only[ai,bE] at hx;subst hx;obtain⟨hsb,h⟩:=h;obtain⟨d1,hd1,e1⟩:=(hT _ _ hsi).iM;obtain⟨d2,hd2,e2⟩:=(hT _ _ hdt).iM;obtain⟨d3,hd3,e3⟩:=(hT _ _ qZ).iM;have q1:P.underlying src=some .string:=by rw[hss] at e1;cases d1<;>simp[di] at e1;exact hd1
  have q2:P.underlying dst=some (.slice e):=by rw[hde] at e2;cases d2<;>simp[di] at e2;subst e2;exact hd2
  have q3:P.underlying e=some (.int .u8):=by rw[hes] at e3;cases d3<;>simp[di] at e3;subst e3;exact hd3
  obtain⟨cap,w',⟨hcap,hcm⟩,hrun,cur,fr,EC,ad6,ho,ht,hu⟩:=zO (P:=P) (w:=w) e str;have hcm:=hcm hsb;have hev:nI (fun _=>False) w w':=by
   refine⟨by rw[EC];simp,fun r hr _=>?_,ho,ht,hu⟩;rw[EC,Array.getElem?_push];simp[Nat.ne_of_lt hr]
  refine⟨.slice (some ⟨w.heap.size,0,none⟩) str.size cap,w',R,_,[],?_,h,g.grow hev,?_⟩
  ·simp only[convert,Sem.run_bind,run_underlying q1,run_underlying q2,run_underlying q3,Result.andThen_ok];exact hrun
  simp only[ai,bE];refine⟨_,_,cap,rfl,by simp,⟨by omega,hcm⟩,fun e=>(by cases e),fun ad ha=>?_⟩;simp only[Option.some.injEq] at ha;subst ha;refine .inr ⟨rfl,fun hn=>?_,cur,e,fr,by rw[EC];simp,?_⟩
  ·have:=g.Nlt hn;simp at this
  have:=EB (w:=w') (N:=aT c R s.hp) str.data.toList (cur.toList.drop str.size);rw[←ad6,List.take_append_drop] at this;simpa using this
 obtain⟨y,z,h1,h2,h3⟩:=MC g hT hH h hx;exact⟨y,w,R,z,[],h1,h2,g,h3⟩
theorem Hu (g:bB c R s a w)(hT:bO P T){H:List (Nat×aA)}(hH:∀b box,lk H b=some box→lk s.hp b=some box){t:TypeId}{x0:Operand}{lo hi mx:Option Operand}{vs:List AV}
  {K:AV→List (Nat×aA)→Prop} (h:ni T H t lo hi mx vs K)
  (hv:FL (ai (aT c R s.hp) w s.hp R) vs ((x0::(lo.toList++(hi.toList++mx.toList))).map a.eval)) :
  ∃y z ws,(Instr.sliceAt t (a.eval x0) (lo.map a.eval) (hi.map a.eval) (mx.map a.eval)).run P w=.ok y w∧K z ws∧bB c R (s.app ws) a w∧ai (aT c R (ws++s.hp)) w (ws++s.hp) R z y:=by
 unfold ni at h;split at h
 ·rename_i b ver r;split at h;rotate_left;cases h
  rename_i p fs hp' hfs;obtain⟨g1,m1,n1,o1⟩:=jT g hH _ _ hfs;simp only[List.map_cons] at hv;obtain⟨u,r',e1,hx,hv⟩:=hv;have hp2:bE (aT c R (fs++s.hp)) w p u:=by
   refine rf g hH n1 (.aB b ver) p u (fun b' hb'=>o1 b' (.inr (by simpa[refs] using hb'))) ?_ hx;simpa[vw] using hp'
  have hv2:FL (ai (aT c R (s.app fs).hp) w (s.app fs).hp R) (.pv p::r) ((x0::(lo.toList++(hi.toList++mx.toList))).map a.eval):=by
   simp only[List.map_cons,e1];exact⟨u,r',rfl,(by simp only[ai];exact hp2),hv.imp m1⟩
  obtain⟨y,z,h1,h2,h3⟩:=zP g1 hT h hv2;exact⟨y,z,fs,h1,h2,g1,h3⟩
 obtain⟨y,z,h1,h2,h3⟩:=zP g hT h hv;exact⟨y,z,[],h1,h2,g,h3⟩
mutual
theorem zQ {N N':Nat→Prop}{w w':World}:∀(p:PV) (v:Value),DT p=true→bE N w p v→bE N' w' p v
 |.sc x,v,_,h=>by simpa only[bE] using h
 | .agg cs,v,hs,h=>by
   simp only[bE] at h ⊢;obtain⟨vs,e,h⟩:=h;exact⟨vs,e,ED cs _ (by simpa[DT] using hs) h⟩
 | .dn cs,v,hs,h=>by
   simp only[bE] at h ⊢;obtain⟨vs,e,h⟩:=h;exact⟨vs,e,EF cs _ (by simpa[DT] using hs) h⟩
 |.sl _ _ _,v,hs,h=>by simp[DT] at hs
 |.bJ _ _,v,hs,h=>by simp[DT] at hs
 |.fn _ _ _,v,hs,h=>by simp[DT] at hs
 |.junk,v,hs,h=>by simp only[bE]
 |.P8 _ _,v,hs,h=>by simp[DT] at hs
theorem ED {N N':Nat→Prop}{w w':World}:∀(ps:List PV) (vs:List Value),EG ps=true→iR N w ps vs→iR N' w' ps vs
 |[],vs,_,h=>by simpa only[iR] using h
 | p::ps,vs,hs,h=>by
   simp only[EG] at hs;split at hs
   ·rename_i hp;simp only[iR] at h ⊢;obtain⟨v,r,e,h0,h1,h2⟩:=h;exact⟨v,r,e,h0,zQ p v hp h1,ED ps r hs h2⟩
   cases hs
theorem EF {N N':Nat→Prop}{w w':World}:∀(ps:List PV) (vs:List Value),EG ps=true→dX N w ps vs→dX N' w' ps vs
 |[],vs,_,h=>by simpa only[dX] using h
 | p::ps,vs,hs,h=>by
   simp only[EG] at hs;split at hs
   ·rename_i hp;simp only[dX] at h ⊢;obtain⟨v,r,e,h1,h2⟩:=h;exact⟨v,r,e,zQ p v hp h1,EF ps r hs h2⟩
   cases hs
end
theorem ME (g:bB c R s a w){H:List (Nat×aA)}(hH:∀b box,lk H b=some box→lk s.hp b=some box){fv:AV}{args:List AV}{K:AV→List (Nat×aA)→Prop}(h:I8 P H (fv::args) K)
  {u:Value} {us:List Value} (hf:ai (aT c R s.hp) w s.hp R fv u) (hv:FL (ai (aT c R s.hp) w s.hp R) args us) :
  ∃f first aM,u=.func (.func f) first aM∧Enters P f∧Calls P f (first++us.toArray++aM) w fun e w'=>∃v z ws,e=.returned v∧K z ws∧bB c R (s.app ws) a w'∧ai (aT c R (ws++s.hp)) w' (ws++s.hp) R z v:=by
 unfold I8 at h;split at h;rotate_left;cases h
 rename_i f first aM ak9 heq
 simp only[List.cons.injEq] at heq;obtain⟨rfl,rfl⟩:=heq;split at h;rotate_left;cases h
 rename_i ps hps;obtain⟨r,hpc,h⟩:=h;simp only[ai,bE] at hf;obtain⟨fs,cs,rfl,hf1,hf2⟩:=hf;refine⟨f,fs,cs,rfl,hpc.1,?_⟩;let F:Nat→Prop:=fun r=>aT c R s.hp r∧¬∃b,b∈dY args∧aI R b r (lk s.hp b)
 have hFN:∀r,F r→aT c R s.hp r:=fun r h=>h.1
 have qL:dX F w ps us:=by
  refine iF g hH hFN args ps us (fun b hb r ho hF=>hF.2 ⟨b,hb,ho⟩) hps ?_;rw[eO];exact hv
 have hargs:dX F w (first++(ps++aM)) (fs++us.toArray++cs).toList:=by
  rw[jf] at qL hf1 hf2 ⊢;have mono:∀{l:List PV} {m:List Value},FL (bE (aT c R s.hp) w) l m→FL (bE F w) l m:=by
   intro l;induction l with
   |nil=>intro m h;exact h
   |cons x l ih=>intro m h;obtain⟨v,r,e,h1,h2⟩:=h;exact⟨v,r,e,dw (fun r _ h=>hFN r h) (fun _ _ _=>rfl) _ _ h1,ih h2⟩
  have e:(fs++us.toArray++cs).toList=fs.toList++(us++cs.toList):=by simp
  rw[e];exact (mono hf1).app (qL.app (mono hf2))
 refine (hpc.2 F w _ (fun r h=>g.Nlt h.1) hargs).mono ?_;rintro e w' ⟨v,r',rfl,rfl,hr,hsame⟩
 have g2:=g.grow hsame;split at h
 ·rename_i hs;refine⟨v,_,[],rfl,h,g2,?_⟩;simp only[ai];exact zQ _ _ hs hr
 split at h
 ·rename_i fz hfz;obtain⟨g3,m1,n1,o1⟩:=jT g2 hH _ _ hfz;refine⟨v,_,fz,rfl,h,g3,?_⟩;simp only[ai];refine dw ?_ (fun _ _ _=>rfl) _ _ hr;intro r _ hN;exact⟨n1 r hN,fun⟨b,hb,ho⟩=>o1 b (.inr hb) r ho hN⟩
 exact h.elim
end
abbrev Ren:=List (Nat×(Nat×Nat))
def jg (ρ:Ren)(b:Nat):Nat:=
 match lk ρ b with
 | some p=>match p with
   |(x,_)=>x
 |none=>b+2000000000
def DV (ρ:Ren)(b:Nat):Nat:=
 match lk ρ b with
 | some p=>match p with
   |(_,d)=>d
 |none=>0
section
variable (ρ:Ren)
mutual
def lU:AV→AV
 |.pv p=>.pv p
 |.agg cs=>.agg (iW cs)
 |.dn cs=>.dn (iW cs)
 |.ptr b off=>.ptr (jg ρ b) off
 |.bn b ver i off=>.bn (jg ρ b) (ver+DV ρ b) i off
 |.aB b ver=>.aB (jg ρ b) (ver+DV ρ b)
 |.sub b ver st lo hi=>.sub (jg ρ b) (ver+DV ρ b) st lo hi
 |.fn f first aM=>.fn f (iW first) (iW aM)
def iW:List AV→List AV
 |[]=>[]
 |v::r=>lU v::iW r
end
def fM (b:Nat):aA→aA
 |.var cells=>.var (iW ρ cells)
 |.sD cells=>.sD cells
 |.arr e ver st rows=>.arr e (ver+DV ρ b) st rows
 |.kE ver st rows=>.kE (ver+DV ρ b) st rows
 |.tr y ver rest st=>.tr y (ver+DV ρ b) rest st
 |.dN e ver st pre row post=>.dN e (ver+DV ρ b) st pre (iW ρ row) post
 |.mp kk kv es=>.mp kk kv es
 |.fP e ver st j ed sd pre row post=>.fP e (ver+DV ρ b) st j ed sd pre (iW ρ row) post
end
theorem xk (ρ:Ren):∀(vs:List AV),(iW ρ vs).length=vs.length
 |[]=>rfl
 |v::r=>by simp[iW,xk ρ r]
theorem aev (ρ:Ren)(vs:List AV):dJ (iW ρ vs)=dJ vs:=zG (xk ρ vs)
theorem BI {R R':Real}{b b' n:Nat}(h1:R'.blk b'=R.blk b)(h2:R'.nil b'=R.nil b)(h3:R'.cap b'=R.cap b):bY R' b' n=bY R b n:=by
 simp only[bY,h1,h2,h3]
section
variable {ρ:Ren}{N:Nat→Prop}{w:World}{l9 hp:List (Nat×aA)}{R0 R:Real}
variable (h:∀b box,lk l9 b=some box→lk hp (jg ρ b)=some (fM ρ b box)∧R.blk (jg ρ b)=R0.blk b∧R.nil (jg ρ b)=R0.nil b∧R.cap (jg ρ b)=R0.cap b)
include h
theorem QO {b off:Nat}{x:Value}(hx:aX R0 b off x (lk l9 b)):aX R (jg ρ b) off x (lk hp (jg ρ b)):=by
 cases hb:lk l9 b with
 |none=>rw[hb] at hx;exact hx.elim
 | some box=>
   obtain⟨e,e1,e2,e3⟩:=h b box hb;rw[hb] at hx;rw[e];cases box<;>simp only[aX,fM,e1] at hx ⊢ <;> exact hx
theorem Ji {b ver:Nat}{x:Value}(hx:aS R0 b ver x (lk l9 b)):aS R (jg ρ b) (ver+DV ρ b) x (lk hp (jg ρ b)):=by
 cases hb:lk l9 b with
 |none=>rw[hb] at hx;exact hx.elim
 | some box=>
   obtain⟨e,e1,e2,e3⟩:=h b box hb;rw[hb] at hx;rw[e];cases box<;>simp only[aS,fM,aev,BI e1 e2 e3] at hx ⊢ <;> first
    |exact hx
    |exact⟨Nat.zero_le _,hx.2.1,hx.2.2⟩
    |exact⟨by omega,hx.2.1,fun he=>hx.2.2 (by omega)⟩
theorem U4 {b ver i off:Nat}{x:Value}(hx:aZ R0 b ver i off x (lk l9 b)):aZ R (jg ρ b) (ver+DV ρ b) i off x (lk hp (jg ρ b)):=by
 cases hb:lk l9 b with
 |none=>rw[hb] at hx;exact hx.elim
 | some box=>
   obtain⟨e,e1,e2,e3⟩:=h b box hb;rw[hb] at hx;rw[e];cases box<;>simp only[aZ,fM,e1,e2] at hx ⊢ <;> first
    |exact hx
    |exact⟨Nat.zero_le _,hx.2.1,hx.2.2⟩
    |exact⟨by omega,hx.2.1,fun he=>hx.2.2 (by omega)⟩
mutual
theorem KN:∀(v:AV) (x:Value),ai N w l9 R0 v x→ai N w hp R (lU ρ v) x
 |.pv p,x=>by simp only[ai,lU];exact id
 |.agg cs,x=>by simp only[ai,lU];rintro⟨vs,a,b⟩;exact⟨vs,a,vH cs _ b⟩
 |.dn cs,x=>by simp only[ai,lU];rintro⟨vs,a,b⟩;exact⟨vs,a,Ab cs _ b⟩
 |.ptr b off,x=>by simp only[ai,lU];exact QO h
 |.aB b ver,x=>by simp only[ai,lU];exact Ji h
 |.sub b ver st lo hi,x=>by simp only[ai,lU];rintro⟨u,a,c⟩;exact⟨u,Ji h a,c⟩
 |.bn b ver i off,x=>by simp only[ai,lU];exact U4 h
 | .fn f first aM,x=>by
   simp only[ai,lU];rintro⟨fs,cs,a,b,c⟩;exact⟨fs,cs,a,Ab _ _ b,Ab _ _ c⟩
theorem Ab:∀(vs:List AV) (xs:List Value),bT N w l9 R0 vs xs→bT N w hp R (iW ρ vs) xs
 |[],xs=>by simp only[bT,iW];exact id
 |p::ps,xs=>by simp only[bT,iW];rintro⟨v,r,a,b,c⟩;exact⟨v,r,a,KN p v b,Ab ps r c⟩
theorem vH:∀(vs:List AV) (xs:List Value),bN N w l9 R0 vs xs→bN N w hp R (iW ρ vs) xs
 |[],xs=>by simp only[bN,iW];exact id
 |p::ps,xs=>by simp only[bN,iW];rintro⟨v,r,a,d,b,c⟩;exact⟨v,r,a,d,KN p v b,vH ps r c⟩
end
end
section
variable {ρ:Ren}{N:Nat→Prop}{w:World}{l9 hp:List (Nat×aA)}{R0 R:Real}
variable (h:∀b box,lk hp (jg ρ b)=some box→∃box0,lk l9 b=some box0∧box=fM ρ b box0∧R.blk (jg ρ b)=R0.blk b∧R.nil (jg ρ b)=R0.nil b∧R.cap (jg ρ b)=R0.cap b)
include h
theorem QR {b off:Nat}{x:Value}(hx:aX R (jg ρ b) off x (lk hp (jg ρ b))):aX R0 b off x (lk l9 b):=by
 cases hb:lk hp (jg ρ b) with
 |none=>rw[hb] at hx;exact hx.elim
 | some box=>
   obtain⟨box0,e,rfl,e1,e2,e3⟩:=h b box hb;rw[hb] at hx;rw[e];cases box0<;>simp only[aX,fM,e1] at hx ⊢ <;> exact hx
theorem Jj {b ver:Nat}{x:Value}(hx:aS R (jg ρ b) (ver+DV ρ b) x (lk hp (jg ρ b))):aS R0 b ver x (lk l9 b):=by
 cases hb:lk hp (jg ρ b) with
 |none=>rw[hb] at hx;exact hx.elim
 | some box=>
   obtain⟨box0,e,rfl,e1,e2,e3⟩:=h b box hb;rw[hb] at hx;rw[e];cases box0<;>simp only[aS,fM,aev,BI e1 e2 e3] at hx ⊢ <;> first
    |exact hx
    |exact⟨Nat.zero_le _,hx.2.1,hx.2.2⟩
    |exact⟨by omega,hx.2.1,fun he=>hx.2.2 (by omega)⟩
theorem U5 {b ver i off:Nat}{x:Value}(hx:aZ R (jg ρ b) (ver+DV ρ b) i off x (lk hp (jg ρ b))):aZ R0 b ver i off x (lk l9 b):=by
 cases hb:lk hp (jg ρ b) with
 |none=>rw[hb] at hx;exact hx.elim
 | some box=>
   obtain⟨box0,e,rfl,e1,e2,e3⟩:=h b box hb;rw[hb] at hx;rw[e];cases box0<;>simp only[aZ,fM,e1,e2] at hx ⊢ <;> first
    |exact hx
    |exact⟨Nat.zero_le _,hx.2.1,hx.2.2⟩
    |exact⟨by omega,hx.2.1,fun he=>hx.2.2 (by omega)⟩
mutual
theorem Td:∀(v:AV) (x:Value),ai N w hp R (lU ρ v) x→ai N w l9 R0 v x
 |.pv p,x=>by simp only[ai,lU];exact id
 |.agg cs,x=>by simp only[ai,lU];rintro⟨vs,a,b⟩;exact⟨vs,a,Nf cs _ b⟩
 |.dn cs,x=>by simp only[ai,lU];rintro⟨vs,a,b⟩;exact⟨vs,a,Ac cs _ b⟩
 |.ptr b off,x=>by simp only[ai,lU];exact QR h
 |.aB b ver,x=>by simp only[ai,lU];exact Jj h
 |.sub b ver st lo hi,x=>by simp only[ai,lU];rintro⟨u,a,c⟩;exact⟨u,Jj h a,c⟩
 |.bn b ver i off,x=>by simp only[ai,lU];exact U5 h
 | .fn f first aM,x=>by
   simp only[ai,lU];rintro⟨fs,cs,a,b,c⟩;exact⟨fs,cs,a,Ac _ _ b,Ac _ _ c⟩
theorem Ac:∀(vs:List AV) (xs:List Value),bT N w hp R (iW ρ vs) xs→bT N w l9 R0 vs xs
 |[],xs=>by simp only[bT,iW];exact id
 |p::ps,xs=>by simp only[bT,iW];rintro⟨v,r,a,b,c⟩;exact⟨v,r,a,Td p v b,Ac ps r c⟩
theorem Nf:∀(vs:List AV) (xs:List Value),bN N w hp R (iW ρ vs) xs→bN N w l9 R0 vs xs
 |[],xs=>by simp only[bN,iW];exact id
 |p::ps,xs=>by simp only[bN,iW];rintro⟨v,r,a,d,b,c⟩;exact⟨v,r,a,d,Td p v b,Nf ps r c⟩
end
end
structure Hq (c:Ctx)(R:Real)(hp:List (Nat×aA))(w:World):Prop where
 boxes:∀b box,lk hp b=some box→eB (aT c R hp) w hp R b box
 inj:∀b b' r,aI R b r (lk hp b)→aI R b' r (lk hp b')→b=b'
 free:∀r,owned R hp r→¬c.F r
 jE:nI c.O c.w w
 iL:∀r,owned R hp r→c.O r∨c.w.heap.size≤r
 kept:∀v x,c.K v x→ai (aT c R hp) w hp R v x
 fixed:uz c.fix (owned R hp) w
 lo:R.Y.n0=c.n0∧c.n0.1≤c.lo∧c.lo≤w.heap.size
theorem bB.hap {c:Ctx}{R:Real}{s:AS}{a:Act}{w:World}(g:bB c R s a w):Hq c R s.hp w:=
 ⟨g.boxes,g.inj,g.free,g.jE,g.iL,g.kept,g.fixed,g.lo⟩
theorem Hq.Xx {c:Ctx}{R:Real}{hp:List (Nat×aA)}{w:World}(h:Hq c R hp w){tm:List (Nat×AV)}{nx:Nat}{a:Act}
  (hs:∀t v,lk tm t=some v→∃x,a.tmps[t]? = some x∧ai (aT c R hp) w hp R v x) (hz:a.tmps.size=c.n) (hd:∃Ds,Marks c.lo (owned R hp) w a.defers Ds):bB c R ⟨tm,nx,hp⟩ a w:=
 ⟨hs,hz,h.lo,hd,h.fixed,h.boxes,h.inj,h.free,h.jE,h.iL,h.kept⟩
inductive Src where
 |old (b d:Nat)
 |nil
abbrev y7:=List (Nat×Src)
def XT (v:AV):Option (List AV):=
 match v with
 |.agg cs=>some cs
 |.pv (.agg ps)=>some (ps.map .pv)
 |_=>none
def XU (v:AV):Option (List AV):=
 match v with
 |.dn cs=>some cs
 |.pv (.dn ps)=>some (ps.map .pv)
 |_=>none
def QS (v:AV):Option (Fn×List AV×List AV):=
 match v with
 |.fn f a c=>some (f,a,c)
 |.pv (.fn f a c)=>some (f,a.map .pv,c.map .pv)
 |_=>none
mutual
def p9:PV→PV→Prop
 |.junk,_=>True
 | .sc v,q=>match v with
   | .int k b=>match q with
     |.sc (.int j a)=>j=k∧a=b
     |_=>False
   | .bool b=>match q with
     |.sc (.bool a)=>a=b
     |_=>False
   |v=>q=.sc v
 | .sl nn st rows,q=>match q with
   |.sl nn' st' aP=>(nn=true→nn'=true)∧st'=st∧jh rows aP
   |.sc (.slice none 0 0)=>nn=false∧rows=[]
   |_=>False
 | .agg ps,q=>match q with
   |.agg qs=>jA ps qs
   |_=>False
 | .dn ps,q=>match q with
   |.dn qs=>jA ps qs
   |_=>False
 |.bJ row off,q=>q=.bJ row off
 |.fn f a b,q=>q=.fn f a b
 |.P8 st rows,q=>q=.P8 st rows
def jA:List PV→List PV→Prop
 | [],qs=>match qs with
   |[]=>True
   |_=>False
 | p::ps,qs=>match qs with
   |q::qs=>p9 p q∧jA ps qs
   |[]=>False
def jh:List (List PV)→List (List PV)→Prop
 | [],qs=>match qs with
   |[]=>True
   |_=>False
 | p::ps,qs=>match qs with
   |q::qs=>jA p q∧jh ps qs
   |[]=>False
end
abbrev Te (q p:PV):Prop:=p9 p q
abbrev BJ (q p:List PV):Prop:=jA p q
def leP (v:AV)(p:PV):Prop:=
 match p with
 |.junk=>True
 | p=>match v with
   |.pv q=>Te q p
   |_=>False
section
variable (ρ:y7)
mutual
def le:AV→AV→Prop
 |v,.pv p=>leP v p
 | v,.ptr b off=>match lk ρ b with
   |some (.old x _)=>v=.ptr x off
   |_=>False
 | v,.aB b ver=>match lk ρ b with
   |some (.old x d)=>v=.aB x (ver+d)
   |some .nil=>ver=0∧v=.pv (.sc (.slice none 0 0))
   |none=>False
 | v,.sub b ver st lo hi=>match lk ρ b with
   |some (.old x d)=>v=.sub x (ver+d) st lo hi
   |_=>False
 | v,.bn b ver i off=>match Nat.beq b 999 with
   |true=>False
   | false=>match lk ρ b with
     |some (.old x d)=>v=.bn x (ver+d) i off
     |_=>False
 | v,.agg cs=>match XT v with
   |some us=>Ih us cs
   |none=>False
 | v,.dn cs=>match XU v with
   |some us=>Ih us cs
   |none=>False
 | v,.fn f a c=>match QS v with
   |some (g,a',c')=>g=f∧Ih a' a∧Ih c' c
   |none=>False
def Ih:List AV→List AV→Prop
 |[],[]=>True
 |u::us,v::vs=>le u v∧Ih us vs
 |_,_=>False
end
end
def yA (ρ:y7)(d:Nat)(o:Option aA)(box:aA):Prop:=
 match box with
 | .var cells=>match o with
   |some (.var cs)=>Ih ρ cs cells
   |_=>False
 | .sD cells=>match o with
   |some (.sD cs)=>cs=cells
   |_=>False
 | .arr e ver st rows=>match o with
   |some (.arr e' fe st' aP)=>e'=e∧fe=ver+d∧st'=st∧jh rows aP
   |_=>False
 | .kE ver st rows=>match o with
   |some (.kE fe st' aP)=>fe=ver+d∧st'=st∧jh rows aP
   |some (.arr _ fe st' aP)=>False
   |_=>False
 | .tr y _ rest st=>match o with
   |some (.tr y' _ rest' st')=>y'=y∧rest'=rest∧st'=st
   |_=>False
 | .dN e ver st pre row post=>match o with
   |some (.dN e' fe st' pre' row' post')=>e'=e∧fe=ver+d∧st'=st∧jh pre pre'∧Ih ρ row' row∧jh post post'
   |_=>False
 | .mp kk kv es=>match o with
   |some (.mp kk' XV es')=>kk'=kk∧XV=kv∧es'=es
   |_=>False
 | .fP e ver st j ed sd pre row post=>match o with
   |some (.fP e' fe st' j' ed' sd' pre' row' post')=>(e'=e∧fe=ver+d∧st'=st∧j'=j∧ed'=ed∧sd'=sd)∧pre'=pre∧Ih ρ row' row∧post'=post
   |_=>False
def rA (box:aA):Prop:=
 match box with
 |.arr _ _ _ rows=>rows=[]
 |.fP _ _ _ _ _ _ pre row post=>pre=[]∧row=[]∧post=[]
 |_=>False
structure XW (ρ:y7)(hp hp':List (Nat×aA)):Prop where
 box:∀b box,lk hp' b=some box→match lk ρ b with
  |some (.old x d)=>yA ρ d (lk hp x) box
  |some .nil=>rA box
  |none=>False
 dom:∀b,(∃s,lk ρ b=some s)→∃box,lk hp' b=some box
 inj:∀b b' x d d',lk ρ b=some (.old x d)→lk ρ b'=some (.old x d')→b=b'
 low:∀b,b<1000→(∃box,lk hp b=some box)→lk ρ b=some (.old b 0)
 agS:∀b a0 a1 a2 a3,lk hp' b=some (.tr a0 a1 a2 a3)→b=999
def oh (ρ:y7)(R:Real):Real where
 blk b:=match lk ρ b with
  |some (.old x _)=>R.blk x
  |_=>0
 nil b:=match lk ρ b with
  |some (.old x _)=>R.nil x
  |_=>true
 cap b:=match lk ρ b with
  |some (.old x _)=>R.cap x
  |_=>(0,[])
 Y:=R.Y
theorem vJ {ρ:y7}{R:Real}{b x d:Nat}(h:lk ρ b=some (.old x d)):(oh ρ R).blk b=R.blk x∧(oh ρ R).nil b=R.nil x∧(oh ρ R).cap b=R.cap x:=by
 simp[oh,h]
theorem rC {ρ:y7}{R:Real}{b:Nat}(h:lk ρ b=some .nil):(oh ρ R).nil b=true:=by
 simp[oh,h]
theorem BK {ρ:y7}{R:Real}{b:Nat}(h:lk ρ b=some .nil):(oh ρ R).cap b=(0,[]):=by
 simp[oh,h]
theorem Ej {ρ:y7}:∀(us vs:List AV),Ih ρ us vs→us.length=vs.length
 |[],[],_=>rfl
 |[],_::_,h=>by simp only[Ih] at h
 |_::_,[],h=>by simp only[Ih] at h
 |u::us,v::vs,h=>by simp only[Ih] at h;simp[Ej us vs h.2]
theorem tq {ρ:y7}{R:Real}{b x d n:Nat}(h:lk ρ b=some (.old x d)):bY (oh ρ R) b n=bY R x n:=by
 obtain⟨h1,h2,h3⟩:=vJ (R:=R) h;simp only[bY,h1,h2,h3]
theorem oI {N:Nat→Prop}{w:World}{hp:List (Nat×aA)}{R:Real}:∀(ps:List PV) (xs:List Value),dX N w ps xs→bT N w hp R (ps.map .pv) xs
 |[],xs,h=>by simpa only[List.map,bT,dX] using h
 | p::ps,xs,h=>by
   simp only[dX] at h;obtain⟨v,r,e,h1,h2⟩:=h;simp only[List.map_cons,bT,ai];exact⟨v,r,e,h1,oI ps r h2⟩
theorem Jk {N:Nat→Prop}{w:World}{hp:List (Nat×aA)}{R:Real}:∀(ps:List PV) (xs:List Value),iR N w ps xs→bN N w hp R (ps.map .pv) xs
 |[],xs,h=>by simpa only[List.map,bN,iR] using h
 | p::ps,xs,h=>by
   simp only[iR] at h;obtain⟨v,r,e,h0,h1,h2⟩:=h;simp only[List.map_cons,bN,ai];exact⟨v,r,e,h0,h1,Jk ps r h2⟩
section
mutual
theorem Ng:∀(p:PV),p9 p p
 |.junk=>by unfold p9;trivial
 |.sc v=>by unfold p9;cases v<;>simp
 |.sl nn st rows=>by unfold p9;exact⟨id,rfl,bP rows⟩
 |.agg ps=>by unfold p9;exact lH ps
 |.dn ps=>by unfold p9;exact lH ps
 |.bJ _ _=>by unfold p9;rfl
 |.fn _ _ _=>by unfold p9;rfl
 |.P8 _ _=>by unfold p9;rfl
theorem lH:∀(ps:List PV),jA ps ps
 |[]=>by unfold jA;trivial
 |p::ps=>by unfold jA;exact⟨Ng p,lH ps⟩
theorem bP:∀(ps:List (List PV)),jh ps ps
 |[]=>by unfold jh;trivial
 |p::ps=>by unfold jh;exact⟨lH p,bP ps⟩
end
theorem fA {a b:List (List PV)}(h:b=a):jh a b:=h▸bP _
theorem Nh:∀(ps qs:List PV),jA ps qs→qs.length=ps.length
 |[],[],_=>rfl
 |[],_::_,h=>by unfold jA at h;exact h.elim
 |_::_,[],h=>by unfold jA at h;exact h.elim
 | p::ps,q::qs,h=>by
   unfold jA at h;simp[Nh ps qs h.2]
theorem ji:∀(ps qs:List (List PV)),jh ps qs→qs.length=ps.length
 |[],[],_=>rfl
 |[],_::_,h=>by unfold jh at h;exact h.elim
 |_::_,[],h=>by unfold jh at h;exact h.elim
 | p::ps,q::qs,h=>by
   unfold jh at h;simp[ji ps qs h.2]
theorem nL {a b c d:List (List PV)}(h:jh a b)(h':jh c d):jh (a++c) (b++d):=by
 induction a generalizing b with
 | nil=>
   cases b with
   |nil=>exact h'
   |cons _ _=>unfold jh at h;exact h.elim
 | cons x a ih=>
   cases b with
   |nil=>unfold jh at h;exact h.elim
   | cons y b=>
     rw[List.cons_append,List.cons_append];unfold jh at h ⊢;exact⟨h.1,ih h.2⟩
end
section
variable {N N':Nat→Prop}{w:World}(hN:∀r,N' r→N r)
include hN
mutual
theorem oJ:∀(p q:PV) (x:Value),Te q p→bE N w q x→bE N' w p x
 |.junk,q,x,h,hx=>by simp only[bE]
 | .sc v,q,x,h,hx=>by
   unfold Te p9 at h;split at h
   ·split at h
    ·obtain⟨rfl,rfl⟩:=h;simpa only[bE] using hx
    exact h.elim
   ·split at h
    ·subst h;simpa only[bE] using hx
    exact h.elim
   subst h;simpa only[bE] using hx
 | .sl nn st rows,q,x,h,hx=>by
   unfold Te p9 at h;split at h
   ·obtain⟨h1,rfl,h2⟩:=h;simp only[bE] at hx ⊢;obtain⟨p,len,cap,a1,a2,a3,a4,a5⟩:=hx;have hl:=ji _ _ h2;refine⟨p,len,cap,a1,by omega,a3,fun hp=>⟨Bool.eq_false_iff.2 fun hnn=>?_,(a4 hp).2⟩,fun a ha=>?_⟩
    ·have:=(a4 hp).1;rw[h1 hnn] at this;cases this
    rcases a5 a ha with b2|⟨b1,b2,cur,e,fr,b3,b4⟩
    ·subst b2;exact .inl (List.eq_nil_of_length_eq_zero hl.symm)
    exact .inr ⟨b1,fun h=>b2 (hN _ h),cur,e,fr,b3,o6 rows _ _ _ h2 b4⟩
   ·obtain⟨rfl,rfl⟩:=h;simp only[bE] at hx ⊢;subst hx;exact⟨none,0,0,rfl,rfl,⟨Nat.le_refl _,by omega⟩,by simp,fun a ha=>(by cases ha)⟩
   exact h.elim
 | .agg ps,q,x,h,hx=>by
   unfold Te p9 at h;split at h
   ·simp only[bE] at hx ⊢;obtain⟨vs,e,h1⟩:=hx;exact⟨vs,e,Da ps _ _ h h1⟩
   exact h.elim
 | .dn ps,q,x,h,hx=>by
   unfold Te p9 at h;split at h
   ·simp only[bE] at hx ⊢;obtain⟨vs,e,h1⟩:=hx;exact⟨vs,e,qf ps _ _ h h1⟩
   exact h.elim
 | .P8 st rows,q,x,h,hx=>by
   unfold Te p9 at h;subst h;exact dw (fun r _ h=>hN r h) (fun _ _ _=>rfl) _ _ hx
 | .bJ row off,q,x,h,hx=>by
   unfold Te p9 at h;subst h;exact dw (fun r _ h=>hN r h) (fun _ _ _=>rfl) _ _ hx
 | .fn f a b,q,x,h,hx=>by
   unfold Te p9 at h;subst h;exact dw (fun r _ h=>hN r h) (fun _ _ _=>rfl) _ _ hx
theorem qf:∀(ps qs:List PV) (xs:List Value),BJ qs ps→dX N w qs xs→dX N' w ps xs
 |[],[],xs,h,hx=>by simpa only[dX] using hx
 |[],_::_,xs,h,hx=>by unfold BJ jA at h;exact h.elim
 |_::_,[],xs,h,hx=>by unfold BJ jA at h;exact h.elim
 | p::ps,q::qs,xs,h,hx=>by
   unfold BJ jA at h;simp only[dX] at hx ⊢;obtain⟨x,r,e,h1,h2⟩:=hx;exact⟨x,r,e,oJ p q x h.1 h1,qf ps qs r h.2 h2⟩
theorem Da:∀(ps qs:List PV) (xs:List Value),BJ qs ps→iR N w qs xs→iR N' w ps xs
 |[],[],xs,h,hx=>by simpa only[iR] using hx
 |[],_::_,xs,h,hx=>by unfold BJ jA at h;exact h.elim
 |_::_,[],xs,h,hx=>by unfold BJ jA at h;exact h.elim
 | p::ps,q::qs,xs,h,hx=>by
   unfold BJ jA at h;simp only[iR] at hx ⊢;obtain⟨x,r,e,h0,h1,h2⟩:=hx;exact⟨x,r,e,h0,oJ p q x h.1 h1,Da ps qs r h.2 h2⟩
theorem Db:∀(ps qs:List PV) (xs:List Value),BJ qs ps→gq N w qs xs→gq N' w ps xs
 |[],[],xs,h,hx=>by simp only[gq]
 |[],_::_,xs,h,hx=>by unfold BJ jA at h;exact h.elim
 |_::_,[],xs,h,hx=>by unfold BJ jA at h;exact h.elim
 | p::ps,q::qs,xs,h,hx=>by
   unfold BJ jA at h;simp only[gq] at hx ⊢;obtain⟨x,r,e,h0,h1,h2⟩:=hx;exact⟨x,r,e,h0,oJ p q x h.1 h1,Db ps qs r h.2 h2⟩
theorem o6:∀(ps qs:List (List PV)) (st:Nat) (xs:List Value),jh ps qs→bK N w st qs xs→bK N' w st ps xs
 |[],[],st,xs,h,hx=>by simp only[bK]
 |[],_::_,st,xs,h,hx=>by unfold jh at h;exact h.elim
 |_::_,[],st,xs,h,hx=>by unfold jh at h;exact h.elim
 | p::ps,q::qs,st,xs,h,hx=>by
   unfold jh at h;simp only[bK] at hx ⊢;obtain⟨h1,h2,h3⟩:=hx;exact⟨by rw[←Nh _ _ h.1];exact h1,Db p q xs h.1 h2,o6 ps qs st _ h.2 h3⟩
end
end
theorem U6 {N N':Nat→Prop}{w:World}{hp hp':List (Nat×aA)}{R R':Real}(hN:∀r,N' r→N r){v:AV}{p:PV}(h:leP v p){x:Value}(hx:ai N w hp R v x):bE N' w p x:=by
 unfold leP at h;split at h
 ·simp only[bE]
 split at h
 ·simp only[ai] at hx;exact oJ hN _ _ _ h hx
 exact h.elim
section
variable {ρ:y7}{c:Ctx}{R:Real}{hp hp':List (Nat×aA)}{w:World}
theorem adv (H:XW ρ hp hp'){b x d off:Nat}(hb:lk ρ b=some (.old x d)){v:Value}(h:aX R x off v (lk hp x)):aX (oh ρ R) b off v (lk hp' b):=by
 obtain⟨box,uP⟩:=H.dom b ⟨_,hb⟩;have hl:=H.box b box uP;rw[hb] at hl;simp only at hl;rw[uP];obtain⟨e1,e2,e3⟩:=vJ (R:=R) hb;cases ho:lk hp x with
 |none=>rw[ho] at h;exact h.elim
 | some o=>
   rw[ho] at h hl;cases o<;>simp only[aX] at h<;>cases box<;>simp only[yA] at hl<;>simp only[aX,e1]<;>exact h
theorem aew (H:XW ρ hp hp'){b x d ver:Nat}(hb:lk ρ b=some (.old x d)){v:Value}(h:aS R x (ver+d) v (lk hp x)):aS (oh ρ R) b ver v (lk hp' b):=by
 obtain⟨box,uP⟩:=H.dom b ⟨_,hb⟩;have hl:=H.box b box uP;rw[hb] at hl;simp only at hl;rw[uP];cases ho:lk hp x with
 |none=>rw[ho] at h;exact h.elim
 | some o=>
   rw[ho] at h hl;cases o<;>simp only[aS] at h<;>cases box<;>simp only[yA] at hl
   ·obtain⟨_,e2,e3,e4⟩:=hl;simp only[aS,tq hb,←ji _ _ e4];exact⟨by omega,h.2.1,fun e=>h.2.2 (by omega)⟩
   ·obtain⟨e2,e3,e4⟩:=hl;simp only[aS,tq hb,←ji _ _ e4];exact⟨by omega,h.2.1,fun e=>h.2.2 (by omega)⟩
   ·obtain⟨_,e2,e3,e4,_,e5⟩:=hl;simp only[aS,tq hb,←ji _ _ e4,←ji _ _ e5];exact⟨by omega,h.2.1,fun e=>h.2.2 (by omega)⟩
   obtain⟨⟨_,e2,_⟩,rfl,e4,rfl⟩:=hl;simp only[aS,tq hb,←zG (Ej _ _ e4)];exact⟨by omega,h.2.1,fun e=>h.2.2 (by omega)⟩
theorem agT (H:XW ρ hp hp'){b x d ver i off:Nat}(h99:Nat.beq b 999=false)(hb:lk ρ b=some (.old x d)){v:Value}(h:aZ R x (ver+d) i off v (lk hp x)):aZ (oh ρ R) b ver i off v (lk hp' b):=by
 obtain⟨box,uP⟩:=H.dom b ⟨_,hb⟩;have hl:=H.box b box uP;rw[hb] at hl;simp only at hl;rw[uP];obtain⟨e1,e2,e3⟩:=vJ (R:=R) hb;cases ho:lk hp x with
 |none=>rw[ho] at h;exact h.elim
 | some o=>
   rw[ho] at h hl;cases o<;>simp only[aZ] at h<;>cases box<;>simp only[yA] at hl
   ·obtain⟨_,f2,f3,f4⟩:=hl;subst f3;simp only[aZ,e1,e2];exact⟨by omega,h.2.1,fun e=>h.2.2 (by omega)⟩
   ·obtain⟨f2,f3,f4⟩:=hl;subst f3;simp only[aZ,e1,e2];exact⟨by omega,h.2.1,fun e=>h.2.2 (by omega)⟩
   ·exfalso;have:=H.agS b _ _ _ _ uP;subst this;cases h99
   ·obtain⟨_,f2,f3,f4⟩:=hl;subst f3;simp only[aZ,e1,e2];exact⟨by omega,h.2.1,fun e=>h.2.2 (by omega)⟩
   ·simp only[aZ,e1];exact⟨Nat.zero_le _,h.2.1,h.2.2⟩
   obtain⟨⟨_,f2,f3,f4⟩,_⟩:=hl;subst f3;simp only[aZ,e1,e2];exact⟨by omega,h.2.1,fun e=>h.2.2 (by omega)⟩
theorem E9 (H:XW ρ hp hp'){b r:Nat}(h:aI (oh ρ R) b r (lk hp' b)):∃x d,lk ρ b=some (.old x d)∧aI R x r (lk hp x):=by
 cases uP:lk hp' b with
 |none=>rw[uP] at h;exact h.elim
 | some box=>
   have hl:=H.box b box uP;rw[uP] at h;cases hb:lk ρ b with
   |none=>rw[hb] at hl;exact hl.elim
   | some s=>
     cases s with
     | nil=>
       rw[hb] at hl;cases box<;>simp only[rA] at hl
       ·simp only[aI,rC hb] at h;simp at h
       simp only[aI,rC hb,BK hb] at h;simp at h
     | old x d=>
       rw[hb] at hl;simp only at hl;refine⟨x,d,rfl,?_⟩;obtain⟨e1,e2,e3⟩:=vJ (R:=R) hb;cases ho:lk hp x with
       |none=>rw[ho] at hl;cases box<;>simp only[yA] at hl
       | some o=>
         rw[ho] at hl;cases o<;>cases box<;>simp only[yA] at hl<;>simp only[aI,e1,e2,e3] at h ⊢ <;> exact h
theorem leN (H:XW ρ hp hp'){r:Nat}(h:aT c (oh ρ R) hp' r):aT c R hp r:=by
 rcases h with h|⟨b,h⟩
 ·exact .inl h
 obtain⟨x,d,_,h⟩:=E9 H h;exact .inr ⟨x,h⟩
mutual
theorem Ad (H:XW ρ hp hp'):∀(v':AV) (v:AV) (x:Value),le ρ v v'→ai (aT c R hp) w hp R v x→ai (aT c (oh ρ R) hp') w hp' (oh ρ R) v' x
 | .pv p,v,x,h,hx=>by
   simp only[ai];simp only[le] at h;exact U6 (fun r h=>leN H h) (hp':=hp') (R':=R) h hx
 | .ptr b off,v,x,h,hx=>by
   simp only[le] at h;split at h;rotate_left;cases h
   rename_i y d hb;subst h;simp only[ai] at hx ⊢;exact adv H hb hx
 | .aB b ver,v,x,h,hx=>by
   simp only[le] at h;split at h
   ·rename_i y d hb;subst h;simp only[ai] at hx ⊢;exact aew H hb hx
   ·rename_i hb;obtain⟨rfl,rfl⟩:=h;simp only[ai,bE] at hx ⊢;subst hx;obtain⟨box,uP⟩:=H.dom b ⟨_,hb⟩;have hl:=H.box b box uP;rw[hb] at hl;rw[uP];cases box<;>simp only[rA] at hl
    ·subst hl;rename_i e fe st;simp only[aS,bY,rC hb];exact⟨Nat.zero_le _,rfl,fun _=>rfl⟩
    simp only[aS,bY,rC hb];exact⟨Nat.zero_le _,rfl,fun _=>rfl⟩
   exact h.elim
 | .sub b ver st lo hi,v,x,h,hx=>by
   simp only[le] at h;split at h;rotate_left;cases h
   rename_i y d hb;subst h;simp only[ai] at hx ⊢;obtain⟨u,a,cc⟩:=hx;exact⟨u,aew H hb a,cc⟩
 | .bn b ver i off,v,x,h,hx=>by
   simp only[le] at h;split at h
   ·exact h.elim
   rename_i h99;split at h;rotate_left;cases h
   rename_i y d hb;subst h;simp only[ai] at hx ⊢;exact agT H h99 hb hx
 | .agg cs,v,x,h,hx=>by
   simp only[le] at h;split at h;rotate_left;cases h
   rename_i us sJ;have:∃vs:Array Value,x=.agg vs∧bN (aT c R hp) w hp R us vs.toList:=by
    unfold XT at sJ;split at sJ
    ·simp only[Option.some.injEq] at sJ;subst sJ;simpa only[ai] using hx
    ·simp only[Option.some.injEq] at sJ;subst sJ;simp only[ai,bE] at hx;obtain⟨vs,e,h1⟩:=hx;exact⟨vs,e,Jk _ _ h1⟩
    cases sJ
   obtain⟨vs,e,h1⟩:=this;simp only[ai];exact⟨vs,e,o7 H cs us _ h h1⟩
 | .dn cs,v,x,h,hx=>by
   simp only[le] at h;split at h;rotate_left;cases h
   rename_i us sJ;have:∃vs:Array Value,x=.tuple vs∧bT (aT c R hp) w hp R us vs.toList:=by
    unfold XU at sJ;split at sJ
    ·simp only[Option.some.injEq] at sJ;subst sJ;simpa only[ai] using hx
    ·simp only[Option.some.injEq] at sJ;subst sJ;simp only[ai,bE] at hx;obtain⟨vs,e,h1⟩:=hx;exact⟨vs,e,oI _ _ h1⟩
    cases sJ
   obtain⟨vs,e,h1⟩:=this;simp only[ai];exact⟨vs,e,o8 H cs us _ h h1⟩
 | .fn f a cc,v,x,h,hx=>by
   simp only[le] at h;split at h;rotate_left;cases h
   rename_i g a' c' sJ;obtain⟨rfl,h1,h2⟩:=h;have:∃fs cs:Array Value,x=.func g fs cs∧bT (aT c R hp) w hp R a' fs.toList∧bT (aT c R hp) w hp R c' cs.toList:=by
    unfold QS at sJ;split at sJ
    ·simp only[Option.some.injEq,Prod.mk.injEq] at sJ;obtain⟨rfl,rfl,rfl⟩:=sJ;simpa only[ai] using hx
    ·simp only[Option.some.injEq,Prod.mk.injEq] at sJ;obtain⟨rfl,rfl,rfl⟩:=sJ;simp only[ai,bE] at hx;obtain⟨fs,cs,e,h3,h4⟩:=hx;exact⟨fs,cs,e,oI _ _ h3,oI _ _ h4⟩
    cases sJ
   obtain⟨fs,cs,e,h3,h4⟩:=this;simp only[ai];exact⟨fs,cs,e,o8 H a a' _ h1 h3,o8 H cc c' _ h2 h4⟩
theorem o8 (H:XW ρ hp hp'):∀(SL:List AV) (vs:List AV) (xs:List Value),Ih ρ vs SL→bT (aT c R hp) w hp R vs xs→bT (aT c (oh ρ R) hp') w hp' (oh ρ R) SL xs
 |[],[],xs,h,hx=>by simpa only[bT] using hx
 |[],_::_,xs,h,hx=>by simp only[Ih] at h
 |_::_,[],xs,h,hx=>by simp only[Ih] at h
 | v'::SL,v::vs,xs,h,hx=>by
   simp only[Ih] at h;simp only[bT] at hx ⊢;obtain⟨x,r,e,h1,h2⟩:=hx;exact⟨x,r,e,Ad H v' v x h.1 h1,o8 H SL vs r h.2 h2⟩
theorem o7 (H:XW ρ hp hp'):∀(SL:List AV) (vs:List AV) (xs:List Value),Ih ρ vs SL→bN (aT c R hp) w hp R vs xs→bN (aT c (oh ρ R) hp') w hp' (oh ρ R) SL xs
 |[],[],xs,h,hx=>by simpa only[bN] using hx
 |[],_::_,xs,h,hx=>by simp only[Ih] at h
 |_::_,[],xs,h,hx=>by simp only[Ih] at h
 | v'::SL,v::vs,xs,h,hx=>by
   simp only[Ih] at h;simp only[bN] at hx ⊢;obtain⟨x,r,e,h0,h1,h2⟩:=hx;exact⟨x,r,e,h0,Ad H v' v x h.1 h1,o7 H SL vs r h.2 h2⟩
end
theorem Hq.weaken (h:Hq c R hp w)(H:XW ρ hp hp'):Hq c (oh ρ R) hp' w:=by
 refine⟨fun b box hb=>?_,fun b b' r h1 h2=>?_,fun r ⟨b,hr⟩=>?_,h.jE,fun r ⟨b,hr⟩=>?_,fun v x hv=>?_,?_,h.lo⟩
 ·have hl:=H.box b box hb;cases hs:lk ρ b with
  |none=>rw[hs] at hl;exact hl.elim
  | some s=>
    rw[hs] at hl;cases s with
    | nil=>
      cases box<;>simp only[rA] at hl
      ·subst hl;refine⟨[],⟨?_,.inl ⟨?_,rfl⟩⟩,by simp only[bK]⟩
       ·simp
       simp[bY,rC hs]
      obtain⟨rfl,rfl,rfl⟩:=hl;refine⟨[],[],[],by rw[BK hs];rfl,⟨by simp[dJ],.inl ⟨by simp[bY,rC hs],by simp[dJ]⟩⟩,by simp only[dK],by simp[dJ],by simp only[dJ,Nat.zero_mul,List.take_zero,bN],by simp only[dK],?_⟩;unfold DL;rw[BK hs];exact⟨by simp,fun v r hv=>by simp at hv⟩
    | old x d=>
      simp only at hl;obtain⟨e1,e2,e3⟩:=vJ (R:=R) hs;cases ho:lk hp x with
      |none=>rw[ho] at hl;cases box<;>simp only[yA] at hl
      | some o=>
        have hr:=h.boxes x o ho;rw[ho] at hl;cases o<;>cases box<;>simp only[yA] at hl
        ·obtain⟨cur,e,a1,a2⟩:=hr;exact⟨cur,e,by rw[e1];exact a1,o7 H _ _ _ hl a2⟩
        ·subst hl;obtain⟨cur,e,fr,a1,a2,a3⟩:=hr;refine⟨cur,e,fr,by rw[e1];exact a1,by rw[e1];exact fun hn=>a2 (leN H hn),bX (fun r _ h=>leN H h) (fun _ _ _=>rfl) _ _ a3⟩
        ·obtain⟨rfl,_,rfl,hl⟩:=hl;obtain⟨xs,a1,a2⟩:=hr;refine⟨xs,?_,o6 (fun r h=>leN H h) _ _ _ _ hl a2⟩;rw[tq hs,←ji _ _ hl];exact a1
        ·obtain⟨_,rfl,hl⟩:=hl;simp only[eB,tq hs,←ji _ _ hl] at hr ⊢;exact oJ (fun r h=>leN H h) (.sl false _ _) (.sl false _ _) _ (by unfold Te p9;exact⟨id,rfl,hl⟩) hr
        ·obtain⟨rfl,rfl,rfl⟩:=hl;obtain⟨k0,kh,k1,k2,k3,k4⟩:=hr;refine⟨H.agS _ _ _ _ _ hb,kh,by rw[e2];exact k1,k2,k3,fun r hn=>k4 r (leN H hn)⟩
        ·obtain⟨rfl,_,rfl,hl,hl2,hl3⟩:=hl;obtain⟨xs,a1,a2,a3,a4,a5⟩:=hr;refine⟨xs,?_,o6 (fun r h=>leN H h) _ _ _ _ hl a2,by rw[←Ej _ _ hl2];exact a3,?_,?_⟩
         ·rw[tq hs,←ji _ _ hl,←ji _ _ hl3];exact a1
         ·rw[←ji _ _ hl];exact o7 H _ _ _ hl2 a4
         rw[←ji _ _ hl];exact o6 (fun r h=>leN H h) _ _ _ _ hl3 a5
        ·obtain⟨rfl,rfl,rfl⟩:=hl;obtain⟨cur,clock,a1,a2,a3⟩:=hr;exact⟨cur,clock,by rw[e1];exact a1,by rw[e2];exact a2,a3⟩
        obtain⟨⟨rfl,_,rfl,rfl,rfl,rfl⟩,rfl,hl2,rfl⟩:=hl;exact jI (fun r _ h=>leN H h) (fun _ _ _=>rfl) e1 e2 e3 (fun _ _=>rfl) (Ej _ _ hl2).symm (fun vs hv=>o7 H _ _ _ hl2 hv) hr
 ·obtain⟨x,d,a1,a2⟩:=E9 H h1;obtain⟨y,d',b1,b2⟩:=E9 H h2;have:=h.inj x y r a2 b2;subst this;exact H.inj _ _ _ _ _ a1 b1
 ·obtain⟨x,d,_,a2⟩:=E9 H hr;exact h.free r ⟨x,a2⟩
 ·obtain⟨x,d,_,a2⟩:=E9 H hr;exact h.iL r ⟨x,a2⟩
 ·have hk:=h.kept v x hv;have hlow:=c.hK v x hv;cases v with
  | ptr b off=>
    simp only[kg,Nat.blt_eq] at hlow;simp only[ai] at hk ⊢;have he:∃box,lk hp b=some box:=by
     cases hb:lk hp b with
     |none=>rw[hb] at hk;exact hk.elim
     |some box=>exact⟨box,rfl⟩
    exact adv H (H.low b hlow he) hk
  | aB b ver=>
    simp only[kg,Nat.blt_eq] at hlow;simp only[ai] at hk ⊢;have he:∃box,lk hp b=some box:=by
     cases hb:lk hp b with
     |none=>rw[hb] at hk;exact hk.elim
     |some box=>exact⟨box,rfl⟩
    exact aew H (d:=0) (H.low b hlow he) hk
  | bn b ver i off=>
    simp only[kg,Bool.and_eq_true,Nat.blt_eq,Bool.not_eq_true'] at hlow;obtain⟨hlow,h99⟩:=hlow;simp only[ai] at hk ⊢;have he:∃box,lk hp b=some box:=by
     cases hb:lk hp b with
     |none=>rw[hb] at hk;exact hk.elim
     |some box=>exact⟨box,rfl⟩
    exact agT H (d:=0) h99 (H.low b hlow he) hk
  |_=>simp[kg] at hlow
 exact h.fixed.kept (fun _ _ _=>rfl) fun r _ ⟨b,ho⟩=>let ⟨x,_,_,h2⟩:=E9 H ho;⟨x,h2⟩
end
def pairs:List AV→List AV→List (AV×AV)→List (AV×AV)
 |u::us,v::vs,l=>(u,v)::pairs us vs l
 |_,_,l=>l
def mt (hp hp':List (Nat×aA)):Nat→y7→List (AV×AV)→Option y7
 |_,ρ,[]=>some ρ
 |0,_,_::_=>none
 | n+1,ρ,(v,v')::l=>match v' with
   |.pv _=>mt hp hp' n ρ l
   | .ptr b _=>match lk ρ b with
     |some _=>mt hp hp' n ρ l
     | none=>match v with
       | .ptr x _=>match lk hp' b with
         | some (.var El)=>match lk hp x with
           |some (.var cs)=>mt hp hp' n ((b,.old x 0)::ρ) (pairs cs El l)
           |_=>none
         |some (.sD _)=>mt hp hp' n ((b,.old x 0)::ρ) l
         |_=>none
       |_=>none
   | .aB b ver=>match lk ρ b with
     |some _=>mt hp hp' n ρ l
     | none=>match v with
       | .aB x fe=>match lk hp' b with
         | some (.dN _ _ _ _ El _)=>match lk hp x with
           |some (.dN _ _ _ _ cs _)=>mt hp hp' n ((b,.old x (fe-ver))::ρ) (pairs cs El l)
           |_=>none
         | some (.fP _ _ _ _ _ _ _ El _)=>match lk hp x with
           |some (.fP _ _ _ _ _ _ _ cs _)=>mt hp hp' n ((b,.old x (fe-ver))::ρ) (pairs cs El l)
           |_=>none
         |_=>mt hp hp' n ((b,.old x (fe-ver))::ρ) l
       |.pv (.sc (.slice none 0 0))=>mt hp hp' n ((b,.nil)::ρ) l
       |_=>none
   | .sub b ver _ _ _=>match lk ρ b with
     |some _=>mt hp hp' n ρ l
     | none=>match v with
       |.sub x fe _ _ _=>mt hp hp' n ((b,.old x (fe-ver))::ρ) l
       |_=>none
   | .bn b ver _ _=>match lk ρ b with
     |some _=>mt hp hp' n ρ l
     | none=>match v with
       |.bn x fe _ _=>mt hp hp' n ((b,.old x (fe-ver))::ρ) l
       |_=>none
   | .agg cs=>match XT v with
     |some us=>mt hp hp' n ρ (pairs us cs l)
     |none=>none
   | .dn cs=>match XU v with
     |some us=>mt hp hp' n ρ (pairs us cs l)
     |none=>none
   | .fn _ a c=>match QS v with
     |some (_,a',c')=>mt hp hp' n ρ (pairs a' a (pairs c' c l))
     |none=>none
def Tf:y7→List (Nat×aA)→y7
 |acc,[]=>acc
 | acc,(b,_)::r=>match Nat.blt b 1000 with
   | true=>match lk acc b with
     |some _=>Tf acc r
     |none=>Tf ((b,.old b 0)::acc) r
   |false=>Tf acc r
def QT (hp:List (Nat×aA)):y7:=Tf [] hp
def kJ (hp hp':List (Nat×aA)):y7→List (AV×AV)→List (AV×AV)
 |[],l=>l
 | (b,_)::r,l=>match lk hp' b with
   | some (.var El)=>match lk hp b with
     |some (.var cs)=>pairs cs El (kJ hp hp' r l)
     |_=>kJ hp hp' r l
   | some (.dN _ _ _ _ El _)=>match lk hp b with
     |some (.dN _ _ _ _ cs _)=>pairs cs El (kJ hp hp' r l)
     |_=>kJ hp hp' r l
   | some (.fP _ _ _ _ _ _ _ El _)=>match lk hp b with
     |some (.fP _ _ _ _ _ _ _ cs _)=>pairs cs El (kJ hp hp' r l)
     |_=>kJ hp hp' r l
   |_=>kJ hp hp' r l
def KO (tm:List (Nat×AV)):List (Nat×AV)→List (AV×AV)
 |[]=>[]
 | (t,v')::r=>match lk tm t with
   |some v=>(v,v')::KO tm r
   |none=>KO tm r
def isSome {α:Type}:Option α→Bool
 |some _=>true
 |none=>false
def adw (ρ:y7)(b:Nat):Bool:=
 match lk ρ b with
 |some (.old x d)=>Nat.beq x b&&Nat.beq d 0
 |_=>false
def Ni (ρ:y7):List (Nat×aA)→Bool
 |[]=>true
 | (b,_)::r=>match Nat.blt b 1000 with
   |true=>adw ρ b&&Ni ρ r
   |false=>Ni ρ r
def y8 (x:Nat):y7→Bool
 |[]=>false
 | (_,.old y _)::r=>match Nat.beq x y with
   |true=>true
   |false=>y8 x r
 |(_,.nil)::r=>y8 x r
def Jl (hp':List (Nat×aA)):y7→Bool
 |[]=>true
 | (b,s)::r=>isSome (lk hp' b)&&(match lk r b with
   |some _=>false
   |none=>true)&&(match s with
   |.old x _=>!y8 x r
   |.nil=>true)&&Jl hp' r
def y9:List (Nat×aA)→Bool
 |[]=>true
 | (b,_)::r=>(match lk r b with
   |some _=>false
   |none=>true)&&y9 r
def Ii (ρ:y7)(hp:List (Nat×aA)):List (Nat×aA)→Prop→Prop
 |[],X=>X
 | (b,box)::r,X=>match lk ρ b with
   |some (.old x d)=>yA ρ d (lk hp x) box∧Ii ρ hp r X
   |some .nil=>rA box∧Ii ρ hp r X
   |none=>False
def aa0 (ρ:y7)(tm:List (Nat×AV)):List (Nat×AV)→Prop→Prop
 |[],X=>X
 | (t,v')::r,X=>match lk tm t with
   |some v=>le ρ v v'∧aa0 ρ tm r X
   |none=>False
theorem vK {ρ:y7}{hp:List (Nat×aA)}:∀{l:List (Nat×aA)} {X:Prop},Ii ρ hp l X→X
 |[],X,h=>h
 | (b,box)::r,X,h=>by
   simp only[Ii] at h;split at h
   ·exact vK h.2
   ·exact vK h.2
   exact h.elim
theorem Fa {ρ:y7}{hp:List (Nat×aA)}:∀{l:List (Nat×aA)} {X:Prop},Ii ρ hp l X→∀b box,lk l b=some box→match lk ρ b with
  |some (.old x d)=>yA ρ d (lk hp x) box
  |some .nil=>rA box
  |none=>False
 |[],X,h,b,box,hb=>by simp[lk] at hb
 | (b',bD)::r,X,h,b,box,hb=>by
   simp only[Ii] at h;rw[ax] at hb;split at hb
   ·rename_i e;subst e;simp only[Option.some.injEq] at hb;subst hb;split at h
    ·exact h.1
    ·exact h.1
    exact h.elim
   split at h
   ·exact Fa h.2 b box hb
   ·exact Fa h.2 b box hb
   exact h.elim
theorem Jm {ρ:y7}{tm:List (Nat×AV)}:∀{l:List (Nat×AV)} {X:Prop},aa0 ρ tm l X→∀t v',lk l t=some v'→∃v,lk tm t=some v∧le ρ v v'
 |[],X,h,t,v',hb=>by simp[lk] at hb
 | (t',u')::r,X,h,t,v',hb=>by
   simp only[aa0] at h;rw[ax] at hb;split at h;rotate_left;cases h
   rename_i u hu;split at hb
   ·rename_i e;subst e;simp only[Option.some.injEq] at hb;subst hb;exact⟨u,hu,h.1⟩
   exact Jm h.2 t v' hb
theorem Jo {hp':List (Nat×aA)}:∀{ρ:y7},Jl hp' ρ=true→∀b,(∃s,lk ρ b=some s)→∃box,lk hp' b=some box
 |[],_,b,⟨s,hs⟩=>by simp[lk] at hs
 | (b',s')::r,h,b,⟨s,hs⟩=>by
   simp only[Jl,Bool.and_eq_true] at h;rw[ax] at hs;split at hs
   ·rename_i e;subst e;have:=h.1.1.1;cases hb:lk hp' b' with
    |none=>rw[hb] at this;cases this
    |some box=>exact⟨box,rfl⟩
   exact Jo h.2 b ⟨s,hs⟩
theorem Jp {ρ:y7}{b x d:Nat}:lk ρ b=some (.old x d)→y8 x ρ=true:=by
 induction ρ with
 |nil=>intro h;simp[lk] at h
 | cons y r ih=>
   obtain⟨b',s⟩:=y;intro h;rw[ax] at h;split at h
   ·simp only[Option.some.injEq] at h;subst h;simp[y8]
   have:=ih h;cases s with
   |nil=>simpa only[y8] using this
   | old y d'=>
     simp only[y8];split
     ·rfl
     exact this
theorem Jq {hp':List (Nat×aA)}:∀{ρ:y7},Jl hp' ρ=true→∀b b' x d d',lk ρ b=some (.old x d)→lk ρ b'=some (.old x d')→b=b'
 |[],_,b,b',x,d,d',h1,h2=>by simp[lk] at h1
 | (y,s)::r,h,b,b',x,d,d',h1,h2=>by
   simp only[Jl,Bool.and_eq_true] at h;rw[ax] at h1 h2;split at h1
   ·rename_i e1;simp only[Option.some.injEq] at h1;subst h1;split at h2
    ·rename_i e2;rw[←e1,←e2]
    have:=Jp h2;have h3:=h.1.2;simp only[this] at h3;cases h3
   split at h2
   ·simp only[Option.some.injEq] at h2;subst h2;have:=Jp h1;have h3:=h.1.2;simp only[this] at h3;cases h3
   exact Jq h.2 b b' x d d' h1 h2
theorem BL {ρ:y7}:∀{hp:List (Nat×aA)},Ni ρ hp=true→∀b,b<1000→(∃box,lk hp b=some box)→lk ρ b=some (.old b 0)
 |[],_,b,_,⟨box,hb⟩=>by simp[lk] at hb
 | (b',bD)::r,h,b,hlt,⟨box,hb⟩=>by
   simp only[Ni] at h;rw[ax] at hb;split at hb
   ·rename_i e;subst e;split at h
    ·simp only[Bool.and_eq_true] at h;have h1:=h.1;unfold adw at h1;split at h1
     ·rename_i x d hx;simp only[Bool.and_eq_true] at h1;rw[hx,Nat.eq_of_beq_eq_true h1.1,Nat.eq_of_beq_eq_true h1.2]
     cases h1
    rename_i hf;have:Nat.blt b' 1000=true:=by rw[Nat.blt_eq];exact hlt
    rw[this] at hf;cases hf
   split at h
   ·simp only[Bool.and_eq_true] at h;exact BL h.2 b hlt ⟨box,hb⟩
   exact BL h b hlt ⟨box,hb⟩
def U7:List (Nat×aA)→Bool
 |[]=>true
 | (b,box)::r=>match box with
   |.tr _ _ _ _=>Nat.beq b 999&&U7 r
   |_=>U7 r
theorem Jr:∀{h:List (Nat×aA)},U7 h=true→∀b a0 a1 a2 a3,lk h b=some (.tr a0 a1 a2 a3)→b=999
 |[],_,b,a0,a1,a2,a3,hk=>by simp[lk] at hk
 | (k',box)::r,h,b,a0,a1,a2,a3,hk=>by
   rw[ax] at hk;split at hk
   ·rename_i e;simp only[Option.some.injEq] at hk;subst hk;simp only[U7,Bool.and_eq_true] at h;rw[←e,Nat.eq_of_beq_eq_true h.1]
   refine Jr (h:=r) ?_ b a0 a1 a2 a3 hk;cases box<;>simp only[U7,Bool.and_eq_true] at h<;>first|exact h|exact h.2
def Fb (ρ:y7)(hp hp':List (Nat×aA)):Bool:=Jl hp' ρ&&(Ni ρ hp&&U7 hp')
theorem KP {ρ:y7}{hp hp':List (Nat×aA)}{X:Prop}(h:Fb ρ hp hp'=true)(h':Ii ρ hp hp' X):XW ρ hp hp':=by
 simp only[Fb,Bool.and_eq_true] at h;exact⟨Fa h',Jo h.1,Jq h.1,BL h.2.1,Jr h.2.2⟩
def aa1 (s s':AS):Prop:=
 match s with
 | ⟨tm,_,hp⟩=>match s' with
   | ⟨tm',_,hp'⟩=>match QT hp with
     | ρ0=>match mt hp hp' 1000 ρ0 (kJ hp hp' ρ0 (KO tm tm')) with
       | some ρ=>match Fb ρ hp hp' with
         |true=>Ii ρ hp hp' (aa0 ρ tm tm' True)
         |false=>False
       |none=>False
theorem aj {s s':AS}(h:aa1 s s')(c:Ctx)(R:Real)(a:Act)(w:World)(g:bB c R s a w):∃R',bB c R' s' a w:=by
 obtain⟨tm,nx,hp⟩:=s;obtain⟨tm',nx',hp'⟩:=s';simp only[aa1] at h;split at h;rotate_left;cases h
 rename_i ρ _;split at h;rotate_left;cases h
 rename_i hf;have H:=KP hf h;refine⟨oh ρ R,(g.hap.weaken H).Xx (fun t v' hv'=>?_) g.size (g.marks.imp fun Ds hm=>hm.kept (fun _ _ _=>rfl) fun r _ ⟨b,ho⟩=>let ⟨x,_,_,h2⟩:=E9 H ho;⟨x,h2⟩)⟩;obtain⟨v,hv,hle⟩:=Jm (vK h) t v' hv';obtain⟨x,hx,hr⟩:=g.slots t v hv;exact⟨x,hx,Ad H v' v x hle hr⟩
def Qv (hp:List (Nat×aA))(r:AV)(Q:AV→List (Nat×aA)→Prop):Prop:=
 ∃r' hp',Q r' hp'∧match QT hp with
  | ρ0=>match mt hp hp' 1000 ρ0 (kJ hp hp' ρ0 [(r,r')]) with
    | some ρ=>match Fb ρ hp hp' with
      |true=>Ii ρ hp hp' (le ρ r r')
      |false=>False
    |none=>False
theorem mO {hp:List (Nat×aA)}{r:AV}{Q:AV→List (Nat×aA)→Prop}(h:Qv hp r Q){c:Ctx}{R:Real}{w:World}(g:Hq c R hp w){v:Value}(hv:ai (aT c R hp) w hp R r v) :
  ∃r' hp' R',Q r' hp'∧Hq c R' hp' w∧ai (aT c R' hp') w hp' R' r' v:=by
 obtain⟨r',hp',hQ,h⟩:=h;simp only at h;split at h;rotate_left;cases h
 rename_i ρ _;split at h
 ·rename_i hf;have H:=KP hf h;exact⟨r',hp',oh ρ R,hQ,g.weaken H,Ad H r' r v (vK h) hv⟩
 exact h.elim
def GC (P:Program)(f:FuncId)(args:List AV)(hp:List (Nat×aA))(Q:AV→List (Nat×aA)→Prop):Prop:=
 Enters P f∧∀(c:Ctx) (R:Real) (w:World) (dm:Array Value),Hq c R hp w→bT (aT c R hp) w hp R args dm.toList →
  Calls P f dm w fun e w'=>∃v r hp' R',e=.returned v∧Q r hp'∧Hq c R' hp' w'∧ai (aT c R' hp') w' hp' R' r v
def dU (P:Program)(f:FuncId)(args:List AV)(hp:List (Nat×aA))(r:AV)(hp':List (Nat×aA)):Prop:=GC P f args hp fun x h=>x=r∧h=hp'
def EM (x:Nat):List Nat→Bool
 |[]=>false
 | y::r=>match Nat.beq x y with
   |true=>true
   |false=>EM x r
def keys {α:Type}:List (Nat×α)→List Nat
 |[]=>[]
 |(k,_)::r=>k::keys r
def j5 (hp:List (Nat×aA)):List Nat→Option (List (Nat×aA))
 |[]=>some []
 | b::r=>match lk hp b with
   | some box=>match j5 hp r with
     |some t=>some ((b,box)::t)
     |none=>none
   |none=>none
def snoc:List Nat→Nat→List Nat
 |[],x=>[x]
 |y::r,x=>y::snoc r x
def zX (hp:List (Nat×aA)):Nat→List Nat→List Nat→List Nat
 |0,_,seen=>seen
 |_+1,[],seen=>seen
 | n+1,b::todo,seen=>match EM b seen with
   |true=>zX hp n todo seen
   | false=>match lk hp b with
     |some (.var cells)=>zX hp n (dY cells++todo) (snoc seen b)
     |some (.dN _ _ _ _ row _)=>zX hp n (dY row++todo) (snoc seen b)
     |some (.fP _ _ _ _ _ _ _ row _)=>zX hp n (dY row++todo) (snoc seen b)
     |_=>zX hp n todo (snoc seen b)
abbrev Inv:=List (Nat×(Nat×Nat))
def om:aA→Nat
 |.arr _ v _ _=>v
 |.kE v _ _=>v
 |.tr _ v _ _=>v
 |.dN _ v _ _ _ _=>v
 |.fP _ v _ _ _ _ _ _ _=>v
 |_=>0
def lq:Nat→List (Nat×aA)→Inv
 |_,[]=>[]
 |k,(b,box)::r=>(b,(k,om box))::lq (k+1) r
def jH:Nat→List (Nat×aA)→Ren
 |_,[]=>[]
 |k,(b,box)::r=>(k,(b,om box))::jH (k+1) r
section
variable (inv:Inv)
mutual
def Ij:AV→AV
 |.pv p=>.pv p
 |.agg cs=>.agg (lV cs)
 |.dn cs=>.dn (lV cs)
 | .ptr b off=>match lk inv b with
   |some (k,_)=>.ptr k off
   |none=>.pv .junk
 | .bn b ver i off=>match lk inv b with
   | some (k,d)=>match Nat.ble d ver with
     |true=>.bn k (ver-d) i off
     |false=>.pv .junk
   |none=>.pv .junk
 | .aB b ver=>match lk inv b with
   | some (k,d)=>match Nat.ble d ver with
     |true=>.aB k (ver-d)
     |false=>.pv .junk
   |none=>.pv .junk
 | .sub b ver st lo hi=>match lk inv b with
   | some (k,d)=>match Nat.ble d ver with
     |true=>.sub k (ver-d) st lo hi
     |false=>.pv .junk
   |none=>.pv .junk
 |.fn f first aM=>.fn f (lV first) (lV aM)
def lV:List AV→List AV
 |[]=>[]
 |v::r=>Ij v::lV r
end
def kS:aA→aA
 |.var cells=>.var (lV inv cells)
 |.sD cells=>.sD cells
 |.arr e ver st rows=>.arr e 0 st rows
 |.kE ver st rows=>.kE 0 st rows
 |.tr y _ rest st=>.tr y 0 rest st
 |.dN e ver st pre row post=>.dN e 0 st pre (lV inv row) post
 |.fP e ver st j ed sd pre row post=>.fP e 0 st j ed sd pre (lV inv row) post
 |.mp kk kv es=>.mp kk kv es
def uQ:Nat→List (Nat×aA)→List (Nat×aA)
 |_,[]=>[]
 |k,(_,box)::r=>(k,kS inv box)::uQ (k+1) r
end
def Fe (gF:Ren)(id k:Nat):Nat×Nat:=
 match lk gF k with
 |some p=>p
 |none=>(id+1000000*k,0)
def BM (gF:Ren)(id:Nat):List (Nat×aA)→Ren
 |[]=>[]
 |(k,_)::r=>(k,Fe gF id k)::BM gF id r
def iG (ρ:Ren):List (Nat×aA)→List (Nat×aA)
 |[]=>[]
 |(k,box)::r=>(jg ρ k,fM ρ k box)::iG ρ r
def vL (gF:Ren)(id:Nat):List (Nat×aA)→List Nat
 |[]=>[]
 | (k,_)::r=>match lk gF k with
   |some _=>vL gF id r
   |none=>(id+1000000*k)::vL gF id r
def sS (hp:List (Nat×aA)):List Nat→Bool
 |[]=>true
 | b::r=>(match lk hp b with
   |some _=>false
   |none=>true)&&sS hp r
def passed (hp':List (Nat×aA)):Ren→Bool
 |[]=>true
 |(k,_)::r=>(isSome (lk hp' k)&&Nat.blt k 999)&&passed hp' r
def Nj (inv:Inv):Ren→Bool
 |[]=>true
 | (k,(b,d))::r=>(match lk inv b with
   |some (k',d')=>Nat.beq k' k&&Nat.beq d' d
   |none=>false)&&Nj inv r
def Nk:List (Nat×aA)→Bool
 |[]=>true
 | (_,box)::r=>match box with
   |.tr _ _ _ _=>false
   |_=>Nk r
def gOk (inv:Inv)(gF:Ren)(id:Nat)(hp hp' l9:List (Nat×aA)):Bool:=passed hp' gF&&(sS hp (vL gF id hp')&&(y9 hp'&&(Nj inv gF&&Nk l9)))
def U8 (gF:Ren)(id:Nat):List (Nat×aA)→(Ren→Prop)→Prop
 |[],K=>K []
 | (k,_)::r,K=>match lk gF k with
   |some p=>U8 gF id r fun t=>K ((k,p)::t)
   |none=>U8 gF id r fun t=>K ((k,(id+1000000*k,0))::t)
section
variable (ρ:Ren)
mutual
def DW:AV→(AV→Prop)→Prop
 |.pv p,K=>K (.pv p)
 |.agg cs,K=>vM cs fun cs=>K (.agg cs)
 |.dn cs,K=>vM cs fun cs=>K (.dn cs)
 | .ptr b off,K=>match lk ρ b with
   | some p=>match p with
     |(x,_)=>K (.ptr x off)
   |none=>K (.ptr (b+2000000000) off)
 | .bn b ver i off,K=>match lk ρ b with
   | some p=>match p with
     |(x,d)=>K (.bn x (ver+d) i off)
   |none=>K (.bn (b+2000000000) (ver+0) i off)
 | .aB b ver,K=>match lk ρ b with
   | some p=>match p with
     |(x,d)=>K (.aB x (ver+d))
   |none=>K (.aB (b+2000000000) (ver+0))
 | .sub b ver st lo hi,K=>match lk ρ b with
   | some p=>match p with
     |(x,d)=>K (.sub x (ver+d) st lo hi)
   |none=>K (.sub (b+2000000000) (ver+0) st lo hi)
 |.fn f first aM,K=>vM first fun first=>vM aM fun aM=>K (.fn f first aM)
def vM:List AV→(List AV→Prop)→Prop
 |[],K=>K []
 |v::r,K=>DW v fun v=>vM r fun r=>K (v::r)
end
def mr:List (Nat×aA)→(List (Nat×aA)→Prop)→Prop
 |[],K=>K []
 | (k,box)::r,K=>match lk ρ k with
   | some p=>match p with
     | (x,d)=>match box with
       |.var cells=>vM ρ cells fun cells=>mr r fun t=>K ((x,.var cells)::t)
       |.sD cells=>mr r fun t=>K ((x,.sD cells)::t)
       |.arr e ver st rows=>mr r fun t=>K ((x,.arr e (ver+d) st rows)::t)
       |.kE ver st rows=>mr r fun t=>K ((x,.kE (ver+d) st rows)::t)
       |.tr _ _ _ _=>False
       |.dN e ver st pre row post=>vM ρ row fun row=>mr r fun t=>K ((x,.dN e (ver+d) st pre row post)::t)
       |.mp kk kv es=>mr r fun t=>K ((x,.mp kk kv es)::t)
       |.fP e ver st j ed sd pre row post=>vM ρ row fun row=>mr r fun t=>K ((x,.fP e (ver+d) st j ed sd pre row post)::t)
   |none=>False
mutual
theorem zZ:∀(v:AV) (K:AV→Prop),DW ρ v K=K (lU ρ v)
 | .sub b ver st lo hi,K=>by
   simp only[DW,lU,jg,DV];cases lk ρ b with
   |none=>rfl
   |some p=>rfl
 |.pv p,K=>by simp only[DW,lU]
 |.agg cs,K=>by simp only[DW,lU,iA cs]
 |.dn cs,K=>by simp only[DW,lU,iA cs]
 | .ptr b off,K=>by
   simp only[DW,lU,jg];cases lk ρ b with
   |none=>rfl
   |some p=>rfl
 | .bn b ver i off,K=>by
   simp only[DW,lU,jg,DV];cases lk ρ b with
   |none=>rfl
   |some p=>rfl
 | .aB b ver,K=>by
   simp only[DW,lU,jg,DV];cases lk ρ b with
   |none=>rfl
   |some p=>rfl
 |.fn f first aM,K=>by simp only[DW,lU,iA first,iA aM]
theorem iA:∀(vs:List AV) (K:List AV→Prop),vM ρ vs K=K (iW ρ vs)
 |[],K=>by simp only[vM,iW]
 |v::r,K=>by simp only[vM,iW,zZ v,iA r]
end
theorem kI:∀(h:List (Nat×aA)) (K:List (Nat×aA)→Prop),mr ρ h K→K (iG ρ h)
 |[],K,hh=>by simpa only[mr,iG] using hh
 | (k,box)::r,K,hh=>by
   simp only[mr] at hh;split at hh
   ·rename_i p hp;obtain⟨x,d⟩:=p;have e1:jg ρ k=x:=by simp[jg,hp]
    have e2:DV ρ k=d:=by simp[DV,hp]
    simp only at hh;cases box with
    | var cells=>
      simp only[iA] at hh;have:=kI r _ hh;simpa only[iG,fM,e1] using this
    |sD cells=>have:=kI r _ hh;simpa only[iG,fM,e1] using this
    |arr e ver st rows=>have:=kI r _ hh;simpa only[iG,fM,e1,e2] using this
    |kE ver st rows=>have:=kI r _ hh;simpa only[iG,fM,e1,e2] using this
    |tr y ver rest st=>exact hh.elim
    |mp kk kv es=>have:=kI r _ hh;simpa only[iG,fM,e1] using this
    | fP e ver st j ed sd pre row post=>
      simp only[iA] at hh;have:=kI r _ hh;simpa only[iG,fM,e1,e2] using this
    | dN e ver st pre row post=>
      simp only[iA] at hh;have:=kI r _ hh;simpa only[iG,fM,e1,e2] using this
   exact hh.elim
end
theorem iV {ρ:Ren}:∀(h:List (Nat×aA)) (K K':List (Nat×aA)→Prop),mr ρ h K→K' (iG ρ h)→mr ρ h K'
 |[],K,K',hh,hk=>by simpa only[mr,iG] using hk
 | (k,box)::r,K,K',hh,hk=>by
   simp only[mr] at hh ⊢;split at hh
   ·rename_i p hp;obtain⟨x,d⟩:=p;have e1:jg ρ k=x:=by simp[jg,hp]
    have e2:DV ρ k=d:=by simp[DV,hp]
    simp only at hh ⊢;simp only[iG,e1] at hk;cases box with
    | var cells=>
      simp only[iA] at hh ⊢;exact iV r _ _ hh hk
    |sD cells=>exact iV r _ _ hh hk
    |arr e ver st rows=>simp only[fM,e2] at hk;exact iV r _ _ hh hk
    |kE ver st rows=>simp only[fM,e2] at hk;exact iV r _ _ hh hk
    |tr y ver rest st=>exact hh.elim
    |mp kk kv es=>exact iV r _ _ hh hk
    | fP e ver st j ed sd pre row post=>
      simp only[iA] at hh ⊢;simp only[fM,e2] at hk;exact iV r _ _ hh hk
    | dN e ver st pre row post=>
      simp only[iA] at hh ⊢;simp only[fM,e2] at hk;exact iV r _ _ hh hk
   exact hh.elim
theorem zY (gF:Ren)(id:Nat):∀(h:List (Nat×aA)) (K:Ren→Prop),U8 gF id h K=K (BM gF id h)
 |[],K=>rfl
 | (k,box)::r,K=>by
   simp only[U8,BM,Fe,zY gF id r];cases lk gF k<;>rfl
theorem mQ:∀{h:List (Nat×aA)},Nk h=true→∀k x y z u,lk h k≠some (.tr x y z u)
 |[],_,k,x,y,z,u,hk=>by simp[lk] at hk
 | (k',box)::r,h,k,x,y,z,u,hk=>by
   rw[ax] at hk;split at hk
   ·simp only[Option.some.injEq] at hk;subst hk;simp[Nk] at h
   refine mQ (h:=r) ?_ k x y z u hk;cases box<;>simp only[Nk] at h<;>first|exact h|cases h
theorem iZ {ρ:Ren}:∀(h:List (Nat×aA)) (K:List (Nat×aA)→Prop),mr ρ h K→Nk h=true
 |[],K,hh=>rfl
 | (k,box)::r,K,hh=>by
   simp only[mr] at hh;split at hh
   ·simp only[Nk];cases box with
    |var cells=>simp only[iA] at hh;exact iZ r _ hh
    |sD cells=>exact iZ r _ hh
    |arr e ver st rows=>exact iZ r _ hh
    |kE ver st rows=>exact iZ r _ hh
    |tr y ver rest st=>exact hh.elim
    |dN e ver st pre row post=>simp only[iA] at hh;exact iZ r _ hh
    |mp kk kv es=>exact iZ r _ hh
    |fP e ver st j ed sd pre row post=>simp only[iA] at hh;exact iZ r _ hh
   exact hh.elim
def gC (P:Program)(hp:List (Nat×aA))(id:Nat)(vs:List AV)(K:AV→List (Nat×aA)→List Nat→Prop):Prop:=
 match vs with
 | fv::args=>match QS fv with
   | some (.func f,first,aM)=>match zX hp 100 (dY (first++(args++aM))) [] with
     | ids=>match j5 hp ids with
       | some H=>match lq 1 H with
         | inv=>match jH 1 H with
           | gF=>∃r hp',dU P f (lV inv (first++(args++aM))) (uQ inv 1 H) r hp'∧match gOk inv gF id hp hp' (uQ inv 1 H) with
             |true=>U8 gF id hp' fun ρ=>DW ρ r fun r=>mr ρ hp' fun ws=>K r ws (ids++vL gF id hp')
             |false=>False
       |none=>False
   |_=>False
 |_=>False
def gI (P:Program)(hp:List (Nat×aA))(id:Nat)(vs:List AV)(K:AV→List (Nat×aA)→List Nat→Prop):Prop:=
 match vs with
 | fv::args=>match QS fv with
   | some (.func f,first,aM)=>match zX hp 100 (dY (first++(args++aM))) [] with
     | ids=>match j5 hp ids with
       | some H=>match lq 1 H with
         | inv=>match jH 1 H with
           | gF=>match Nj inv gF&&Nk (uQ inv 1 H) with
             | true=>∃Q:AV→List (Nat×aA)→Prop,GC P f (lV inv (first++(args++aM))) (uQ inv 1 H) Q∧∀r hp',Q r hp'→match gOk inv gF id hp hp' (uQ inv 1 H) with
               |true=>U8 gF id hp' fun ρ=>DW ρ r fun r=>mr ρ hp' fun ws=>K r ws (ids++vL gF id hp')
               |false=>False
             |false=>False
       |none=>False
   |_=>False
 |_=>False
theorem rD {hp:List (Nat×aA)}:∀{ids:List Nat} {H:List (Nat×aA)},j5 hp ids=some H→∀x∈H,lk hp x.1=some x.2
 |[],H,h,x,hx=>by simp only[j5,Option.some.injEq] at h;subst h;simp at hx
 | i::r,H,h,x,hx=>by
   simp only[j5] at h;split at h
   ·rename_i bx hbx;split at h
    ·rename_i t ht;simp only[Option.some.injEq] at h;subst h;rcases List.mem_cons.1 hx with rfl|hx
     ·exact hbx
     exact rD ht x hx
    cases h
   cases h
theorem BN:∀{H:List (Nat×aA)} {k0 b k d:Nat},lk (lq k0 H) b=some (k,d)→k0≤k∧lk (jH k0 H) k=some (b,d)
 |[],k0,b,k,d,h=>by simp[lq,lk] at h
 | (b',box)::r,k0,b,k,d,h=>by
   simp only[lq,ax] at h;simp only[jH,ax];split at h
   ·rename_i e;simp only[Option.some.injEq,Prod.mk.injEq] at h;obtain⟨rfl,rfl⟩:=h;subst e;exact⟨Nat.le_refl _,by rw[if_pos rfl]⟩
   obtain⟨h1,h2⟩:=BN h;exact⟨by omega,by rw[if_neg (by omega)];exact h2⟩
theorem Nl:∀{H:List (Nat×aA)} {k0 k:Nat} {p:Nat×Nat},lk (jH k0 H) k=some p→k0≤k
 |[],k0,k,p,h=>by simp[jH,lk] at h
 | (b',box)::r,k0,k,p,h=>by
   simp only[jH,ax] at h;split at h
   ·omega
   have:=Nl h;omega
theorem Tg {inv:Inv}:∀{H:List (Nat×aA)} {k0 k:Nat} {p:aA},lk (uQ inv k0 H) k=some p→k0≤k
 |[],k0,k,p,h=>by simp[uQ,lk] at h
 | (b',box)::r,k0,k,p,h=>by
   simp only[uQ,ax] at h;split at h
   ·omega
   have:=Tg h;omega
theorem BO {inv:Inv}{hp:List (Nat×aA)}:∀{H:List (Nat×aA)} {k0 b k d:Nat},(∀x∈H,lk hp x.1=some x.2)→lk (jH k0 H) k=some (b,d) →
  ∃box,lk hp b=some box∧d=om box∧lk (uQ inv k0 H) k=some (kS inv box)
 |[],k0,b,k,d,_,h=>by simp[jH,lk] at h
 | (b',box)::r,k0,b,k,d,hm,h=>by
   simp only[jH,ax] at h;simp only[uQ,ax];split at h
   ·rename_i e;simp only[Option.some.injEq,Prod.mk.injEq] at h;obtain⟨rfl,rfl⟩:=h;exact⟨box,hm (b',box) (by simp),rfl,by rw[if_pos e]⟩
   have hge:=Nl h;obtain⟨bx,h1,h2,h3⟩:=BO (inv:=inv) (fun x hx=>hm x (by simp[hx])) h;exact⟨bx,h1,h2,by rw[if_neg (by omega)];exact h3⟩
theorem Ff {inv:Inv}{hp:List (Nat×aA)}:∀{H:List (Nat×aA)} {k0 k:Nat} {box0:aA},(∀x∈H,lk hp x.1=some x.2)→lk (uQ inv k0 H) k=some box0 →
  ∃b box,lk (jH k0 H) k=some (b,om box)∧lk hp b=some box∧box0=kS inv box
 |[],k0,k,box0,_,h=>by simp[uQ,lk] at h
 | (b',box)::r,k0,k,box0,hm,h=>by
   simp only[uQ,ax] at h;simp only[jH,ax];split at h
   ·rename_i e;simp only[Option.some.injEq] at h;exact⟨b',box,by rw[if_pos e],hm (b',box) (by simp),h.symm⟩
   have hge:=Tg h;obtain⟨b,bx,h1,h2,h3⟩:=Ff (fun x hx=>hm x (by simp[hx])) h;exact⟨b,bx,by rw[if_neg (by omega)];exact h1,h2,h3⟩
theorem za {inv:Inv}:∀{gF:Ren} {k b d:Nat},Nj inv gF=true→lk gF k=some (b,d)→lk inv b=some (k,d)
 |[],k,b,d,_,h=>by simp[lk] at h
 | (k',(b',d'))::r,k,b,d,hok,h=>by
   simp only[Nj,Bool.and_eq_true] at hok;rw[ax] at h;split at h
   ·rename_i e;simp only[Option.some.injEq,Prod.mk.injEq] at h;obtain⟨rfl,rfl⟩:=h;have h1:=hok.1;split at h1
    ·rename_i k2 d2 h2;simp only[Bool.and_eq_true] at h1;rw[h2,Nat.eq_of_beq_eq_true h1.1,Nat.eq_of_beq_eq_true h1.2,e]
    cases h1
   exact za hok.2 h
theorem vN {hp':List (Nat×aA)}:∀{gF:Ren} {k:Nat} {p:Nat×Nat},passed hp' gF=true→lk gF k=some p→k<999∧∃box,lk hp' k=some box
 |[],k,p,_,h=>by simp[lk] at h
 | (k',p')::r,k,p,hok,h=>by
   simp only[passed,Bool.and_eq_true] at hok;rw[ax] at h;split at h
   ·rename_i e;subst e;have h1:=hok.1;rw[Nat.blt_eq] at h1;refine⟨h1.2,?_⟩;cases hb:lk hp' k' with
    |none=>rw[hb] at h1;cases h1.1
    |some box=>exact⟨box,rfl⟩
   exact vN hok.2 h
theorem tu {hp:List (Nat×aA)}:∀{l:List Nat},sS hp l=true→∀b∈l,lk hp b=none
 |[],_,b,hb=>by simp at hb
 | x::r,h,b,hb=>by
   simp only[sS,Bool.and_eq_true] at h;rcases List.mem_cons.1 hb with rfl|hb
   ·have h1:=h.1;cases hx:lk hp b with
    |none=>rfl
    |some y=>rw[hx] at h1;cases h1
   exact tu h.2 b hb
theorem Fg {gF:Ren}{id:Nat}:∀{hp':List (Nat×aA)} {k:Nat} {box:aA},lk hp' k=some box→lk gF k=none→id+1000000*k∈vL gF id hp'
 |[],k,box,h,_=>by simp[lk] at h
 | (k',b')::r,k,box,h,hf=>by
   rw[ax] at h;simp only[vL];split at h
   ·rename_i e;subst e;rw[hf];simp
   have:=Fg (id:=id) h hf;split
   ·exact this
   exact List.mem_cons_of_mem _ this
theorem Js {gF:Ren}{id:Nat}:∀{hp':List (Nat×aA)} {k:Nat},lk (BM gF id hp') k=(lk hp' k).map fun _=>Fe gF id k
 |[],k=>rfl
 | (k',b')::r,k=>by
   simp only[BM,ax];split
   ·rename_i e;subst e;rfl
   exact Js
theorem xq (inv:Inv):∀(vs:List AV),(lV inv vs).length=vs.length
 |[]=>rfl
 |v::r=>by simp[lV,xq inv r]
theorem ajg (inv:Inv)(vs:List AV):dJ (lV inv vs)=dJ vs:=zG (xq inv vs)
def P5 (gF:Ren)(R:Real):Real where
 blk k:=match lk gF k with
  |some (b,_)=>R.blk b
  |none=>0
 nil k:=match lk gF k with
  |some (b,_)=>R.nil b
  |none=>true
 cap k:=match lk gF k with
  |some (b,_)=>R.cap b
  |none=>(0,[])
 Y:=R.Y
theorem Fh {gF:Ren}{R:Real}{k b d:Nat}(h:lk gF k=some (b,d)):(P5 gF R).blk k=R.blk b∧(P5 gF R).nil k=R.nil b∧(P5 gF R).cap k=R.cap b:=by
 simp[P5,h]
theorem KQ {gF:Ren}{R:Real}{k b d n:Nat}(h:lk gF k=some (b,d)):bY (P5 gF R) k n=bY R b n:=by
 obtain⟨h1,h2,h3⟩:=Fh (R:=R) h;simp only[bY,h1,h2,h3]
section
variable {inv:Inv}{gF:Ren}{hp l9:List (Nat×aA)}{R:Real}{N N0:Nat→Prop}{w:World}
variable (h1:∀b k d,lk inv b=some (k,d)→lk gF k=some (b,d))(h2:∀k b d,lk gF k=some (b,d)→∃box,lk hp b=some box∧d=om box∧lk l9 k=some (kS inv box))(hN:∀r,N0 r→N r)
include h1 h2
theorem Fj {b k d off:Nat}(hb:lk inv b=some (k,d)){v:Value}(h:aX R b off v (lk hp b)):aX (P5 gF R) k off v (lk l9 k):=by
 obtain⟨box,a1,a2,a3⟩:=h2 k b d (h1 b k d hb);obtain⟨e1,e2,e3⟩:=Fh (R:=R) (h1 b k d hb);rw[a1] at h;rw[a3];cases box<;>simp only[aX,kS,e1] at h ⊢ <;> exact h
theorem BP {b k d ver:Nat}(hb:lk inv b=some (k,d))(hd:d≤ver){v:Value}(h:aS R b ver v (lk hp b)):aS (P5 gF R) k (ver-d) v (lk l9 k):=by
 obtain⟨box,a1,a2,a3⟩:=h2 k b d (h1 b k d hb);rw[a1] at h;rw[a3];cases box<;>simp only[aS,kS,ajg,KQ (h1 b k d hb)] at h ⊢ <;> first
  |exact h
  |(simp only[om] at a2;exact⟨by omega,h.2.1,fun e=>h.2.2 (by omega)⟩)
theorem Jt {b k d ver i off:Nat}(hb:lk inv b=some (k,d))(hd:d≤ver){v:Value}(h:aZ R b ver i off v (lk hp b)):aZ (P5 gF R) k (ver-d) i off v (lk l9 k):=by
 obtain⟨box,a1,a2,a3⟩:=h2 k b d (h1 b k d hb);obtain⟨e1,e2,e3⟩:=Fh (R:=R) (h1 b k d hb);rw[a1] at h;rw[a3];cases box<;>simp only[aZ,kS,e1,e2] at h ⊢ <;> first
  |exact h
  |exact⟨Nat.zero_le _,h.2.1,h.2.2⟩
  |(simp only[om] at a2;exact⟨by omega,h.2.1,fun e=>h.2.2 (by omega)⟩)
include hN
mutual
theorem Nn:∀(v:AV) (x:Value),ai N w hp R v x→ai N0 w l9 (P5 gF R) (Ij inv v) x
 |.pv p,x=>by simp only[Ij,ai];exact dw (fun r _ h=>hN r h) (fun _ _ _=>rfl) p x
 |.agg cs,x=>by simp only[Ij,ai];rintro⟨vs,a,b⟩;exact⟨vs,a,rE cs _ b⟩
 |.dn cs,x=>by simp only[Ij,ai];rintro⟨vs,a,b⟩;exact⟨vs,a,oK cs _ b⟩
 | .ptr b off,x=>by
   intro h;simp only[Ij];split
   ·rename_i k d hb;simp only[ai] at h ⊢;exact Fj h1 h2 hb h
   simp only[ai,bE]
 | .bn b ver i off,x=>by
   intro h;simp only[Ij];split
   ·rename_i k d hb;split
    ·rename_i hd;simp only[ai] at h ⊢;exact Jt h1 h2 hb (Nat.le_of_ble_eq_true hd) h
    simp only[ai,bE]
   simp only[ai,bE]
 | .aB b ver,x=>by
   intro h;simp only[Ij];split
   ·rename_i k d hb;split
    ·rename_i hd;simp only[ai] at h ⊢;exact BP h1 h2 hb (Nat.le_of_ble_eq_true hd) h
    simp only[ai,bE]
   simp only[ai,bE]
 | .sub b ver st lo hi,x=>by
   intro h;simp only[Ij];split
   ·rename_i k d hb;split
    ·rename_i hd;simp only[ai] at h ⊢;obtain⟨u,a,c⟩:=h;exact⟨u,BP h1 h2 hb (Nat.le_of_ble_eq_true hd) a,c⟩
    simp only[ai,bE]
   simp only[ai,bE]
 | .fn f first aM,x=>by
   simp only[Ij,ai];rintro⟨fs,cs,a,b,c⟩;exact⟨fs,cs,a,oK _ _ b,oK _ _ c⟩
theorem oK:∀(vs:List AV) (xs:List Value),bT N w hp R vs xs→bT N0 w l9 (P5 gF R) (lV inv vs) xs
 |[],xs=>by simp only[lV,bT];exact id
 |p::ps,xs=>by simp only[lV,bT];rintro⟨v,r,a,b,c⟩;exact⟨v,r,a,Nn p v b,oK ps r c⟩
theorem rE:∀(vs:List AV) (xs:List Value),bN N w hp R vs xs→bN N0 w l9 (P5 gF R) (lV inv vs) xs
 |[],xs=>by simp only[lV,bN];exact id
 |p::ps,xs=>by simp only[lV,bN];rintro⟨v,r,a,d,b,c⟩;exact⟨v,r,a,d,Nn p v b,rE ps r c⟩
end
end
def upR (ρ:Ren)(R R2:Real)(hp':List (Nat×aA)):Real where
 blk b:=match lk (hp'.map fun x=>(jg ρ x.1,x.1)) b with
  |some k=>R2.blk k
  |none=>R.blk b
 nil b:=match lk (hp'.map fun x=>(jg ρ x.1,x.1)) b with
  |some k=>R2.nil k
  |none=>R.nil b
 cap b:=match lk (hp'.map fun x=>(jg ρ x.1,x.1)) b with
  |some k=>R2.cap k
  |none=>R.cap b
 Y:=R.Y
theorem Ju {ρ:Ren}{b:Nat}:∀{hp':List (Nat×aA)},lk (hp'.map fun x=>(jg ρ x.1,x.1)) b=none→lk (iG ρ hp') b=none
 |[],_=>rfl
 | (k,box)::r,h=>by
   simp only[List.map_cons,ax] at h;simp only[iG,ax];split at h
   ·cases h
   rename_i e;rw[if_neg e];exact Ju h
theorem BQ {ρ:Ren}{b k:Nat}:∀{hp':List (Nat×aA)},y9 hp'=true→lk (hp'.map fun x=>(jg ρ x.1,x.1)) b=some k →
  b=jg ρ k∧∃box,lk hp' k=some box∧lk (iG ρ hp') b=some (fM ρ k box)
 |[],_,h=>by simp[lk] at h
 | (k',box)::r,hok,h=>by
   simp only[y9,Bool.and_eq_true] at hok;simp only[List.map_cons,ax] at h;simp only[iG,ax];split at h
   ·rename_i e;simp only[Option.some.injEq] at h;subst h;exact⟨e.symm,box,by rw[if_pos rfl],by rw[if_pos e]⟩
   rename_i e;obtain⟨h1,bx,h2,h3⟩:=BQ hok.2 h;refine⟨h1,bx,?_,by rw[if_neg e];exact h3⟩;rw[if_neg]
   ·exact h2
   rintro rfl
   have:=hok.1;rw[h2] at this;cases this
theorem Np {ρ:Ren}{k:Nat}:∀{hp':List (Nat×aA)} {box:aA},(∀k' bD,lk hp' k'=some bD→jg ρ k'=jg ρ k→k'=k)→y9 hp'=true→lk hp' k=some box →
  lk (hp'.map fun x=>(jg ρ x.1,x.1)) (jg ρ k)=some k
 |[],box,_,_,h=>by simp[lk] at h
 | (k',b')::r,box,hinj,hok,h=>by
   simp only[y9,Bool.and_eq_true] at hok;simp only[List.map_cons,ax];split
   ·rename_i e;rw[hinj k' b' (by simp[ax]) e]
   rename_i e;rw[ax] at h;rw[if_neg (fun e'=>e (by rw[e']))] at h;refine Np (fun k2 ajh h2 e2=>hinj k2 ajh ?_ e2) hok.2 h;rw[ax,if_neg]
   ·exact h2
   rintro rfl
   have:=hok.1;rw[h2] at this;cases this
end Go.AX
end
