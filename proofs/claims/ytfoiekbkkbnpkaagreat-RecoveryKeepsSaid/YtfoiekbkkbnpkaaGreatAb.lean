/-
  Conditions: none. A framework for walks: abstract values, memory, and conditions that suffice; the chapters in plain terms.
-/
import Derived.Test.YtfoiekbkkbnpkaaGreatAa
import Derived.Great.FillDense
set_option linter.unusedSectionVars false
set_option linter.unusedVariables false
set_option linter.unusedSimpArgs false
section
namespace Go.AX
theorem LH:∀{ps:List PV} {cs:List AV},LD ps=some cs→cs=ps.map .pv
 |[],cs,h=>by simp only[LD,Option.some.injEq] at h;simp[←h]
 | p::ps,cs,h=>by
   simp only[LD] at h;split at h
   ·rename_i t ht;simp only[Option.some.injEq] at h;simp[←h,LH ht]
   cases h
theorem Jg:∀{vs:List Value} {cs:List AV},zAV vs=some cs→cs=vs.map fun v=>.pv (.sc v)
 |[],cs,h=>by simp only[zAV,Option.some.injEq] at h;simp[←h]
 | p::ps,cs,h=>by
   simp only[zAV] at h;split at h
   ·rename_i t ht;simp only[Option.some.injEq] at h;simp[←h,Jg ht]
   cases h
theorem N9:∀{vs:List Value} {cs:List PV},zPV vs=some cs→cs=vs.map .sc
 |[],cs,h=>by simp only[zPV,Option.some.injEq] at h;simp[←h]
 | p::ps,cs,h=>by
   simp only[zPV] at h;split at h
   ·rename_i t ht;simp only[Option.some.injEq] at h;simp[←h,N9 ht]
   cases h
section
variable {N:Nat→Prop}{w:World}{hp:List (Nat×aF)}{R:Real}
theorem Ie {p:PV}(h:cellP p=true){v:Value}(hv:bJ N w p v):v.oneCell'=true:=by
 cases p<;>simp only[cellP] at h<;>simp only[bJ] at hv<;>try (cases h;done)
 ·subst hv;exact h
 ·obtain⟨p,len,cap,rfl,_⟩:=hv;rfl
 ·obtain⟨g,base,cur,e,fr,rfl,_⟩:=hv;rfl
 obtain⟨fs,cs,rfl,_⟩:=hv;rfl
theorem Ig {p:AV}(h:adv p=true){v:Value}(hv:ak N w hp R p v):v.oneCell'=true:=by
 cases p with
 |pv p=>exact Ie h (by simpa only[ak] using hv)
 |agg _=>cases h
 |cO _=>cases h
 | ptr b off=>
   simp only[ak] at hv;cases hb:lk hp b with
   |none=>rw[hb] at hv;exact hv.elim
   |some box=>rw[hb] at hv;cases box<;>simp only[aY] at hv<;>(subst hv;rfl)
 | dM b ver i off=>
   simp only[ak] at hv;cases hb:lk hp b with
   |none=>rw[hb] at hv;exact hv.elim
   |some box=>rw[hb] at hv;cases box<;>simp only[bf] at hv<;>exact hv.2.1
 | sub b ver st lo hi=>
   simp only[ak] at hv;obtain⟨u,_,_,rfl⟩:=hv;exact KF _ _ _ _
 | aO b ver=>
   simp only[ak] at hv;cases hb:lk hp b with
   |none=>rw[hb] at hv;exact hv.elim
   |some box=>rw[hb] at hv;cases box<;>simp only[aU] at hv<;>exact hv.2.1
 | fn f a c=>
   simp only[ak] at hv;obtain⟨fs,cs,rfl,_⟩:=hv;rfl
theorem A9 {v:Value}(h:v.oneCell'=true):v.cells = #[v]:=by
 cases v<;>first|rfl|(simp[Value.oneCell'] at h)
theorem jy {i:TI}{v:AV}{cs:List AV}(h:cellsOf i v=some cs){u:Value}(hv:ak N w hp R v u):FC (ak N w hp R) cs u.cells.toList:=by
 unfold cellsOf at h;split at h
 ·split at h
  ·rename_i ps;have:=LH h;subst this;simp only[ak,bJ] at hv;obtain⟨vs,rfl,hv⟩:=hv;rw[gM] at hv;exact FC.map (fun p v hv=>by simpa only[ak] using hv) hv
  ·simp only[Option.some.injEq] at h;subst h;simp only[ak] at hv;obtain⟨vs,rfl,hv⟩:=hv;rw[bM] at hv;exact hv
  cases h
 split at h
 ·rename_i hc;simp only[Option.some.injEq] at h;subst h;have h1:=Ig hc hv;rw[A9 h1];exact⟨u,[],rfl,h1,hv,rfl⟩
 cases h
theorem uI {i:TI}{p:PV}{cs:List PV}(h:lQ i p=some cs){u:Value}(hv:bJ N w p u):FC (bJ N w) cs u.cells.toList:=by
 unfold lQ at h;split at h
 ·split at h
  ·simp only[Option.some.injEq] at h;subst h;simp only[bJ] at hv;obtain⟨vs,rfl,hv⟩:=hv;rw[gM] at hv;exact hv
  cases h
 split at h
 ·rename_i hc;simp only[Option.some.injEq] at h;subst h;have h1:=Ie hc hv;rw[A9 h1];exact⟨u,[],rfl,h1,hv,rfl⟩
 cases h
end
def qC (T:Tab)(H:List (Nat×aF))(t:TypeId)(x y:AV)(K:AV→List (Nat×aF)→Prop):Prop:=
 match lk T t with
 | some i=>match x with
   | .ptr b off=>match lk H b with
     | some (.var cells)=>match cellsOf i y with
       | some cs=>match Nat.beq cs.length i.size with
         | true=>match kz off cells cs with
           |some cells'=>K (.pv (.sc undef)) [(b,.var cells')]
           |none=>False
         |false=>False
       |none=>False
     |_=>False
   | .dM b ver k off=>match lk H b with
     | some (.arr e v st rows)=>match Nat.beq ver v with
       | true=>match y with
         | .pv p=>match lQ i p with
           | some cs=>match Nat.beq cs.length i.size with
             | true=>∃row,rows[k]? = some row∧match kz off row cs with
               |some row'=>K (.pv (.sc undef)) [(b,.arr e v st (rows.set k row'))]
               |none=>False
             |false=>False
           |none=>False
         |_=>False
       |false=>False
     |_=>False
   |_=>False
 |none=>False
section
variable {P:Program}{T:Tab}{c:Ctx}{R:Real}{s:AS}{a:Act}{w:World}
theorem oI (w:World)(g:Nat)(cs:Array Value):mr (fun r=>r=g) w (w.setRow g cs):=
 ⟨by simp,fun r _ hn=>setRow_other w g r cs hn,rfl,rfl,rfl⟩
theorem sW (g:bG c R s a w)(hT:bY P T){H:List (Nat×aF)}(hH:∀b box,lk H b=some box→lk s.hp b=some box){t:TypeId}{x y:AV}
  {K:AV→List (Nat×aF)→Prop} (h:qC T H t x y K) {u v:Value} (hx:ak (aV c R s.hp) w s.hp R x u) (hy:ak (aV c R s.hp) w s.hp R y v) :
  ∃w' ws,(Instr.storeAt t u v).run P w=.ok () w'∧K (.pv (.sc undef)) ws∧bG c R (s.app ws) a w':=by
 unfold qC at h;split at h;rotate_left;cases h
 rename_i i hi;have hi':=hT _ _ hi;split at h
 ·rename_i b off;split at h;rotate_left;cases h
  rename_i cells hb;have hb':=hH _ _ hb;split at h;rotate_left;cases h
  rename_i cs hcs;split at h;rotate_left;cases h
  rename_i hlen;have hlen:=Nat.eq_of_beq_eq_true hlen;split at h;rotate_left;cases h
  rename_i cells' hset;simp only[ak,hb',aY] at hx;subst hx;obtain⟨cur,e,hg,hc⟩:=(g.boxes b _ hb');rw[bM] at hc;have hcv:=jy hcs hy;obtain⟨hl,hc'⟩:=FC.kz hc hcv hset;have hvs:v.cells.size=i.size:=by rw[←hlen,←hcv.length];simp
  have hrun:=uh (w:=w) hi' hg hvs (off:=off) (by simp at hl;omega) hcv.one;have hrun':(Instr.storeAt t (.pointer (some ⟨R.blk b,off,none⟩)) v).run P w=.ok () (w.setRow (R.blk b) (cur.toList.take off++v.cells.toList++cur.toList.drop (off+v.cells.toList.length)).toArray):=by
   simp only[Instr.storeAt,Instr.sureAddr,pure_bind];exact hrun
  refine⟨_,_,hrun',h,?_⟩;have hR:∀b',b'≠b→R.blk b'=R.blk b'∧R.nil b'=R.nil b'∧R.cap b'=R.cap b':=fun _ _=>⟨rfl,rfl,rfl⟩
  have r1:∀off v,aY R b off v (lk s.hp b)→aY R b off v (some (.var cells')):=fun off v h=>by rw[hb'] at h;exact h
  have r2:∀ver v,aU R b ver v (lk s.hp b)→aU R b ver v (some (.var cells')):=fun _ v h=>by rw[hb'] at h;exact h
  have r3:∀ver i off v,bf R b ver i off v (lk s.hp b)→bf R b ver i off v (some (.var cells')):=fun _ _ _ v h=>by rw[hb'] at h;exact h
  have hown:∀r,aL R b r (some (.var cells'))→aL R b r (lk s.hp b)∨w.heap.size≤r:=fun r h=>by rw[hb'];exact .inl h
  have hworld:mr (fun r=>aL R b r (lk s.hp b)) w (w.setRow (R.blk b) (cur.toList.take off++v.cells.toList++cur.toList.drop (off+v.cells.toList.length)).toArray):=by
   refine (oI w _ _).mono ?_;rintro r rfl
   rw[hb'];rfl
  obtain⟨m1,m2,m3,m4,m5⟩:=g.Ga hR r1 r2 r3 hown hworld;refine g.upd hR r1 r2 r3 hown hworld ?_;refine⟨_,e,setRow_heap w _ cur _ e _ hg,?_⟩;rw[bM];exact hc'.imp fun p v h=>dF m1 m2 m3 m4 m5 p v h
 ·rename_i b ver k off;split at h;rotate_left;cases h
  rename_i e vr st rows hb;have hb':=hH _ _ hb;split at h;rotate_left;cases h
  rename_i fD;split at h;rotate_left;cases h
  rename_i p;split at h;rotate_left;cases h
  rename_i cs hcs;split at h;rotate_left;cases h
  rename_i hlen;have hlen:=Nat.eq_of_beq_eq_true hlen;obtain⟨row,hrow,h⟩:=h;split at h;rotate_left;cases h
  rename_i row' hset;simp only[ak,hb',bf] at hx;obtain⟨hn,rfl⟩:=hx.2.2 (Nat.eq_of_beq_eq_true fD);simp only[ak] at hy;obtain⟨cur,hg,hs,hle,hm,hr,_⟩:=gQ (g.boxes b _ hb') hn;have hcv:=uI hcs hy;have aeA:k<rows.length:=(List.getElem?_eq_some_iff.1 hrow).1;obtain⟨hrl,Ry⟩:=ru hr hrow;rw[dN] at Ry;have hrc:=Ry.take;rw[hrl] at hrc;obtain⟨hl,hc'⟩:=FC.kz hrc hcv hset;have hvs:v.cells.size=i.size:=by rw[←hlen,←hcv.length];simp
  have hpl:=Ry.length;simp only[List.length_take,List.length_drop,Array.length_toList] at hl hpl;have hks:k*st+st≤cur.size:=by
   have:(k+1)*st≤(R.cap b).1*st:=Nat.mul_le_mul_right _ (by omega);rw[Nat.add_mul] at this;omega
  have hrun:=uh (w:=w) hi' hg hvs (off:=k*st+off) (by have:=hcv.length;simp only[Array.length_toList] at this hl;omega) hcv.one;have hrun':(Instr.storeAt t (.pointer (some ⟨R.blk b,k*st+off,none⟩)) v).run P w =
    .ok () (w.setRow (R.blk b) (cur.toList.take (k*st+off)++v.cells.toList++cur.toList.drop (k*st+off+v.cells.toList.length)).toArray):=by
   simp only[Instr.storeAt,Instr.sureAddr,pure_bind];exact hrun
  refine⟨_,_,hrun',h,?_⟩;have hR:∀b',b'≠b→R.blk b'=R.blk b'∧R.nil b'=R.nil b'∧R.cap b'=R.cap b':=fun _ _=>⟨rfl,rfl,rfl⟩
  have hll:(rows.set k row').length=rows.length:=by simp
  have r1:∀off v,aY R b off v (lk s.hp b)→aY R b off v (some (.arr e vr st (rows.set k row'))):=fun off v h=>by rw[hb'] at h;exact h
  have r2:∀ver v,aU R b ver v (lk s.hp b)→aU R b ver v (some (.arr e vr st (rows.set k row'))):=fun _ v h=>by rw[hb'] at h;simp only[aU,hll] at h ⊢;exact h
  have r3:∀ver i off v,bf R b ver i off v (lk s.hp b)→bf R b ver i off v (some (.arr e vr st (rows.set k row'))):=fun _ _ _ v h=>by rw[hb'] at h;exact h
  have hown:∀r,aL R b r (some (.arr e vr st (rows.set k row')))→aL R b r (lk s.hp b)∨w.heap.size≤r:=fun r h=>by rw[hb'];exact .inl h
  have hworld:mr (fun r=>aL R b r (lk s.hp b)) w (w.setRow (R.blk b) (cur.toList.take (k*st+off)++v.cells.toList++cur.toList.drop (k*st+off+v.cells.toList.length)).toArray):=by
   refine (oI w _ _).mono ?_;rintro r rfl
   rw[hb'];exact⟨hn,rfl⟩
  obtain⟨m1,m2,m3,m4,m5⟩:=g.Ga hR r1 r2 r3 hown hworld;refine g.upd hR r1 r2 r3 hown hworld ?_;have XJ:row'.length=st:=(Ck hset).trans hrl;have XK:=LB (i:=k) hr aeA XJ hc';have hyl:(List.take off (List.take st (List.drop (k*st) cur.toList))++v.cells.toList++List.drop (off+v.cells.toList.length) (List.take st (List.drop (k*st) cur.toList))).length=st:=by
   rw[hc'.length];exact XJ
  rw[hyl] at XK;have heq:cur.toList.take (k*st)++(List.take off (List.take st (List.drop (k*st) cur.toList))++v.cells.toList++List.drop (off+v.cells.toList.length) (List.take st (List.drop (k*st) cur.toList)))++cur.toList.drop (k*st+st) =
    cur.toList.take (k*st+off)++v.cells.toList++cur.toList.drop (k*st+off+v.cells.toList.length):=by
   have e1:List.take off (List.take st (List.drop (k*st) cur.toList))=List.take off (List.drop (k*st) cur.toList):=by
    have:min off st=off:=by omega
    rw[List.take_take,this]
   have e2:List.drop (off+v.cells.toList.length) (List.take st (List.drop (k*st) cur.toList))++cur.toList.drop (k*st+st)=cur.toList.drop (k*st+off+v.cells.toList.length):=by
    have h1:cur.toList.drop (k*st+st)=(cur.toList.drop (k*st)).drop st:=by rw[List.drop_drop]
    have h2:cur.toList.drop (k*st+off+v.cells.toList.length)=(cur.toList.drop (k*st)).drop (off+v.cells.toList.length):=by rw[List.drop_drop,Nat.add_assoc]
    rw[h1,h2,←List.drop_append_of_le_length (by simp only[List.length_take,List.length_drop,Array.length_toList];omega),List.take_append_drop]
   rw[e1,List.take_add];simp only[List.append_assoc] at e2 ⊢;rw[e2]
  rw[heq] at XK;have hsl:dH R b (rows.set k row').length=.slice (some ⟨R.blk b,0,none⟩) rows.length ((R.cap b).1):=by simp[dH,hn]
  obtain⟨t1,t2,t3⟩:=gG (aX m1 m2 _ _ _ XK);refine⟨_,?_,t2⟩;rw[hsl,hll];rw[hll] at t1;refine⟨?_,.inr ⟨R.blk b,(R.cap b).1,_,rfl,Nat.zero_le _,setRow_heap w _ cur _ e _ hg,hle,hm,?_,by simp⟩⟩
  ·simp only[List.length_take];omega
  simp only[List.size_toArray,List.length_append,List.length_take,List.length_drop,Array.length_toList];have:=hcv.length;simp only[Array.length_toList] at this hl ⊢;omega
 exact h.elim
end
section
variable {P:Program}{T:Tab}{c:Ctx}{R:Real}{s:AS}{a:Act}{w:World}
theorem bG.sj (g:bG c R s a w){b:Nat}{e:TypeId}{ver st:Nat}{rows:List (List PV)}{R':Real}{w':World}
  (hold:lk s.hp b=none∨∃e0 v Ap yO,lk s.hp b=some (.arr e0 v Ap yO)∧v<ver)
  (hR:∀b',b'≠b→R'.blk b'=R.blk b'∧R'.nil b'=R.nil b'∧R'.cap b'=R.cap b')
  (hworld:mr (fun r=>aL R b r (lk s.hp b)) w w')
  (hown:R'.nil b=false→aL R b (R'.blk b) (lk s.hp b)∨w.heap.size≤R'.blk b)
  {xs:List Value} (ho:w'.ownsRow 0 e st (dH R' b rows.length) rows.length xs) (hr:cK (aV c R s.hp) w st rows xs) (hY:R'.Y=R.Y:=by rfl) :
  bG c R' (s.app [(b,.arr e ver st rows)]) a w' ∧
   ak (aV c R' ((b,.arr e ver st rows)::s.hp)) w' ((b,.arr e ver st rows)::s.hp) R' (.aO b ver) (dH R' b rows.length):=by
 have r1:∀off v,aY R b off v (lk s.hp b)→aY R' b off v (some (.arr e ver st rows)):=by
  intro off v h;rcases hold with hf|⟨e0,v0,Ap,yO,hf,hv⟩<;>rw[hf] at h<;>exact h.elim
 have r2:∀eZ v,aU R b eZ v (lk s.hp b)→aU R' b eZ v (some (.arr e ver st rows)):=by
  intro eZ v h;rcases hold with hf|⟨e0,v0,Ap,yO,hf,hv⟩
  ·rw[hf] at h;exact h.elim
  rw[hf] at h;simp only[aU] at h ⊢;exact⟨by omega,h.2.1,fun x=>by omega⟩
 have r3:∀eZ i off v,bf R b eZ i off v (lk s.hp b)→bf R' b eZ i off v (some (.arr e ver st rows)):=by
  intro eZ i off v h;rcases hold with hf|⟨e0,v0,Ap,yO,hf,hv⟩
  ·rw[hf] at h;exact h.elim
  rw[hf] at h;simp only[bf] at h ⊢;exact⟨by omega,h.2.1,fun x=>by omega⟩
 have hown':∀r,aL R' b r (some (.arr e ver st rows))→aL R b r (lk s.hp b)∨w.heap.size≤r:=by
  rintro r ⟨h1,rfl⟩
  exact hown h1
 obtain⟨m1,m2,m3,m4,m5⟩:=g.Ga hR r1 r2 r3 hown' hworld hY;refine⟨g.upd hR r1 r2 r3 hown' hworld ⟨xs,ho,aX m1 m2 _ _ _ hr⟩ hY,?_⟩;simp only[ak,aC,if_true];refine⟨Nat.le_refl _,?_,fun _=>rfl⟩;unfold dH;split<;>rfl
def lM (H:List (Nat×aF))(st:Nat)(x:AV):Option (List (List PV)):=
 match x with
 |.pv (.sc (.slice none 0 0))=>some []
 | .pv (.sl _ st' rows)=>match Nat.beq st' st with
   |true=>some rows
   |false=>none
 | .aO b ver=>match uq (lk H b) ver with
   | some (.sl _ st' rows)=>match Nat.beq st' st with
     |true=>some rows
     |false=>none
   |_=>none
 | .sub b ver st1 lo hi=>match uq (lk H b) ver with
   | some (.sl _ st' rows)=>match Nat.beq st' st,Nat.beq st1 st with
     |true,true=>some (jF rows lo hi)
     |_,_=>none
   |_=>none
 |_=>none
theorem xB {N:Nat→Prop}{nn:Bool}{st:Nat}{rows:List (List PV)}{u:Value}(h:bJ N w (.sl nn st rows) u) :
  ∃p len cap,u=.slice p len cap∧len=rows.length∧len≤cap∧(p=none→rows=[])∧∀ad,p=some ad→∃news:List Value,news.length=rows.length*st ∧
   (∀j v,news[j]? = some v→w.cell? (ad.add j)=some v)∧(∀u∈news,u.oneCell'=true)∧cK N w st rows news:=by
 simp only[bJ] at h;obtain⟨p,len,cap,rfl,rfl,⟨hle,_⟩,hnone,hsome⟩:=h;refine⟨p,_,cap,rfl,rfl,hle,fun e=>List.eq_nil_of_length_eq_zero (by have:=(hnone e).2;omega),fun ad e=>?_⟩;rcases hsome ad e with h6|⟨hs,hn,cur,e2,fr,hg,hr⟩
 ·subst h6;exact⟨[],by simp,by simp,by simp,by simp[cK]⟩
 obtain⟨h1,h2,h3⟩:=gG hr;obtain⟨blk,off,spot⟩:=ad;simp only at hs hg hr;subst hs;refine⟨_,?_,?_,h3,h2⟩
 ·simp only[List.length_take,List.length_drop] at h1 ⊢;omega
 intro j v hv;rw[addr_add,yP hg];rw[List.getElem?_take] at hv;split at hv
 ·simp only[List.getElem?_drop] at hv;simpa using hv
 cases hv
theorem add_add (a:Addr)(n m:Nat):(a.add n).add m=a.add (n+m):=by
 unfold Addr.add;by_cases h1:n=0
 ·subst h1;simp
 by_cases h2:m=0
 ·subst h2;simp[h1]
 rw[if_neg h1,if_neg h2,if_neg (by omega)];simp[Nat.add_assoc]
theorem QX (g:bG c R s a w){H:List (Nat×aF)}(hH:∀b box,lk H b=some box→lk s.hp b=some box){st:Nat}{b ver:Nat}{nn:Bool}{rows:List (List PV)}
  (hv:uq (lk H b) ver=some (.sl nn st rows)) {u:Value} (hx:aU R b ver u (lk s.hp b)) :
  ∃p len cap,u=.slice p len cap∧len=rows.length∧len≤cap∧(p=none→rows=[])∧∀ad,p=some ad→∃news:List Value,news.length=rows.length*st ∧
   (∀j v,news[j]? = some v→w.cell? (ad.add j)=some v)∧(∀u∈news,u.oneCell'=true)∧cK (aV c R s.hp) w st rows news:=by
 cases hb:lk H b with
 |none=>rw[hb] at hv;cases hv
 | some box=>
   have hb':=hH _ _ hb;rw[hb] at hv;cases box with
   |var _=>cases hv
   |nR _=>cases hv
   |tr _ _ _ _=>cases hv
   |gy _ _ _ _ _ _=>cases hv
   |mp _ _ _=>cases hv
   |iM _ _ _ _ _ _ _ _ _=>cases hv
   | arr e v Ap yO=>
     simp only[uq] at hv;split at hv
     ·rename_i fD;simp only[Option.some.injEq,PV.sl.injEq] at hv;obtain⟨rfl,rfl,rfl⟩:=hv;rw[hb'] at hx;have:=hx.2.2 (Nat.eq_of_beq_eq_true fD);subst this;obtain⟨xs,ho,hr⟩:=(g.boxes b _ hb');rcases ho.2 with ⟨e1,e2⟩|⟨g',cap,cur,e1,_,hg,hle,hm,hs,ht⟩
      ·have he:yO=[]:=List.eq_nil_of_length_eq_zero e2;subst he;rw[e1];exact⟨none,0,0,rfl,rfl,Nat.le_refl _,fun _=>rfl,fun ad e=>by cases e⟩
      rw[e1];refine⟨_,_,cap,rfl,rfl,hle,fun e=>(by cases e),fun ad e=>?_⟩;simp only[Option.some.injEq] at e;subst e;have hr':cK (aV c R s.hp) w Ap yO cur.toList:=by
       have:=oH (cur.toList.drop (yO.length*Ap)) hr;rwa [←ht,List.take_append_drop] at this
      obtain⟨h1,h2,h3⟩:=gG hr';refine⟨xs,ho.1,fun j v hv=>?_,?_,hr⟩
      ·rw[addr_add,yP hg];rw[←ht,List.getElem?_take] at hv;split at hv
       ·simpa using hv
       cases hv
      rw[←ht];exact h3
     cases hv
   | dS v Ap yO=>
     simp only[uq] at hv;split at hv
     ·rename_i fD;simp only[Option.some.injEq,PV.sl.injEq] at hv;obtain⟨rfl,rfl,rfl⟩:=hv;rw[hb'] at hx;have:=hx.2.2 (Nat.eq_of_beq_eq_true fD);subst this;exact xB (g.boxes b _ hb')
     cases hv
theorem GI (g:bG c R s a w){H:List (Nat×aF)}(hH:∀b box,lk H b=some box→lk s.hp b=some box){st:Nat}{x:AV}{rows:List (List PV)}
  (h:lM H st x=some rows) {u:Value} (hx:ak (aV c R s.hp) w s.hp R x u) :
  ∃p len cap,u=.slice p len cap∧len=rows.length∧len≤cap∧(p=none→rows=[])∧∀ad,p=some ad→∃news:List Value,news.length=rows.length*st ∧
   (∀j v,news[j]? = some v→w.cell? (ad.add j)=some v)∧(∀u∈news,u.oneCell'=true)∧cK (aV c R s.hp) w st rows news:=by
 unfold lM at h;split at h
 ·simp only[Option.some.injEq] at h;subst h;simp only[ak,bJ] at hx;exact⟨none,0,0,hx,rfl,Nat.le_refl _,fun _=>rfl,fun ad e=>by cases e⟩
 ·rename_i nn st' aS;split at h
  ·rename_i hst;simp only[Option.some.injEq] at h;subst h;have:=Nat.eq_of_beq_eq_true hst;subst this;simp only[ak] at hx;exact xB hx
  cases h
 ·rename_i b ver;split at h
  ·rename_i nn st' aS hv;split at h
   ·rename_i hst;simp only[Option.some.injEq] at h;subst h;have:=Nat.eq_of_beq_eq_true hst;subst this;simp only[ak] at hx;exact QX g hH hv hx
   cases h
  cases h
 ·rename_i b ver st1 lo hi;split at h
  ·rename_i nn st' aS hv;split at h
   ·rename_i hst afS;simp only[Option.some.injEq] at h;subst h;have e1:=Nat.eq_of_beq_eq_true hst;have e2:=Nat.eq_of_beq_eq_true afS;rw[←e1] at e2;subst e2;rw[←e1];clear hst afS e1;simp only[ak] at hx;obtain⟨u',hx,hok,rfl⟩:=hx;obtain⟨p,len,cap,rfl,rfl,hle,hnone,hsome⟩:=QX g hH hv hx;simp only[oG] at hok;have hlen:(jF aS lo hi).length=hi-lo:=by simp only[jF,List.length_take,List.length_drop];omega
    cases p with
    | none=>
      have hr0:=hnone rfl;subst hr0;simp only[List.length_nil] at hok hle;refine⟨none,0,0,rfl,by rw[hlen];omega,Nat.le_refl _,fun _=>List.eq_nil_of_length_eq_zero (by rw[hlen];omega),fun ad e=>by cases e⟩
    | some ad=>
      obtain⟨news,n1,n2,n3,n4⟩:=hsome ad rfl;refine⟨_,_,_,rfl,hlen.symm,by omega,fun e=>(by cases e),fun ad' e=>?_⟩;simp only[Option.some.injEq] at e;have hr:=lN (hi-lo) (mD lo n4);obtain⟨t1,t2,t3⟩:=gG hr;change (jF aS lo hi).length*_≤_ at t1
      rw[show (List.take (hi-lo) (List.drop lo aS)).length=hi-lo from hlen] at t2 t3;rw[hlen] at t1;by_cases hcl:cap=lo
      ·have hz:hi-lo=0:=by omega
       refine⟨[],by rw[hlen,hz];simp,by simp,by simp,?_⟩;have:jF aS lo hi=[]:=List.eq_nil_of_length_eq_zero (by rw[hlen];exact hz);rw[this];simp[cK]
      rw[if_neg hcl] at e;subst e;refine⟨(news.drop (lo*st1)).take ((hi-lo)*st1),by rw[List.length_take,hlen];omega,fun j v hj=>?_,t3,t2⟩;rw[List.getElem?_take] at hj;split at hj
      ·rw[List.getElem?_drop] at hj;have:=n2 _ _ hj;rw[←this];rw[add_add]
      cases hj
   cases h
  cases h
 cases h
theorem mE {t e:TypeId}{ty:TypeId}{ei:TI}(ht:P.underlying t=some (.slice e))(hi:dw P e ei)(base p:Option Addr)(sLen sCap cap:Nat)(hle:sLen≤sCap) :
  (Builtin.append_ #[t,t] ty #[.slice base sLen sCap,.slice p 0 cap]).run P w=.ok (.slice base sLen sCap) w:=by
 cases p<;>cases base<;>simp[Builtin.append_,run_underlying ht,hi.run_sizeOf,Builtin.lenOf,hle,Builtin.firstCells,loadCells,loadCellsFrom,storeCells]
def uw (T:Tab)(H:List (Nat×aF))(t:TypeId)(vs:List AV)(id:Nat)(K:AV→List (Nat×aF)→Prop):Prop:=
 match vs with
 | [d,x]=>match lk T t with
   | some i=>match i.d with
     | .slt e=>match lk T e with
       | some ei=>tiF ei fun p9 KE=>match Nat.beq KE 0,Nat.beq p9 0 with
         | false,false=>match lM H p9 x with
           | some aS=>match d with
             |.pv (.sc (.slice none 0 0))=>aS.length*KE≤140737488355328∧K (.aO id 0) [(id,.arr e 0 p9 aS)]
             | .aO b ver=>match lk H b with
               | some (.arr e' v st rows)=>match Nat.beq ver v,Nat.beq st p9,Nat.beq e' e with
                 |true,true,true=>(rows.length+aS.length)*KE≤140737488355328∧K (.aO b (v+1)) [(b,.arr e (v+1) p9 (rows++aS))]
                 |_,_,_=>False
               |_=>False
             | .pv (.NY st rows)=>match Nat.beq st p9 with
               |true=>0<aS.length∧(rows.length+aS.length)*KE≤140737488355328∧K (.aO id 0) [(id,.arr e 0 p9 (rows++aS))]
               |false=>False
             |_=>False
           |none=>False
         |_,_=>False
       |none=>False
     |_=>False
   |none=>False
 |_=>False
theorem vT {n b:Nat}(hb:b≠0)(h:n*b≤140737488355328):n≤maxLen∧(n:Int)≤9223372036854775807∧n≤140737488355328:=by
 have:n≤n*b:=Nat.le_mul_of_pos_right _ (Nat.pos_of_ne_zero hb);unfold maxLen;omega
theorem mV {e:TypeId}{st cap n:Nat}{xs:List Value}{z:Array Value}{w0:World}(hz:z.size=st)(hx:xs.length=n*st)(hc:n≤cap)(hm:cap≤maxLen){w1:World}
  (hw:w1.heap=w0.heap.push (.cells (xs.toArray++Builtin.zeroCells z (cap-n)) e)) :
  w1.ownsRow 0 e st (.slice (some ⟨w0.heap.size,0,none⟩) n cap) n xs:=by
 refine⟨hx,.inr ⟨w0.heap.size,cap,_,rfl,Nat.zero_le _,by rw[hw];exact Array.getElem?_push_size,hc,hm,?_,?_⟩⟩
 ·simp only[Array.size_append,List.size_toArray,size_zeroCells,hz,hx,←Nat.add_mul];congr 1
  omega
 simp only[Array.toList_append];rw[←hx];exact List.take_left
theorem sD (g:bG c R s a w)(hT:bY P T){H:List (Nat×aF)}(hH:∀b box,lk H b=some box→lk s.hp b=some box){id:Nat}(hf:lk s.hp id=none)
  {t ty:TypeId} {d x:AV} {K:AV→List (Nat×aF)→Prop} (h:uw T H t [d,x] id K) {u v:Value} (hd:ak (aV c R s.hp) w s.hp R d u) (hx:ak (aV c R s.hp) w s.hp R x v) :
  ∃y w' R' z ws,(Builtin.append_ #[t,t] ty #[u,v]).run P w=.ok y w'∧K z ws∧bG c R' (s.app ws) a w'∧ak (aV c R' (ws++s.hp)) w' (ws++s.hp) R' z y:=by
 unfold uw at h;simp only[eu] at h;try simp only at h
 split at h;rotate_left;cases h
 rename_i i hi;obtain⟨dd,hdd,ig⟩:=(hT t i hi).gW;split at h;rotate_left;cases h
 rename_i e hte;have ht:P.underlying t=some (.slice e):=by
  rw[hte] at ig;cases dd<;>simp[di] at ig
  subst ig;exact hdd
 split at h;rotate_left;cases h
 rename_i ei pV;have iY:=hT _ _ pV;obtain⟨ti,zv,hinfo,hsz,hby,hzero,hzc⟩:=iY.D5;have Wm:zv.cells.size=ei.size:=by have:=iY.Wn;rw[←hzc] at this;simpa using this
 split at h;rotate_left;cases h
 rename_i hb0 hs0;have hb0:=Nat.ne_of_beq_eq_false hb0;have hs0:=Nat.ne_of_beq_eq_false hs0;split at h;rotate_left;cases h
 rename_i aS hsrc;obtain⟨p,len,cap,rfl,rfl,hlc,hpn,hps⟩:=GI g hH hsrc hx;split at h
 ·-- the KG is nil
  obtain⟨hbd,hK⟩:=h;simp only[ak,bJ] at hd;subst hd;obtain⟨b1,b2,b3⟩:=vT hb0 hbd;by_cases hz:aS.length=0
  ·have he:aS=[]:=List.eq_nil_of_length_eq_zero hz;subst he;have hrun:=mE (P:=P) (w:=w) (ty:=ty) ht iY none p 0 0 cap (Nat.le_refl _);obtain⟨g1,g2⟩:=g.sj (e:=e) (ver:=0) (st:=ei.size) (rows:=[]) (R':=R.at id 0 true 0) (.inl hf) (Real.yQ R id 0 true 0) (mr.refl _ w) (by simp[Real.at])
    (xs:=[]) (by simp only[dH,Real.at,if_true,List.length_nil];exact World.ownsRow_nil w 0 e ei.size) (by simp[cK])
   have hsl:dH (R.at id 0 true 0) id 0=.slice none 0 0:=by simp[dH,Real.at]
   refine⟨_,w,_,_,_,hrun,hK,g1,?_⟩;simp only[List.length_nil,hsl] at g2;exact g2
  cases p with
  |none=>exact absurd (by rw[hpn rfl];rfl) hz
  | some ad=>
    obtain⟨news,n1,n2,n3,n4⟩:=hps ad rfl;have hrun:=run_append_nil (P:=P) w t ty e ti zv ht hinfo hzero ad aS.length cap news (by rw[hsz];exact n1) n2 (by omega) b2 (by rw[hby];omega);have NZ:=grownCap_ge w aS.length 0 e;have hgm:=grownCap_le_maxLen w aS.length 0 e b1;have hsl:dH (R.at id w.heap.size false (grownCap w aS.length 0 e)) id aS.length=.slice (some ⟨w.heap.size,0,none⟩) aS.length (grownCap w aS.length 0 e):=by simp[dH,Real.at]
    have D6:(w.drew.alloc (.cells (news.toArray++Builtin.zeroCells zv.cells (grownCap w aS.length 0 e-aS.length)) e)).ownsRow 0 e ei.size
      (.slice (some ⟨w.heap.size,0,none⟩) aS.length (grownCap w aS.length 0 e)) aS.length news:=
     mV (w0:=w) Wm n1 NZ hgm rfl
    obtain⟨g1,g2⟩:=g.sj (e:=e) (ver:=0) (st:=ei.size) (rows:=aS) (R':=R.at id w.heap.size false (grownCap w aS.length 0 e)) (.inl hf)
     (Real.yQ R id _ _ _) (w':=w.drew.alloc (.cells (news.toArray++Builtin.zeroCells zv.cells (grownCap w aS.length 0 e-aS.length)) e))
     ⟨by simp,fun r hr _=>(by first|exact heap_alloc_old w.drew _ hr|exact heap_alloc_old w.drew _ r hr),rfl,rfl,rfl⟩ (fun _=>.inr (by simp[Real.at])) (xs:=news) (by rw[hsl];exact D6) n4
    rw[hsl] at g2;exact⟨_,_,_,_,_,hrun,hK,g1,g2⟩
 ·rename_i b ver;split at h;rotate_left;cases h
  rename_i e' vr st rows hb;have hb':=hH _ _ hb;split at h;rotate_left;cases h
  rename_i fD hst he;have fD:=Nat.eq_of_beq_eq_true fD;have hst:=Nat.eq_of_beq_eq_true hst;have he:=Nat.eq_of_beq_eq_true he;subst fD;subst hst;subst he;obtain⟨hbd,hK⟩:=h;obtain⟨b1,b2,b3⟩:=vT hb0 hbd;simp only[ak,hb'] at hd;have:=hd.2.2 rfl;subst this;obtain⟨xs,ho,hr⟩:=(g.boxes b _ hb');have hlen:(rows++aS).length=rows.length+aS.length:=by simp
  by_cases hz:aS.length=0
  ·have he:aS=[]:=List.eq_nil_of_length_eq_zero hz;subst he;have adR:∃p0 l0 c0,dH R b rows.length=.slice p0 l0 c0∧l0≤c0:=by
    rcases ho.2 with ⟨e1,e2⟩|⟨g',adS,cur,e1,_,hg,hle,_⟩
    ·exact⟨_,_,_,e1,Nat.le_refl _⟩
    exact⟨_,_,_,e1,hle⟩
   obtain⟨p0,l0,c0,e1,e2⟩:=adR;have hrun:=mE (P:=P) (w:=w) (ty:=ty) ht iY p0 p l0 c0 cap e2;rw[←e1] at hrun;obtain⟨g1,g2⟩:=g.sj (b:=b) (e:=e') (ver:=ver+1) (st:=ei.size) (rows:=rows++[]) (R':=R) (.inr ⟨_,_,_,_,hb',Nat.lt_succ_self _⟩) (fun _ _=>⟨rfl,rfl,rfl⟩) (mr.refl _ w)
    (fun hn=>.inl (by rw[hb'];exact⟨hn,rfl⟩)) (xs:=xs) (by simpa using ho) (by simpa using hr)
   simp only[List.append_nil] at g2;exact⟨_,w,R,_,_,hrun,hK,g1,by simpa using g2⟩
  cases p with
  |none=>exact absurd (by rw[hpn rfl];rfl) hz
  | some ad=>
    obtain⟨news,n1,n2,n3,n4⟩:=hps ad rfl;have hrr:cK (aV c R s.hp) w ei.size (rows++aS) (xs++news):=jS hr ho.1 n4;rcases ho.2 with ⟨e1,e2⟩|⟨g',adS,cur,e1,_,hg,hle,hm,hcs,ht'⟩
    ·-- nil so far
     have he:rows=[]:=List.eq_nil_of_length_eq_zero e2;subst he;have hx0:xs=[]:=List.eq_nil_of_length_eq_zero (by simpa using ho.1);subst hx0;have hrun:=run_append_nil (P:=P) w t ty e' ti zv ht hinfo hzero ad aS.length cap news (by rw[hsz];exact n1) n2 (by omega) (by simpa using (vT hb0 (by simpa using hbd)).2.1) (by rw[hby];simp at hbd;omega);rw[←e1] at hrun;have NZ:=grownCap_ge w aS.length 0 e';have hgm:=grownCap_le_maxLen w aS.length 0 e' (by simpa using b1);have hsl:dH (R.at b w.heap.size false (grownCap w aS.length 0 e')) b ([]++aS).length=.slice (some ⟨w.heap.size,0,none⟩) aS.length (grownCap w aS.length 0 e'):=by simp[dH,Real.at]
     have D6:(w.drew.alloc (.cells (news.toArray++Builtin.zeroCells zv.cells (grownCap w aS.length 0 e' - aS.length)) e')).ownsRow 0 e' ei.size
       (.slice (some ⟨w.heap.size,0,none⟩) aS.length (grownCap w aS.length 0 e')) aS.length news:=
      mV (w0:=w) Wm n1 NZ hgm rfl
     obtain⟨g1,g2⟩:=g.sj (b:=b) (e:=e') (ver:=ver+1) (st:=ei.size) (rows:=[]++aS) (R':=R.at b w.heap.size false (grownCap w aS.length 0 e')) (.inr ⟨_,_,_,_,hb',Nat.lt_succ_self _⟩)
      (Real.yQ R b _ _ _) (w':=w.drew.alloc (.cells (news.toArray++Builtin.zeroCells zv.cells (grownCap w aS.length 0 e' - aS.length)) e'))
      ⟨by simp,fun r hr _=>(by first|exact heap_alloc_old w.drew _ hr|exact heap_alloc_old w.drew _ r hr),rfl,rfl,rfl⟩ (fun _=>.inr (by simp[Real.at])) (xs:=news) (by rw[hsl];exact D6) (by simpa using n4)
     rw[hsl] at g2;exact⟨_,_,_,_,_,hrun,hK,g1,g2⟩
    have hnil:R.nil b=false:=by
     cases hn:R.nil b with
     |false=>rfl
     |true=>simp[dH,hn] at e1
    have hgb:g'=R.blk b∧adS=(R.cap b).1:=by simp[dH,hnil] at e1;exact⟨e1.1.symm,e1.2.symm⟩
    obtain⟨rfl,rfl⟩:=hgb;by_cases hroom:rows.length+aS.length≤(R.cap b).1
    ·have hfit:rows.length*ei.size+news.length≤cur.size:=by rw[n1,hcs,←Nat.add_mul];exact Nat.mul_le_mul_right _ hroom
     have hrun:=run_append_room (P:=P) w t ty e' ti ht hinfo (R.blk b) rows.length ((R.cap b).1) cur hg ad aS.length cap news (by rw[hsz];exact n1) n2 n3 hroom (by rw[hsz];exact hfit);rw[←e1,hsz] at hrun;have hsl:dH R b (rows++aS).length=.slice (some ⟨R.blk b,0,none⟩) (rows.length+aS.length) ((R.cap b).1):=by simp[dH,hnil]
     obtain⟨g1,g2⟩:=g.sj (b:=b) (e:=e') (ver:=ver+1) (st:=ei.size) (rows:=rows++aS) (R':=R) (.inr ⟨_,_,_,_,hb',Nat.lt_succ_self _⟩) (fun _ _=>⟨rfl,rfl,rfl⟩)
      (w':=w.setRow (R.blk b) (cur.toList.take (rows.length*ei.size)++news++cur.toList.drop (rows.length*ei.size+news.length)).toArray)
      ((oI w _ _).mono fun r hr=>by rw[hb'];exact⟨hnil,hr.symm⟩) (fun hn=>.inl (by rw[hb'];exact⟨hn,rfl⟩)) (xs:=xs++news) (by
        rw[hsl];refine⟨by rw[hlen,List.length_append,ho.1,n1,Nat.add_mul],.inr ⟨R.blk b,(R.cap b).1,_,by rw[hlen],Nat.zero_le _,setRow_heap w _ cur _ e' _ hg,by rw[hlen];exact hroom,hm,?_,?_⟩⟩
        ·simp only[List.size_toArray,List.length_append,List.length_take,List.length_drop,Array.length_toList];omega
        rw[hlen,ht',Nat.add_mul,←ho.1,←n1,←List.length_append];exact List.take_left) hrr
     rw[hsl] at g2;exact⟨_,_,_,_,_,hrun,hK,g1,g2⟩
    have holds:∀j v,xs[j]? = some v→w.cell? ((⟨R.blk b,0,none⟩:Addr).add j)=some v:=by
     intro j v hv;rw[addr_add,yP hg];rw[←ht',List.getElem?_take] at hv;split at hv
     ·simpa using hv
     cases hv
    have hrun:=run_append_grow (P:=P) w t ty e' ti zv ht hinfo hzero ⟨R.blk b,0,none⟩ rows.length ((R.cap b).1) xs (by rw[hsz];exact ho.1) holds ad aS.length cap news (by rw[hsz];exact n1) n2 (by omega)
     (by omega) (growslice_fits (by omega) (by rw[hby];exact hbd))
    rw[←e1] at hrun;have NZ:=grownCap_ge w (rows.length+aS.length) ((R.cap b).1) e';have hgm:=grownCap_le_maxLen w (rows.length+aS.length) ((R.cap b).1) e' b1;have hsl:dH (R.at b w.heap.size false (grownCap w (rows.length+aS.length) ((R.cap b).1) e')) b (rows++aS).length =
      .slice (some ⟨w.heap.size,0,none⟩) (rows.length+aS.length) (grownCap w (rows.length+aS.length) ((R.cap b).1) e'):=by simp[dH,Real.at]
    have D6:(w.drew.alloc (.cells (xs.toArray++news.toArray++Builtin.zeroCells zv.cells (grownCap w (rows.length+aS.length) ((R.cap b).1) e' - (rows.length+aS.length))) e')).ownsRow 0 e' ei.size
      (.slice (some ⟨w.heap.size,0,none⟩) (rows.length+aS.length) (grownCap w (rows.length+aS.length) ((R.cap b).1) e')) (rows.length+aS.length) (xs++news):=
     mV (w0:=w) Wm (by rw[List.length_append,ho.1,n1,Nat.add_mul]) NZ hgm (by rw[show (xs++news).toArray=xs.toArray++news.toArray from by simp];rfl)
    obtain⟨g1,g2⟩:=g.sj (b:=b) (e:=e') (ver:=ver+1) (st:=ei.size) (rows:=rows++aS) (R':=R.at b w.heap.size false (grownCap w (rows.length+aS.length) ((R.cap b).1) e'))
     (.inr ⟨_,_,_,_,hb',Nat.lt_succ_self _⟩) (Real.yQ R b _ _ _)
     (w':=w.drew.alloc (.cells (xs.toArray++news.toArray++Builtin.zeroCells zv.cells (grownCap w (rows.length+aS.length) ((R.cap b).1) e' - (rows.length+aS.length))) e'))
     ⟨by simp,fun r hr _=>(by first|exact heap_alloc_old w.drew _ hr|exact heap_alloc_old w.drew _ r hr),rfl,rfl,rfl⟩ (fun _=>.inr (by simp[Real.at])) (xs:=xs++news) (by rw[hsl,hlen];exact D6) hrr
    rw[hsl] at g2;exact⟨_,_,_,_,_,hrun,hK,g1,g2⟩
 ·-- nothing is behind the KG
  rename_i st rows;split at h;rotate_left;cases h
  rename_i hst;have hst:=Nat.eq_of_beq_eq_true hst;subst hst;obtain⟨hz,hbd,hK⟩:=h;obtain⟨b1,b2,b3⟩:=vT hb0 hbd;simp only[ak] at hd;obtain⟨bp,alI,alJ,hbe,_,_,_,hbs⟩:=xB (GJ hd);simp only[bJ] at hd;obtain⟨ba,rfl,_,_⟩:=hd;simp only[Value.slice.injEq] at hbe;obtain⟨rfl,rfl,rfl⟩:=hbe;obtain⟨xs,x1,x2,x3,x4⟩:=hbs ba rfl;cases p with
  |none=>exact absurd (by rw[hpn rfl];rfl) (Nat.ne_of_gt hz)
  | some ad=>
    obtain⟨news,n1,n2,n3,n4⟩:=hps ad rfl;have hrr:cK (aV c R s.hp) w ei.size (rows++aS) (xs++news):=jS x4 x1 n4;have hlen:(rows++aS).length=rows.length+aS.length:=by simp
    have hrun:=run_append_grow (P:=P) w t ty e ti zv ht hinfo hzero ba rows.length rows.length xs (by rw[hsz];exact x1) x2 ad aS.length cap news (by rw[hsz];exact n1) n2 (by omega)
     (by omega) (growslice_fits (by omega) (by rw[hby];exact hbd))
    have NZ:=grownCap_ge w (rows.length+aS.length) rows.length e;have hgm:=grownCap_le_maxLen w (rows.length+aS.length) rows.length e b1;have hsl:dH (R.at id w.heap.size false (grownCap w (rows.length+aS.length) rows.length e)) id (rows++aS).length =
      .slice (some ⟨w.heap.size,0,none⟩) (rows.length+aS.length) (grownCap w (rows.length+aS.length) rows.length e):=by simp[dH,Real.at]
    have D6:(w.drew.alloc (.cells (xs.toArray++news.toArray++Builtin.zeroCells zv.cells (grownCap w (rows.length+aS.length) rows.length e-(rows.length+aS.length))) e)).ownsRow 0 e ei.size
      (.slice (some ⟨w.heap.size,0,none⟩) (rows.length+aS.length) (grownCap w (rows.length+aS.length) rows.length e)) (rows.length+aS.length) (xs++news):=
     mV (w0:=w) Wm (by rw[List.length_append,x1,n1,Nat.add_mul]) NZ hgm (by rw[show (xs++news).toArray=xs.toArray++news.toArray from by simp];rfl)
    obtain⟨g1,g2⟩:=g.sj (e:=e) (ver:=0) (st:=ei.size) (rows:=rows++aS) (R':=R.at id w.heap.size false (grownCap w (rows.length+aS.length) rows.length e)) (.inl hf)
     (Real.yQ R id _ _ _) (w':=w.drew.alloc (.cells (xs.toArray++news.toArray++Builtin.zeroCells zv.cells (grownCap w (rows.length+aS.length) rows.length e-(rows.length+aS.length))) e))
     ⟨by simp,fun r hr _=>(by first|exact heap_alloc_old w.drew _ hr|exact heap_alloc_old w.drew _ r hr),rfl,rfl,rfl⟩ (fun _=>.inr (by simp[Real.at])) (xs:=xs++news) (by rw[hsl,hlen];exact D6) hrr
    rw[hsl] at g2;exact⟨_,_,_,_,_,hrun,hK,g1,g2⟩
 exact h.elim
end
theorem Au {α:Type}(l m:List (Nat×α))(t:Nat):lk (l++m) t=match lk l t with
  |some v=>some v
  |none=>lk m t:=by
 induction l with
 |nil=>simp[lk]
 | cons x l ih=>
   obtain⟨k,v⟩:=x;simp only[List.cons_append,aC];split
   ·rfl
   exact ih
section
variable {P:Program}{T:Tab}{c:Ctx}{R:Real}{s:AS}{a:Act}{w:World}
theorem ku (g:bG c R s a w){H:List (Nat×aF)}(hH:∀b box,lk H b=some box→lk s.hp b=some box):∀(bs:List Nat) (fs:List (Nat×aF)),Je H bs=some fs →
  bG c R (s.app fs) a w∧(∀v x,ak (aV c R s.hp) w s.hp R v x→ak (aV c R (fs++s.hp)) w (fs++s.hp) R v x) ∧
   (∀r,aV c R (fs++s.hp) r→aV c R s.hp r)∧(∀b,(lk fs b).isSome=true∨b∈bs→∀r,aL R b r (lk s.hp b)→¬aV c R (fs++s.hp) r)
 | [],fs,h=>by
   simp only[Je,Option.some.injEq] at h;subst h;exact⟨g,fun v x h=>h,fun r h=>h,fun b h=>by simp[lk] at h⟩
 | b::bs,fs,h=>by
   simp only[Je] at h;split at h
   ·rename_i t ht;obtain⟨g1,m1,n1,o1⟩:=ku g hH bs t ht;split at h
    ·rename_i x hx;simp only[Option.some.injEq] at h;subst h;refine⟨g1,m1,n1,fun b' hb'=>?_⟩;rcases hb' with hb'|hb'
     ·exact o1 b' (.inl hb')
     rcases List.mem_cons.1 hb' with rfl|hb'
     ·exact o1 _ (.inl (by rw[hx];rfl))
     exact o1 b' (.inr hb')
    rename_i hnone;have step:∀{box bL:aF},lk H b=some box →
      ((∃e v st rows,box=.arr e v st rows∧bL=.dS v st rows)∨(∃cells ps,box=.var cells∧ji cells=some ps∧bL=.nR ps)) →
      bG c R (s.app ((b,bL)::t)) a w∧(∀v x,ak (aV c R s.hp) w s.hp R v x→ak (aV c R ((b,bL)::t++s.hp)) w ((b,bL)::t++s.hp) R v x) ∧
       (∀r,aV c R ((b,bL)::t++s.hp) r→aV c R s.hp r)∧(∀b',(lk ((b,bL)::t) b').isSome=true∨b'∈b::bs→∀r,aL R b' r (lk s.hp b')→¬aV c R ((b,bL)::t++s.hp) r):=by
     intro box bL hb hf;have hl:lk (s.app t).hp b=some box:=by
      show lk (t++s.hp) b=_
      rw[Au,hnone];exact hH _ _ hb
     obtain⟨g2,m2,n2,o2⟩:=g1.freeze hl hf;refine⟨g2,fun v x h=>m2 v x (m1 v x h),fun r h=>n1 r (n2 r h),fun b' hb' r ho hN=>?_⟩;by_cases e:b'=b
     ·subst e;refine o2 r ?_ hN;rw[hl,←hH _ _ hb];exact ho
     rcases hb' with hb'|hb'
     ·rw[aC,if_neg (fun x=>e x.symm)] at hb';exact o1 b' (.inl hb') r ho (n2 r hN)
     rcases List.mem_cons.1 hb' with rfl|hb'
     ·exact e rfl
     exact o1 b' (.inr hb') r ho (n2 r hN)
    have keep:fs=t→(∀r,¬aL R b r (lk s.hp b))→bG c R (s.app fs) a w∧(∀v x,ak (aV c R s.hp) w s.hp R v x→ak (aV c R (fs++s.hp)) w (fs++s.hp) R v x) ∧
      (∀r,aV c R (fs++s.hp) r→aV c R s.hp r)∧(∀b',(lk fs b').isSome=true∨b'∈b::bs→∀r,aL R b' r (lk s.hp b')→¬aV c R (fs++s.hp) r):=by
     rintro rfl hno
     refine⟨g1,m1,n1,fun b' hb' r ho=>?_⟩;rcases hb' with hb'|hb'
     ·exact o1 b' (.inl hb') r ho
     rcases List.mem_cons.1 hb' with rfl|hb'
     ·exact (hno r ho).elim
     exact o1 b' (.inr hb') r ho
    split at h
    ·rename_i e v st rows hb;simp only[Option.some.injEq] at h;subst h;exact step hb (.inl ⟨_,_,_,_,rfl,rfl⟩)
    ·rename_i cells hb;split at h
     ·rename_i ps hps;simp only[Option.some.injEq] at h;subst h;exact step hb (.inr ⟨_,_,rfl,hps,rfl⟩)
     cases h
    ·rename_i v st rows hb;simp only[Option.some.injEq] at h;exact keep h.symm (fun r=>by rw[hH _ _ hb];exact id)
    ·rename_i cells hb;simp only[Option.some.injEq] at h;exact keep h.symm (fun r=>by rw[hH _ _ hb];exact id)
    ·cases h
    ·cases h
    ·cases h
    ·cases h
    cases h
   cases h
def GK (H:List (Nat×aF))(f:Fn)(nf:Nat)(vs:List AV)(K:AV→List (Nat×aF)→Prop):Prop:=
 match kF nf vs,kR nf vs with
 | some xs,some ys=>match GL H xs,GL H ys with
   | some ps,some qs=>match Je H (fq xs++fq ys) with
     |some fs=>K (.pv (.fn f ps qs)) fs
     |none=>K (.fn f xs ys) []
   |_,_=>K (.fn f xs ys) []
 |_,_=>False
theorem FL.split {α:Type}{Q:α→Value→Prop}:∀{n:Nat} {l xs ys:List α} {m:List Value},FL Q l m→kF n l=some xs→kR n l=some ys→FL Q xs (m.take n)∧FL Q ys (m.drop n)
 | 0,l,xs,ys,m,h,h1,h2=>by
   simp only[kF,kR,Option.some.injEq] at h1 h2;subst h1;subst h2;exact⟨by simp[FL],by simpa using h⟩
 |n+1,[],xs,ys,m,h,h1,h2=>by simp[kF] at h1
 | n+1,p::ps,xs,ys,m,h,h1,h2=>by
   obtain⟨v,r,rfl,h3,h⟩:=h;simp only[kF] at h1;split at h1
   ·rename_i t ht;simp only[Option.some.injEq] at h1;subst h1;simp only[kR] at h2;obtain⟨a1,a2⟩:=h.split ht h2;exact⟨⟨v,r.take n,by simp,h3,a1⟩,by simpa using a2⟩
   cases h1
theorem KH (g:bG c R s a w){H:List (Nat×aF)}(hH:∀b box,lk H b=some box→lk s.hp b=some box){f:Fn}{first bF:Array Value}{vs:List AV}{K:AV→List (Nat×aF)→Prop}
  (h:GK H f first.size vs K) (hv:FL (ak (aV c R s.hp) w s.hp R) vs (first.toList++bF.toList)) :
  ∃z ws,(Instr.makeFunc f first bF).run P w=.ok (.func f first bF) w∧K z ws∧bG c R (s.app ws) a w∧ak (aV c R (ws++s.hp)) w (ws++s.hp) R z (.func f first bF):=by
 have ref:∀{xs ys:List AV},kF first.size vs=some xs→kR first.size vs=some ys→K (.fn f xs ys) [] →
   ∃z ws,(Instr.makeFunc f first bF).run P w=.ok (.func f first bF) w∧K z ws∧bG c R (s.app ws) a w∧ak (aV c R (ws++s.hp)) w (ws++s.hp) R z (.func f first bF):=by
  intro xs ys hxs hys h;obtain⟨a1,a2⟩:=hv.split hxs hys;have l1:(first.toList++bF.toList).take first.size=first.toList:=by rw[←Array.length_toList];exact List.take_left
  have l2:(first.toList++bF.toList).drop first.size=bF.toList:=by rw[←Array.length_toList];exact List.drop_left
  rw[l1] at a1;rw[l2] at a2;refine⟨_,[],rfl,h,g,?_⟩;simp only[ak];exact⟨first,bF,rfl,by rw[eF];exact a1,by rw[eF];exact a2⟩
 unfold GK at h;split at h;rotate_left;cases h
 rename_i xs ys hxs hys;split at h
 ·rename_i ps qs hps hqs;split at h
  ·rename_i fs hfs;obtain⟨g1,m1,n1,o1⟩:=ku g hH _ _ hfs;obtain⟨a1,a2⟩:=hv.split hxs hys;have l1:(first.toList++bF.toList).take first.size=first.toList:=by rw[←Array.length_toList];exact List.take_left
   have l2:(first.toList++bF.toList).drop first.size=bF.toList:=by rw[←Array.length_toList];exact List.drop_left
   rw[l1] at a1;rw[l2] at a2;refine⟨_,fs,rfl,h,g1,?_⟩;simp only[ak,bJ];refine⟨first,bF,rfl,?_,?_⟩
   ·exact iG g hH n1 xs ps _ (fun b hb=>o1 b (.inr (by simp[hb]))) hps (by rw[eF];exact a1)
   exact iG g hH n1 ys qs _ (fun b hb=>o1 b (.inr (by simp[hb]))) hqs (by rw[eF];exact a2)
  exact ref hxs hys h
 exact ref hxs hys h
def yS (T:Tab):List (Nat×TypeId)→Bool
 |[]=>true
 | (_,ft)::r=>match lk T ft with
   |some _=>yS T r
   |none=>false
def N7 (T:Tab)(t:TypeId):List Nat→List AV→List AV→Option (List AV)
 |[],[],cells=>some cells
 | f::fs,v::vs,cells=>match yT T t f with
   | some (off,j)=>match cellsOf j v with
     | some cs=>match Nat.beq cs.length j.size with
       | true=>match kz off cells cs with
         |some cells'=>N7 T t fs vs cells'
         |none=>none
       |false=>none
     |none=>none
   |none=>none
 |_,_,_=>none
def Av (T:Tab)(t:TypeId)(ks:List Nat)(vs:List AV)(K:AV→Prop):Prop:=
 match lk T t with
 | some i=>match i.d with
   | .str fs=>match yS T fs with
     | true=>match zAV i.zero with
       | some z=>match N7 T t ks vs z with
         | some cells=>match yU cells with
           |some v=>K v
           |none=>False
         |none=>False
       |none=>False
     |false=>False
   |_=>False
 |none=>False
theorem uH (off:Nat)(l:List Value)(cs:Array Value)(h:off+l.length≤cs.size) :
  ((l.zipIdx 0).foldl (fun cs (x:Value×Nat)=>cs.setIfInBounds (off+x.2) x.1) cs).toList=cs.toList.take off++l++cs.toList.drop (off+l.length):=by
 obtain⟨h1,h2⟩:=Great.foldl_set off l 0 cs;apply List.ext_getElem?;intro k;rw[Array.getElem?_toList,h2 k];simp only[Nat.add_zero,List.append_assoc,List.getElem?_append,List.length_take,Array.length_toList,List.getElem?_take,List.getElem?_drop,Array.getElem?_toList];have hm:min off cs.size=off:=by omega
 rw[hm];by_cases h3:k<off
 ·rw[if_neg (by omega),if_pos h3,if_pos h3]
 rw[if_neg h3];by_cases h4:k<off+l.length
 ·rw[if_pos ⟨by omega,h4,by omega⟩,if_pos (by omega)]
 rw[if_neg (by omega),if_neg (by omega)];congr 1
 omega
theorem D7 {N:Nat→Prop}{hp:List (Nat×aF)}(hT:bY P T){t:TypeId}{fs:Array Field}(ht:P.underlying t=some (.struct fs)){place:Nat→Option (Nat×Nat)}
  (hpl:∀(f:Nat) (fd:Field) (j:TI),fs[f]? = some fd→dw P fd.type j→place f=some (fd.offset,j.size)) :
  ∀(ks:List Nat) (vs cells cells':List AV) (us:List Value) (zs:Array Value),N7 T t ks vs cells=some cells'→FL (ak N w hp R) vs us→FC (ak N w hp R) cells zs.toList →
   ∃SS,Instr.fill place zs (ks.zip us)=some SS∧FC (ak N w hp R) cells' SS.toList
 | [],[],cells,cells',us,zs,h,hv,hz=>by
   simp only[N7,Option.some.injEq] at h;subst h;simp only[FL] at hv;subst hv;exact⟨zs,rfl,hz⟩
 |[],v::vs,cells,cells',us,zs,h,hv,hz=>by simp[N7] at h
 |f::ks,[],cells,cells',us,zs,h,hv,hz=>by simp[N7] at h
 | f::ks,v::vs,cells,cells',us,zs,h,hv,hz=>by
   obtain⟨u,r,rfl,hu,hv⟩:=hv;simp only[N7] at h;split at h
   ·rename_i off j hf;split at h
    ·rename_i cs hcs;split at h
     ·rename_i hl;have hl:=Nat.eq_of_beq_eq_true hl;split at h
      ·rename_i c2 hc2;obtain⟨fs',fd,h1,h2,rfl,h4⟩:=qz hT hf;rw[ht] at h1;simp only[Option.some.injEq,TypeDesc.struct.injEq] at h1;subst h1;have hcu:=jy hcs hu;obtain⟨hle,hset⟩:=FC.kz hz hcu hc2;have sF:u.cells.size=j.size:=by rw[←hl,←hcu.length];simp
       simp only[List.zip_cons_cons,Instr.fill,hpl f fd j h2 h4];have aiG:fd.offset+j.size≤zs.size:=by simp only[Array.length_toList] at hle;omega
       rw[if_neg (by simp[sF];omega)];have D8:(u.cells.zipIdx.foldl (fun cs (x:Value×Nat)=>cs.setIfInBounds (fd.offset+x.2) x.1) zs).toList=zs.toList.take fd.offset++u.cells.toList++zs.toList.drop (fd.offset+u.cells.toList.length):=by
        rw[←uH fd.offset u.cells.toList zs (by simpa using hle)];rw[←Array.foldl_toList,Array.toList_zipIdx]
       exact D7 hT ht hpl ks vs c2 cells' r _ h hv (by rw[D8];exact hset)
      cases h
     cases h
    cases h
   cases h
theorem Dk {fs:List Field}{g:Field→Nat×Nat}(h:∀f∈fs,(sizeOf f.type).run P w=.ok (g f).2 w)(h1:∀f∈fs,(g f).1=f.offset) :
  (fs.mapM fun f=>(do pure (f.offset,←sizeOf f.type):Sem (Nat×Nat))).run P w=.ok (fs.map g) w:=by
 induction fs with
 |nil=>simp
 | cons f fs ih=>
   have:=ih (fun f hf=>h f (List.mem_cons_of_mem _ hf)) (fun f hf=>h1 f (List.mem_cons_of_mem _ hf));simp only[List.mapM_cons,Sem.run_bind,h f List.mem_cons_self,Result.andThen_ok,Sem.run_pure,this,List.map_cons];rw[←h1 f List.mem_cons_self]
theorem sG {N:Nat→Prop}{hp:List (Nat×aF)}:∀{vs:List Value},vs.all (·.oneCell')=true→FC (ak N w hp R) (vs.map fun v=>.pv (.sc v)) vs
 |[],_=>rfl
 | v::vs,h=>by
   simp only[List.all_cons,Bool.and_eq_true] at h;exact⟨v,vs,rfl,h.1,by simp only[ak,bJ],sG h.2⟩
theorem Jf (hT:bY P T){N:Nat→Prop}{hp:List (Nat×aF)}{t:TypeId}{ks:List Nat}{vs:List AV}{us:List Value}{K:AV→Prop}(h:Av T t ks vs K)
  (hv:FL (ak N w hp R) vs us):∃y z,(Instr.build t (ks.zip us).toArray).run P w=.ok y w∧K z∧ak N w hp R z y:=by
 unfold Av at h;split at h;rotate_left;cases h
 rename_i i hi;have hi':=hT _ _ hi;obtain⟨d,hd,ig⟩:=hi'.gW;obtain⟨zv,hz1,hz2,hz3⟩:=hi'.qP w;split at h;rotate_left;cases h
 rename_i fl hfl;rw[hfl] at ig;cases d<;>simp[di] at ig
 rename_i fs;subst ig;split at h;rotate_left;cases h
 rename_i hfi;split at h;rotate_left;cases h
 rename_i z hz;have:=Jg hz;subst this;split at h;rotate_left;cases h
 rename_i cells hcells;split at h;rotate_left;cases h
 rename_i v hv';have hall:∀f∈fs.toList,∃j,dw P f.type j:=by
  have key:∀l:List Field,yS T (l.map fun f=>(f.offset,f.type))=true→∀f∈l,∃j,dw P f.type j:=by
   intro l;induction l with
   |nil=>intro _ f hf;cases hf
   | cons x l ih=>
     intro h f hf;simp only[List.map_cons,yS] at h;split at h
     ·rename_i j hj;rcases List.mem_cons.1 hf with rfl|hf
      ·exact⟨j,hT _ _ hj⟩
      exact ih h f hf
     cases h
  exact key _ hfi
 have hsz:∀f∈fs.toList,(sizeOf f.type).run P w=.ok (P.cellsOf f.type) w:=by
  intro f hf;obtain⟨j,hj⟩:=hall f hf;obtain⟨x,_,h1,_⟩:=hj.D5;simp[sizeOf,typeInfo,h1,Program.cellsOf]
 have hmap:=Dk (g:=fun f=>(f.offset,P.cellsOf f.type)) hsz (fun _ _=>rfl);have hpl:∀(f:Nat) (fd:Field) (j:TI),fs[f]? = some fd→dw P fd.type j→((fs.map fun f=>(f.offset,P.cellsOf f.type))[f]? : Option (Nat×Nat))=some (fd.offset,j.size):=by
  intro f fd j h1 h2;obtain⟨x,_,h3,h4,_⟩:=h2.D5;simp[h1,Program.cellsOf,h3,h4]
 obtain⟨SS,hf1,hf2⟩:=D7 hT hd hpl ks vs _ cells us zv.cells hcells hv (by rw[hz2];exact sG hi'.SV);refine⟨.agg SS,v,?_,h,?_⟩
 ·have hm2:(fs.mapM fun f=>(do pure (f.offset,←sizeOf f.type):Sem (Nat×Nat))).run P w=.ok (fs.map fun f=>(f.offset,P.cellsOf f.type)) w:=by
   rw[Array.mapM_eq_mapM_toList,Sem.run_map,hmap];simp only[Result.andThen_ok];rw[←Array.toList_map,Array.toArray_toList]
  simp only[Instr.build,Sem.run_bind,hz1,Result.andThen_ok,run_underlying hd,hm2,hf1,Sem.run_pure]
 unfold yU at hv';split at hv'
 ·rename_i ps hps;simp only[Option.some.injEq] at hv';subst hv';simp only[ak,bJ];exact⟨SS,rfl,by rw[gM];exact qQ hps hf2⟩
 simp only[Option.some.injEq] at hv';subst hv';simp only[ak];exact⟨SS,rfl,by rw[bM];exact hf2⟩
end
theorem QY {H:List (Nat×aF)}:∀(bs:List Nat) (fs:List (Nat×aF)),Je H bs=some fs→∀b,(lk fs b).isSome=true→(lk H b).isSome=true
 |[],fs,h=>by simp only[Je,Option.some.injEq] at h;subst h;intro b hb;simp[lk] at hb
 | b0::bs,fs,h=>by
   simp only[Je] at h;split at h
   ·rename_i t ht;have ih:=QY bs t ht;split at h
    ·simp only[Option.some.injEq] at h;subst h;exact ih
    have cons:∀(bL:aF),(lk H b0).isSome=true→∀b,(lk ((b0,bL)::t) b).isSome=true→(lk H b).isSome=true:=by
     intro bL h0 b hb;rw[aC] at hb;split at hb
     ·rename_i e;rw[←e];exact h0
     exact ih b hb
    split at h
    ·rename_i hb;simp only[Option.some.injEq] at h;subst h;exact cons _ (by rw[hb];rfl)
    ·rename_i hb;split at h
     ·simp only[Option.some.injEq] at h;subst h;exact cons _ (by rw[hb];rfl)
     cases h
    ·simp only[Option.some.injEq] at h;subst h;exact ih
    ·simp only[Option.some.injEq] at h;subst h;exact ih
    ·cases h
    ·cases h
    ·cases h
    ·cases h
    cases h
   cases h
def Wp:Nat→List Nat→Bool
 |_,[]=>true
 | i,k::r=>match Nat.beq k i with
   |true=>Wp (i+1) r
   |false=>false
theorem QZ:∀{i:Nat} {ks:List Nat},Wp i ks=true→ks=List.range' i ks.length
 |i,[],_=>rfl
 | i,k::r,h=>by
   simp only[Wp] at h;split at h
   ·rename_i hk;have hk:=Nat.eq_of_beq_eq_true hk;subst hk;have:=QZ h;rw[List.length_cons,List.range'_succ,←this]
   cases h
def GN (i:TI):List PV→Option (List (List PV))
 |[]=>some []
 | p::r=>match lQ i p with
   | some cs=>match Nat.beq cs.length i.size with
     | true=>match GN i r with
       |some t=>some (cs::t)
       |none=>none
     |false=>none
   |none=>none
def lS (T:Tab)(H:List (Nat×aF))(t:TypeId)(len:Nat)(ks:List Nat)(vs:List AV)(id:Nat)(K:AV→List (Nat×aF)→Prop):Prop:=
 match lk T t with
 | some i=>match i.d with
   | .slt e=>match lk T e with
     | some ei=>tiF ei fun p9 KE=>match Nat.beq p9 0,Wp 0 ks,Nat.beq ks.length len,Nat.ble (len*p9) 16777216 with
       | false,true,true,true=>match GL H vs with
         | some ps=>match GN ei ps,Je H (fq vs) with
           | some rows,some fs=>match Nat.beq rows.length len with
             |true=>K (.aO id 0) ((id,.arr e 0 p9 rows)::fs)
             |false=>False
           |_,_=>False
         |none=>False
       |_,_,_,_=>False
     |none=>False
   |_=>False
 |none=>False
section
variable {P:Program}{T:Tab}{c:Ctx}{R:Real}{s:AS}{a:Act}{w:World}
theorem ade {st:Nat}:∀(vs:List Value) (i0:Nat) (cells:Array Value),(∀v∈vs,v.cells.size=st)→(i0+vs.length)*st≤cells.size →
  ∃r,Instr.fill (fun i=>some (i*st,st)) cells ((List.range' i0 vs.length).zip vs)=some r ∧
   r.toList=cells.toList.take (i0*st)++(vs.map (·.cells.toList)).flatten++cells.toList.drop ((i0+vs.length)*st)
 |[],i0,cells,_,_=>⟨cells,rfl,by simp⟩
 | v::vs,i0,cells,hv,hle=>by
   have hvs:v.cells.size=st:=hv v List.mem_cons_self;have e1:(i0+(v::vs).length)*st=i0*st+st+vs.length*st:=by simp only[List.length_cons,Nat.add_mul,Nat.one_mul];omega
   have e2:(i0+1+vs.length)*st=i0*st+st+vs.length*st:=by simp only[Nat.add_mul,Nat.one_mul]
   have e3:(i0+1)*st=i0*st+st:=by simp only[Nat.add_mul,Nat.one_mul]
   rw[e1] at hle;have hl:v.cells.toList.length=st:=by simpa using hvs
   have D8:(v.cells.zipIdx.foldl (fun cs (x:Value×Nat)=>cs.setIfInBounds (i0*st+x.2) x.1) cells).toList=cells.toList.take (i0*st)++v.cells.toList++cells.toList.drop (i0*st+v.cells.toList.length):=by
    rw[←uH (i0*st) v.cells.toList cells (by omega)];rw[←Array.foldl_toList,Array.toList_zipIdx]
   generalize hcs:v.cells.zipIdx.foldl (fun cs (x:Value×Nat)=>cs.setIfInBounds (i0*st+x.2) x.1) cells=cs1 at D8;have hsz:cs1.size=cells.size:=by
    rw[←Array.length_toList,D8];simp only[List.length_append,List.length_take,List.length_drop,Array.length_toList,hvs];omega
   obtain⟨r,hr,hk⟩:=ade vs (i0+1) cs1 (fun u hu=>hv u (List.mem_cons_of_mem _ hu)) (by rw[hsz,e2];exact hle);refine⟨r,?_,?_⟩
   ·simp only[List.length_cons,List.range'_succ,List.zip_cons_cons,Instr.fill,hvs];rw[if_neg (by simp;omega),←hr,hcs]
   have h0:(cells.toList.take (i0*st)).length=i0*st:=by simp;omega
   have h1:(cells.toList.take (i0*st)++v.cells.toList).length=i0*st+st:=by rw[List.length_append,h0,hl]
   rw[hk,e1,e2,e3,D8];have t1:List.take (i0*st+st) (cells.toList.take (i0*st)++v.cells.toList++cells.toList.drop (i0*st+v.cells.toList.length))=cells.toList.take (i0*st)++v.cells.toList:=by
    rw[List.take_left' h1]
   have t2:List.drop (i0*st+st+vs.length*st) (cells.toList.take (i0*st)++v.cells.toList++cells.toList.drop (i0*st+v.cells.toList.length))=cells.toList.drop (i0*st+st+vs.length*st):=by
    rw[←List.drop_drop,List.drop_left' h1,List.drop_drop,hl]
   rw[t1,t2];simp
theorem BP {N:Nat→Prop}{i:TI}:∀{ps:List PV} {rows:List (List PV)} {us:List Value},GN i ps=some rows→FL (bJ N w) ps us →
  rows.length=ps.length∧(∀v∈us,v.cells.size=i.size)∧cK N w i.size rows (us.map (·.cells.toList)).flatten
 | [],rows,us,h,hu=>by
   simp only[GN,Option.some.injEq] at h;subst h;simp only[FL] at hu;subst hu;exact⟨rfl,by simp,by simp[cK]⟩
 | p::ps,rows,us,h,hu=>by
   obtain⟨v,r,rfl,hv,hu⟩:=hu;simp only[GN] at h;split at h
   ·rename_i cs hcs;split at h
    ·rename_i hl;have hl:=Nat.eq_of_beq_eq_true hl;split at h
     ·rename_i t ht;simp only[Option.some.injEq] at h;subst h;obtain⟨a1,a2,a3⟩:=BP ht hu;have hc:=uI hcs hv;have hvs:v.cells.size=i.size:=by rw[←hl,←hc.length];simp
      refine⟨by simp[a1],fun u hu=>?_,?_⟩
      ·rcases List.mem_cons.1 hu with rfl|hu
       ·exact hvs
       exact a2 u hu
      simp only[List.map_cons,List.flatten_cons];refine⟨hl,by rw[dN];exact hc.fp.app _,?_⟩;rw[List.drop_left' (by simpa using hvs)];exact a3
     cases h
    cases h
   cases h
theorem oJ (g:bG c R s a w)(hT:bY P T){H:List (Nat×aF)}(hH:∀b box,lk H b=some box→lk s.hp b=some box){id:Nat}(hf:lk s.hp id=none)
  {t:TypeId} {len:Nat} {ks:List Nat} {vs:List AV} {us:List Value} {K:AV→List (Nat×aF)→Prop} (h:lS T H t len ks vs id K) (hv:FL (ak (aV c R s.hp) w s.hp R) vs us) :
  ∃y w' R' z ws,(Instr.buildSlice t len (ks.zip us).toArray).run P w=.ok y w'∧K z ws∧bG c R' (s.app ws) a w'∧ak (aV c R' (ws++s.hp)) w' (ws++s.hp) R' z y:=by
 unfold lS at h;simp only[eu] at h;split at h;rotate_left;cases h
 rename_i i hi;obtain⟨d,hd,ig⟩:=(hT t i hi).gW;split at h;rotate_left;cases h
 rename_i e hte;have ht:P.underlying t=some (.slice e):=by
  rw[hte] at ig;cases d<;>simp[di] at ig
  subst ig;exact hd
 split at h;rotate_left;cases h
 rename_i ei pV;have iY:=hT _ _ pV;obtain⟨zv,hz1,hz2,hz3⟩:=iY.qP w;split at h;rotate_left;cases h
 rename_i hs0 hks hkl afU;have hs0:=Nat.ne_of_beq_eq_false hs0;have hks:=QZ hks;have hkl:=Nat.eq_of_beq_eq_true hkl;have afU:=Nat.le_of_ble_eq_true afU;split at h;rotate_left;cases h
 rename_i ps hps;split at h;rotate_left;cases h
 rename_i rows fs hrows hfs;split at h;rotate_left;cases h
 rename_i hrl;have hrl:=Nat.eq_of_beq_eq_true hrl;obtain⟨g1,m1,n1,o1⟩:=ku g hH _ _ hfs;have qA:=iG g hH n1 vs ps us (fun b hb=>o1 b (.inr hb)) hps (by rw[eF];exact hv);rw[jk] at qA;obtain⟨q1,q2,q3⟩:=BP hrows qA;have hul:us.length=len:=by rw[qA.length,←q1,hrl]
 have hcz:((Array.range (len*ei.size)).map fun x=>(if len*ei.size=0 then (#[]:Array Value) else zv.cells)[x%(if len*ei.size=0 then (#[]:Array Value) else zv.cells).size]!).size=len*ei.size:=by simp
 obtain⟨r,hr1,hr2⟩:=ade us 0 ((Array.range (len*ei.size)).map fun x=>(if len*ei.size=0 then (#[]:Array Value) else zv.cells)[x%(if len*ei.size=0 then (#[]:Array Value) else zv.cells).size]!) q2 (by rw[hcz,hul];simp);have hr3:r.toList=(us.map (·.cells.toList)).flatten:=by
  rw[hr2,hul];simp only[Nat.zero_mul,List.take_zero,List.nil_append,Nat.zero_add];rw[List.drop_eq_nil_of_le (by simp),List.append_nil]
 have eH:lk (s.app fs).hp id=none:=by
  show lk (fs++s.hp) id=none
  rw[Au];cases hx:lk fs id with
  |none=>exact hf
  | some b=>
    have:=QY _ _ hfs id (by rw[hx];rfl);cases hy:lk H id with
    |none=>rw[hy] at this;cases this
    |some box=>rw[hH _ _ hy] at hf;cases hf
 have hq3:cK (aV c R (s.app fs).hp) w ei.size rows r.toList:=by rw[hr3];exact q3
 obtain⟨t1,t2,t3⟩:=gG hq3;have afV:r.toList.length=len*ei.size:=by
  rw[hr3];have:∀us:List Value,(∀v∈us,v.cells.size=ei.size)→(us.map (·.cells.toList)).flatten.length=us.length*ei.size:=by
   intro us;induction us with
   |nil=>intro _;simp
   | cons v us ih=>
     intro h;have:=ih fun u hu=>h u (List.mem_cons_of_mem _ hu)
     simp only[List.map_cons,List.flatten_cons,List.length_append,this,Array.length_toList,h v List.mem_cons_self,List.length_cons,Nat.add_mul];omega
  rw[this us q2,hul]
 have hlm:len≤maxLen:=by
  have:len≤len*ei.size:=Nat.le_mul_of_pos_right _ (Nat.pos_of_ne_zero hs0);unfold maxLen;omega
 obtain⟨R',g2,r2⟩:=g1.Wq (e:=e) (st:=ei.size) (rows:=rows) (w':={ w with heap:=w.heap.push (.cells r e) }) (cur:=r) (cap:=len) eH ⟨rfl,rfl,rfl,rfl⟩ (by omega) hlm
  (by rw[←Array.length_toList];exact afV) hq3
 refine⟨.slice (some ⟨w.heap.size,0,none⟩) len len,_,R',_,_,?_,h,g2,by rw[hrl] at r2;exact r2⟩;rw[hul,←hkl,←hks,hkl] at hr1;have N8:¬len*ei.size>2 ^ 24:=by omega
 by_cases hz:len*ei.size=0
 ·simp only[if_pos hz] at hr1;simp only[Instr.buildSlice,Sem.run_bind,run_underlying ht,Result.andThen_ok,iY.run_sizeOf,if_neg N8,if_pos hz,Sem.run_pure,hr1,newRow,run_newObj]
 simp only[if_neg hz] at hr1;simp only[Instr.buildSlice,Sem.run_bind,run_underlying ht,Result.andThen_ok,iY.run_sizeOf,if_neg N8,if_neg hz,hz1,Sem.run_pure,hr1,newRow,run_newObj]
end
def uJ (T:Tab)(t:TypeId)(vs:List AV)(id:Nat)(K:AV→List (Nat×aF)→Prop):Prop:=
 match vs with
 | [.pv (.sc (.int _ l)),.pv (.sc (.int _ n))]=>match lk T t with
   | some i=>match i.d with
     | .slt e=>match lk T e with
       | some ei=>tiF ei fun p9 KE=>match Nat.beq p9 0,zPV ei.zero with
         |false,some z=>0≤l∧l≤n∧n≤9223372036854775807∧(KE:Int)*n≤281474976710656∧K (.aO id 0) [(id,.arr e 0 p9 (List.replicate l.toNat z))]
         |_,_=>False
       |none=>False
     |_=>False
   |none=>False
 |_=>False
def Aw (T:Tab)(t:TypeId)(id:Nat)(K:AV→List (Nat×aF)→Prop):Prop:=
 match lk T t with
 | some i=>match zAV i.zero with
   |some z=>K (.ptr id 0) [(id,.var z)]
   |none=>False
 |none=>False
def SX (T:Tab)(t:TypeId)(x:AV)(id:Nat)(K:AV→List (Nat×aF)→Prop):Prop:=
 match lk T t with
 | some i=>match cellsOf i x with
   |some cs=>K (.ptr id 0) [(id,.var cs)]
   |none=>False
 |none=>False
def qB (T:Tab)(H:List (Nat×aF))(src dst:TypeId)(x:AV)(K:AV→List (Nat×aF)→Prop):Prop:=
 match lk T dst with
 | some dt=>match dt.d with
   | .slt e=>match lk T src,lk T e with
     | some si,some ei=>match si.d,ei.d with
       | .KI,.xC .u8=>match x with
         |.pv (.sc (.string str))=>str.size≤140737488355328∧K (.pv (.sl false 1 (str.data.toList.map kX))) []
         |_=>False
       |_,_=>False
     |_,_=>False
   |_=>uK T H src dst x fun v=>K v []
 |none=>False
def mW (T:Tab)(H:List (Nat×aF))(t:TypeId)(lo hi mx:Option Operand)(vs:List AV)(K:AV→List (Nat×aF)→Prop):Prop:=
 match vs with
 | .aO b ver::r=>match uq (lk H b) ver,Je H [b] with
   |some p,some fs=>oK T t lo hi mx (.pv p::r) fun v=>K v fs
   |_,_=>False
 |_=>oK T t lo hi mx vs fun v=>K v []
def cMM (mx:Bool)(vs:List AV)(K:AV→Prop):Prop:=
 match vs with
 | [.pv (.sc (.int k a)),.pv (.sc (.int j b))]=>match decide (k=j) with
   | true=>match mx with
     |true=>K (.pv (.sc (.int k (if b>a then b else a))))
     |false=>K (.pv (.sc (.int k (if b<a then b else a))))
   |false=>False
 |_=>False
def GQ (P:Program)(H:List (Nat×aF))(vs:List AV)(K:AV→List (Nat×aF)→Prop):Prop:=
 match vs with
 | .pv (.fn (.func f) first bF)::args=>match GL H args with
   | some ps=>∃r,dB P f (first++(ps++bF)) r∧match Dn r with
     |true=>K (.pv r) []
     | false=>match Je H (fq args) with
       |some fs=>K (.pv r) fs
       |none=>False
   |none=>False
 |_=>False
section
variable {P:Program}{T:Tab}{c:Ctx}{R:Real}{s:AS}{a:Act}{w:World}
theorem FL.imp {α:Type}{Q Q':α→Value→Prop}:∀{l:List α} {m:List Value},FL Q l m→(∀p v,Q p v→Q' p v)→FL Q' l m
 |[],_,h,_=>h
 |p::ps,m,h,hi=>by obtain⟨v,r,e,h1,h2⟩:=h;exact⟨v,r,e,hi _ _ h1,h2.imp hi⟩
theorem D9 {N:Nat→Prop}{st:Nat}{z:List PV}{zs:List Value}(hz:FC (bJ N w) z zs)(hst:z.length=st):∀(n:Nat) (L:List Value),
  n*st≤L.length→(∀j,j<n*st→L[j]? = zs[j%st]?)→cK N w st (List.replicate n z) L
 |0,L,_,_=>by simp[cK]
 | n+1,L,hl,h=>by
   have e:(n+1)*st=st+n*st:=by rw[Nat.add_mul];omega
   rw[e] at hl h;have hzl:=hz.length;have ht:L.take st=zs:=by
    apply List.ext_getElem?;intro j;rw[List.getElem?_take];by_cases hj:j<st
    ·rw[if_pos hj,h j (by omega),Nat.mod_eq_of_lt hj]
    rw[if_neg hj];exact (List.getElem?_eq_none (by omega)).symm
   rw[List.replicate_succ];refine⟨hst,?_,D9 hz hst n (L.drop st) (by simp;omega) fun j hj=>?_⟩
   ·rw[dN];have:=hz.fp.app (L.drop st);rw[←ht,List.take_append_drop] at this;exact this
   rw[List.getElem?_drop,h (st+j) (by omega),Nat.add_mod_left]
theorem Ea {N:Nat→Prop}:∀{vs:List Value},vs.all (·.oneCell')=true→FC (bJ N w) (vs.map .sc) vs
 |[],_=>rfl
 | v::vs,h=>by
   simp only[List.all_cons,Bool.and_eq_true] at h;exact⟨v,vs,rfl,h.1,by simp only[bJ],Ea h.2⟩
theorem KJ (g:bG c R s a w)(hT:bY P T){id:Nat}(hf:lk s.hp id=none){t:TypeId}{x y:AV}{u v:Value}{K:AV→List (Nat×aF)→Prop}
  (h:uJ T t [x,y] id K) (hx:ak (aV c R s.hp) w s.hp R x u) (hy:ak (aV c R s.hp) w s.hp R y v) :
  ∃z w' R' q ws,(Instr.makeSlice t u v).run P w=.ok z w'∧K q ws∧bG c R' (s.app ws) a w'∧ak (aV c R' (ws++s.hp)) w' (ws++s.hp) R' q z:=by
 unfold uJ at h;simp only[eu] at h;split at h;rotate_left;cases h
 rename_i _ k l j n heq;simp only[List.cons.injEq,and_true] at heq;obtain⟨rfl,rfl⟩:=heq;simp only[ak,bJ] at hx hy;subst hx;subst hy;split at h;rotate_left;cases h
 rename_i i hi;obtain⟨d,hd,ig⟩:=(hT t i hi).gW;split at h;rotate_left;cases h
 rename_i e hte;have ht:P.underlying t=some (.slice e):=by
  rw[hte] at ig;cases d<;>simp[di] at ig
  subst ig;exact hd
 split at h;rotate_left;cases h
 rename_i ei pV;have iY:=hT _ _ pV;obtain⟨ti,zv,hinfo,hsz,hby,hzero,hzc⟩:=iY.D5;have Wm:zv.cells.size=ei.size:=by have:=iY.Wn;rw[←hzc] at this;simpa using this
 split at h;rotate_left;cases h
 rename_i z hs0 hz;have hs0:=Nat.ne_of_beq_eq_false hs0;have:=N9 hz;subst this;obtain⟨h0,h1,h63,hb,hK⟩:=h;have hrun:=run_make (P:=P) w t e ti zv ht hinfo hzero k j l n h0 h1 (by rw[hby];exact hb) h63;have hle:(List.replicate l.toNat (ei.zero.map PV.sc)).length≤n.toNat:=by simp;omega
 have hrr:cK (aV c R s.hp) w ei.size (List.replicate l.toNat (ei.zero.map PV.sc)) (madeCells zv.cells (n.toNat*ti.size)).toList:=by
  refine D9 (Ea iY.SV) (by simpa using iY.Wn) _ _ ?_ fun j hj=>?_
  ·rw[Array.length_toList,size_madeCells,hsz];exact Nat.mul_le_mul_right _ (by omega)
  have hj2:j<n.toNat*ei.size:=Nat.lt_of_lt_of_le hj (Nat.mul_le_mul_right _ (by omega));rw[hsz];have hlt:j%zv.cells.size<zv.cells.size:=Nat.mod_lt _ (by rw[Wm];exact Nat.pos_of_ne_zero hs0);have hmc:(madeCells zv.cells (n.toNat*ei.size))[j]? = some (zv.cells[j%zv.cells.size]!):=by
   simp[madeCells,hj2]
  rw[Array.getElem?_toList,hmc,getElem!_pos zv.cells _ hlt,←hzc,Array.getElem?_toList,←Wm];exact (Array.getElem?_eq_getElem hlt).symm
 obtain⟨R',g2,r2⟩:=g.Wq (e:=e) (st:=ei.size) (w':=w.alloc (.cells (madeCells zv.cells (n.toNat*ti.size)) e)) (cap:=n.toNat) hf ⟨rfl,rfl,rfl,rfl⟩ hle (by unfold maxLen;omega)
  (by rw[size_madeCells,hsz]) hrr
 rw[List.length_replicate] at r2;exact⟨_,_,R',_,_,hrun,hK,g2,r2⟩
theorem Jh (g:bG c R s a w)(hT:bY P T){id:Nat}(hf:lk s.hp id=none){t:TypeId}{K:AV→List (Nat×aF)→Prop}(h:Aw T t id K) :
  ∃z w' R' q ws,(Instr.alloc t true (.tuple #[])).run P w=.ok z w'∧K q ws∧bG c R' (s.app ws) a w'∧ak (aV c R' (ws++s.hp)) w' (ws++s.hp) R' q z:=by
 unfold Aw at h;split at h;rotate_left;cases h
 rename_i i hi;have hi':=hT _ _ hi;obtain⟨zv,hz1,hz2,hz3⟩:=hi'.qP w;split at h;rotate_left;cases h
 rename_i z hz;have:=Jg hz;subst this;obtain⟨R',g2,r2⟩:=g.newVar hf (cells:=i.zero.map fun v=>.pv (.sc v)) (vs:=zv.cells) (t:=t) (by rw[hz2];exact sG hi'.SV);refine⟨_,_,R',_,_,?_,h,g2,r2⟩;simp[Instr.alloc,hz1,newVar,newRow]
theorem Oa (g:bG c R s a w)(hT:bY P T){id:Nat}(hf:lk s.hp id=none){t:TypeId}{x:AV}{u:Value}{K:AV→List (Nat×aF)→Prop}(h:SX T t x id K)
  (hx:ak (aV c R s.hp) w s.hp R x u) :
  ∃z w' R' q ws,(Instr.box t u).run P w=.ok z w'∧K q ws∧bG c R' (s.app ws) a w'∧ak (aV c R' (ws++s.hp)) w' (ws++s.hp) R' q z:=by
 unfold SX at h;split at h;rotate_left;cases h
 split at h;rotate_left;cases h
 rename_i cs hcs;obtain⟨R',g2,r2⟩:=g.newVar hf (vs:=u.cells) (t:=t) (jy hcs hx);refine⟨_,_,R',_,_,?_,h,g2,r2⟩;simp[Instr.box,newVar,newRow]
theorem GR {N:Nat→Prop}{hp:List (Nat×aF)}{mx:Bool}{x y:AV}{u v:Value}{K:AV→Prop}(h:cMM mx [x,y] K)(hx:ak N w hp R x u)(hy:ak N w hp R y v)(ts:Array TypeId)(ty:TypeId) :
  ∃z q,(if mx then Builtin.max_ ts ty #[u,v] else Builtin.min_ ts ty #[u,v]).run P w=.ok z w∧K q∧ak N w hp R q z:=by
 unfold cMM at h;split at h;rotate_left;cases h
 rename_i _ k a j b heq;simp only[List.cons.injEq,and_true] at heq;obtain⟨rfl,rfl⟩:=heq;simp only[ak,bJ] at hx hy;subst hx;subst hy;split at h;rotate_left;cases h
 rename_i hk;have hk:=of_decide_eq_true hk;subst hk;split at h
 ·exact⟨.int k (if b>a then b else a),_,by simp[Builtin.max_,Builtin.max2],h,by simp only[ak,bJ]⟩
 exact⟨.int k (if b<a then b else a),_,by simp[Builtin.min_,Builtin.min2],h,by simp only[ak,bJ]⟩
theorem KL {α:Type}(a:Array α)(x:α)(f:α→α):(a.push x).modify a.size f=a.push (f x):=by
 apply Array.ext_getElem?;intro i;simp only[Array.getElem?_modify,Array.getElem?_push];by_cases h:a.size=i
 ·subst h;simp
 rw[if_neg h,if_neg (fun e=>h e.symm),if_neg (fun e=>h e.symm)]
theorem yV (e:TypeId)(str:ByteArray):∃cap w',(str.size≤cap∧(str.size≤140737488355328→cap≤9223372036854775807))∧(Conv.stringToBytes e str).run P w=.ok (.slice (some ⟨w.heap.size,0,none⟩) str.size cap) w' ∧
  ∃cur fr,w'.heap=w.heap.push (.cells cur e fr)∧cur.toList.take str.size=(str.data.toList.map fun b=>Value.int .u8 b.toNat)∧w'.os=w.os∧w'.tape=w.tape∧w'.output=w.output:=by
 generalize hX:(str.data.map (fun b=>Value.int .u8 b.toNat)++Array.replicate (grownCap w str.size 0 e-str.size) (Value.int .u8 0))=X;refine⟨grownCap w str.size 0 e,(w.drew.alloc (.cells X e)).freeze ⟨w.heap.size,X.size,none⟩ 1,⟨grownCap_ge w str.size 0 e,fun hb=>by have:=grownCap_le_maxLen w str.size 0 e (by unfold maxLen;omega);unfold maxLen at this;omega⟩,?_,X,(X.size,X.size+1),?_,?_,?_,?_,?_⟩
 ·simp only[Conv.stringToBytes,Sem.run_bind,run_choose,Question.forced,Bool.false_eq_true,if_false,Result.andThen_ok,newRow,run_newObj,Sem.run_pure,markStringish,run_shape];simp only[World.shape?,Array.getElem?_push_size,Result.andThen_ok,run_freeze,Sem.run_pure];rw[←hX];rfl
 ·unfold World.freeze;rw[if_neg (by decide)];have e1:(w.drew.alloc (Obj.cells X e)).heap=w.heap.push (Obj.cells X e):=rfl;simp only[e1];rw[KL];simp
 ·rw[←hX];simp only[Array.toList_append,Array.toList_map];exact List.take_left' (by simp)
 ·rfl
 ·rfl
 rfl
theorem Eb {N:Nat→Prop}:∀(bs:List UInt8) (r:List Value),cK N w 1 (bs.map kX) (bs.map (fun b=>Value.int .u8 b.toNat)++r)
 |[],r=>trivial
 |b::bs,r=>⟨rfl,⟨_,_,rfl,rfl,rfl,trivial⟩,by simpa using Eb bs r⟩
theorem sH (g:bG c R s a w)(hT:bY P T){H:List (Nat×aF)}(hH:∀b box,lk H b=some box→lk s.hp b=some box){src dst:TypeId}{x:AV}{K:AV→List (Nat×aF)→Prop}
  (h:qB T H src dst x K) {u:Value} (hx:ak (aV c R s.hp) w s.hp R x u) :
  ∃z w' R' q ws,(convert src dst u).run P w=.ok z w'∧K q ws∧bG c R' (s.app ws) a w'∧ak (aV c R' (ws++s.hp)) w' (ws++s.hp) R' q z:=by
 unfold qB at h;split at h;rotate_left;cases h
 rename_i dt hdt;split at h
 ·rename_i e hde;split at h;rotate_left;cases h
  rename_i si ei hsi pV;split at h;rotate_left;cases h
  rename_i hss hes;split at h;rotate_left;cases h
  rename_i str;simp only[ak,bJ] at hx;subst hx;obtain⟨hsb,h⟩:=h;obtain⟨d1,hd1,e1⟩:=(hT _ _ hsi).gW;obtain⟨d2,hd2,e2⟩:=(hT _ _ hdt).gW;obtain⟨d3,hd3,e3⟩:=(hT _ _ pV).gW;have q1:P.underlying src=some .string:=by rw[hss] at e1;cases d1<;>simp[di] at e1;exact hd1
  have q2:P.underlying dst=some (.slice e):=by rw[hde] at e2;cases d2<;>simp[di] at e2;subst e2;exact hd2
  have q3:P.underlying e=some (.int .u8):=by rw[hes] at e3;cases d3<;>simp[di] at e3;subst e3;exact hd3
  obtain⟨cap,w',⟨hcap,hcm⟩,hrun,cur,fr,Ec,adU,ho,ht,hu⟩:=yV (P:=P) (w:=w) e str;have hcm:=hcm hsb;have hev:mr (fun _=>False) w w':=by
   refine⟨by rw[Ec];simp,fun r hr _=>?_,ho,ht,hu⟩;rw[Ec,Array.getElem?_push];simp[Nat.ne_of_lt hr]
  refine⟨.slice (some ⟨w.heap.size,0,none⟩) str.size cap,w',R,_,[],?_,h,g.grow hev,?_⟩
  ·simp only[convert,Sem.run_bind,run_underlying q1,run_underlying q2,run_underlying q3,Result.andThen_ok];exact hrun
  simp only[ak,bJ];refine⟨_,_,cap,rfl,by simp,⟨by omega,hcm⟩,fun e=>(by cases e),fun ad ha=>?_⟩;simp only[Option.some.injEq] at ha;subst ha;refine .inr ⟨rfl,fun hn=>?_,cur,e,fr,by rw[Ec];simp,?_⟩
  ·have:=g.Nlt hn;simp at this
  have:=Eb (w:=w') (N:=aV c R s.hp) str.data.toList (cur.toList.drop str.size);rw[←adU,List.take_append_drop] at this;simpa using this
 obtain⟨y,z,h1,h2,h3⟩:=KM g hT hH h hx;exact⟨y,w,R,z,[],h1,h2,g,h3⟩
theorem Gb (g:bG c R s a w)(hT:bY P T){H:List (Nat×aF)}(hH:∀b box,lk H b=some box→lk s.hp b=some box){t:TypeId}{x0:Operand}{lo hi mx:Option Operand}{vs:List AV}
  {K:AV→List (Nat×aF)→Prop} (h:mW T H t lo hi mx vs K)
  (hv:FL (ak (aV c R s.hp) w s.hp R) vs ((x0::(lo.toList++(hi.toList++mx.toList))).map a.eval)) :
  ∃y z ws,(Instr.sliceAt t (a.eval x0) (lo.map a.eval) (hi.map a.eval) (mx.map a.eval)).run P w=.ok y w∧K z ws∧bG c R (s.app ws) a w∧ak (aV c R (ws++s.hp)) w (ws++s.hp) R z y:=by
 unfold mW at h;split at h
 ·rename_i b ver r;split at h;rotate_left;cases h
  rename_i p fs hp' hfs;obtain⟨g1,m1,n1,o1⟩:=ku g hH _ _ hfs;simp only[List.map_cons] at hv;obtain⟨u,r',e1,hx,hv⟩:=hv;have hp2:bJ (aV c R (fs++s.hp)) w p u:=by
   refine qR g hH n1 (.aO b ver) p u (fun b' hb'=>o1 b' (.inr (by simpa[refs] using hb'))) ?_ hx;simpa[vw] using hp'
  have hv2:FL (ak (aV c R (s.app fs).hp) w (s.app fs).hp R) (.pv p::r) ((x0::(lo.toList++(hi.toList++mx.toList))).map a.eval):=by
   simp only[List.map_cons,e1];exact⟨u,r',rfl,(by simp only[ak];exact hp2),hv.imp m1⟩
  obtain⟨y,z,h1,h2,h3⟩:=yX g1 hT h hv2;exact⟨y,z,fs,h1,h2,g1,h3⟩
 obtain⟨y,z,h1,h2,h3⟩:=yX g hT h hv;exact⟨y,z,[],h1,h2,g,h3⟩
mutual
theorem yY {N N':Nat→Prop}{w w':World}:∀(p:PV) (v:Value),Dn p=true→bJ N w p v→bJ N' w' p v
 |.sc x,v,_,h=>by simpa only[bJ] using h
 | .agg cs,v,hs,h=>by
   simp only[bJ] at h ⊢;obtain⟨vs,e,h⟩:=h;exact⟨vs,e,Ed cs _ (by simpa[Dn] using hs) h⟩
 | .cO cs,v,hs,h=>by
   simp only[bJ] at h ⊢;obtain⟨vs,e,h⟩:=h;exact⟨vs,e,Ee cs _ (by simpa[Dn] using hs) h⟩
 |.sl _ _ _,v,hs,h=>by simp[Dn] at hs
 |.dL _ _,v,hs,h=>by simp[Dn] at hs
 |.fn _ _ _,v,hs,h=>by simp[Dn] at hs
 |.junk,v,hs,h=>by simp only[bJ]
 |.NY _ _,v,hs,h=>by simp[Dn] at hs
theorem Ed {N N':Nat→Prop}{w w':World}:∀(ps:List PV) (vs:List Value),Ef ps=true→iX N w ps vs→iX N' w' ps vs
 |[],vs,_,h=>by simpa only[iX] using h
 | p::ps,vs,hs,h=>by
   simp only[Ef] at hs;split at hs
   ·rename_i hp;simp only[iX] at h ⊢;obtain⟨v,r,e,h0,h1,h2⟩:=h;exact⟨v,r,e,h0,yY p v hp h1,Ed ps r hs h2⟩
   cases hs
theorem Ee {N N':Nat→Prop}{w w':World}:∀(ps:List PV) (vs:List Value),Ef ps=true→eY N w ps vs→eY N' w' ps vs
 |[],vs,_,h=>by simpa only[eY] using h
 | p::ps,vs,hs,h=>by
   simp only[Ef] at hs;split at hs
   ·rename_i hp;simp only[eY] at h ⊢;obtain⟨v,r,e,h1,h2⟩:=h;exact⟨v,r,e,yY p v hp h1,Ee ps r hs h2⟩
   cases hs
end
theorem KN (g:bG c R s a w){H:List (Nat×aF)}(hH:∀b box,lk H b=some box→lk s.hp b=some box){fv:AV}{args:List AV}{K:AV→List (Nat×aF)→Prop}(h:GQ P H (fv::args) K)
  {u:Value} {us:List Value} (hf:ak (aV c R s.hp) w s.hp R fv u) (hv:FL (ak (aV c R s.hp) w s.hp R) args us) :
  ∃f first bF,u=.func (.func f) first bF∧Enters P f∧Calls P f (first++us.toArray++bF) w fun e w'=>∃v z ws,e=.returned v∧K z ws∧bG c R (s.app ws) a w'∧ak (aV c R (ws++s.hp)) w' (ws++s.hp) R z v:=by
 unfold GQ at h;split at h;rotate_left;cases h
 rename_i f first bF akN heq
 simp only[List.cons.injEq] at heq;obtain⟨rfl,rfl⟩:=heq;split at h;rotate_left;cases h
 rename_i ps hps;obtain⟨r,hpc,h⟩:=h;simp only[ak,bJ] at hf;obtain⟨fs,cs,rfl,hf1,hf2⟩:=hf;refine⟨f,fs,cs,rfl,hpc.1,?_⟩;let F:Nat→Prop:=fun r=>aV c R s.hp r∧¬∃b,b∈fq args∧aL R b r (lk s.hp b)
 have hFN:∀r,F r→aV c R s.hp r:=fun r h=>h.1
 have qA:eY F w ps us:=by
  refine iG g hH hFN args ps us (fun b hb r ho hF=>hF.2 ⟨b,hb,ho⟩) hps ?_;rw[eF];exact hv
 have hargs:eY F w (first++(ps++bF)) (fs++us.toArray++cs).toList:=by
  rw[jk] at qA hf1 hf2 ⊢;have mono:∀{l:List PV} {m:List Value},FL (bJ (aV c R s.hp) w) l m→FL (bJ F w) l m:=by
   intro l;induction l with
   |nil=>intro m h;exact h
   |cons x l ih=>intro m h;obtain⟨v,r,e,h1,h2⟩:=h;exact⟨v,r,e,dJ (fun r _ h=>hFN r h) (fun _ _ _=>rfl) _ _ h1,ih h2⟩
  have e:(fs++us.toArray++cs).toList=fs.toList++(us++cs.toList):=by simp
  rw[e];exact (mono hf1).app (qA.app (mono hf2))
 refine (hpc.2 F w _ (fun r h=>g.Nlt h.1) hargs).mono ?_;rintro e w' ⟨v,r',rfl,rfl,hr,hsame⟩
 have g2:=g.grow hsame;split at h
 ·rename_i hs;refine⟨v,_,[],rfl,h,g2,?_⟩;simp only[ak];exact yY _ _ hs hr
 split at h
 ·rename_i fz hfz;obtain⟨g3,m1,n1,o1⟩:=ku g2 hH _ _ hfz;refine⟨v,_,fz,rfl,h,g3,?_⟩;simp only[ak];refine dJ ?_ (fun _ _ _=>rfl) _ _ hr;intro r _ hN;exact⟨n1 r hN,fun⟨b,hb,ho⟩=>o1 b (.inr hb) r ho hN⟩
 exact h.elim
end
abbrev Ren:=List (Nat×(Nat×Nat))
def jl (ρ:Ren)(b:Nat):Nat:=
 match lk ρ b with
 | some p=>match p with
   |(x,_)=>x
 |none=>b+2000000000
def Dq (ρ:Ren)(b:Nat):Nat:=
 match lk ρ b with
 | some p=>match p with
   |(_,d)=>d
 |none=>0
section
variable (ρ:Ren)
mutual
def lU:AV→AV
 |.pv p=>.pv p
 |.agg cs=>.agg (jb cs)
 |.cO cs=>.cO (jb cs)
 |.ptr b off=>.ptr (jl ρ b) off
 |.dM b ver i off=>.dM (jl ρ b) (ver+Dq ρ b) i off
 |.aO b ver=>.aO (jl ρ b) (ver+Dq ρ b)
 |.sub b ver st lo hi=>.sub (jl ρ b) (ver+Dq ρ b) st lo hi
 |.fn f first bF=>.fn f (jb first) (jb bF)
def jb:List AV→List AV
 |[]=>[]
 |v::r=>lU v::jb r
end
def fP (b:Nat):aF→aF
 |.var cells=>.var (jb ρ cells)
 |.nR cells=>.nR cells
 |.arr e ver st rows=>.arr e (ver+Dq ρ b) st rows
 |.dS ver st rows=>.dS (ver+Dq ρ b) st rows
 |.tr y ver rest st=>.tr y (ver+Dq ρ b) rest st
 |.gy e ver st pre row post=>.gy e (ver+Dq ρ b) st pre (jb ρ row) post
 |.mp kk kv es=>.mp kk kv es
 |.iM e ver st j ed sd pre row post=>.iM e (ver+Dq ρ b) st j ed sd pre (jb ρ row) post
end
theorem wm (ρ:Ren):∀(vs:List AV),(jb ρ vs).length=vs.length
 |[]=>rfl
 |v::r=>by simp[jb,wm ρ r]
theorem ael (ρ:Ren)(vs:List AV):gZ (jb ρ vs)=gZ vs:=qO (wm ρ vs)
theorem AO {R R':Real}{b b' n:Nat}(h1:R'.blk b'=R.blk b)(h2:R'.nil b'=R.nil b)(h3:R'.cap b'=R.cap b):dH R' b' n=dH R b n:=by
 simp only[dH,h1,h2,h3]
section
variable {ρ:Ren}{N:Nat→Prop}{w:World}{mg hp:List (Nat×aF)}{R0 R:Real}
variable (h:∀b box,lk mg b=some box→lk hp (jl ρ b)=some (fP ρ b box)∧R.blk (jl ρ b)=R0.blk b∧R.nil (jl ρ b)=R0.nil b∧R.cap (jl ρ b)=R0.cap b)
include h
theorem O0 {b off:Nat}{x:Value}(hx:aY R0 b off x (lk mg b)):aY R (jl ρ b) off x (lk hp (jl ρ b)):=by
 cases hb:lk mg b with
 |none=>rw[hb] at hx;exact hx.elim
 | some box=>
   obtain⟨e,e1,e2,e3⟩:=h b box hb;rw[hb] at hx;rw[e];cases box<;>simp only[aY,fP,e1] at hx ⊢ <;> exact hx
theorem Hf {b ver:Nat}{x:Value}(hx:aU R0 b ver x (lk mg b)):aU R (jl ρ b) (ver+Dq ρ b) x (lk hp (jl ρ b)):=by
 cases hb:lk mg b with
 |none=>rw[hb] at hx;exact hx.elim
 | some box=>
   obtain⟨e,e1,e2,e3⟩:=h b box hb;rw[hb] at hx;rw[e];cases box<;>simp only[aU,fP,ael,AO e1 e2 e3] at hx ⊢ <;> first
    |exact hx
    |exact⟨Nat.zero_le _,hx.2.1,hx.2.2⟩
    |exact⟨by omega,hx.2.1,fun he=>hx.2.2 (by omega)⟩
theorem TP {b ver i off:Nat}{x:Value}(hx:bf R0 b ver i off x (lk mg b)):bf R (jl ρ b) (ver+Dq ρ b) i off x (lk hp (jl ρ b)):=by
 cases hb:lk mg b with
 |none=>rw[hb] at hx;exact hx.elim
 | some box=>
   obtain⟨e,e1,e2,e3⟩:=h b box hb;rw[hb] at hx;rw[e];cases box<;>simp only[bf,fP,e1,e2] at hx ⊢ <;> first
    |exact hx
    |exact⟨Nat.zero_le _,hx.2.1,hx.2.2⟩
    |exact⟨by omega,hx.2.1,fun he=>hx.2.2 (by omega)⟩
mutual
theorem JB:∀(v:AV) (x:Value),ak N w mg R0 v x→ak N w hp R (lU ρ v) x
 |.pv p,x=>by simp only[ak,lU];exact id
 |.agg cs,x=>by simp only[ak,lU];rintro⟨vs,a,b⟩;exact⟨vs,a,uX cs _ b⟩
 |.cO cs,x=>by simp only[ak,lU];rintro⟨vs,a,b⟩;exact⟨vs,a,zm cs _ b⟩
 |.ptr b off,x=>by simp only[ak,lU];exact O0 h
 |.aO b ver,x=>by simp only[ak,lU];exact Hf h
 |.sub b ver st lo hi,x=>by simp only[ak,lU];rintro⟨u,a,c⟩;exact⟨u,Hf h a,c⟩
 |.dM b ver i off,x=>by simp only[ak,lU];exact TP h
 | .fn f first bF,x=>by
   simp only[ak,lU];rintro⟨fs,cs,a,b,c⟩;exact⟨fs,cs,a,zm _ _ b,zm _ _ c⟩
theorem zm:∀(vs:List AV) (xs:List Value),dh N w mg R0 vs xs→dh N w hp R (jb ρ vs) xs
 |[],xs=>by simp only[dh,jb];exact id
 |p::ps,xs=>by simp only[dh,jb];rintro⟨v,r,a,b,c⟩;exact⟨v,r,a,JB p v b,zm ps r c⟩
theorem uX:∀(vs:List AV) (xs:List Value),dD N w mg R0 vs xs→dD N w hp R (jb ρ vs) xs
 |[],xs=>by simp only[dD,jb];exact id
 |p::ps,xs=>by simp only[dD,jb];rintro⟨v,r,a,d,b,c⟩;exact⟨v,r,a,d,JB p v b,uX ps r c⟩
end
end
section
variable {ρ:Ren}{N:Nat→Prop}{w:World}{mg hp:List (Nat×aF)}{R0 R:Real}
variable (h:∀b box,lk hp (jl ρ b)=some box→∃box0,lk mg b=some box0∧box=fP ρ b box0∧R.blk (jl ρ b)=R0.blk b∧R.nil (jl ρ b)=R0.nil b∧R.cap (jl ρ b)=R0.cap b)
include h
theorem O1 {b off:Nat}{x:Value}(hx:aY R (jl ρ b) off x (lk hp (jl ρ b))):aY R0 b off x (lk mg b):=by
 cases hb:lk hp (jl ρ b) with
 |none=>rw[hb] at hx;exact hx.elim
 | some box=>
   obtain⟨box0,e,rfl,e1,e2,e3⟩:=h b box hb;rw[hb] at hx;rw[e];cases box0<;>simp only[aY,fP,e1] at hx ⊢ <;> exact hx
theorem Hg {b ver:Nat}{x:Value}(hx:aU R (jl ρ b) (ver+Dq ρ b) x (lk hp (jl ρ b))):aU R0 b ver x (lk mg b):=by
 cases hb:lk hp (jl ρ b) with
 |none=>rw[hb] at hx;exact hx.elim
 | some box=>
   obtain⟨box0,e,rfl,e1,e2,e3⟩:=h b box hb;rw[hb] at hx;rw[e];cases box0<;>simp only[aU,fP,ael,AO e1 e2 e3] at hx ⊢ <;> first
    |exact hx
    |exact⟨Nat.zero_le _,hx.2.1,hx.2.2⟩
    |exact⟨by omega,hx.2.1,fun he=>hx.2.2 (by omega)⟩
theorem TQ {b ver i off:Nat}{x:Value}(hx:bf R (jl ρ b) (ver+Dq ρ b) i off x (lk hp (jl ρ b))):bf R0 b ver i off x (lk mg b):=by
 cases hb:lk hp (jl ρ b) with
 |none=>rw[hb] at hx;exact hx.elim
 | some box=>
   obtain⟨box0,e,rfl,e1,e2,e3⟩:=h b box hb;rw[hb] at hx;rw[e];cases box0<;>simp only[bf,fP,e1,e2] at hx ⊢ <;> first
    |exact hx
    |exact⟨Nat.zero_le _,hx.2.1,hx.2.2⟩
    |exact⟨by omega,hx.2.1,fun he=>hx.2.2 (by omega)⟩
mutual
theorem Rl:∀(v:AV) (x:Value),ak N w hp R (lU ρ v) x→ak N w mg R0 v x
 |.pv p,x=>by simp only[ak,lU];exact id
 |.agg cs,x=>by simp only[ak,lU];rintro⟨vs,a,b⟩;exact⟨vs,a,Ll cs _ b⟩
 |.cO cs,x=>by simp only[ak,lU];rintro⟨vs,a,b⟩;exact⟨vs,a,zn cs _ b⟩
 |.ptr b off,x=>by simp only[ak,lU];exact O1 h
 |.aO b ver,x=>by simp only[ak,lU];exact Hg h
 |.sub b ver st lo hi,x=>by simp only[ak,lU];rintro⟨u,a,c⟩;exact⟨u,Hg h a,c⟩
 |.dM b ver i off,x=>by simp only[ak,lU];exact TQ h
 | .fn f first bF,x=>by
   simp only[ak,lU];rintro⟨fs,cs,a,b,c⟩;exact⟨fs,cs,a,zn _ _ b,zn _ _ c⟩
theorem zn:∀(vs:List AV) (xs:List Value),dh N w hp R (jb ρ vs) xs→dh N w mg R0 vs xs
 |[],xs=>by simp only[dh,jb];exact id
 |p::ps,xs=>by simp only[dh,jb];rintro⟨v,r,a,b,c⟩;exact⟨v,r,a,Rl p v b,zn ps r c⟩
theorem Ll:∀(vs:List AV) (xs:List Value),dD N w hp R (jb ρ vs) xs→dD N w mg R0 vs xs
 |[],xs=>by simp only[dD,jb];exact id
 |p::ps,xs=>by simp only[dD,jb];rintro⟨v,r,a,d,b,c⟩;exact⟨v,r,a,d,Rl p v b,Ll ps r c⟩
end
end
structure y8 (c:Ctx)(R:Real)(hp:List (Nat×aF))(w:World):Prop where
 boxes:∀b box,lk hp b=some box→dY (aV c R hp) w hp R b box
 inj:∀b b' r,aL R b r (lk hp b)→aL R b' r (lk hp b')→b=b'
 free:∀r,owned R hp r→¬c.F r
 jE:mr c.O c.w w
 iw:∀r,owned R hp r→c.O r∨c.w.heap.size≤r
 kept:∀v x,c.K v x→ak (aV c R hp) w hp R v x
 fixed:tY c.fix (owned R hp) w
 lo:R.Y.n0=c.n0∧c.n0.1≤c.lo∧c.lo≤w.heap.size
theorem bG.hap {c:Ctx}{R:Real}{s:AS}{a:Act}{w:World}(g:bG c R s a w):y8 c R s.hp w:=
 ⟨g.boxes,g.inj,g.free,g.jE,g.iw,g.kept,g.fixed,g.lo⟩
theorem y8.WR {c:Ctx}{R:Real}{hp:List (Nat×aF)}{w:World}(h:y8 c R hp w){tm:List (Nat×AV)}{nx:Nat}{a:Act}
  (hs:∀t v,lk tm t=some v→∃x,a.tmps[t]? = some x∧ak (aV c R hp) w hp R v x) (hz:a.tmps.size=c.n) (hd:∃Ds,Marks c.lo (owned R hp) w a.defers Ds):bG c R ⟨tm,nx,hp⟩ a w:=
 ⟨hs,hz,h.lo,hd,h.fixed,h.boxes,h.inj,h.free,h.jE,h.iw,h.kept⟩
inductive Src where
 |old (b d:Nat)
 |nil
abbrev xO:=List (Nat×Src)
def Xm (v:AV):Option (List AV):=
 match v with
 |.agg cs=>some cs
 |.pv (.agg ps)=>some (ps.map .pv)
 |_=>none
def Xn (v:AV):Option (List AV):=
 match v with
 |.cO cs=>some cs
 |.pv (.cO ps)=>some (ps.map .pv)
 |_=>none
def O3 (v:AV):Option (Fn×List AV×List AV):=
 match v with
 |.fn f a c=>some (f,a,c)
 |.pv (.fn f a c)=>some (f,a.map .pv,c.map .pv)
 |_=>none
mutual
def sQ:PV→PV→Prop
 |.junk,_=>True
 | .sc v,q=>match v with
   | .int k b=>match q with
     |.sc (.int j a)=>j=k∧a=b
     |_=>False
   | .bool b=>match q with
     |.sc (.bool a)=>a=b
     |_=>False
   |v=>q=.sc v
 | .sl nn st rows,q=>match q with
   |.sl nn' st' aS=>(nn=true→nn'=true)∧st'=st∧iR rows aS
   |.sc (.slice none 0 0)=>nn=false∧rows=[]
   |_=>False
 | .agg ps,q=>match q with
   |.agg qs=>kH ps qs
   |_=>False
 | .cO ps,q=>match q with
   |.cO qs=>kH ps qs
   |_=>False
 |.dL row off,q=>q=.dL row off
 |.fn f a b,q=>q=.fn f a b
 |.NY st rows,q=>q=.NY st rows
def kH:List PV→List PV→Prop
 | [],qs=>match qs with
   |[]=>True
   |_=>False
 | p::ps,qs=>match qs with
   |q::qs=>sQ p q∧kH ps qs
   |[]=>False
def iR:List (List PV)→List (List PV)→Prop
 | [],qs=>match qs with
   |[]=>True
   |_=>False
 | p::ps,qs=>match qs with
   |q::qs=>kH p q∧iR ps qs
   |[]=>False
end
abbrev Xo (q p:PV):Prop:=sQ p q
abbrev AP (q p:List PV):Prop:=kH p q
def leP (v:AV)(p:PV):Prop:=
 match p with
 |.junk=>True
 | p=>match v with
   |.pv q=>Xo q p
   |_=>False
section
variable (ρ:xO)
mutual
def le:AV→AV→Prop
 |v,.pv p=>leP v p
 | v,.ptr b off=>match lk ρ b with
   |some (.old x _)=>v=.ptr x off
   |_=>False
 | v,.aO b ver=>match lk ρ b with
   |some (.old x d)=>v=.aO x (ver+d)
   |some .nil=>ver=0∧v=.pv (.sc (.slice none 0 0))
   |none=>False
 | v,.sub b ver st lo hi=>match lk ρ b with
   |some (.old x d)=>v=.sub x (ver+d) st lo hi
   |_=>False
 | v,.dM b ver i off=>match Nat.beq b 999 with
   |true=>False
   | false=>match lk ρ b with
     |some (.old x d)=>v=.dM x (ver+d) i off
     |_=>False
 | v,.agg cs=>match Xm v with
   |some us=>Gt us cs
   |none=>False
 | v,.cO cs=>match Xn v with
   |some us=>Gt us cs
   |none=>False
 | v,.fn f a c=>match O3 v with
   |some (g,a',c')=>g=f∧Gt a' a∧Gt c' c
   |none=>False
def Gt:List AV→List AV→Prop
 |[],[]=>True
 |u::us,v::vs=>le u v∧Gt us vs
 |_,_=>False
end
end
def wZ (ρ:xO)(d:Nat)(o:Option aF)(box:aF):Prop:=
 match box with
 | .var cells=>match o with
   |some (.var cs)=>Gt ρ cs cells
   |_=>False
 | .nR cells=>match o with
   |some (.nR cs)=>cs=cells
   |_=>False
 | .arr e ver st rows=>match o with
   |some (.arr e' eZ st' aS)=>e'=e∧eZ=ver+d∧st'=st∧iR rows aS
   |_=>False
 | .dS ver st rows=>match o with
   |some (.dS eZ st' aS)=>eZ=ver+d∧st'=st∧iR rows aS
   |some (.arr _ eZ st' aS)=>False
   |_=>False
 | .tr y _ rest st=>match o with
   |some (.tr y' _ rest' st')=>y'=y∧rest'=rest∧st'=st
   |_=>False
 | .gy e ver st pre row post=>match o with
   |some (.gy e' eZ st' pre' row' post')=>e'=e∧eZ=ver+d∧st'=st∧iR pre pre'∧Gt ρ row' row∧iR post post'
   |_=>False
 | .mp kk kv es=>match o with
   |some (.mp kk' Xp es')=>kk'=kk∧Xp=kv∧es'=es
   |_=>False
 | .iM e ver st j ed sd pre row post=>match o with
   |some (.iM e' eZ st' j' ed' sd' pre' row' post')=>(e'=e∧eZ=ver+d∧st'=st∧j'=j∧ed'=ed∧sd'=sd)∧pre'=pre∧Gt ρ row' row∧post'=post
   |_=>False
def qY (box:aF):Prop:=
 match box with
 |.arr _ _ _ rows=>rows=[]
 |.iM _ _ _ _ _ _ pre row post=>pre=[]∧row=[]∧post=[]
 |_=>False
structure Xq (ρ:xO)(hp hp':List (Nat×aF)):Prop where
 box:∀b box,lk hp' b=some box→match lk ρ b with
  |some (.old x d)=>wZ ρ d (lk hp x) box
  |some .nil=>qY box
  |none=>False
 dom:∀b,(∃s,lk ρ b=some s)→∃box,lk hp' b=some box
 inj:∀b b' x d d',lk ρ b=some (.old x d)→lk ρ b'=some (.old x d')→b=b'
 low:∀b,b<1000→(∃box,lk hp b=some box)→lk ρ b=some (.old b 0)
 agm:∀b a0 a1 a2 a3,lk hp' b=some (.tr a0 a1 a2 a3)→b=999
def nT (ρ:xO)(R:Real):Real where
 blk b:=match lk ρ b with
  |some (.old x _)=>R.blk x
  |_=>0
 nil b:=match lk ρ b with
  |some (.old x _)=>R.nil x
  |_=>true
 cap b:=match lk ρ b with
  |some (.old x _)=>R.cap x
  |_=>(0,[])
 Y:=R.Y
theorem uY {ρ:xO}{R:Real}{b x d:Nat}(h:lk ρ b=some (.old x d)):(nT ρ R).blk b=R.blk x∧(nT ρ R).nil b=R.nil x∧(nT ρ R).cap b=R.cap x:=by
 simp[nT,h]
theorem qZ {ρ:xO}{R:Real}{b:Nat}(h:lk ρ b=some .nil):(nT ρ R).nil b=true:=by
 simp[nT,h]
theorem AQ {ρ:xO}{R:Real}{b:Nat}(h:lk ρ b=some .nil):(nT ρ R).cap b=(0,[]):=by
 simp[nT,h]
theorem DJ {ρ:xO}:∀(us vs:List AV),Gt ρ us vs→us.length=vs.length
 |[],[],_=>rfl
 |[],_::_,h=>by simp only[Gt] at h
 |_::_,[],h=>by simp only[Gt] at h
 |u::us,v::vs,h=>by simp only[Gt] at h;simp[DJ us vs h.2]
theorem sS {ρ:xO}{R:Real}{b x d n:Nat}(h:lk ρ b=some (.old x d)):dH (nT ρ R) b n=dH R x n:=by
 obtain⟨h1,h2,h3⟩:=uY (R:=R) h;simp only[dH,h1,h2,h3]
theorem om {N:Nat→Prop}{w:World}{hp:List (Nat×aF)}{R:Real}:∀(ps:List PV) (xs:List Value),eY N w ps xs→dh N w hp R (ps.map .pv) xs
 |[],xs,h=>by simpa only[List.map,dh,eY] using h
 | p::ps,xs,h=>by
   simp only[eY] at h;obtain⟨v,r,e,h1,h2⟩:=h;simp only[List.map_cons,dh,ak];exact⟨v,r,e,h1,om ps r h2⟩
theorem Ho {N:Nat→Prop}{w:World}{hp:List (Nat×aF)}{R:Real}:∀(ps:List PV) (xs:List Value),iX N w ps xs→dD N w hp R (ps.map .pv) xs
 |[],xs,h=>by simpa only[List.map,dD,iX] using h
 | p::ps,xs,h=>by
   simp only[iX] at h;obtain⟨v,r,e,h0,h1,h2⟩:=h;simp only[List.map_cons,dD,ak];exact⟨v,r,e,h0,h1,Ho ps r h2⟩
section
mutual
theorem Xr:∀(p:PV),sQ p p
 |.junk=>by unfold sQ;trivial
 |.sc v=>by unfold sQ;cases v<;>simp
 |.sl nn st rows=>by unfold sQ;exact⟨id,rfl,aB rows⟩
 |.agg ps=>by unfold sQ;exact q8 ps
 |.cO ps=>by unfold sQ;exact q8 ps
 |.dL _ _=>by unfold sQ;rfl
 |.fn _ _ _=>by unfold sQ;rfl
 |.NY _ _=>by unfold sQ;rfl
theorem q8:∀(ps:List PV),kH ps ps
 |[]=>by unfold kH;trivial
 |p::ps=>by unfold kH;exact⟨Xr p,q8 ps⟩
theorem aB:∀(ps:List (List PV)),iR ps ps
 |[]=>by unfold iR;trivial
 |p::ps=>by unfold iR;exact⟨q8 p,aB ps⟩
end
theorem fZ {a b:List (List PV)}(h:b=a):iR a b:=h▸aB _
theorem Lm:∀(ps qs:List PV),kH ps qs→qs.length=ps.length
 |[],[],_=>rfl
 |[],_::_,h=>by unfold kH at h;exact h.elim
 |_::_,[],h=>by unfold kH at h;exact h.elim
 | p::ps,q::qs,h=>by
   unfold kH at h;simp[Lm ps qs h.2]
theorem jo:∀(ps qs:List (List PV)),iR ps qs→qs.length=ps.length
 |[],[],_=>rfl
 |[],_::_,h=>by unfold iR at h;exact h.elim
 |_::_,[],h=>by unfold iR at h;exact h.elim
 | p::ps,q::qs,h=>by
   unfold iR at h;simp[jo ps qs h.2]
theorem bW {a b c d:List (List PV)}(h:iR a b)(h':iR c d):iR (a++c) (b++d):=by
 induction a generalizing b with
 | nil=>
   cases b with
   |nil=>exact h'
   |cons _ _=>unfold iR at h;exact h.elim
 | cons x a ih=>
   cases b with
   |nil=>unfold iR at h;exact h.elim
   | cons y b=>
     rw[List.cons_append,List.cons_append];unfold iR at h ⊢;exact⟨h.1,ih h.2⟩
end
section
variable {N N':Nat→Prop}{w:World}(hN:∀r,N' r→N r)
include hN
mutual
theorem oq:∀(p q:PV) (x:Value),Xo q p→bJ N w q x→bJ N' w p x
 |.junk,q,x,h,hx=>by simp only[bJ]
 | .sc v,q,x,h,hx=>by
   unfold Xo sQ at h;split at h
   ·split at h
    ·obtain⟨rfl,rfl⟩:=h;simpa only[bJ] using hx
    exact h.elim
   ·split at h
    ·subst h;simpa only[bJ] using hx
    exact h.elim
   subst h;simpa only[bJ] using hx
 | .sl nn st rows,q,x,h,hx=>by
   unfold Xo sQ at h;split at h
   ·obtain⟨h1,rfl,h2⟩:=h;simp only[bJ] at hx ⊢;obtain⟨p,len,cap,a1,a2,a3,a4,a5⟩:=hx;have hl:=jo _ _ h2;refine⟨p,len,cap,a1,by omega,a3,fun hp=>⟨Bool.eq_false_iff.2 fun hnn=>?_,(a4 hp).2⟩,fun a ha=>?_⟩
    ·have:=(a4 hp).1;rw[h1 hnn] at this;cases this
    rcases a5 a ha with b2|⟨b1,b2,cur,e,fr,b3,b4⟩
    ·subst b2;exact .inl (List.eq_nil_of_length_eq_zero hl.symm)
    exact .inr ⟨b1,fun h=>b2 (hN _ h),cur,e,fr,b3,oU rows _ _ _ h2 b4⟩
   ·obtain⟨rfl,rfl⟩:=h;simp only[bJ] at hx ⊢;subst hx;exact⟨none,0,0,rfl,rfl,⟨Nat.le_refl _,by omega⟩,by simp,fun a ha=>(by cases ha)⟩
   exact h.elim
 | .agg ps,q,x,h,hx=>by
   unfold Xo sQ at h;split at h
   ·simp only[bJ] at hx ⊢;obtain⟨vs,e,h1⟩:=hx;exact⟨vs,e,Ce ps _ _ h h1⟩
   exact h.elim
 | .cO ps,q,x,h,hx=>by
   unfold Xo sQ at h;split at h
   ·simp only[bJ] at hx ⊢;obtain⟨vs,e,h1⟩:=hx;exact⟨vs,e,qd ps _ _ h h1⟩
   exact h.elim
 | .NY st rows,q,x,h,hx=>by
   unfold Xo sQ at h;subst h;exact dJ (fun r _ h=>hN r h) (fun _ _ _=>rfl) _ _ hx
 | .dL row off,q,x,h,hx=>by
   unfold Xo sQ at h;subst h;exact dJ (fun r _ h=>hN r h) (fun _ _ _=>rfl) _ _ hx
 | .fn f a b,q,x,h,hx=>by
   unfold Xo sQ at h;subst h;exact dJ (fun r _ h=>hN r h) (fun _ _ _=>rfl) _ _ hx
theorem qd:∀(ps qs:List PV) (xs:List Value),AP qs ps→eY N w qs xs→eY N' w ps xs
 |[],[],xs,h,hx=>by simpa only[eY] using hx
 |[],_::_,xs,h,hx=>by unfold AP kH at h;exact h.elim
 |_::_,[],xs,h,hx=>by unfold AP kH at h;exact h.elim
 | p::ps,q::qs,xs,h,hx=>by
   unfold AP kH at h;simp only[eY] at hx ⊢;obtain⟨x,r,e,h1,h2⟩:=hx;exact⟨x,r,e,oq p q x h.1 h1,qd ps qs r h.2 h2⟩
theorem Ce:∀(ps qs:List PV) (xs:List Value),AP qs ps→iX N w qs xs→iX N' w ps xs
 |[],[],xs,h,hx=>by simpa only[iX] using hx
 |[],_::_,xs,h,hx=>by unfold AP kH at h;exact h.elim
 |_::_,[],xs,h,hx=>by unfold AP kH at h;exact h.elim
 | p::ps,q::qs,xs,h,hx=>by
   unfold AP kH at h;simp only[iX] at hx ⊢;obtain⟨x,r,e,h0,h1,h2⟩:=hx;exact⟨x,r,e,h0,oq p q x h.1 h1,Ce ps qs r h.2 h2⟩
theorem Cf:∀(ps qs:List PV) (xs:List Value),AP qs ps→gU N w qs xs→gU N' w ps xs
 |[],[],xs,h,hx=>by simp only[gU]
 |[],_::_,xs,h,hx=>by unfold AP kH at h;exact h.elim
 |_::_,[],xs,h,hx=>by unfold AP kH at h;exact h.elim
 | p::ps,q::qs,xs,h,hx=>by
   unfold AP kH at h;simp only[gU] at hx ⊢;obtain⟨x,r,e,h0,h1,h2⟩:=hx;exact⟨x,r,e,h0,oq p q x h.1 h1,Cf ps qs r h.2 h2⟩
theorem oU:∀(ps qs:List (List PV)) (st:Nat) (xs:List Value),iR ps qs→cK N w st qs xs→cK N' w st ps xs
 |[],[],st,xs,h,hx=>by simp only[cK]
 |[],_::_,st,xs,h,hx=>by unfold iR at h;exact h.elim
 |_::_,[],st,xs,h,hx=>by unfold iR at h;exact h.elim
 | p::ps,q::qs,st,xs,h,hx=>by
   unfold iR at h;simp only[cK] at hx ⊢;obtain⟨h1,h2,h3⟩:=hx;exact⟨by rw[←Lm _ _ h.1];exact h1,Cf p q xs h.1 h2,oU ps qs st _ h.2 h3⟩
end
end
theorem TR {N N':Nat→Prop}{w:World}{hp hp':List (Nat×aF)}{R R':Real}(hN:∀r,N' r→N r){v:AV}{p:PV}(h:leP v p){x:Value}(hx:ak N w hp R v x):bJ N' w p x:=by
 unfold leP at h;split at h
 ·simp only[bJ]
 split at h
 ·simp only[ak] at hx;exact oq hN _ _ _ h hx
 exact h.elim
section
variable {ρ:xO}{c:Ctx}{R:Real}{hp hp':List (Nat×aF)}{w:World}
theorem ado (H:Xq ρ hp hp'){b x d off:Nat}(hb:lk ρ b=some (.old x d)){v:Value}(h:aY R x off v (lk hp x)):aY (nT ρ R) b off v (lk hp' b):=by
 obtain⟨box,uz⟩:=H.dom b ⟨_,hb⟩;have hl:=H.box b box uz;rw[hb] at hl;simp only at hl;rw[uz];obtain⟨e1,e2,e3⟩:=uY (R:=R) hb;cases ho:lk hp x with
 |none=>rw[ho] at h;exact h.elim
 | some o=>
   rw[ho] at h hl;cases o<;>simp only[aY] at h<;>cases box<;>simp only[wZ] at hl<;>simp only[aY,e1]<;>exact h
theorem aem (H:Xq ρ hp hp'){b x d ver:Nat}(hb:lk ρ b=some (.old x d)){v:Value}(h:aU R x (ver+d) v (lk hp x)):aU (nT ρ R) b ver v (lk hp' b):=by
 obtain⟨box,uz⟩:=H.dom b ⟨_,hb⟩;have hl:=H.box b box uz;rw[hb] at hl;simp only at hl;rw[uz];cases ho:lk hp x with
 |none=>rw[ho] at h;exact h.elim
 | some o=>
   rw[ho] at h hl;cases o<;>simp only[aU] at h<;>cases box<;>simp only[wZ] at hl
   ·obtain⟨_,e2,e3,e4⟩:=hl;simp only[aU,sS hb,←jo _ _ e4];exact⟨by omega,h.2.1,fun e=>h.2.2 (by omega)⟩
   ·obtain⟨e2,e3,e4⟩:=hl;simp only[aU,sS hb,←jo _ _ e4];exact⟨by omega,h.2.1,fun e=>h.2.2 (by omega)⟩
   ·obtain⟨_,e2,e3,e4,_,e5⟩:=hl;simp only[aU,sS hb,←jo _ _ e4,←jo _ _ e5];exact⟨by omega,h.2.1,fun e=>h.2.2 (by omega)⟩
   obtain⟨⟨_,e2,_⟩,rfl,e4,rfl⟩:=hl;simp only[aU,sS hb,←qO (DJ _ _ e4)];exact⟨by omega,h.2.1,fun e=>h.2.2 (by omega)⟩
theorem agn (H:Xq ρ hp hp'){b x d ver i off:Nat}(h99:Nat.beq b 999=false)(hb:lk ρ b=some (.old x d)){v:Value}(h:bf R x (ver+d) i off v (lk hp x)):bf (nT ρ R) b ver i off v (lk hp' b):=by
 obtain⟨box,uz⟩:=H.dom b ⟨_,hb⟩;have hl:=H.box b box uz;rw[hb] at hl;simp only at hl;rw[uz];obtain⟨e1,e2,e3⟩:=uY (R:=R) hb;cases ho:lk hp x with
 |none=>rw[ho] at h;exact h.elim
 | some o=>
   rw[ho] at h hl;cases o<;>simp only[bf] at h<;>cases box<;>simp only[wZ] at hl
   ·obtain⟨_,f2,f3,f4⟩:=hl;subst f3;simp only[bf,e1,e2];exact⟨by omega,h.2.1,fun e=>h.2.2 (by omega)⟩
   ·obtain⟨f2,f3,f4⟩:=hl;subst f3;simp only[bf,e1,e2];exact⟨by omega,h.2.1,fun e=>h.2.2 (by omega)⟩
   ·exfalso;have:=H.agm b _ _ _ _ uz;subst this;cases h99
   ·obtain⟨_,f2,f3,f4⟩:=hl;subst f3;simp only[bf,e1,e2];exact⟨by omega,h.2.1,fun e=>h.2.2 (by omega)⟩
   ·simp only[bf,e1];exact⟨Nat.zero_le _,h.2.1,h.2.2⟩
   obtain⟨⟨_,f2,f3,f4⟩,_⟩:=hl;subst f3;simp only[bf,e1,e2];exact⟨by omega,h.2.1,fun e=>h.2.2 (by omega)⟩
theorem EC (H:Xq ρ hp hp'){b r:Nat}(h:aL (nT ρ R) b r (lk hp' b)):∃x d,lk ρ b=some (.old x d)∧aL R x r (lk hp x):=by
 cases uz:lk hp' b with
 |none=>rw[uz] at h;exact h.elim
 | some box=>
   have hl:=H.box b box uz;rw[uz] at h;cases hb:lk ρ b with
   |none=>rw[hb] at hl;exact hl.elim
   | some s=>
     cases s with
     | nil=>
       rw[hb] at hl;cases box<;>simp only[qY] at hl
       ·simp only[aL,qZ hb] at h;simp at h
       simp only[aL,qZ hb,AQ hb] at h;simp at h
     | old x d=>
       rw[hb] at hl;simp only at hl;refine⟨x,d,rfl,?_⟩;obtain⟨e1,e2,e3⟩:=uY (R:=R) hb;cases ho:lk hp x with
       |none=>rw[ho] at hl;cases box<;>simp only[wZ] at hl
       | some o=>
         rw[ho] at hl;cases o<;>cases box<;>simp only[wZ] at hl<;>simp only[aL,e1,e2,e3] at h ⊢ <;> exact h
theorem leN (H:Xq ρ hp hp'){r:Nat}(h:aV c (nT ρ R) hp' r):aV c R hp r:=by
 rcases h with h|⟨b,h⟩
 ·exact .inl h
 obtain⟨x,d,_,h⟩:=EC H h;exact .inr ⟨x,h⟩
mutual
theorem zo (H:Xq ρ hp hp'):∀(v':AV) (v:AV) (x:Value),le ρ v v'→ak (aV c R hp) w hp R v x→ak (aV c (nT ρ R) hp') w hp' (nT ρ R) v' x
 | .pv p,v,x,h,hx=>by
   simp only[ak];simp only[le] at h;exact TR (fun r h=>leN H h) (hp':=hp') (R':=R) h hx
 | .ptr b off,v,x,h,hx=>by
   simp only[le] at h;split at h;rotate_left;cases h
   rename_i y d hb;subst h;simp only[ak] at hx ⊢;exact ado H hb hx
 | .aO b ver,v,x,h,hx=>by
   simp only[le] at h;split at h
   ·rename_i y d hb;subst h;simp only[ak] at hx ⊢;exact aem H hb hx
   ·rename_i hb;obtain⟨rfl,rfl⟩:=h;simp only[ak,bJ] at hx ⊢;subst hx;obtain⟨box,uz⟩:=H.dom b ⟨_,hb⟩;have hl:=H.box b box uz;rw[hb] at hl;rw[uz];cases box<;>simp only[qY] at hl
    ·subst hl;rename_i e eZ st;simp only[aU,dH,qZ hb];exact⟨Nat.zero_le _,rfl,fun _=>rfl⟩
    simp only[aU,dH,qZ hb];exact⟨Nat.zero_le _,rfl,fun _=>rfl⟩
   exact h.elim
 | .sub b ver st lo hi,v,x,h,hx=>by
   simp only[le] at h;split at h;rotate_left;cases h
   rename_i y d hb;subst h;simp only[ak] at hx ⊢;obtain⟨u,a,cc⟩:=hx;exact⟨u,aem H hb a,cc⟩
 | .dM b ver i off,v,x,h,hx=>by
   simp only[le] at h;split at h
   ·exact h.elim
   rename_i h99;split at h;rotate_left;cases h
   rename_i y d hb;subst h;simp only[ak] at hx ⊢;exact agn H h99 hb hx
 | .agg cs,v,x,h,hx=>by
   simp only[le] at h;split at h;rotate_left;cases h
   rename_i us sF;have:∃vs:Array Value,x=.agg vs∧dD (aV c R hp) w hp R us vs.toList:=by
    unfold Xm at sF;split at sF
    ·simp only[Option.some.injEq] at sF;subst sF;simpa only[ak] using hx
    ·simp only[Option.some.injEq] at sF;subst sF;simp only[ak,bJ] at hx;obtain⟨vs,e,h1⟩:=hx;exact⟨vs,e,Ho _ _ h1⟩
    cases sF
   obtain⟨vs,e,h1⟩:=this;simp only[ak];exact⟨vs,e,oV H cs us _ h h1⟩
 | .cO cs,v,x,h,hx=>by
   simp only[le] at h;split at h;rotate_left;cases h
   rename_i us sF;have:∃vs:Array Value,x=.tuple vs∧dh (aV c R hp) w hp R us vs.toList:=by
    unfold Xn at sF;split at sF
    ·simp only[Option.some.injEq] at sF;subst sF;simpa only[ak] using hx
    ·simp only[Option.some.injEq] at sF;subst sF;simp only[ak,bJ] at hx;obtain⟨vs,e,h1⟩:=hx;exact⟨vs,e,om _ _ h1⟩
    cases sF
   obtain⟨vs,e,h1⟩:=this;simp only[ak];exact⟨vs,e,oW H cs us _ h h1⟩
 | .fn f a cc,v,x,h,hx=>by
   simp only[le] at h;split at h;rotate_left;cases h
   rename_i g a' c' sF;obtain⟨rfl,h1,h2⟩:=h;have:∃fs cs:Array Value,x=.func g fs cs∧dh (aV c R hp) w hp R a' fs.toList∧dh (aV c R hp) w hp R c' cs.toList:=by
    unfold O3 at sF;split at sF
    ·simp only[Option.some.injEq,Prod.mk.injEq] at sF;obtain⟨rfl,rfl,rfl⟩:=sF;simpa only[ak] using hx
    ·simp only[Option.some.injEq,Prod.mk.injEq] at sF;obtain⟨rfl,rfl,rfl⟩:=sF;simp only[ak,bJ] at hx;obtain⟨fs,cs,e,h3,h4⟩:=hx;exact⟨fs,cs,e,om _ _ h3,om _ _ h4⟩
    cases sF
   obtain⟨fs,cs,e,h3,h4⟩:=this;simp only[ak];exact⟨fs,cs,e,oW H a a' _ h1 h3,oW H cc c' _ h2 h4⟩
theorem oW (H:Xq ρ hp hp'):∀(Q8:List AV) (vs:List AV) (xs:List Value),Gt ρ vs Q8→dh (aV c R hp) w hp R vs xs→dh (aV c (nT ρ R) hp') w hp' (nT ρ R) Q8 xs
 |[],[],xs,h,hx=>by simpa only[dh] using hx
 |[],_::_,xs,h,hx=>by simp only[Gt] at h
 |_::_,[],xs,h,hx=>by simp only[Gt] at h
 | v'::Q8,v::vs,xs,h,hx=>by
   simp only[Gt] at h;simp only[dh] at hx ⊢;obtain⟨x,r,e,h1,h2⟩:=hx;exact⟨x,r,e,zo H v' v x h.1 h1,oW H Q8 vs r h.2 h2⟩
theorem oV (H:Xq ρ hp hp'):∀(Q8:List AV) (vs:List AV) (xs:List Value),Gt ρ vs Q8→dD (aV c R hp) w hp R vs xs→dD (aV c (nT ρ R) hp') w hp' (nT ρ R) Q8 xs
 |[],[],xs,h,hx=>by simpa only[dD] using hx
 |[],_::_,xs,h,hx=>by simp only[Gt] at h
 |_::_,[],xs,h,hx=>by simp only[Gt] at h
 | v'::Q8,v::vs,xs,h,hx=>by
   simp only[Gt] at h;simp only[dD] at hx ⊢;obtain⟨x,r,e,h0,h1,h2⟩:=hx;exact⟨x,r,e,h0,zo H v' v x h.1 h1,oV H Q8 vs r h.2 h2⟩
end
theorem y8.weaken (h:y8 c R hp w)(H:Xq ρ hp hp'):y8 c (nT ρ R) hp' w:=by
 refine⟨fun b box hb=>?_,fun b b' r h1 h2=>?_,fun r ⟨b,hr⟩=>?_,h.jE,fun r ⟨b,hr⟩=>?_,fun v x hv=>?_,?_,h.lo⟩
 ·have hl:=H.box b box hb;cases hs:lk ρ b with
  |none=>rw[hs] at hl;exact hl.elim
  | some s=>
    rw[hs] at hl;cases s with
    | nil=>
      cases box<;>simp only[qY] at hl
      ·subst hl;refine⟨[],⟨?_,.inl ⟨?_,rfl⟩⟩,by simp only[cK]⟩
       ·simp
       simp[dH,qZ hs]
      obtain⟨rfl,rfl,rfl⟩:=hl;refine⟨[],[],[],by rw[AQ hs];rfl,⟨by simp[gZ],.inl ⟨by simp[dH,qZ hs],by simp[gZ]⟩⟩,by simp only[ic],by simp[gZ],by simp only[gZ,Nat.zero_mul,List.take_zero,dD],by simp only[ic],?_⟩;unfold F9;rw[AQ hs];exact⟨by simp,fun v r hv=>by simp at hv⟩
    | old x d=>
      simp only at hl;obtain⟨e1,e2,e3⟩:=uY (R:=R) hs;cases ho:lk hp x with
      |none=>rw[ho] at hl;cases box<;>simp only[wZ] at hl
      | some o=>
        have hr:=h.boxes x o ho;rw[ho] at hl;cases o<;>cases box<;>simp only[wZ] at hl
        ·obtain⟨cur,e,a1,a2⟩:=hr;exact⟨cur,e,by rw[e1];exact a1,oV H _ _ _ hl a2⟩
        ·subst hl;obtain⟨cur,e,fr,a1,a2,a3⟩:=hr;refine⟨cur,e,fr,by rw[e1];exact a1,by rw[e1];exact fun hn=>a2 (leN H hn),dQ (fun r _ h=>leN H h) (fun _ _ _=>rfl) _ _ a3⟩
        ·obtain⟨rfl,_,rfl,hl⟩:=hl;obtain⟨xs,a1,a2⟩:=hr;refine⟨xs,?_,oU (fun r h=>leN H h) _ _ _ _ hl a2⟩;rw[sS hs,←jo _ _ hl];exact a1
        ·obtain⟨_,rfl,hl⟩:=hl;simp only[dY,sS hs,←jo _ _ hl] at hr ⊢;exact oq (fun r h=>leN H h) (.sl false _ _) (.sl false _ _) _ (by unfold Xo sQ;exact⟨id,rfl,hl⟩) hr
        ·obtain⟨rfl,rfl,rfl⟩:=hl;obtain⟨k0,kh,k1,k2,k3,k4⟩:=hr;refine⟨H.agm _ _ _ _ _ hb,kh,by rw[e2];exact k1,k2,k3,fun r hn=>k4 r (leN H hn)⟩
        ·obtain⟨rfl,_,rfl,hl,hl2,hl3⟩:=hl;obtain⟨xs,a1,a2,a3,a4,a5⟩:=hr;refine⟨xs,?_,oU (fun r h=>leN H h) _ _ _ _ hl a2,by rw[←DJ _ _ hl2];exact a3,?_,?_⟩
         ·rw[sS hs,←jo _ _ hl,←jo _ _ hl3];exact a1
         ·rw[←jo _ _ hl];exact oV H _ _ _ hl2 a4
         rw[←jo _ _ hl];exact oU (fun r h=>leN H h) _ _ _ _ hl3 a5
        ·obtain⟨rfl,rfl,rfl⟩:=hl;obtain⟨cur,clock,a1,a2,a3⟩:=hr;exact⟨cur,clock,by rw[e1];exact a1,by rw[e2];exact a2,a3⟩
        obtain⟨⟨rfl,_,rfl,rfl,rfl,rfl⟩,rfl,hl2,rfl⟩:=hl;exact iQ (fun r _ h=>leN H h) (fun _ _ _=>rfl) e1 e2 e3 (fun _ _=>rfl) (DJ _ _ hl2).symm (fun vs hv=>oV H _ _ _ hl2 hv) hr
 ·obtain⟨x,d,a1,a2⟩:=EC H h1;obtain⟨y,d',b1,b2⟩:=EC H h2;have:=h.inj x y r a2 b2;subst this;exact H.inj _ _ _ _ _ a1 b1
 ·obtain⟨x,d,_,a2⟩:=EC H hr;exact h.free r ⟨x,a2⟩
 ·obtain⟨x,d,_,a2⟩:=EC H hr;exact h.iw r ⟨x,a2⟩
 ·have hk:=h.kept v x hv;have hlow:=c.hK v x hv;cases v with
  | ptr b off=>
    simp only[jD,Nat.blt_eq] at hlow;simp only[ak] at hk ⊢;have he:∃box,lk hp b=some box:=by
     cases hb:lk hp b with
     |none=>rw[hb] at hk;exact hk.elim
     |some box=>exact⟨box,rfl⟩
    exact ado H (H.low b hlow he) hk
  | aO b ver=>
    simp only[jD,Nat.blt_eq] at hlow;simp only[ak] at hk ⊢;have he:∃box,lk hp b=some box:=by
     cases hb:lk hp b with
     |none=>rw[hb] at hk;exact hk.elim
     |some box=>exact⟨box,rfl⟩
    exact aem H (d:=0) (H.low b hlow he) hk
  | dM b ver i off=>
    simp only[jD,Bool.and_eq_true,Nat.blt_eq,Bool.not_eq_true'] at hlow;obtain⟨hlow,h99⟩:=hlow;simp only[ak] at hk ⊢;have he:∃box,lk hp b=some box:=by
     cases hb:lk hp b with
     |none=>rw[hb] at hk;exact hk.elim
     |some box=>exact⟨box,rfl⟩
    exact agn H (d:=0) h99 (H.low b hlow he) hk
  |_=>simp[jD] at hlow
 exact h.fixed.kept (fun _ _ _=>rfl) fun r _ ⟨b,ho⟩=>let ⟨x,_,_,h2⟩:=EC H ho;⟨x,h2⟩
end
def pairs:List AV→List AV→List (AV×AV)→List (AV×AV)
 |u::us,v::vs,l=>(u,v)::pairs us vs l
 |_,_,l=>l
def mt (hp hp':List (Nat×aF)):Nat→xO→List (AV×AV)→Option xO
 |_,ρ,[]=>some ρ
 |0,_,_::_=>none
 | n+1,ρ,(v,v')::l=>match v' with
   |.pv _=>mt hp hp' n ρ l
   | .ptr b _=>match lk ρ b with
     |some _=>mt hp hp' n ρ l
     | none=>match v with
       | .ptr x _=>match lk hp' b with
         | some (.var DK)=>match lk hp x with
           |some (.var cs)=>mt hp hp' n ((b,.old x 0)::ρ) (pairs cs DK l)
           |_=>none
         |some (.nR _)=>mt hp hp' n ((b,.old x 0)::ρ) l
         |_=>none
       |_=>none
   | .aO b ver=>match lk ρ b with
     |some _=>mt hp hp' n ρ l
     | none=>match v with
       | .aO x eZ=>match lk hp' b with
         | some (.gy _ _ _ _ DK _)=>match lk hp x with
           |some (.gy _ _ _ _ cs _)=>mt hp hp' n ((b,.old x (eZ-ver))::ρ) (pairs cs DK l)
           |_=>none
         | some (.iM _ _ _ _ _ _ _ DK _)=>match lk hp x with
           |some (.iM _ _ _ _ _ _ _ cs _)=>mt hp hp' n ((b,.old x (eZ-ver))::ρ) (pairs cs DK l)
           |_=>none
         |_=>mt hp hp' n ((b,.old x (eZ-ver))::ρ) l
       |.pv (.sc (.slice none 0 0))=>mt hp hp' n ((b,.nil)::ρ) l
       |_=>none
   | .sub b ver _ _ _=>match lk ρ b with
     |some _=>mt hp hp' n ρ l
     | none=>match v with
       |.sub x eZ _ _ _=>mt hp hp' n ((b,.old x (eZ-ver))::ρ) l
       |_=>none
   | .dM b ver _ _=>match lk ρ b with
     |some _=>mt hp hp' n ρ l
     | none=>match v with
       |.dM x eZ _ _=>mt hp hp' n ((b,.old x (eZ-ver))::ρ) l
       |_=>none
   | .agg cs=>match Xm v with
     |some us=>mt hp hp' n ρ (pairs us cs l)
     |none=>none
   | .cO cs=>match Xn v with
     |some us=>mt hp hp' n ρ (pairs us cs l)
     |none=>none
   | .fn _ a c=>match O3 v with
     |some (_,a',c')=>mt hp hp' n ρ (pairs a' a (pairs c' c l))
     |none=>none
def Rm:xO→List (Nat×aF)→xO
 |acc,[]=>acc
 | acc,(b,_)::r=>match Nat.blt b 1000 with
   | true=>match lk acc b with
     |some _=>Rm acc r
     |none=>Rm ((b,.old b 0)::acc) r
   |false=>Rm acc r
def O4 (hp:List (Nat×aF)):xO:=Rm [] hp
def kU (hp hp':List (Nat×aF)):xO→List (AV×AV)→List (AV×AV)
 |[],l=>l
 | (b,_)::r,l=>match lk hp' b with
   | some (.var DK)=>match lk hp b with
     |some (.var cs)=>pairs cs DK (kU hp hp' r l)
     |_=>kU hp hp' r l
   | some (.gy _ _ _ _ DK _)=>match lk hp b with
     |some (.gy _ _ _ _ cs _)=>pairs cs DK (kU hp hp' r l)
     |_=>kU hp hp' r l
   | some (.iM _ _ _ _ _ _ _ DK _)=>match lk hp b with
     |some (.iM _ _ _ _ _ _ _ cs _)=>pairs cs DK (kU hp hp' r l)
     |_=>kU hp hp' r l
   |_=>kU hp hp' r l
def JC (tm:List (Nat×AV)):List (Nat×AV)→List (AV×AV)
 |[]=>[]
 | (t,v')::r=>match lk tm t with
   |some v=>(v,v')::JC tm r
   |none=>JC tm r
def isSome {α:Type}:Option α→Bool
 |some _=>true
 |none=>false
def adp (ρ:xO)(b:Nat):Bool:=
 match lk ρ b with
 |some (.old x d)=>Nat.beq x b&&Nat.beq d 0
 |_=>false
def Lp (ρ:xO):List (Nat×aF)→Bool
 |[]=>true
 | (b,_)::r=>match Nat.blt b 1000 with
   |true=>adp ρ b&&Lp ρ r
   |false=>Lp ρ r
def xP (x:Nat):xO→Bool
 |[]=>false
 | (_,.old y _)::r=>match Nat.beq x y with
   |true=>true
   |false=>xP x r
 |(_,.nil)::r=>xP x r
def Hq (hp':List (Nat×aF)):xO→Bool
 |[]=>true
 | (b,s)::r=>isSome (lk hp' b)&&(match lk r b with
   |some _=>false
   |none=>true)&&(match s with
   |.old x _=>!xP x r
   |.nil=>true)&&Hq hp' r
def xQ:List (Nat×aF)→Bool
 |[]=>true
 | (b,_)::r=>(match lk r b with
   |some _=>false
   |none=>true)&&xQ r
def Gu (ρ:xO)(hp:List (Nat×aF)):List (Nat×aF)→Prop→Prop
 |[],X=>X
 | (b,box)::r,X=>match lk ρ b with
   |some (.old x d)=>wZ ρ d (lk hp x) box∧Gu ρ hp r X
   |some .nil=>qY box∧Gu ρ hp r X
   |none=>False
def abu (ρ:xO)(tm:List (Nat×AV)):List (Nat×AV)→Prop→Prop
 |[],X=>X
 | (t,v')::r,X=>match lk tm t with
   |some v=>le ρ v v'∧abu ρ tm r X
   |none=>False
theorem uZ {ρ:xO}{hp:List (Nat×aF)}:∀{l:List (Nat×aF)} {X:Prop},Gu ρ hp l X→X
 |[],X,h=>h
 | (b,box)::r,X,h=>by
   simp only[Gu] at h;split at h
   ·exact uZ h.2
   ·exact uZ h.2
   exact h.elim
theorem ED {ρ:xO}{hp:List (Nat×aF)}:∀{l:List (Nat×aF)} {X:Prop},Gu ρ hp l X→∀b box,lk l b=some box→match lk ρ b with
  |some (.old x d)=>wZ ρ d (lk hp x) box
  |some .nil=>qY box
  |none=>False
 |[],X,h,b,box,hb=>by simp[lk] at hb
 | (b',bL)::r,X,h,b,box,hb=>by
   simp only[Gu] at h;rw[aC] at hb;split at hb
   ·rename_i e;subst e;simp only[Option.some.injEq] at hb;subst hb;split at h
    ·exact h.1
    ·exact h.1
    exact h.elim
   split at h
   ·exact ED h.2 b box hb
   ·exact ED h.2 b box hb
   exact h.elim
theorem Hr {ρ:xO}{tm:List (Nat×AV)}:∀{l:List (Nat×AV)} {X:Prop},abu ρ tm l X→∀t v',lk l t=some v'→∃v,lk tm t=some v∧le ρ v v'
 |[],X,h,t,v',hb=>by simp[lk] at hb
 | (t',u')::r,X,h,t,v',hb=>by
   simp only[abu] at h;rw[aC] at hb;split at h;rotate_left;cases h
   rename_i u hu;split at hb
   ·rename_i e;subst e;simp only[Option.some.injEq] at hb;subst hb;exact⟨u,hu,h.1⟩
   exact Hr h.2 t v' hb
theorem Ht {hp':List (Nat×aF)}:∀{ρ:xO},Hq hp' ρ=true→∀b,(∃s,lk ρ b=some s)→∃box,lk hp' b=some box
 |[],_,b,⟨s,hs⟩=>by simp[lk] at hs
 | (b',s')::r,h,b,⟨s,hs⟩=>by
   simp only[Hq,Bool.and_eq_true] at h;rw[aC] at hs;split at hs
   ·rename_i e;subst e;have:=h.1.1.1;cases hb:lk hp' b' with
    |none=>rw[hb] at this;cases this
    |some box=>exact⟨box,rfl⟩
   exact Ht h.2 b ⟨s,hs⟩
theorem Hu {ρ:xO}{b x d:Nat}:lk ρ b=some (.old x d)→xP x ρ=true:=by
 induction ρ with
 |nil=>intro h;simp[lk] at h
 | cons y r ih=>
   obtain⟨b',s⟩:=y;intro h;rw[aC] at h;split at h
   ·simp only[Option.some.injEq] at h;subst h;simp[xP]
   have:=ih h;cases s with
   |nil=>simpa only[xP] using this
   | old y d'=>
     simp only[xP];split
     ·rfl
     exact this
theorem Hw {hp':List (Nat×aF)}:∀{ρ:xO},Hq hp' ρ=true→∀b b' x d d',lk ρ b=some (.old x d)→lk ρ b'=some (.old x d')→b=b'
 |[],_,b,b',x,d,d',h1,h2=>by simp[lk] at h1
 | (y,s)::r,h,b,b',x,d,d',h1,h2=>by
   simp only[Hq,Bool.and_eq_true] at h;rw[aC] at h1 h2;split at h1
   ·rename_i e1;simp only[Option.some.injEq] at h1;subst h1;split at h2
    ·rename_i e2;rw[←e1,←e2]
    have:=Hu h2;have h3:=h.1.2;simp only[this] at h3;cases h3
   split at h2
   ·simp only[Option.some.injEq] at h2;subst h2;have:=Hu h1;have h3:=h.1.2;simp only[this] at h3;cases h3
   exact Hw h.2 b b' x d d' h1 h2
theorem AR {ρ:xO}:∀{hp:List (Nat×aF)},Lp ρ hp=true→∀b,b<1000→(∃box,lk hp b=some box)→lk ρ b=some (.old b 0)
 |[],_,b,_,⟨box,hb⟩=>by simp[lk] at hb
 | (b',bL)::r,h,b,hlt,⟨box,hb⟩=>by
   simp only[Lp] at h;rw[aC] at hb;split at hb
   ·rename_i e;subst e;split at h
    ·simp only[Bool.and_eq_true] at h;have h1:=h.1;unfold adp at h1;split at h1
     ·rename_i x d hx;simp only[Bool.and_eq_true] at h1;rw[hx,Nat.eq_of_beq_eq_true h1.1,Nat.eq_of_beq_eq_true h1.2]
     cases h1
    rename_i hf;have:Nat.blt b' 1000=true:=by rw[Nat.blt_eq];exact hlt
    rw[this] at hf;cases hf
   split at h
   ·simp only[Bool.and_eq_true] at h;exact AR h.2 b hlt ⟨box,hb⟩
   exact AR h b hlt ⟨box,hb⟩
def TS:List (Nat×aF)→Bool
 |[]=>true
 | (b,box)::r=>match box with
   |.tr _ _ _ _=>Nat.beq b 999&&TS r
   |_=>TS r
theorem Hy:∀{h:List (Nat×aF)},TS h=true→∀b a0 a1 a2 a3,lk h b=some (.tr a0 a1 a2 a3)→b=999
 |[],_,b,a0,a1,a2,a3,hk=>by simp[lk] at hk
 | (k',box)::r,h,b,a0,a1,a2,a3,hk=>by
   rw[aC] at hk;split at hk
   ·rename_i e;simp only[Option.some.injEq] at hk;subst hk;simp only[TS,Bool.and_eq_true] at h;rw[←e,Nat.eq_of_beq_eq_true h.1]
   refine Hy (h:=r) ?_ b a0 a1 a2 a3 hk;cases box<;>simp only[TS,Bool.and_eq_true] at h<;>first|exact h|exact h.2
def EF (ρ:xO)(hp hp':List (Nat×aF)):Bool:=Hq hp' ρ&&(Lp ρ hp&&TS hp')
theorem JD {ρ:xO}{hp hp':List (Nat×aF)}{X:Prop}(h:EF ρ hp hp'=true)(h':Gu ρ hp hp' X):Xq ρ hp hp':=by
 simp only[EF,Bool.and_eq_true] at h;exact⟨ED h',Ht h.1,Hw h.1,AR h.2.1,Hy h.2.2⟩
def abv (s s':AS):Prop:=
 match s with
 | ⟨tm,_,hp⟩=>match s' with
   | ⟨tm',_,hp'⟩=>match O4 hp with
     | ρ0=>match mt hp hp' 1000 ρ0 (kU hp hp' ρ0 (JC tm tm')) with
       | some ρ=>match EF ρ hp hp' with
         |true=>Gu ρ hp hp' (abu ρ tm tm' True)
         |false=>False
       |none=>False
theorem aH {s s':AS}(h:abv s s')(c:Ctx)(R:Real)(a:Act)(w:World)(g:bG c R s a w):∃R',bG c R' s' a w:=by
 obtain⟨tm,nx,hp⟩:=s;obtain⟨tm',nx',hp'⟩:=s';simp only[abv] at h;split at h;rotate_left;cases h
 rename_i ρ _;split at h;rotate_left;cases h
 rename_i hf;have H:=JD hf h;refine⟨nT ρ R,(g.hap.weaken H).WR (fun t v' hv'=>?_) g.size (g.marks.imp fun Ds hm=>hm.kept (fun _ _ _=>rfl) fun r _ ⟨b,ho⟩=>let ⟨x,_,_,h2⟩:=EC H ho;⟨x,h2⟩)⟩;obtain⟨v,hv,hle⟩:=Hr (uZ h) t v' hv';obtain⟨x,hx,hr⟩:=g.slots t v hv;exact⟨x,hx,zo H v' v x hle hr⟩
def abk (hp:List (Nat×aF))(r:AV)(Q:AV→List (Nat×aF)→Prop):Prop:=
 ∃r' hp',Q r' hp'∧match O4 hp with
  | ρ0=>match mt hp hp' 1000 ρ0 (kU hp hp' ρ0 [(r,r')]) with
    | some ρ=>match EF ρ hp hp' with
      |true=>Gu ρ hp hp' (le ρ r r')
      |false=>False
    |none=>False
theorem xL {hp:List (Nat×aF)}{r:AV}{Q:AV→List (Nat×aF)→Prop}(h:abk hp r Q){c:Ctx}{R:Real}{w:World}(g:y8 c R hp w){v:Value}(hv:ak (aV c R hp) w hp R r v) :
  ∃r' hp' R',Q r' hp'∧y8 c R' hp' w∧ak (aV c R' hp') w hp' R' r' v:=by
 obtain⟨r',hp',hQ,h⟩:=h;simp only at h;split at h;rotate_left;cases h
 rename_i ρ _;split at h
 ·rename_i hf;have H:=JD hf h;exact⟨r',hp',nT ρ R,hQ,g.weaken H,zo H r' r v (uZ h) hv⟩
 exact h.elim
def GC (P:Program)(f:FuncId)(args:List AV)(hp:List (Nat×aF))(Q:AV→List (Nat×aF)→Prop):Prop:=
 Enters P f∧∀(c:Ctx) (R:Real) (w:World) (dz:Array Value),y8 c R hp w→dh (aV c R hp) w hp R args dz.toList →
  Calls P f dz w fun e w'=>∃v r hp' R',e=.returned v∧Q r hp'∧y8 c R' hp' w'∧ak (aV c R' hp') w' hp' R' r v
def dU (P:Program)(f:FuncId)(args:List AV)(hp:List (Nat×aF))(r:AV)(hp':List (Nat×aF)):Prop:=GC P f args hp fun x h=>x=r∧h=hp'
def El (x:Nat):List Nat→Bool
 |[]=>false
 | y::r=>match Nat.beq x y with
   |true=>true
   |false=>El x r
def keys {α:Type}:List (Nat×α)→List Nat
 |[]=>[]
 |(k,_)::r=>k::keys r
def kG (hp:List (Nat×aF)):List Nat→Option (List (Nat×aF))
 |[]=>some []
 | b::r=>match lk hp b with
   | some box=>match kG hp r with
     |some t=>some ((b,box)::t)
     |none=>none
   |none=>none
def snoc:List Nat→Nat→List Nat
 |[],x=>[x]
 |y::r,x=>y::snoc r x
def ze (hp:List (Nat×aF)):Nat→List Nat→List Nat→List Nat
 |0,_,seen=>seen
 |_+1,[],seen=>seen
 | n+1,b::todo,seen=>match El b seen with
   |true=>ze hp n todo seen
   | false=>match lk hp b with
     |some (.var cells)=>ze hp n (fq cells++todo) (snoc seen b)
     |some (.gy _ _ _ _ row _)=>ze hp n (fq row++todo) (snoc seen b)
     |some (.iM _ _ _ _ _ _ _ row _)=>ze hp n (fq row++todo) (snoc seen b)
     |_=>ze hp n todo (snoc seen b)
abbrev Inv:=List (Nat×(Nat×Nat))
def nU:aF→Nat
 |.arr _ v _ _=>v
 |.dS v _ _=>v
 |.tr _ v _ _=>v
 |.gy _ v _ _ _ _=>v
 |.iM _ v _ _ _ _ _ _ _=>v
 |_=>0
def lq:Nat→List (Nat×aF)→Inv
 |_,[]=>[]
 |k,(b,box)::r=>(b,(k,nU box))::lq (k+1) r
def jV:Nat→List (Nat×aF)→Ren
 |_,[]=>[]
 |k,(b,box)::r=>(k,(b,nU box))::jV (k+1) r
section
variable (inv:Inv)
mutual
def Gv:AV→AV
 |.pv p=>.pv p
 |.agg cs=>.agg (lV cs)
 |.cO cs=>.cO (lV cs)
 | .ptr b off=>match lk inv b with
   |some (k,_)=>.ptr k off
   |none=>.pv .junk
 | .dM b ver i off=>match lk inv b with
   | some (k,d)=>match Nat.ble d ver with
     |true=>.dM k (ver-d) i off
     |false=>.pv .junk
   |none=>.pv .junk
 | .aO b ver=>match lk inv b with
   | some (k,d)=>match Nat.ble d ver with
     |true=>.aO k (ver-d)
     |false=>.pv .junk
   |none=>.pv .junk
 | .sub b ver st lo hi=>match lk inv b with
   | some (k,d)=>match Nat.ble d ver with
     |true=>.sub k (ver-d) st lo hi
     |false=>.pv .junk
   |none=>.pv .junk
 |.fn f first bF=>.fn f (lV first) (lV bF)
def lV:List AV→List AV
 |[]=>[]
 |v::r=>Gv v::lV r
end
def kY:aF→aF
 |.var cells=>.var (lV inv cells)
 |.nR cells=>.nR cells
 |.arr e ver st rows=>.arr e 0 st rows
 |.dS ver st rows=>.dS 0 st rows
 |.tr y _ rest st=>.tr y 0 rest st
 |.gy e ver st pre row post=>.gy e 0 st pre (lV inv row) post
 |.iM e ver st j ed sd pre row post=>.iM e 0 st j ed sd pre (lV inv row) post
 |.mp kk kv es=>.mp kk kv es
def uD:Nat→List (Nat×aF)→List (Nat×aF)
 |_,[]=>[]
 |k,(_,box)::r=>(k,kY inv box)::uD (k+1) r
end
def EG (gH:Ren)(id k:Nat):Nat×Nat:=
 match lk gH k with
 |some p=>p
 |none=>(id+1000000*k,0)
def AU (gH:Ren)(id:Nat):List (Nat×aF)→Ren
 |[]=>[]
 |(k,_)::r=>(k,EG gH id k)::AU gH id r
def iH (ρ:Ren):List (Nat×aF)→List (Nat×aF)
 |[]=>[]
 |(k,box)::r=>(jl ρ k,fP ρ k box)::iH ρ r
def u6 (gH:Ren)(id:Nat):List (Nat×aF)→List Nat
 |[]=>[]
 | (k,_)::r=>match lk gH k with
   |some _=>u6 gH id r
   |none=>(id+1000000*k)::u6 gH id r
def sM (hp:List (Nat×aF)):List Nat→Bool
 |[]=>true
 | b::r=>(match lk hp b with
   |some _=>false
   |none=>true)&&sM hp r
def passed (hp':List (Nat×aF)):Ren→Bool
 |[]=>true
 |(k,_)::r=>(isSome (lk hp' k)&&Nat.blt k 999)&&passed hp' r
def Lr (inv:Inv):Ren→Bool
 |[]=>true
 | (k,(b,d))::r=>(match lk inv b with
   |some (k',d')=>Nat.beq k' k&&Nat.beq d' d
   |none=>false)&&Lr inv r
def Ls:List (Nat×aF)→Bool
 |[]=>true
 | (_,box)::r=>match box with
   |.tr _ _ _ _=>false
   |_=>Ls r
def gOk (inv:Inv)(gH:Ren)(id:Nat)(hp hp' mg:List (Nat×aF)):Bool:=passed hp' gH&&(sM hp (u6 gH id hp')&&(xQ hp'&&(Lr inv gH&&Ls mg)))
def TT (gH:Ren)(id:Nat):List (Nat×aF)→(Ren→Prop)→Prop
 |[],K=>K []
 | (k,_)::r,K=>match lk gH k with
   |some p=>TT gH id r fun t=>K ((k,p)::t)
   |none=>TT gH id r fun t=>K ((k,(id+1000000*k,0))::t)
section
variable (ρ:Ren)
mutual
def Dr:AV→(AV→Prop)→Prop
 |.pv p,K=>K (.pv p)
 |.agg cs,K=>u7 cs fun cs=>K (.agg cs)
 |.cO cs,K=>u7 cs fun cs=>K (.cO cs)
 | .ptr b off,K=>match lk ρ b with
   | some p=>match p with
     |(x,_)=>K (.ptr x off)
   |none=>K (.ptr (b+2000000000) off)
 | .dM b ver i off,K=>match lk ρ b with
   | some p=>match p with
     |(x,d)=>K (.dM x (ver+d) i off)
   |none=>K (.dM (b+2000000000) (ver+0) i off)
 | .aO b ver,K=>match lk ρ b with
   | some p=>match p with
     |(x,d)=>K (.aO x (ver+d))
   |none=>K (.aO (b+2000000000) (ver+0))
 | .sub b ver st lo hi,K=>match lk ρ b with
   | some p=>match p with
     |(x,d)=>K (.sub x (ver+d) st lo hi)
   |none=>K (.sub (b+2000000000) (ver+0) st lo hi)
 |.fn f first bF,K=>u7 first fun first=>u7 bF fun bF=>K (.fn f first bF)
def u7:List AV→(List AV→Prop)→Prop
 |[],K=>K []
 |v::r,K=>Dr v fun v=>u7 r fun r=>K (v::r)
end
def mh:List (Nat×aF)→(List (Nat×aF)→Prop)→Prop
 |[],K=>K []
 | (k,box)::r,K=>match lk ρ k with
   | some p=>match p with
     | (x,d)=>match box with
       |.var cells=>u7 ρ cells fun cells=>mh r fun t=>K ((x,.var cells)::t)
       |.nR cells=>mh r fun t=>K ((x,.nR cells)::t)
       |.arr e ver st rows=>mh r fun t=>K ((x,.arr e (ver+d) st rows)::t)
       |.dS ver st rows=>mh r fun t=>K ((x,.dS (ver+d) st rows)::t)
       |.tr _ _ _ _=>False
       |.gy e ver st pre row post=>u7 ρ row fun row=>mh r fun t=>K ((x,.gy e (ver+d) st pre row post)::t)
       |.mp kk kv es=>mh r fun t=>K ((x,.mp kk kv es)::t)
       |.iM e ver st j ed sd pre row post=>u7 ρ row fun row=>mh r fun t=>K ((x,.iM e (ver+d) st j ed sd pre row post)::t)
   |none=>False
mutual
theorem zh:∀(v:AV) (K:AV→Prop),Dr ρ v K=K (lU ρ v)
 | .sub b ver st lo hi,K=>by
   simp only[Dr,lU,jl,Dq];cases lk ρ b with
   |none=>rfl
   |some p=>rfl
 |.pv p,K=>by simp only[Dr,lU]
 |.agg cs,K=>by simp only[Dr,lU,iB cs]
 |.cO cs,K=>by simp only[Dr,lU,iB cs]
 | .ptr b off,K=>by
   simp only[Dr,lU,jl];cases lk ρ b with
   |none=>rfl
   |some p=>rfl
 | .dM b ver i off,K=>by
   simp only[Dr,lU,jl,Dq];cases lk ρ b with
   |none=>rfl
   |some p=>rfl
 | .aO b ver,K=>by
   simp only[Dr,lU,jl,Dq];cases lk ρ b with
   |none=>rfl
   |some p=>rfl
 |.fn f first bF,K=>by simp only[Dr,lU,iB first,iB bF]
theorem iB:∀(vs:List AV) (K:List AV→Prop),u7 ρ vs K=K (jb ρ vs)
 |[],K=>by simp only[u7,jb]
 |v::r,K=>by simp only[u7,jb,zh v,iB r]
end
theorem kT:∀(h:List (Nat×aF)) (K:List (Nat×aF)→Prop),mh ρ h K→K (iH ρ h)
 |[],K,hh=>by simpa only[mh,iH] using hh
 | (k,box)::r,K,hh=>by
   simp only[mh] at hh;split at hh
   ·rename_i p hp;obtain⟨x,d⟩:=p;have e1:jl ρ k=x:=by simp[jl,hp]
    have e2:Dq ρ k=d:=by simp[Dq,hp]
    simp only at hh;cases box with
    | var cells=>
      simp only[iB] at hh;have:=kT r _ hh;simpa only[iH,fP,e1] using this
    |nR cells=>have:=kT r _ hh;simpa only[iH,fP,e1] using this
    |arr e ver st rows=>have:=kT r _ hh;simpa only[iH,fP,e1,e2] using this
    |dS ver st rows=>have:=kT r _ hh;simpa only[iH,fP,e1,e2] using this
    |tr y ver rest st=>exact hh.elim
    |mp kk kv es=>have:=kT r _ hh;simpa only[iH,fP,e1] using this
    | iM e ver st j ed sd pre row post=>
      simp only[iB] at hh;have:=kT r _ hh;simpa only[iH,fP,e1,e2] using this
    | gy e ver st pre row post=>
      simp only[iB] at hh;have:=kT r _ hh;simpa only[iH,fP,e1,e2] using this
   exact hh.elim
end
theorem ja {ρ:Ren}:∀(h:List (Nat×aF)) (K K':List (Nat×aF)→Prop),mh ρ h K→K' (iH ρ h)→mh ρ h K'
 |[],K,K',hh,hk=>by simpa only[mh,iH] using hk
 | (k,box)::r,K,K',hh,hk=>by
   simp only[mh] at hh ⊢;split at hh
   ·rename_i p hp;obtain⟨x,d⟩:=p;have e1:jl ρ k=x:=by simp[jl,hp]
    have e2:Dq ρ k=d:=by simp[Dq,hp]
    simp only at hh ⊢;simp only[iH,e1] at hk;cases box with
    | var cells=>
      simp only[iB] at hh ⊢;exact ja r _ _ hh hk
    |nR cells=>exact ja r _ _ hh hk
    |arr e ver st rows=>simp only[fP,e2] at hk;exact ja r _ _ hh hk
    |dS ver st rows=>simp only[fP,e2] at hk;exact ja r _ _ hh hk
    |tr y ver rest st=>exact hh.elim
    |mp kk kv es=>exact ja r _ _ hh hk
    | iM e ver st j ed sd pre row post=>
      simp only[iB] at hh ⊢;simp only[fP,e2] at hk;exact ja r _ _ hh hk
    | gy e ver st pre row post=>
      simp only[iB] at hh ⊢;simp only[fP,e2] at hk;exact ja r _ _ hh hk
   exact hh.elim
theorem zf (gH:Ren)(id:Nat):∀(h:List (Nat×aF)) (K:Ren→Prop),TT gH id h K=K (AU gH id h)
 |[],K=>rfl
 | (k,box)::r,K=>by
   simp only[TT,AU,EG,zf gH id r];cases lk gH k<;>rfl
theorem mK:∀{h:List (Nat×aF)},Ls h=true→∀k x y z u,lk h k≠some (.tr x y z u)
 |[],_,k,x,y,z,u,hk=>by simp[lk] at hk
 | (k',box)::r,h,k,x,y,z,u,hk=>by
   rw[aC] at hk;split at hk
   ·simp only[Option.some.injEq] at hk;subst hk;simp[Ls] at h
   refine mK (h:=r) ?_ k x y z u hk;cases box<;>simp only[Ls] at h<;>first|exact h|cases h
theorem jf {ρ:Ren}:∀(h:List (Nat×aF)) (K:List (Nat×aF)→Prop),mh ρ h K→Ls h=true
 |[],K,hh=>rfl
 | (k,box)::r,K,hh=>by
   simp only[mh] at hh;split at hh
   ·simp only[Ls];cases box with
    |var cells=>simp only[iB] at hh;exact jf r _ hh
    |nR cells=>exact jf r _ hh
    |arr e ver st rows=>exact jf r _ hh
    |dS ver st rows=>exact jf r _ hh
    |tr y ver rest st=>exact hh.elim
    |gy e ver st pre row post=>simp only[iB] at hh;exact jf r _ hh
    |mp kk kv es=>exact jf r _ hh
    |iM e ver st j ed sd pre row post=>simp only[iB] at hh;exact jf r _ hh
   exact hh.elim
def gC (P:Program)(hp:List (Nat×aF))(id:Nat)(vs:List AV)(K:AV→List (Nat×aF)→List Nat→Prop):Prop:=
 match vs with
 | fv::args=>match O3 fv with
   | some (.func f,first,bF)=>match ze hp 100 (fq (first++(args++bF))) [] with
     | ids=>match kG hp ids with
       | some H=>match lq 1 H with
         | inv=>match jV 1 H with
           | gH=>∃r hp',dU P f (lV inv (first++(args++bF))) (uD inv 1 H) r hp'∧match gOk inv gH id hp hp' (uD inv 1 H) with
             |true=>TT gH id hp' fun ρ=>Dr ρ r fun r=>mh ρ hp' fun ws=>K r ws (ids++u6 gH id hp')
             |false=>False
       |none=>False
   |_=>False
 |_=>False
def gI (P:Program)(hp:List (Nat×aF))(id:Nat)(vs:List AV)(K:AV→List (Nat×aF)→List Nat→Prop):Prop:=
 match vs with
 | fv::args=>match O3 fv with
   | some (.func f,first,bF)=>match ze hp 100 (fq (first++(args++bF))) [] with
     | ids=>match kG hp ids with
       | some H=>match lq 1 H with
         | inv=>match jV 1 H with
           | gH=>match Lr inv gH&&Ls (uD inv 1 H) with
             | true=>∃Q:AV→List (Nat×aF)→Prop,GC P f (lV inv (first++(args++bF))) (uD inv 1 H) Q∧∀r hp',Q r hp'→match gOk inv gH id hp hp' (uD inv 1 H) with
               |true=>TT gH id hp' fun ρ=>Dr ρ r fun r=>mh ρ hp' fun ws=>K r ws (ids++u6 gH id hp')
               |false=>False
             |false=>False
       |none=>False
   |_=>False
 |_=>False
theorem q9 {hp:List (Nat×aF)}:∀{ids:List Nat} {H:List (Nat×aF)},kG hp ids=some H→∀x∈H,lk hp x.1=some x.2
 |[],H,h,x,hx=>by simp only[kG,Option.some.injEq] at h;subst h;simp at hx
 | i::r,H,h,x,hx=>by
   simp only[kG] at h;split at h
   ·rename_i bx hbx;split at h
    ·rename_i t ht;simp only[Option.some.injEq] at h;subst h;rcases List.mem_cons.1 hx with rfl|hx
     ·exact hbx
     exact q9 ht x hx
    cases h
   cases h
theorem AY:∀{H:List (Nat×aF)} {k0 b k d:Nat},lk (lq k0 H) b=some (k,d)→k0≤k∧lk (jV k0 H) k=some (b,d)
 |[],k0,b,k,d,h=>by simp[lq,lk] at h
 | (b',box)::r,k0,b,k,d,h=>by
   simp only[lq,aC] at h;simp only[jV,aC];split at h
   ·rename_i e;simp only[Option.some.injEq,Prod.mk.injEq] at h;obtain⟨rfl,rfl⟩:=h;subst e;exact⟨Nat.le_refl _,by rw[if_pos rfl]⟩
   obtain⟨h1,h2⟩:=AY h;exact⟨by omega,by rw[if_neg (by omega)];exact h2⟩
theorem Lu:∀{H:List (Nat×aF)} {k0 k:Nat} {p:Nat×Nat},lk (jV k0 H) k=some p→k0≤k
 |[],k0,k,p,h=>by simp[jV,lk] at h
 | (b',box)::r,k0,k,p,h=>by
   simp only[jV,aC] at h;split at h
   ·omega
   have:=Lu h;omega
theorem Rn {inv:Inv}:∀{H:List (Nat×aF)} {k0 k:Nat} {p:aF},lk (uD inv k0 H) k=some p→k0≤k
 |[],k0,k,p,h=>by simp[uD,lk] at h
 | (b',box)::r,k0,k,p,h=>by
   simp only[uD,aC] at h;split at h
   ·omega
   have:=Rn h;omega
theorem AZ {inv:Inv}{hp:List (Nat×aF)}:∀{H:List (Nat×aF)} {k0 b k d:Nat},(∀x∈H,lk hp x.1=some x.2)→lk (jV k0 H) k=some (b,d) →
  ∃box,lk hp b=some box∧d=nU box∧lk (uD inv k0 H) k=some (kY inv box)
 |[],k0,b,k,d,_,h=>by simp[jV,lk] at h
 | (b',box)::r,k0,b,k,d,hm,h=>by
   simp only[jV,aC] at h;simp only[uD,aC];split at h
   ·rename_i e;simp only[Option.some.injEq,Prod.mk.injEq] at h;obtain⟨rfl,rfl⟩:=h;exact⟨box,hm (b',box) (by simp),rfl,by rw[if_pos e]⟩
   have hge:=Lu h;obtain⟨bx,h1,h2,h3⟩:=AZ (inv:=inv) (fun x hx=>hm x (by simp[hx])) h;exact⟨bx,h1,h2,by rw[if_neg (by omega)];exact h3⟩
theorem EH {inv:Inv}{hp:List (Nat×aF)}:∀{H:List (Nat×aF)} {k0 k:Nat} {box0:aF},(∀x∈H,lk hp x.1=some x.2)→lk (uD inv k0 H) k=some box0 →
  ∃b box,lk (jV k0 H) k=some (b,nU box)∧lk hp b=some box∧box0=kY inv box
 |[],k0,k,box0,_,h=>by simp[uD,lk] at h
 | (b',box)::r,k0,k,box0,hm,h=>by
   simp only[uD,aC] at h;simp only[jV,aC];split at h
   ·rename_i e;simp only[Option.some.injEq] at h;exact⟨b',box,by rw[if_pos e],hm (b',box) (by simp),h.symm⟩
   have hge:=Rn h;obtain⟨b,bx,h1,h2,h3⟩:=EH (fun x hx=>hm x (by simp[hx])) h;exact⟨b,bx,by rw[if_neg (by omega)];exact h1,h2,h3⟩
theorem xR {inv:Inv}:∀{gH:Ren} {k b d:Nat},Lr inv gH=true→lk gH k=some (b,d)→lk inv b=some (k,d)
 |[],k,b,d,_,h=>by simp[lk] at h
 | (k',(b',d'))::r,k,b,d,hok,h=>by
   simp only[Lr,Bool.and_eq_true] at hok;rw[aC] at h;split at h
   ·rename_i e;simp only[Option.some.injEq,Prod.mk.injEq] at h;obtain⟨rfl,rfl⟩:=h;have h1:=hok.1;split at h1
    ·rename_i k2 d2 h2;simp only[Bool.and_eq_true] at h1;rw[h2,Nat.eq_of_beq_eq_true h1.1,Nat.eq_of_beq_eq_true h1.2,e]
    cases h1
   exact xR hok.2 h
theorem ve {hp':List (Nat×aF)}:∀{gH:Ren} {k:Nat} {p:Nat×Nat},passed hp' gH=true→lk gH k=some p→k<999∧∃box,lk hp' k=some box
 |[],k,p,_,h=>by simp[lk] at h
 | (k',p')::r,k,p,hok,h=>by
   simp only[passed,Bool.and_eq_true] at hok;rw[aC] at h;split at h
   ·rename_i e;subst e;have h1:=hok.1;rw[Nat.blt_eq] at h1;refine⟨h1.2,?_⟩;cases hb:lk hp' k' with
    |none=>rw[hb] at h1;cases h1.1
    |some box=>exact⟨box,rfl⟩
   exact ve hok.2 h
theorem sU {hp:List (Nat×aF)}:∀{l:List Nat},sM hp l=true→∀b∈l,lk hp b=none
 |[],_,b,hb=>by simp at hb
 | x::r,h,b,hb=>by
   simp only[sM,Bool.and_eq_true] at h;rcases List.mem_cons.1 hb with rfl|hb
   ·have h1:=h.1;cases hx:lk hp b with
    |none=>rfl
    |some y=>rw[hx] at h1;cases h1
   exact sU h.2 b hb
theorem EI {gH:Ren}{id:Nat}:∀{hp':List (Nat×aF)} {k:Nat} {box:aF},lk hp' k=some box→lk gH k=none→id+1000000*k∈u6 gH id hp'
 |[],k,box,h,_=>by simp[lk] at h
 | (k',b')::r,k,box,h,hf=>by
   rw[aC] at h;simp only[u6];split at h
   ·rename_i e;subst e;rw[hf];simp
   have:=EI (id:=id) h hf;split
   ·exact this
   exact List.mem_cons_of_mem _ this
theorem Hz {gH:Ren}{id:Nat}:∀{hp':List (Nat×aF)} {k:Nat},lk (AU gH id hp') k=(lk hp' k).map fun _=>EG gH id k
 |[],k=>rfl
 | (k',b')::r,k=>by
   simp only[AU,aC];split
   ·rename_i e;subst e;rfl
   exact Hz
theorem wo (inv:Inv):∀(vs:List AV),(lV inv vs).length=vs.length
 |[]=>rfl
 |v::r=>by simp[lV,wo inv r]
theorem aiQ (inv:Inv)(vs:List AV):gZ (lV inv vs)=gZ vs:=qO (wo inv vs)
def NT (gH:Ren)(R:Real):Real where
 blk k:=match lk gH k with
  |some (b,_)=>R.blk b
  |none=>0
 nil k:=match lk gH k with
  |some (b,_)=>R.nil b
  |none=>true
 cap k:=match lk gH k with
  |some (b,_)=>R.cap b
  |none=>(0,[])
 Y:=R.Y
theorem EJ {gH:Ren}{R:Real}{k b d:Nat}(h:lk gH k=some (b,d)):(NT gH R).blk k=R.blk b∧(NT gH R).nil k=R.nil b∧(NT gH R).cap k=R.cap b:=by
 simp[NT,h]
theorem JE {gH:Ren}{R:Real}{k b d n:Nat}(h:lk gH k=some (b,d)):dH (NT gH R) k n=dH R b n:=by
 obtain⟨h1,h2,h3⟩:=EJ (R:=R) h;simp only[dH,h1,h2,h3]
section
variable {inv:Inv}{gH:Ren}{hp mg:List (Nat×aF)}{R:Real}{N N0:Nat→Prop}{w:World}
variable (h1:∀b k d,lk inv b=some (k,d)→lk gH k=some (b,d))(h2:∀k b d,lk gH k=some (b,d)→∃box,lk hp b=some box∧d=nU box∧lk mg k=some (kY inv box))(hN:∀r,N0 r→N r)
include h1 h2
theorem EL {b k d off:Nat}(hb:lk inv b=some (k,d)){v:Value}(h:aY R b off v (lk hp b)):aY (NT gH R) k off v (lk mg k):=by
 obtain⟨box,a1,a2,a3⟩:=h2 k b d (h1 b k d hb);obtain⟨e1,e2,e3⟩:=EJ (R:=R) (h1 b k d hb);rw[a1] at h;rw[a3];cases box<;>simp only[aY,kY,e1] at h ⊢ <;> exact h
theorem A7 {b k d ver:Nat}(hb:lk inv b=some (k,d))(hd:d≤ver){v:Value}(h:aU R b ver v (lk hp b)):aU (NT gH R) k (ver-d) v (lk mg k):=by
 obtain⟨box,a1,a2,a3⟩:=h2 k b d (h1 b k d hb);rw[a1] at h;rw[a3];cases box<;>simp only[aU,kY,aiQ,JE (h1 b k d hb)] at h ⊢ <;> first
  |exact h
  |(simp only[nU] at a2;exact⟨by omega,h.2.1,fun e=>h.2.2 (by omega)⟩)
theorem HV {b k d ver i off:Nat}(hb:lk inv b=some (k,d))(hd:d≤ver){v:Value}(h:bf R b ver i off v (lk hp b)):bf (NT gH R) k (ver-d) i off v (lk mg k):=by
 obtain⟨box,a1,a2,a3⟩:=h2 k b d (h1 b k d hb);obtain⟨e1,e2,e3⟩:=EJ (R:=R) (h1 b k d hb);rw[a1] at h;rw[a3];cases box<;>simp only[bf,kY,e1,e2] at h ⊢ <;> first
  |exact h
  |exact⟨Nat.zero_le _,h.2.1,h.2.2⟩
  |(simp only[nU] at a2;exact⟨by omega,h.2.1,fun e=>h.2.2 (by omega)⟩)
include hN
mutual
theorem Lv:∀(v:AV) (x:Value),ak N w hp R v x→ak N0 w mg (NT gH R) (Gv inv v) x
 |.pv p,x=>by simp only[Gv,ak];exact dJ (fun r _ h=>hN r h) (fun _ _ _=>rfl) p x
 |.agg cs,x=>by simp only[Gv,ak];rintro⟨vs,a,b⟩;exact⟨vs,a,rf cs _ b⟩
 |.cO cs,x=>by simp only[Gv,ak];rintro⟨vs,a,b⟩;exact⟨vs,a,ou cs _ b⟩
 | .ptr b off,x=>by
   intro h;simp only[Gv];split
   ·rename_i k d hb;simp only[ak] at h ⊢;exact EL h1 h2 hb h
   simp only[ak,bJ]
 | .dM b ver i off,x=>by
   intro h;simp only[Gv];split
   ·rename_i k d hb;split
    ·rename_i hd;simp only[ak] at h ⊢;exact HV h1 h2 hb (Nat.le_of_ble_eq_true hd) h
    simp only[ak,bJ]
   simp only[ak,bJ]
 | .aO b ver,x=>by
   intro h;simp only[Gv];split
   ·rename_i k d hb;split
    ·rename_i hd;simp only[ak] at h ⊢;exact A7 h1 h2 hb (Nat.le_of_ble_eq_true hd) h
    simp only[ak,bJ]
   simp only[ak,bJ]
 | .sub b ver st lo hi,x=>by
   intro h;simp only[Gv];split
   ·rename_i k d hb;split
    ·rename_i hd;simp only[ak] at h ⊢;obtain⟨u,a,c⟩:=h;exact⟨u,A7 h1 h2 hb (Nat.le_of_ble_eq_true hd) a,c⟩
    simp only[ak,bJ]
   simp only[ak,bJ]
 | .fn f first bF,x=>by
   simp only[Gv,ak];rintro⟨fs,cs,a,b,c⟩;exact⟨fs,cs,a,ou _ _ b,ou _ _ c⟩
theorem ou:∀(vs:List AV) (xs:List Value),dh N w hp R vs xs→dh N0 w mg (NT gH R) (lV inv vs) xs
 |[],xs=>by simp only[lV,dh];exact id
 |p::ps,xs=>by simp only[lV,dh];rintro⟨v,r,a,b,c⟩;exact⟨v,r,a,Lv p v b,ou ps r c⟩
theorem rf:∀(vs:List AV) (xs:List Value),dD N w hp R vs xs→dD N0 w mg (NT gH R) (lV inv vs) xs
 |[],xs=>by simp only[lV,dD];exact id
 |p::ps,xs=>by simp only[lV,dD];rintro⟨v,r,a,d,b,c⟩;exact⟨v,r,a,d,Lv p v b,rf ps r c⟩
end
end
def upR (ρ:Ren)(R R2:Real)(hp':List (Nat×aF)):Real where
 blk b:=match lk (hp'.map fun x=>(jl ρ x.1,x.1)) b with
  |some k=>R2.blk k
  |none=>R.blk b
 nil b:=match lk (hp'.map fun x=>(jl ρ x.1,x.1)) b with
  |some k=>R2.nil k
  |none=>R.nil b
 cap b:=match lk (hp'.map fun x=>(jl ρ x.1,x.1)) b with
  |some k=>R2.cap k
  |none=>R.cap b
 Y:=R.Y
theorem HY {ρ:Ren}{b:Nat}:∀{hp':List (Nat×aF)},lk (hp'.map fun x=>(jl ρ x.1,x.1)) b=none→lk (iH ρ hp') b=none
 |[],_=>rfl
 | (k,box)::r,h=>by
   simp only[List.map_cons,aC] at h;simp only[iH,aC];split at h
   ·cases h
   rename_i e;rw[if_neg e];exact HY h
theorem A8 {ρ:Ren}{b k:Nat}:∀{hp':List (Nat×aF)},xQ hp'=true→lk (hp'.map fun x=>(jl ρ x.1,x.1)) b=some k →
  b=jl ρ k∧∃box,lk hp' k=some box∧lk (iH ρ hp') b=some (fP ρ k box)
 |[],_,h=>by simp[lk] at h
 | (k',box)::r,hok,h=>by
   simp only[xQ,Bool.and_eq_true] at hok;simp only[List.map_cons,aC] at h;simp only[iH,aC];split at h
   ·rename_i e;simp only[Option.some.injEq] at h;subst h;exact⟨e.symm,box,by rw[if_pos rfl],by rw[if_pos e]⟩
   rename_i e;obtain⟨h1,bx,h2,h3⟩:=A8 hok.2 h;refine⟨h1,bx,?_,by rw[if_neg e];exact h3⟩;rw[if_neg]
   ·exact h2
   rintro rfl
   have:=hok.1;rw[h2] at this;cases this
theorem Lx {ρ:Ren}{k:Nat}:∀{hp':List (Nat×aF)} {box:aF},(∀k' bL,lk hp' k'=some bL→jl ρ k'=jl ρ k→k'=k)→xQ hp'=true→lk hp' k=some box →
  lk (hp'.map fun x=>(jl ρ x.1,x.1)) (jl ρ k)=some k
 |[],box,_,_,h=>by simp[lk] at h
 | (k',b')::r,box,hinj,hok,h=>by
   simp only[xQ,Bool.and_eq_true] at hok;simp only[List.map_cons,aC];split
   ·rename_i e;rw[hinj k' b' (by simp[aC]) e]
   rename_i e;rw[aC] at h;rw[if_neg (fun e'=>e (by rw[e']))] at h;refine Lx (fun k2 aiR h2 e2=>hinj k2 aiR ?_ e2) hok.2 h;rw[aC,if_neg]
   ·exact h2
   rintro rfl
   have:=hok.1;rw[h2] at this;cases this
end Go.AX
end
