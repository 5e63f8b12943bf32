/-
  Conditions: none. A framework for walks: abstract values, memory, and conditions that suffice; the chapters in plain terms.
-/
import Derived.Test.YtfoiekbkkbnpkaaGreatAa
import Derived.Great.FillDense
set_option linter.unusedSectionVars false
set_option linter.unusedVariables false
set_option linter.unusedSimpArgs false
section
namespace Go.AX
theorem E9:∀{ps:List PV} {cs:List AV},EZ ps=some cs→cs=ps.map .pv
 |[],cs,h=>by simp only[EZ,Option.some.injEq] at h;simp[←h]
 | p::ps,cs,h=>by
   simp only[EZ] at h;split at h
   ·rename_i t ht;simp only[Option.some.injEq] at h;simp[←h,E9 ht]
   cases h
theorem Cm:∀{vs:List Value} {cs:List AV},Sm vs=some cs→cs=vs.map fun v=>.pv (.sc v)
 |[],cs,h=>by simp only[Sm,Option.some.injEq] at h;simp[←h]
 | p::ps,cs,h=>by
   simp only[Sm] at h;split at h
   ·rename_i t ht;simp only[Option.some.injEq] at h;simp[←h,Cm ht]
   cases h
theorem GA:∀{vs:List Value} {cs:List PV},UC vs=some cs→cs=vs.map .sc
 |[],cs,h=>by simp only[UC,Option.some.injEq] at h;simp[←h]
 | p::ps,cs,h=>by
   simp only[UC] at h;split at h
   ·rename_i t ht;simp only[Option.some.injEq] at h;simp[←h,GA ht]
   cases h
section
variable {N:Nat→Prop}{w:World}{hp:List (Nat×av)}{R:Real}
theorem BD {p:PV}(h:cellP p=true){v:Value}(hv:aU N w p v):v.oneCell'=true:=by
 cases p<;>simp only[cellP] at h<;>simp only[aU] at hv<;>try (cases h;done)
 ·subst hv;exact h
 ·obtain⟨p,len,cap,rfl,_⟩:=hv;rfl
 ·obtain⟨g,base,cur,e,fr,rfl,_⟩:=hv;rfl
 obtain⟨fs,cs,rfl,_⟩:=hv;rfl
theorem BF {p:AV}(h:RL p=true){v:Value}(hv:ah N w hp R p v):v.oneCell'=true:=by
 cases p with
 |pv p=>exact BD h (by simpa only[ah] using hv)
 |agg _=>cases h
 |fF _=>cases h
 | ptr b off=>
   simp only[ah] at hv;cases hb:lk hp b with
   |none=>rw[hb] at hv;exact hv.elim
   |some box=>rw[hb] at hv;cases box<;>simp only[aI] at hv<;>(subst hv;rfl)
 | cB b ver i off=>
   simp only[ah] at hv;cases hb:lk hp b with
   |none=>rw[hb] at hv;exact hv.elim
   |some box=>rw[hb] at hv;cases box<;>simp only[aK] at hv<;>exact hv.2.1
 | sub b ver st lo hi=>
   simp only[ah] at hv;obtain⟨u,_,_,rfl⟩:=hv;exact Mj _ _ _ _
 | aG b ver=>
   simp only[ah] at hv;cases hb:lk hp b with
   |none=>rw[hb] at hv;exact hv.elim
   |some box=>rw[hb] at hv;cases box<;>simp only[aD] at hv<;>exact hv.2.1
 | fn f a c=>
   simp only[ah] at hv;obtain⟨fs,cs,rfl,_⟩:=hv;rfl
theorem uY {v:Value}(h:v.oneCell'=true):v.cells = #[v]:=by
 cases v<;>first|rfl|(simp[Value.oneCell'] at h)
theorem gD {i:TI}{v:AV}{cs:List AV}(h:cellsOf i v=some cs){u:Value}(hv:ah N w hp R v u):FC (ah N w hp R) cs u.cells.toList:=by
 unfold cellsOf at h;split at h
 ·split at h
  ·rename_i ps;have:=E9 h;subst this;simp only[ah,aU] at hv;obtain⟨vs,rfl,hv⟩:=hv;rw[dX] at hv;exact FC.map (fun p v hv=>by simpa only[ah] using hv) hv
  ·simp only[Option.some.injEq] at h;subst h;simp only[ah] at hv;obtain⟨vs,rfl,hv⟩:=hv;rw[aY] at hv;exact hv
  cases h
 split at h
 ·rename_i hc;simp only[Option.some.injEq] at h;subst h;have h1:=BF hc hv;rw[uY h1];exact⟨u,[],rfl,h1,hv,rfl⟩
 cases h
theorem oO {i:TI}{p:PV}{cs:List PV}(h:jc i p=some cs){u:Value}(hv:aU N w p u):FC (aU N w) cs u.cells.toList:=by
 unfold jc at h;split at h
 ·split at h
  ·simp only[Option.some.injEq] at h;subst h;simp only[aU] at hv;obtain⟨vs,rfl,hv⟩:=hv;rw[dX] at hv;exact hv
  cases h
 split at h
 ·rename_i hc;simp only[Option.some.injEq] at h;subst h;have h1:=BD hc hv;rw[uY h1];exact⟨u,[],rfl,h1,hv,rfl⟩
 cases h
end
def l8 (T:Tab)(H:List (Nat×av))(t:TypeId)(x y:AV)(K:AV→List (Nat×av)→Prop):Prop:=
 match lk T t with
 | some i=>match x with
   | .ptr b off=>match lk H b with
     | some (.var cells)=>match cellsOf i y with
       | some cs=>match Nat.beq cs.length i.size with
         | true=>match gZ off cells cs with
           |some cells'=>K (.pv (.sc undef)) [(b,.var cells')]
           |none=>False
         |false=>False
       |none=>False
     |_=>False
   | .cB b ver k off=>match lk H b with
     | some (.arr e v st rows)=>match Nat.beq ver v with
       | true=>match y with
         | .pv p=>match jc i p with
           | some cs=>match Nat.beq cs.length i.size with
             | true=>∃row,rows[k]? = some row∧match gZ off row cs with
               |some row'=>K (.pv (.sc undef)) [(b,.arr e v st (rows.set k row'))]
               |none=>False
             |false=>False
           |none=>False
         |_=>False
       |false=>False
     |_=>False
   |_=>False
 |none=>False
section
variable {P:Program}{T:Tab}{c:Ctx}{R:Real}{s:AS}{a:Act}{w:World}
theorem kI (w:World)(g:Nat)(cs:Array Value):iZ (fun r=>r=g) w (w.setRow g cs):=
 ⟨by simp,fun r _ hn=>setRow_other w g r cs hn,rfl,rfl,rfl⟩
theorem nU (g:aR c R s a w)(hT:bC P T){H:List (Nat×av)}(hH:∀b box,lk H b=some box→lk s.hp b=some box){t:TypeId}{x y:AV}
  {K:AV→List (Nat×av)→Prop} (h:l8 T H t x y K) {u v:Value} (hx:ah (aH c R s.hp) w s.hp R x u) (hy:ah (aH c R s.hp) w s.hp R y v) :
  ∃w' ws,(Instr.storeAt t u v).run P w=.ok () w'∧K (.pv (.sc undef)) ws∧aR c R (s.app ws) a w':=by
 unfold l8 at h;split at h;rotate_left;cases h
 rename_i i hi;have hi':=hT _ _ hi;split at h
 ·rename_i b off;split at h;rotate_left;cases h
  rename_i cells hb;have hb':=hH _ _ hb;split at h;rotate_left;cases h
  rename_i cs hcs;split at h;rotate_left;cases h
  rename_i hlen;have hlen:=Nat.eq_of_beq_eq_true hlen;split at h;rotate_left;cases h
  rename_i cells' hset;simp only[ah,hb',aI] at hx;subst hx;obtain⟨cur,e,hg,hc⟩:=(g.boxes b _ hb');rw[aY] at hc;have hcv:=gD hcs hy;obtain⟨hl,hc'⟩:=FC.gZ hc hcv hset;have hvs:v.cells.size=i.size:=by rw[←hlen,←hcv.length];simp
  have hrun:=oG (w:=w) hi' hg hvs (off:=off) (by simp at hl;omega) hcv.one;have hrun':(Instr.storeAt t (.pointer (some ⟨R.blk b,off,none⟩)) v).run P w=.ok () (w.setRow (R.blk b) (cur.toList.take off++v.cells.toList++cur.toList.drop (off+v.cells.toList.length)).toArray):=by
   simp only[Instr.storeAt,Instr.sureAddr,pure_bind];exact hrun
  refine⟨_,_,hrun',h,?_⟩;have hR:∀b',b'≠b→R.blk b'=R.blk b'∧R.nil b'=R.nil b'∧R.cap b'=R.cap b':=fun _ _=>⟨rfl,rfl,rfl⟩
  have r1:∀off v,aI R b off v (lk s.hp b)→aI R b off v (some (.var cells')):=fun off v h=>by rw[hb'] at h;exact h
  have r2:∀ver v,aD R b ver v (lk s.hp b)→aD R b ver v (some (.var cells')):=fun _ v h=>by rw[hb'] at h;exact h
  have r3:∀ver i off v,aK R b ver i off v (lk s.hp b)→aK R b ver i off v (some (.var cells')):=fun _ _ _ v h=>by rw[hb'] at h;exact h
  have hown:∀r,ax R b r (some (.var cells'))→ax R b r (lk s.hp b)∨w.heap.size≤r:=fun r h=>by rw[hb'];exact .inl h
  have hworld:iZ (fun r=>ax R b r (lk s.hp b)) w (w.setRow (R.blk b) (cur.toList.take off++v.cells.toList++cur.toList.drop (off+v.cells.toList.length)).toArray):=by
   refine (kI w _ _).mono ?_;rintro r rfl
   rw[hb'];rfl
  obtain⟨m1,m2,m3,m4,m5⟩:=g.zS hR r1 r2 r3 hown hworld;refine g.upd hR r1 r2 r3 hown hworld ?_;refine⟨_,e,setRow_heap w _ cur _ e _ hg,?_⟩;rw[aY];exact hc'.imp fun p v h=>bF m1 m2 m3 m4 m5 p v h
 ·rename_i b ver k off;split at h;rotate_left;cases h
  rename_i e vr st rows hb;have hb':=hH _ _ hb;split at h;rotate_left;cases h
  rename_i dD;split at h;rotate_left;cases h
  rename_i p;split at h;rotate_left;cases h
  rename_i cs hcs;split at h;rotate_left;cases h
  rename_i hlen;have hlen:=Nat.eq_of_beq_eq_true hlen;obtain⟨row,hrow,h⟩:=h;split at h;rotate_left;cases h
  rename_i row' hset;simp only[ah,hb',aK] at hx;obtain⟨hn,rfl⟩:=hx.2.2 (Nat.eq_of_beq_eq_true dD);simp only[ah] at hy;obtain⟨cur,hg,hs,hle,hm,hr,_⟩:=d9 (g.boxes b _ hb') hn;have hcv:=oO hcs hy;have Tt:k<rows.length:=(List.getElem?_eq_some_iff.1 hrow).1;obtain⟨hrl,Qj⟩:=mR hr hrow;rw[bM] at Qj;have hrc:=Qj.take;rw[hrl] at hrc;obtain⟨hl,hc'⟩:=FC.gZ hrc hcv hset;have hvs:v.cells.size=i.size:=by rw[←hlen,←hcv.length];simp
  have hpl:=Qj.length;simp only[List.length_take,List.length_drop,Array.length_toList] at hl hpl;have hks:k*st+st≤cur.size:=by
   have:(k+1)*st≤(R.cap b).1*st:=Nat.mul_le_mul_right _ (by omega);rw[Nat.add_mul] at this;omega
  have hrun:=oG (w:=w) hi' hg hvs (off:=k*st+off) (by have:=hcv.length;simp only[Array.length_toList] at this hl;omega) hcv.one;have hrun':(Instr.storeAt t (.pointer (some ⟨R.blk b,k*st+off,none⟩)) v).run P w =
    .ok () (w.setRow (R.blk b) (cur.toList.take (k*st+off)++v.cells.toList++cur.toList.drop (k*st+off+v.cells.toList.length)).toArray):=by
   simp only[Instr.storeAt,Instr.sureAddr,pure_bind];exact hrun
  refine⟨_,_,hrun',h,?_⟩;have hR:∀b',b'≠b→R.blk b'=R.blk b'∧R.nil b'=R.nil b'∧R.cap b'=R.cap b':=fun _ _=>⟨rfl,rfl,rfl⟩
  have hll:(rows.set k row').length=rows.length:=by simp
  have r1:∀off v,aI R b off v (lk s.hp b)→aI R b off v (some (.arr e vr st (rows.set k row'))):=fun off v h=>by rw[hb'] at h;exact h
  have r2:∀ver v,aD R b ver v (lk s.hp b)→aD R b ver v (some (.arr e vr st (rows.set k row'))):=fun _ v h=>by rw[hb'] at h;simp only[aD,hll] at h ⊢;exact h
  have r3:∀ver i off v,aK R b ver i off v (lk s.hp b)→aK R b ver i off v (some (.arr e vr st (rows.set k row'))):=fun _ _ _ v h=>by rw[hb'] at h;exact h
  have hown:∀r,ax R b r (some (.arr e vr st (rows.set k row')))→ax R b r (lk s.hp b)∨w.heap.size≤r:=fun r h=>by rw[hb'];exact .inl h
  have hworld:iZ (fun r=>ax R b r (lk s.hp b)) w (w.setRow (R.blk b) (cur.toList.take (k*st+off)++v.cells.toList++cur.toList.drop (k*st+off+v.cells.toList.length)).toArray):=by
   refine (kI w _ _).mono ?_;rintro r rfl
   rw[hb'];exact⟨hn,rfl⟩
  obtain⟨m1,m2,m3,m4,m5⟩:=g.zS hR r1 r2 r3 hown hworld;refine g.upd hR r1 r2 r3 hown hworld ?_;have NP:row'.length=st:=(vW hset).trans hrl;have NQ:=EX (i:=k) hr Tt NP hc';have hyl:(List.take off (List.take st (List.drop (k*st) cur.toList))++v.cells.toList++List.drop (off+v.cells.toList.length) (List.take st (List.drop (k*st) cur.toList))).length=st:=by
   rw[hc'.length];exact NP
  rw[hyl] at NQ;have heq:cur.toList.take (k*st)++(List.take off (List.take st (List.drop (k*st) cur.toList))++v.cells.toList++List.drop (off+v.cells.toList.length) (List.take st (List.drop (k*st) cur.toList)))++cur.toList.drop (k*st+st) =
    cur.toList.take (k*st+off)++v.cells.toList++cur.toList.drop (k*st+off+v.cells.toList.length):=by
   have e1:List.take off (List.take st (List.drop (k*st) cur.toList))=List.take off (List.drop (k*st) cur.toList):=by
    have:min off st=off:=by omega
    rw[List.take_take,this]
   have e2:List.drop (off+v.cells.toList.length) (List.take st (List.drop (k*st) cur.toList))++cur.toList.drop (k*st+st)=cur.toList.drop (k*st+off+v.cells.toList.length):=by
    have h1:cur.toList.drop (k*st+st)=(cur.toList.drop (k*st)).drop st:=by rw[List.drop_drop]
    have h2:cur.toList.drop (k*st+off+v.cells.toList.length)=(cur.toList.drop (k*st)).drop (off+v.cells.toList.length):=by rw[List.drop_drop,Nat.add_assoc]
    rw[h1,h2,←List.drop_append_of_le_length (by simp only[List.length_take,List.length_drop,Array.length_toList];omega),List.take_append_drop]
   rw[e1,List.take_add];simp only[List.append_assoc] at e2 ⊢;rw[e2]
  rw[heq] at NQ;have hsl:bA R b (rows.set k row').length=.slice (some ⟨R.blk b,0,none⟩) rows.length ((R.cap b).1):=by simp[bA,hn]
  obtain⟨t1,t2,t3⟩:=dR (aN m1 m2 _ _ _ NQ);refine⟨_,?_,t2⟩;rw[hsl,hll];rw[hll] at t1;refine⟨?_,.inr ⟨R.blk b,(R.cap b).1,_,rfl,Nat.zero_le _,setRow_heap w _ cur _ e _ hg,hle,hm,?_,by simp⟩⟩
  ·simp only[List.length_take];omega
  simp only[List.size_toArray,List.length_append,List.length_take,List.length_drop,Array.length_toList];have:=hcv.length;simp only[Array.length_toList] at this hl ⊢;omega
 exact h.elim
end
section
variable {P:Program}{T:Tab}{c:Ctx}{R:Real}{s:AS}{a:Act}{w:World}
theorem aR.nA (g:aR c R s a w){b:Nat}{e:TypeId}{ver st:Nat}{rows:List (List PV)}{R':Real}{w':World}
  (hold:lk s.hp b=none∨∃e0 v Gx su,lk s.hp b=some (.arr e0 v Gx su)∧v<ver)
  (hR:∀b',b'≠b→R'.blk b'=R.blk b'∧R'.nil b'=R.nil b'∧R'.cap b'=R.cap b')
  (hworld:iZ (fun r=>ax R b r (lk s.hp b)) w w')
  (hown:R'.nil b=false→ax R b (R'.blk b) (lk s.hp b)∨w.heap.size≤R'.blk b)
  {xs:List Value} (ho:w'.ownsRow 0 e st (bA R' b rows.length) rows.length xs) (hr:bf (aH c R s.hp) w st rows xs) (hY:R'.Y=R.Y:=by rfl) :
  aR c R' (s.app [(b,.arr e ver st rows)]) a w' ∧
   ah (aH c R' ((b,.arr e ver st rows)::s.hp)) w' ((b,.arr e ver st rows)::s.hp) R' (.aG b ver) (bA R' b rows.length):=by
 have r1:∀off v,aI R b off v (lk s.hp b)→aI R' b off v (some (.arr e ver st rows)):=by
  intro off v h;rcases hold with hf|⟨e0,v0,Gx,su,hf,hv⟩<;>rw[hf] at h<;>exact h.elim
 have r2:∀dh v,aD R b dh v (lk s.hp b)→aD R' b dh v (some (.arr e ver st rows)):=by
  intro dh v h;rcases hold with hf|⟨e0,v0,Gx,su,hf,hv⟩
  ·rw[hf] at h;exact h.elim
  rw[hf] at h;simp only[aD] at h ⊢;exact⟨by omega,h.2.1,fun x=>by omega⟩
 have r3:∀dh i off v,aK R b dh i off v (lk s.hp b)→aK R' b dh i off v (some (.arr e ver st rows)):=by
  intro dh i off v h;rcases hold with hf|⟨e0,v0,Gx,su,hf,hv⟩
  ·rw[hf] at h;exact h.elim
  rw[hf] at h;simp only[aK] at h ⊢;exact⟨by omega,h.2.1,fun x=>by omega⟩
 have hown':∀r,ax R' b r (some (.arr e ver st rows))→ax R b r (lk s.hp b)∨w.heap.size≤r:=by
  rintro r ⟨h1,rfl⟩
  exact hown h1
 obtain⟨m1,m2,m3,m4,m5⟩:=g.zS hR r1 r2 r3 hown' hworld hY;refine⟨g.upd hR r1 r2 r3 hown' hworld ⟨xs,ho,aN m1 m2 _ _ _ hr⟩ hY,?_⟩;simp only[ah,aj,if_true];refine⟨Nat.le_refl _,?_,fun _=>rfl⟩;unfold bA;split<;>rfl
def ja (H:List (Nat×av))(st:Nat)(x:AV):Option (List (List PV)):=
 match x with
 |.pv (.sc (.slice none 0 0))=>some []
 | .pv (.sl _ st' rows)=>match Nat.beq st' st with
   |true=>some rows
   |false=>none
 | .aG b ver=>match oJ (lk H b) ver with
   | some (.sl _ st' rows)=>match Nat.beq st' st with
     |true=>some rows
     |false=>none
   |_=>none
 | .sub b ver st1 lo hi=>match oJ (lk H b) ver with
   | some (.sl _ st' rows)=>match Nat.beq st' st,Nat.beq st1 st with
     |true,true=>some (zT rows lo hi)
     |_,_=>none
   |_=>none
 |_=>none
theorem qY {N:Nat→Prop}{nn:Bool}{st:Nat}{rows:List (List PV)}{u:Value}(h:aU N w (.sl nn st rows) u) :
  ∃p len cap,u=.slice p len cap∧len=rows.length∧len≤cap∧(p=none→rows=[])∧∀ad,p=some ad→∃news:List Value,news.length=rows.length*st ∧
   (∀j v,news[j]? = some v→w.cell? (ad.add j)=some v)∧(∀u∈news,u.oneCell'=true)∧bf N w st rows news:=by
 simp only[aU] at h;obtain⟨p,len,cap,rfl,rfl,⟨hle,_⟩,hnone,hsome⟩:=h;refine⟨p,_,cap,rfl,rfl,hle,fun e=>List.eq_nil_of_length_eq_zero (by have:=(hnone e).2;omega),fun ad e=>?_⟩;rcases hsome ad e with h6|⟨hs,hn,cur,e2,fr,hg,hr⟩
 ·subst h6;exact⟨[],by simp,by simp,by simp,by simp[bf]⟩
 obtain⟨h1,h2,h3⟩:=dR hr;obtain⟨blk,off,spot⟩:=ad;simp only at hs hg hr;subst hs;refine⟨_,?_,?_,h3,h2⟩
 ·simp only[List.length_take,List.length_drop] at h1 ⊢;omega
 intro j v hv;rw[addr_add,sw hg];rw[List.getElem?_take] at hv;split at hv
 ·simp only[List.getElem?_drop] at hv;simpa using hv
 cases hv
theorem add_add (a:Addr)(n m:Nat):(a.add n).add m=a.add (n+m):=by
 unfold Addr.add;by_cases h1:n=0
 ·subst h1;simp
 by_cases h2:m=0
 ·subst h2;simp[h1]
 rw[if_neg h1,if_neg h2,if_neg (by omega)];simp[Nat.add_assoc]
theorem Jm (g:aR c R s a w){H:List (Nat×av)}(hH:∀b box,lk H b=some box→lk s.hp b=some box){st:Nat}{b ver:Nat}{nn:Bool}{rows:List (List PV)}
  (hv:oJ (lk H b) ver=some (.sl nn st rows)) {u:Value} (hx:aD R b ver u (lk s.hp b)) :
  ∃p len cap,u=.slice p len cap∧len=rows.length∧len≤cap∧(p=none→rows=[])∧∀ad,p=some ad→∃news:List Value,news.length=rows.length*st ∧
   (∀j v,news[j]? = some v→w.cell? (ad.add j)=some v)∧(∀u∈news,u.oneCell'=true)∧bf (aH c R s.hp) w st rows news:=by
 cases hb:lk H b with
 |none=>rw[hb] at hv;cases hv
 | some box=>
   have hb':=hH _ _ hb;rw[hb] at hv;cases box with
   |var _=>cases hv
   |ny _=>cases hv
   |tr _ _ _ _=>cases hv
   |dL _ _ _ _ _ _=>cases hv
   |mp _ _ _=>cases hv
   |bR _ _ _ _ _ _ _ _ _=>cases hv
   | arr e v Gx su=>
     simp only[oJ] at hv;split at hv
     ·rename_i dD;simp only[Option.some.injEq,PV.sl.injEq] at hv;obtain⟨rfl,rfl,rfl⟩:=hv;rw[hb'] at hx;have:=hx.2.2 (Nat.eq_of_beq_eq_true dD);subst this;obtain⟨xs,ho,hr⟩:=(g.boxes b _ hb');rcases ho.2 with ⟨e1,e2⟩|⟨g',cap,cur,e1,_,hg,hle,hm,hs,ht⟩
      ·have he:su=[]:=List.eq_nil_of_length_eq_zero e2;subst he;rw[e1];exact⟨none,0,0,rfl,rfl,Nat.le_refl _,fun _=>rfl,fun ad e=>by cases e⟩
      rw[e1];refine⟨_,_,cap,rfl,rfl,hle,fun e=>(by cases e),fun ad e=>?_⟩;simp only[Option.some.injEq] at e;subst e;have hr':bf (aH c R s.hp) w Gx su cur.toList:=by
       have:=jK (cur.toList.drop (su.length*Gx)) hr;rwa [←ht,List.take_append_drop] at this
      obtain⟨h1,h2,h3⟩:=dR hr';refine⟨xs,ho.1,fun j v hv=>?_,?_,hr⟩
      ·rw[addr_add,sw hg];rw[←ht,List.getElem?_take] at hv;split at hv
       ·simpa using hv
       cases hv
      rw[←ht];exact h3
     cases hv
   | bX v Gx su=>
     simp only[oJ] at hv;split at hv
     ·rename_i dD;simp only[Option.some.injEq,PV.sl.injEq] at hv;obtain⟨rfl,rfl,rfl⟩:=hv;rw[hb'] at hx;have:=hx.2.2 (Nat.eq_of_beq_eq_true dD);subst this;exact qY (g.boxes b _ hb')
     cases hv
theorem AB (g:aR c R s a w){H:List (Nat×av)}(hH:∀b box,lk H b=some box→lk s.hp b=some box){st:Nat}{x:AV}{rows:List (List PV)}
  (h:ja H st x=some rows) {u:Value} (hx:ah (aH c R s.hp) w s.hp R x u) :
  ∃p len cap,u=.slice p len cap∧len=rows.length∧len≤cap∧(p=none→rows=[])∧∀ad,p=some ad→∃news:List Value,news.length=rows.length*st ∧
   (∀j v,news[j]? = some v→w.cell? (ad.add j)=some v)∧(∀u∈news,u.oneCell'=true)∧bf (aH c R s.hp) w st rows news:=by
 unfold ja at h;split at h
 ·simp only[Option.some.injEq] at h;subst h;simp only[ah,aU] at hx;exact⟨none,0,0,hx,rfl,Nat.le_refl _,fun _=>rfl,fun ad e=>by cases e⟩
 ·rename_i nn st' aF;split at h
  ·rename_i hst;simp only[Option.some.injEq] at h;subst h;have:=Nat.eq_of_beq_eq_true hst;subst this;simp only[ah] at hx;exact qY hx
  cases h
 ·rename_i b ver;split at h
  ·rename_i nn st' aF hv;split at h
   ·rename_i hst;simp only[Option.some.injEq] at h;subst h;have:=Nat.eq_of_beq_eq_true hst;subst this;simp only[ah] at hx;exact Jm g hH hv hx
   cases h
  cases h
 ·rename_i b ver st1 lo hi;split at h
  ·rename_i nn st' aF hv;split at h
   ·rename_i hst UZ;simp only[Option.some.injEq] at h;subst h;have e1:=Nat.eq_of_beq_eq_true hst;have e2:=Nat.eq_of_beq_eq_true UZ;rw[←e1] at e2;subst e2;rw[←e1];clear hst UZ e1;simp only[ah] at hx;obtain⟨u',hx,hok,rfl⟩:=hx;obtain⟨p,len,cap,rfl,rfl,hle,hnone,hsome⟩:=Jm g hH hv hx;simp only[kG] at hok;have hlen:(zT aF lo hi).length=hi-lo:=by simp only[zT,List.length_take,List.length_drop];omega
    cases p with
    | none=>
      have hr0:=hnone rfl;subst hr0;simp only[List.length_nil] at hok hle;refine⟨none,0,0,rfl,by rw[hlen];omega,Nat.le_refl _,fun _=>List.eq_nil_of_length_eq_zero (by rw[hlen];omega),fun ad e=>by cases e⟩
    | some ad=>
      obtain⟨news,n1,n2,n3,n4⟩:=hsome ad rfl;refine⟨_,_,_,rfl,hlen.symm,by omega,fun e=>(by cases e),fun ad' e=>?_⟩;simp only[Option.some.injEq] at e;have hr:=jb (hi-lo) (jk lo n4);obtain⟨t1,t2,t3⟩:=dR hr;change (zT aF lo hi).length*_≤_ at t1
      rw[show (List.take (hi-lo) (List.drop lo aF)).length=hi-lo from hlen] at t2 t3;rw[hlen] at t1;by_cases hcl:cap=lo
      ·have hz:hi-lo=0:=by omega
       refine⟨[],by rw[hlen,hz];simp,by simp,by simp,?_⟩;have:zT aF lo hi=[]:=List.eq_nil_of_length_eq_zero (by rw[hlen];exact hz);rw[this];simp[bf]
      rw[if_neg hcl] at e;subst e;refine⟨(news.drop (lo*st1)).take ((hi-lo)*st1),by rw[List.length_take,hlen];omega,fun j v hj=>?_,t3,t2⟩;rw[List.getElem?_take] at hj;split at hj
      ·rw[List.getElem?_drop] at hj;have:=n2 _ _ hj;rw[←this];rw[add_add]
      cases hj
   cases h
  cases h
 cases h
theorem jl {t e:TypeId}{ty:TypeId}{ei:TI}(ht:P.underlying t=some (.slice e))(hi:bD P e ei)(base p:Option Addr)(sLen sCap cap:Nat)(hle:sLen≤sCap) :
  (Builtin.append_ #[t,t] ty #[.slice base sLen sCap,.slice p 0 cap]).run P w=.ok (.slice base sLen sCap) w:=by
 cases p<;>cases base<;>simp[Builtin.append_,run_underlying ht,hi.run_sizeOf,Builtin.lenOf,hle,Builtin.firstCells,loadCells,loadCellsFrom,storeCells]
def oK (T:Tab)(H:List (Nat×av))(t:TypeId)(vs:List AV)(id:Nat)(K:AV→List (Nat×av)→Prop):Prop:=
 match vs with
 | [d,x]=>match lk T t with
   | some i=>match i.d with
     | .slt e=>match lk T e with
       | some ei=>Rk ei fun lM DZ=>match Nat.beq DZ 0,Nat.beq lM 0 with
         | false,false=>match ja H lM x with
           | some aF=>match d with
             |.pv (.sc (.slice none 0 0))=>aF.length*DZ≤140737488355328∧K (.aG id 0) [(id,.arr e 0 lM aF)]
             | .aG b ver=>match lk H b with
               | some (.arr e' v st rows)=>match Nat.beq ver v,Nat.beq st lM,Nat.beq e' e with
                 |true,true,true=>(rows.length+aF.length)*DZ≤140737488355328∧K (.aG b (v+1)) [(b,.arr e (v+1) lM (rows++aF))]
                 |_,_,_=>False
               |_=>False
             | .pv (.Gw st rows)=>match Nat.beq st lM with
               |true=>0<aF.length∧(rows.length+aF.length)*DZ≤140737488355328∧K (.aG id 0) [(id,.arr e 0 lM (rows++aF))]
               |false=>False
             |_=>False
           |none=>False
         |_,_=>False
       |none=>False
     |_=>False
   |none=>False
 |_=>False
theorem qc {n b:Nat}(hb:b≠0)(h:n*b≤140737488355328):n≤maxLen∧(n:Int)≤9223372036854775807∧n≤140737488355328:=by
 have:n≤n*b:=Nat.le_mul_of_pos_right _ (Nat.pos_of_ne_zero hb);unfold maxLen;omega
theorem jF {e:TypeId}{st cap n:Nat}{xs:List Value}{z:Array Value}{w0:World}(hz:z.size=st)(hx:xs.length=n*st)(hc:n≤cap)(hm:cap≤maxLen){w1:World}
  (hw:w1.heap=w0.heap.push (.cells (xs.toArray++Builtin.zeroCells z (cap-n)) e)) :
  w1.ownsRow 0 e st (.slice (some ⟨w0.heap.size,0,none⟩) n cap) n xs:=by
 refine⟨hx,.inr ⟨w0.heap.size,cap,_,rfl,Nat.zero_le _,by rw[hw];exact Array.getElem?_push_size,hc,hm,?_,?_⟩⟩
 ·simp only[Array.size_append,List.size_toArray,size_zeroCells,hz,hx,←Nat.add_mul];congr 1
  omega
 simp only[Array.toList_append];rw[←hx];exact List.take_left
theorem nC (g:aR c R s a w)(hT:bC P T){H:List (Nat×av)}(hH:∀b box,lk H b=some box→lk s.hp b=some box){id:Nat}(hf:lk s.hp id=none)
  {t ty:TypeId} {d x:AV} {K:AV→List (Nat×av)→Prop} (h:oK T H t [d,x] id K) {u v:Value} (hd:ah (aH c R s.hp) w s.hp R d u) (hx:ah (aH c R s.hp) w s.hp R x v) :
  ∃y w' R' z ws,(Builtin.append_ #[t,t] ty #[u,v]).run P w=.ok y w'∧K z ws∧aR c R' (s.app ws) a w'∧ah (aH c R' (ws++s.hp)) w' (ws++s.hp) R' z y:=by
 unfold oK at h;simp only[bW] at h;try simp only at h
 split at h;rotate_left;cases h
 rename_i i hi;obtain⟨dd,hdd,eH⟩:=(hT t i hi).eF;split at h;rotate_left;cases h
 rename_i e hte;have ht:P.underlying t=some (.slice e):=by
  rw[hte] at eH;cases dd<;>simp[di] at eH
  subst eH;exact hdd
 split at h;rotate_left;cases h
 rename_i ei lJ;have fH:=hT _ _ lJ;obtain⟨ti,zv,hinfo,hsz,hby,hzero,hzc⟩:=fH.xK;have Mr:zv.cells.size=ei.size:=by have:=fH.Ms;rw[←hzc] at this;simpa using this
 split at h;rotate_left;cases h
 rename_i hb0 hs0;have hb0:=Nat.ne_of_beq_eq_false hb0;have hs0:=Nat.ne_of_beq_eq_false hs0;split at h;rotate_left;cases h
 rename_i aF hsrc;obtain⟨p,len,cap,rfl,rfl,hlc,U0,hps⟩:=AB g hH hsrc hx;split at h
 ·-- the D6 is nil
  obtain⟨hbd,hK⟩:=h;simp only[ah,aU] at hd;subst hd;obtain⟨b1,b2,b3⟩:=qc hb0 hbd;by_cases hz:aF.length=0
  ·have he:aF=[]:=List.eq_nil_of_length_eq_zero hz;subst he;have hrun:=jl (P:=P) (w:=w) (ty:=ty) ht fH none p 0 0 cap (Nat.le_refl _);obtain⟨g1,g2⟩:=g.nA (e:=e) (ver:=0) (st:=ei.size) (rows:=[]) (R':=R.at id 0 true 0) (.inl hf) (Real.sD R id 0 true 0) (iZ.refl _ w) (by simp[Real.at])
    (xs:=[]) (by simp only[bA,Real.at,if_true,List.length_nil];exact World.ownsRow_nil w 0 e ei.size) (by simp[bf])
   have hsl:bA (R.at id 0 true 0) id 0=.slice none 0 0:=by simp[bA,Real.at]
   refine⟨_,w,_,_,_,hrun,hK,g1,?_⟩;simp only[List.length_nil,hsl] at g2;exact g2
  cases p with
  |none=>exact absurd (by rw[U0 rfl];rfl) hz
  | some ad=>
    obtain⟨news,n1,n2,n3,n4⟩:=hps ad rfl;have hrun:=run_append_nil (P:=P) w t ty e ti zv ht hinfo hzero ad aF.length cap news (by rw[hsz];exact n1) n2 (by omega) b2 (by rw[hby];omega);have Gy:=grownCap_ge w aF.length 0 e;have Sj:=grownCap_le_maxLen w aF.length 0 e b1;have hsl:bA (R.at id w.heap.size false (grownCap w aF.length 0 e)) id aF.length=.slice (some ⟨w.heap.size,0,none⟩) aF.length (grownCap w aF.length 0 e):=by simp[bA,Real.at]
    have xL:(w.drew.alloc (.cells (news.toArray++Builtin.zeroCells zv.cells (grownCap w aF.length 0 e-aF.length)) e)).ownsRow 0 e ei.size
      (.slice (some ⟨w.heap.size,0,none⟩) aF.length (grownCap w aF.length 0 e)) aF.length news:=
     jF (w0:=w) Mr n1 Gy Sj rfl
    obtain⟨g1,g2⟩:=g.nA (e:=e) (ver:=0) (st:=ei.size) (rows:=aF) (R':=R.at id w.heap.size false (grownCap w aF.length 0 e)) (.inl hf)
     (Real.sD R id _ _ _) (w':=w.drew.alloc (.cells (news.toArray++Builtin.zeroCells zv.cells (grownCap w aF.length 0 e-aF.length)) e))
     ⟨by simp,fun r hr _=>(by first|exact heap_alloc_old w.drew _ hr|exact heap_alloc_old w.drew _ r hr),rfl,rfl,rfl⟩ (fun _=>.inr (by simp[Real.at])) (xs:=news) (by rw[hsl];exact xL) n4
    rw[hsl] at g2;exact⟨_,_,_,_,_,hrun,hK,g1,g2⟩
 ·rename_i b ver;split at h;rotate_left;cases h
  rename_i e' vr st rows hb;have hb':=hH _ _ hb;split at h;rotate_left;cases h
  rename_i dD hst he;have dD:=Nat.eq_of_beq_eq_true dD;have hst:=Nat.eq_of_beq_eq_true hst;have he:=Nat.eq_of_beq_eq_true he;subst dD;subst hst;subst he;obtain⟨hbd,hK⟩:=h;obtain⟨b1,b2,b3⟩:=qc hb0 hbd;simp only[ah,hb'] at hd;have:=hd.2.2 rfl;subst this;obtain⟨xs,ho,hr⟩:=(g.boxes b _ hb');have hlen:(rows++aF).length=rows.length+aF.length:=by simp
  by_cases hz:aF.length=0
  ·have he:aF=[]:=List.eq_nil_of_length_eq_zero hz;subst he;have Sk:∃p0 l0 c0,bA R b rows.length=.slice p0 l0 c0∧l0≤c0:=by
    rcases ho.2 with ⟨e1,e2⟩|⟨g',Sl,cur,e1,_,hg,hle,_⟩
    ·exact⟨_,_,_,e1,Nat.le_refl _⟩
    exact⟨_,_,_,e1,hle⟩
   obtain⟨p0,l0,c0,e1,e2⟩:=Sk;have hrun:=jl (P:=P) (w:=w) (ty:=ty) ht fH p0 p l0 c0 cap e2;rw[←e1] at hrun;obtain⟨g1,g2⟩:=g.nA (b:=b) (e:=e') (ver:=ver+1) (st:=ei.size) (rows:=rows++[]) (R':=R) (.inr ⟨_,_,_,_,hb',Nat.lt_succ_self _⟩) (fun _ _=>⟨rfl,rfl,rfl⟩) (iZ.refl _ w)
    (fun hn=>.inl (by rw[hb'];exact⟨hn,rfl⟩)) (xs:=xs) (by simpa using ho) (by simpa using hr)
   simp only[List.append_nil] at g2;exact⟨_,w,R,_,_,hrun,hK,g1,by simpa using g2⟩
  cases p with
  |none=>exact absurd (by rw[U0 rfl];rfl) hz
  | some ad=>
    obtain⟨news,n1,n2,n3,n4⟩:=hps ad rfl;have Mt:bf (aH c R s.hp) w ei.size (rows++aF) (xs++news):=gM hr ho.1 n4;rcases ho.2 with ⟨e1,e2⟩|⟨g',Sl,cur,e1,_,hg,hle,hm,hcs,ht'⟩
    ·-- nil so far
     have he:rows=[]:=List.eq_nil_of_length_eq_zero e2;subst he;have hx0:xs=[]:=List.eq_nil_of_length_eq_zero (by simpa using ho.1);subst hx0;have hrun:=run_append_nil (P:=P) w t ty e' ti zv ht hinfo hzero ad aF.length cap news (by rw[hsz];exact n1) n2 (by omega) (by simpa using (qc hb0 (by simpa using hbd)).2.1) (by rw[hby];simp at hbd;omega);rw[←e1] at hrun;have Gy:=grownCap_ge w aF.length 0 e';have Sj:=grownCap_le_maxLen w aF.length 0 e' (by simpa using b1);have hsl:bA (R.at b w.heap.size false (grownCap w aF.length 0 e')) b ([]++aF).length=.slice (some ⟨w.heap.size,0,none⟩) aF.length (grownCap w aF.length 0 e'):=by simp[bA,Real.at]
     have xL:(w.drew.alloc (.cells (news.toArray++Builtin.zeroCells zv.cells (grownCap w aF.length 0 e' - aF.length)) e')).ownsRow 0 e' ei.size
       (.slice (some ⟨w.heap.size,0,none⟩) aF.length (grownCap w aF.length 0 e')) aF.length news:=
      jF (w0:=w) Mr n1 Gy Sj rfl
     obtain⟨g1,g2⟩:=g.nA (b:=b) (e:=e') (ver:=ver+1) (st:=ei.size) (rows:=[]++aF) (R':=R.at b w.heap.size false (grownCap w aF.length 0 e')) (.inr ⟨_,_,_,_,hb',Nat.lt_succ_self _⟩)
      (Real.sD R b _ _ _) (w':=w.drew.alloc (.cells (news.toArray++Builtin.zeroCells zv.cells (grownCap w aF.length 0 e' - aF.length)) e'))
      ⟨by simp,fun r hr _=>(by first|exact heap_alloc_old w.drew _ hr|exact heap_alloc_old w.drew _ r hr),rfl,rfl,rfl⟩ (fun _=>.inr (by simp[Real.at])) (xs:=news) (by rw[hsl];exact xL) (by simpa using n4)
     rw[hsl] at g2;exact⟨_,_,_,_,_,hrun,hK,g1,g2⟩
    have hnil:R.nil b=false:=by
     cases hn:R.nil b with
     |false=>rfl
     |true=>simp[bA,hn] at e1
    have hgb:g'=R.blk b∧Sl=(R.cap b).1:=by simp[bA,hnil] at e1;exact⟨e1.1.symm,e1.2.symm⟩
    obtain⟨rfl,rfl⟩:=hgb;by_cases hroom:rows.length+aF.length≤(R.cap b).1
    ·have hfit:rows.length*ei.size+news.length≤cur.size:=by rw[n1,hcs,←Nat.add_mul];exact Nat.mul_le_mul_right _ hroom
     have hrun:=run_append_room (P:=P) w t ty e' ti ht hinfo (R.blk b) rows.length ((R.cap b).1) cur hg ad aF.length cap news (by rw[hsz];exact n1) n2 n3 hroom (by rw[hsz];exact hfit);rw[←e1,hsz] at hrun;have hsl:bA R b (rows++aF).length=.slice (some ⟨R.blk b,0,none⟩) (rows.length+aF.length) ((R.cap b).1):=by simp[bA,hnil]
     obtain⟨g1,g2⟩:=g.nA (b:=b) (e:=e') (ver:=ver+1) (st:=ei.size) (rows:=rows++aF) (R':=R) (.inr ⟨_,_,_,_,hb',Nat.lt_succ_self _⟩) (fun _ _=>⟨rfl,rfl,rfl⟩)
      (w':=w.setRow (R.blk b) (cur.toList.take (rows.length*ei.size)++news++cur.toList.drop (rows.length*ei.size+news.length)).toArray)
      ((kI w _ _).mono fun r hr=>by rw[hb'];exact⟨hnil,hr.symm⟩) (fun hn=>.inl (by rw[hb'];exact⟨hn,rfl⟩)) (xs:=xs++news) (by
        rw[hsl];refine⟨by rw[hlen,List.length_append,ho.1,n1,Nat.add_mul],.inr ⟨R.blk b,(R.cap b).1,_,by rw[hlen],Nat.zero_le _,setRow_heap w _ cur _ e' _ hg,by rw[hlen];exact hroom,hm,?_,?_⟩⟩
        ·simp only[List.size_toArray,List.length_append,List.length_take,List.length_drop,Array.length_toList];omega
        rw[hlen,ht',Nat.add_mul,←ho.1,←n1,←List.length_append];exact List.take_left) Mt
     rw[hsl] at g2;exact⟨_,_,_,_,_,hrun,hK,g1,g2⟩
    have holds:∀j v,xs[j]? = some v→w.cell? ((⟨R.blk b,0,none⟩:Addr).add j)=some v:=by
     intro j v hv;rw[addr_add,sw hg];rw[←ht',List.getElem?_take] at hv;split at hv
     ·simpa using hv
     cases hv
    have hrun:=run_append_grow (P:=P) w t ty e' ti zv ht hinfo hzero ⟨R.blk b,0,none⟩ rows.length ((R.cap b).1) xs (by rw[hsz];exact ho.1) holds ad aF.length cap news (by rw[hsz];exact n1) n2 (by omega)
     (by omega) (growslice_fits (by omega) (by rw[hby];exact hbd))
    rw[←e1] at hrun;have Gy:=grownCap_ge w (rows.length+aF.length) ((R.cap b).1) e';have Sj:=grownCap_le_maxLen w (rows.length+aF.length) ((R.cap b).1) e' b1;have hsl:bA (R.at b w.heap.size false (grownCap w (rows.length+aF.length) ((R.cap b).1) e')) b (rows++aF).length =
      .slice (some ⟨w.heap.size,0,none⟩) (rows.length+aF.length) (grownCap w (rows.length+aF.length) ((R.cap b).1) e'):=by simp[bA,Real.at]
    have xL:(w.drew.alloc (.cells (xs.toArray++news.toArray++Builtin.zeroCells zv.cells (grownCap w (rows.length+aF.length) ((R.cap b).1) e' - (rows.length+aF.length))) e')).ownsRow 0 e' ei.size
      (.slice (some ⟨w.heap.size,0,none⟩) (rows.length+aF.length) (grownCap w (rows.length+aF.length) ((R.cap b).1) e')) (rows.length+aF.length) (xs++news):=
     jF (w0:=w) Mr (by rw[List.length_append,ho.1,n1,Nat.add_mul]) Gy Sj (by rw[show (xs++news).toArray=xs.toArray++news.toArray from by simp];rfl)
    obtain⟨g1,g2⟩:=g.nA (b:=b) (e:=e') (ver:=ver+1) (st:=ei.size) (rows:=rows++aF) (R':=R.at b w.heap.size false (grownCap w (rows.length+aF.length) ((R.cap b).1) e'))
     (.inr ⟨_,_,_,_,hb',Nat.lt_succ_self _⟩) (Real.sD R b _ _ _)
     (w':=w.drew.alloc (.cells (xs.toArray++news.toArray++Builtin.zeroCells zv.cells (grownCap w (rows.length+aF.length) ((R.cap b).1) e' - (rows.length+aF.length))) e'))
     ⟨by simp,fun r hr _=>(by first|exact heap_alloc_old w.drew _ hr|exact heap_alloc_old w.drew _ r hr),rfl,rfl,rfl⟩ (fun _=>.inr (by simp[Real.at])) (xs:=xs++news) (by rw[hsl,hlen];exact xL) Mt
    rw[hsl] at g2;exact⟨_,_,_,_,_,hrun,hK,g1,g2⟩
 ·-- nothing is behind the D6
  rename_i st rows;split at h;rotate_left;cases h
  rename_i hst;have hst:=Nat.eq_of_beq_eq_true hst;subst hst;obtain⟨hz,hbd,hK⟩:=h;obtain⟨b1,b2,b3⟩:=qc hb0 hbd;simp only[ah] at hd;obtain⟨bp,aaQ,aaR,hbe,_,_,_,hbs⟩:=qY (AJ hd);simp only[aU] at hd;obtain⟨ba,rfl,_,_⟩:=hd;simp only[Value.slice.injEq] at hbe;obtain⟨rfl,rfl,rfl⟩:=hbe;obtain⟨xs,x1,x2,x3,x4⟩:=hbs ba rfl;cases p with
  |none=>exact absurd (by rw[U0 rfl];rfl) (Nat.ne_of_gt hz)
  | some ad=>
    obtain⟨news,n1,n2,n3,n4⟩:=hps ad rfl;have Mt:bf (aH c R s.hp) w ei.size (rows++aF) (xs++news):=gM x4 x1 n4;have hlen:(rows++aF).length=rows.length+aF.length:=by simp
    have hrun:=run_append_grow (P:=P) w t ty e ti zv ht hinfo hzero ba rows.length rows.length xs (by rw[hsz];exact x1) x2 ad aF.length cap news (by rw[hsz];exact n1) n2 (by omega)
     (by omega) (growslice_fits (by omega) (by rw[hby];exact hbd))
    have Gy:=grownCap_ge w (rows.length+aF.length) rows.length e;have Sj:=grownCap_le_maxLen w (rows.length+aF.length) rows.length e b1;have hsl:bA (R.at id w.heap.size false (grownCap w (rows.length+aF.length) rows.length e)) id (rows++aF).length =
      .slice (some ⟨w.heap.size,0,none⟩) (rows.length+aF.length) (grownCap w (rows.length+aF.length) rows.length e):=by simp[bA,Real.at]
    have xL:(w.drew.alloc (.cells (xs.toArray++news.toArray++Builtin.zeroCells zv.cells (grownCap w (rows.length+aF.length) rows.length e-(rows.length+aF.length))) e)).ownsRow 0 e ei.size
      (.slice (some ⟨w.heap.size,0,none⟩) (rows.length+aF.length) (grownCap w (rows.length+aF.length) rows.length e)) (rows.length+aF.length) (xs++news):=
     jF (w0:=w) Mr (by rw[List.length_append,x1,n1,Nat.add_mul]) Gy Sj (by rw[show (xs++news).toArray=xs.toArray++news.toArray from by simp];rfl)
    obtain⟨g1,g2⟩:=g.nA (e:=e) (ver:=0) (st:=ei.size) (rows:=rows++aF) (R':=R.at id w.heap.size false (grownCap w (rows.length+aF.length) rows.length e)) (.inl hf)
     (Real.sD R id _ _ _) (w':=w.drew.alloc (.cells (xs.toArray++news.toArray++Builtin.zeroCells zv.cells (grownCap w (rows.length+aF.length) rows.length e-(rows.length+aF.length))) e))
     ⟨by simp,fun r hr _=>(by first|exact heap_alloc_old w.drew _ hr|exact heap_alloc_old w.drew _ r hr),rfl,rfl,rfl⟩ (fun _=>.inr (by simp[Real.at])) (xs:=xs++news) (by rw[hsl,hlen];exact xL) Mt
    rw[hsl] at g2;exact⟨_,_,_,_,_,hrun,hK,g1,g2⟩
 exact h.elim
end
theorem dS {α:Type}(l m:List (Nat×α))(t:Nat):lk (l++m) t=match lk l t with
  |some v=>some v
  |none=>lk m t:=by
 induction l with
 |nil=>simp[lk]
 | cons x l ih=>
   obtain⟨k,v⟩:=x;simp only[List.cons_append,aj];split
   ·rfl
   exact ih
section
variable {P:Program}{T:Tab}{c:Ctx}{R:Real}{s:AS}{a:Act}{w:World}
theorem iR (g:aR c R s a w){H:List (Nat×av)}(hH:∀b box,lk H b=some box→lk s.hp b=some box):∀(bs:List Nat) (fs:List (Nat×av)),D7 H bs=some fs →
  aR c R (s.app fs) a w∧(∀v x,ah (aH c R s.hp) w s.hp R v x→ah (aH c R (fs++s.hp)) w (fs++s.hp) R v x) ∧
   (∀r,aH c R (fs++s.hp) r→aH c R s.hp r)∧(∀b,(lk fs b).isSome=true∨b∈bs→∀r,ax R b r (lk s.hp b)→¬aH c R (fs++s.hp) r)
 | [],fs,h=>by
   simp only[D7,Option.some.injEq] at h;subst h;exact⟨g,fun v x h=>h,fun r h=>h,fun b h=>by simp[lk] at h⟩
 | b::bs,fs,h=>by
   simp only[D7] at h;split at h
   ·rename_i t ht;obtain⟨g1,m1,n1,o1⟩:=iR g hH bs t ht;split at h
    ·rename_i x hx;simp only[Option.some.injEq] at h;subst h;refine⟨g1,m1,n1,fun b' hb'=>?_⟩;rcases hb' with hb'|hb'
     ·exact o1 b' (.inl hb')
     rcases List.mem_cons.1 hb' with rfl|hb'
     ·exact o1 _ (.inl (by rw[hx];rfl))
     exact o1 b' (.inr hb')
    rename_i hnone;have step:∀{box aV:av},lk H b=some box →
      ((∃e v st rows,box=.arr e v st rows∧aV=.bX v st rows)∨(∃cells ps,box=.var cells∧gu cells=some ps∧aV=.ny ps)) →
      aR c R (s.app ((b,aV)::t)) a w∧(∀v x,ah (aH c R s.hp) w s.hp R v x→ah (aH c R ((b,aV)::t++s.hp)) w ((b,aV)::t++s.hp) R v x) ∧
       (∀r,aH c R ((b,aV)::t++s.hp) r→aH c R s.hp r)∧(∀b',(lk ((b,aV)::t) b').isSome=true∨b'∈b::bs→∀r,ax R b' r (lk s.hp b')→¬aH c R ((b,aV)::t++s.hp) r):=by
     intro box aV hb hf;have hl:lk (s.app t).hp b=some box:=by
      show lk (t++s.hp) b=_
      rw[dS,hnone];exact hH _ _ hb
     obtain⟨g2,m2,n2,o2⟩:=g1.freeze hl hf;refine⟨g2,fun v x h=>m2 v x (m1 v x h),fun r h=>n1 r (n2 r h),fun b' hb' r ho hN=>?_⟩;by_cases e:b'=b
     ·subst e;refine o2 r ?_ hN;rw[hl,←hH _ _ hb];exact ho
     rcases hb' with hb'|hb'
     ·rw[aj,if_neg (fun x=>e x.symm)] at hb';exact o1 b' (.inl hb') r ho (n2 r hN)
     rcases List.mem_cons.1 hb' with rfl|hb'
     ·exact e rfl
     exact o1 b' (.inr hb') r ho (n2 r hN)
    have keep:fs=t→(∀r,¬ax R b r (lk s.hp b))→aR c R (s.app fs) a w∧(∀v x,ah (aH c R s.hp) w s.hp R v x→ah (aH c R (fs++s.hp)) w (fs++s.hp) R v x) ∧
      (∀r,aH c R (fs++s.hp) r→aH c R s.hp r)∧(∀b',(lk fs b').isSome=true∨b'∈b::bs→∀r,ax R b' r (lk s.hp b')→¬aH c R (fs++s.hp) r):=by
     rintro rfl hno
     refine⟨g1,m1,n1,fun b' hb' r ho=>?_⟩;rcases hb' with hb'|hb'
     ·exact o1 b' (.inl hb') r ho
     rcases List.mem_cons.1 hb' with rfl|hb'
     ·exact (hno r ho).elim
     exact o1 b' (.inr hb') r ho
    split at h
    ·rename_i e v st rows hb;simp only[Option.some.injEq] at h;subst h;exact step hb (.inl ⟨_,_,_,_,rfl,rfl⟩)
    ·rename_i cells hb;split at h
     ·rename_i ps hps;simp only[Option.some.injEq] at h;subst h;exact step hb (.inr ⟨_,_,rfl,hps,rfl⟩)
     cases h
    ·rename_i v st rows hb;simp only[Option.some.injEq] at h;exact keep h.symm (fun r=>by rw[hH _ _ hb];exact id)
    ·rename_i cells hb;simp only[Option.some.injEq] at h;exact keep h.symm (fun r=>by rw[hH _ _ hb];exact id)
    ·cases h
    ·cases h
    ·cases h
    ·cases h
    cases h
   cases h
def AL (H:List (Nat×av))(f:Fn)(nf:Nat)(vs:List AV)(K:AV→List (Nat×av)→Prop):Prop:=
 match iq nf vs,iE nf vs with
 | some xs,some ys=>match D5 H xs,D5 H ys with
   | some ps,some qs=>match D7 H (dx xs++dx ys) with
     |some fs=>K (.pv (.fn f ps qs)) fs
     |none=>K (.fn f xs ys) []
   |_,_=>K (.fn f xs ys) []
 |_,_=>False
theorem FL.split {α:Type}{Q:α→Value→Prop}:∀{n:Nat} {l xs ys:List α} {m:List Value},FL Q l m→iq n l=some xs→iE n l=some ys→FL Q xs (m.take n)∧FL Q ys (m.drop n)
 | 0,l,xs,ys,m,h,h1,h2=>by
   simp only[iq,iE,Option.some.injEq] at h1 h2;subst h1;subst h2;exact⟨by simp[FL],by simpa using h⟩
 |n+1,[],xs,ys,m,h,h1,h2=>by simp[iq] at h1
 | n+1,p::ps,xs,ys,m,h,h1,h2=>by
   obtain⟨v,r,rfl,h3,h⟩:=h;simp only[iq] at h1;split at h1
   ·rename_i t ht;simp only[Option.some.injEq] at h1;subst h1;simp only[iE] at h2;obtain⟨a1,a2⟩:=h.split ht h2;exact⟨⟨v,r.take n,by simp,h3,a1⟩,by simpa using a2⟩
   cases h1
theorem D8 (g:aR c R s a w){H:List (Nat×av)}(hH:∀b box,lk H b=some box→lk s.hp b=some box){f:Fn}{first aT:Array Value}{vs:List AV}{K:AV→List (Nat×av)→Prop}
  (h:AL H f first.size vs K) (hv:FL (ah (aH c R s.hp) w s.hp R) vs (first.toList++aT.toList)) :
  ∃z ws,(Instr.makeFunc f first aT).run P w=.ok (.func f first aT) w∧K z ws∧aR c R (s.app ws) a w∧ah (aH c R (ws++s.hp)) w (ws++s.hp) R z (.func f first aT):=by
 have ref:∀{xs ys:List AV},iq first.size vs=some xs→iE first.size vs=some ys→K (.fn f xs ys) [] →
   ∃z ws,(Instr.makeFunc f first aT).run P w=.ok (.func f first aT) w∧K z ws∧aR c R (s.app ws) a w∧ah (aH c R (ws++s.hp)) w (ws++s.hp) R z (.func f first aT):=by
  intro xs ys hxs hys h;obtain⟨a1,a2⟩:=hv.split hxs hys;have l1:(first.toList++aT.toList).take first.size=first.toList:=by rw[←Array.length_toList];exact List.take_left
  have l2:(first.toList++aT.toList).drop first.size=aT.toList:=by rw[←Array.length_toList];exact List.drop_left
  rw[l1] at a1;rw[l2] at a2;refine⟨_,[],rfl,h,g,?_⟩;simp only[ah];exact⟨first,aT,rfl,by rw[bZ];exact a1,by rw[bZ];exact a2⟩
 unfold AL at h;split at h;rotate_left;cases h
 rename_i xs ys hxs hys;split at h
 ·rename_i ps qs hps hqs;split at h
  ·rename_i fs hfs;obtain⟨g1,m1,n1,o1⟩:=iR g hH _ _ hfs;obtain⟨a1,a2⟩:=hv.split hxs hys;have l1:(first.toList++aT.toList).take first.size=first.toList:=by rw[←Array.length_toList];exact List.take_left
   have l2:(first.toList++aT.toList).drop first.size=aT.toList:=by rw[←Array.length_toList];exact List.drop_left
   rw[l1] at a1;rw[l2] at a2;refine⟨_,fs,rfl,h,g1,?_⟩;simp only[ah,aU];refine⟨first,aT,rfl,?_,?_⟩
   ·exact fT g hH n1 xs ps _ (fun b hb=>o1 b (.inr (by simp[hb]))) hps (by rw[bZ];exact a1)
   exact fT g hH n1 ys qs _ (fun b hb=>o1 b (.inr (by simp[hb]))) hqs (by rw[bZ];exact a2)
  exact ref hxs hys h
 exact ref hxs hys h
def sF (T:Tab):List (Nat×TypeId)→Bool
 |[]=>true
 | (_,ft)::r=>match lk T ft with
   |some _=>sF T r
   |none=>false
def Gz (T:Tab)(t:TypeId):List Nat→List AV→List AV→Option (List AV)
 |[],[],cells=>some cells
 | f::fs,v::vs,cells=>match sG T t f with
   | some (off,j)=>match cellsOf j v with
     | some cs=>match Nat.beq cs.length j.size with
       | true=>match gZ off cells cs with
         |some cells'=>Gz T t fs vs cells'
         |none=>none
       |false=>none
     |none=>none
   |none=>none
 |_,_,_=>none
def uG (T:Tab)(t:TypeId)(ks:List Nat)(vs:List AV)(K:AV→Prop):Prop:=
 match lk T t with
 | some i=>match i.d with
   | .str fs=>match sF T fs with
     | true=>match Sm i.zero with
       | some z=>match Gz T t ks vs z with
         | some cells=>match sH cells with
           |some v=>K v
           |none=>False
         |none=>False
       |none=>False
     |false=>False
   |_=>False
 |none=>False
theorem oN (off:Nat)(l:List Value)(cs:Array Value)(h:off+l.length≤cs.size) :
  ((l.zipIdx 0).foldl (fun cs (x:Value×Nat)=>cs.setIfInBounds (off+x.2) x.1) cs).toList=cs.toList.take off++l++cs.toList.drop (off+l.length):=by
 obtain⟨h1,h2⟩:=Great.foldl_set off l 0 cs;apply List.ext_getElem?;intro k;rw[Array.getElem?_toList,h2 k];simp only[Nat.add_zero,List.append_assoc,List.getElem?_append,List.length_take,Array.length_toList,List.getElem?_take,List.getElem?_drop,Array.getElem?_toList];have hm:min off cs.size=off:=by omega
 rw[hm];by_cases h3:k<off
 ·rw[if_neg (by omega),if_pos h3,if_pos h3]
 rw[if_neg h3];by_cases h4:k<off+l.length
 ·rw[if_pos ⟨by omega,h4,by omega⟩,if_pos (by omega)]
 rw[if_neg (by omega),if_neg (by omega)];congr 1
 omega
theorem xM {N:Nat→Prop}{hp:List (Nat×av)}(hT:bC P T){t:TypeId}{fs:Array Field}(ht:P.underlying t=some (.struct fs)){place:Nat→Option (Nat×Nat)}
  (hpl:∀(f:Nat) (fd:Field) (j:TI),fs[f]? = some fd→bD P fd.type j→place f=some (fd.offset,j.size)) :
  ∀(ks:List Nat) (vs cells cells':List AV) (us:List Value) (zs:Array Value),Gz T t ks vs cells=some cells'→FL (ah N w hp R) vs us→FC (ah N w hp R) cells zs.toList →
   ∃Kk,Instr.fill place zs (ks.zip us)=some Kk∧FC (ah N w hp R) cells' Kk.toList
 | [],[],cells,cells',us,zs,h,hv,hz=>by
   simp only[Gz,Option.some.injEq] at h;subst h;simp only[FL] at hv;subst hv;exact⟨zs,rfl,hz⟩
 |[],v::vs,cells,cells',us,zs,h,hv,hz=>by simp[Gz] at h
 |f::ks,[],cells,cells',us,zs,h,hv,hz=>by simp[Gz] at h
 | f::ks,v::vs,cells,cells',us,zs,h,hv,hz=>by
   obtain⟨u,r,rfl,hu,hv⟩:=hv;simp only[Gz] at h;split at h
   ·rename_i off j hf;split at h
    ·rename_i cs hcs;split at h
     ·rename_i hl;have hl:=Nat.eq_of_beq_eq_true hl;split at h
      ·rename_i c2 hc2;obtain⟨fs',fd,h1,h2,rfl,h4⟩:=l5 hT hf;rw[ht] at h1;simp only[Option.some.injEq,TypeDesc.struct.injEq] at h1;subst h1;have U1:=gD hcs hu;obtain⟨hle,hset⟩:=FC.gZ hz U1 hc2;have nD:u.cells.size=j.size:=by rw[←hl,←U1.length];simp
       simp only[List.zip_cons_cons,Instr.fill,hpl f fd j h2 h4];have X9:fd.offset+j.size≤zs.size:=by simp only[Array.length_toList] at hle;omega
       rw[if_neg (by simp[nD];omega)];have xN:(u.cells.zipIdx.foldl (fun cs (x:Value×Nat)=>cs.setIfInBounds (fd.offset+x.2) x.1) zs).toList=zs.toList.take fd.offset++u.cells.toList++zs.toList.drop (fd.offset+u.cells.toList.length):=by
        rw[←oN fd.offset u.cells.toList zs (by simpa using hle)];rw[←Array.foldl_toList,Array.toList_zipIdx]
       exact xM hT ht hpl ks vs c2 cells' r _ h hv (by rw[xN];exact hset)
      cases h
     cases h
    cases h
   cases h
theorem wP {fs:List Field}{g:Field→Nat×Nat}(h:∀f∈fs,(sizeOf f.type).run P w=.ok (g f).2 w)(h1:∀f∈fs,(g f).1=f.offset) :
  (fs.mapM fun f=>(do pure (f.offset,←sizeOf f.type):Sem (Nat×Nat))).run P w=.ok (fs.map g) w:=by
 induction fs with
 |nil=>simp
 | cons f fs ih=>
   have:=ih (fun f hf=>h f (List.mem_cons_of_mem _ hf)) (fun f hf=>h1 f (List.mem_cons_of_mem _ hf));simp only[List.mapM_cons,Sem.run_bind,h f List.mem_cons_self,Result.andThen_ok,Sem.run_pure,this,List.map_cons];rw[←h1 f List.mem_cons_self]
theorem nE {N:Nat→Prop}{hp:List (Nat×av)}:∀{vs:List Value},vs.all (·.oneCell')=true→FC (ah N w hp R) (vs.map fun v=>.pv (.sc v)) vs
 |[],_=>rfl
 | v::vs,h=>by
   simp only[List.all_cons,Bool.and_eq_true] at h;exact⟨v,vs,rfl,h.1,by simp only[ah,aU],nE h.2⟩
theorem Ck (hT:bC P T){N:Nat→Prop}{hp:List (Nat×av)}{t:TypeId}{ks:List Nat}{vs:List AV}{us:List Value}{K:AV→Prop}(h:uG T t ks vs K)
  (hv:FL (ah N w hp R) vs us):∃y z,(Instr.build t (ks.zip us).toArray).run P w=.ok y w∧K z∧ah N w hp R z y:=by
 unfold uG at h;split at h;rotate_left;cases h
 rename_i i hi;have hi':=hT _ _ hi;obtain⟨d,hd,eH⟩:=hi'.eF;obtain⟨zv,hz1,hz2,hz3⟩:=hi'.mE w;split at h;rotate_left;cases h
 rename_i fl hfl;rw[hfl] at eH;cases d<;>simp[di] at eH
 rename_i fs;subst eH;split at h;rotate_left;cases h
 rename_i hfi;split at h;rotate_left;cases h
 rename_i z hz;have:=Cm hz;subst this;split at h;rotate_left;cases h
 rename_i cells hcells;split at h;rotate_left;cases h
 rename_i v hv';have hall:∀f∈fs.toList,∃j,bD P f.type j:=by
  have key:∀l:List Field,sF T (l.map fun f=>(f.offset,f.type))=true→∀f∈l,∃j,bD P f.type j:=by
   intro l;induction l with
   |nil=>intro _ f hf;cases hf
   | cons x l ih=>
     intro h f hf;simp only[List.map_cons,sF] at h;split at h
     ·rename_i j hj;rcases List.mem_cons.1 hf with rfl|hf
      ·exact⟨j,hT _ _ hj⟩
      exact ih h f hf
     cases h
  exact key _ hfi
 have hsz:∀f∈fs.toList,(sizeOf f.type).run P w=.ok (P.cellsOf f.type) w:=by
  intro f hf;obtain⟨j,hj⟩:=hall f hf;obtain⟨x,_,h1,_⟩:=hj.xK;simp[sizeOf,typeInfo,h1,Program.cellsOf]
 have hmap:=wP (g:=fun f=>(f.offset,P.cellsOf f.type)) hsz (fun _ _=>rfl);have hpl:∀(f:Nat) (fd:Field) (j:TI),fs[f]? = some fd→bD P fd.type j→((fs.map fun f=>(f.offset,P.cellsOf f.type))[f]? : Option (Nat×Nat))=some (fd.offset,j.size):=by
  intro f fd j h1 h2;obtain⟨x,_,h3,h4,_⟩:=h2.xK;simp[h1,Program.cellsOf,h3,h4]
 obtain⟨Kk,hf1,hf2⟩:=xM hT hd hpl ks vs _ cells us zv.cells hcells hv (by rw[hz2];exact nE hi'.Kl);refine⟨.agg Kk,v,?_,h,?_⟩
 ·have hm2:(fs.mapM fun f=>(do pure (f.offset,←sizeOf f.type):Sem (Nat×Nat))).run P w=.ok (fs.map fun f=>(f.offset,P.cellsOf f.type)) w:=by
   rw[Array.mapM_eq_mapM_toList,Sem.run_map,hmap];simp only[Result.andThen_ok];rw[←Array.toList_map,Array.toArray_toList]
  simp only[Instr.build,Sem.run_bind,hz1,Result.andThen_ok,run_underlying hd,hm2,hf1,Sem.run_pure]
 unfold sH at hv';split at hv'
 ·rename_i ps hps;simp only[Option.some.injEq] at hv';subst hv';simp only[ah,aU];exact⟨Kk,rfl,by rw[dX];exact mF hps hf2⟩
 simp only[Option.some.injEq] at hv';subst hv';simp only[ah];exact⟨Kk,rfl,by rw[aY];exact hf2⟩
end
theorem Jo {H:List (Nat×av)}:∀(bs:List Nat) (fs:List (Nat×av)),D7 H bs=some fs→∀b,(lk fs b).isSome=true→(lk H b).isSome=true
 |[],fs,h=>by simp only[D7,Option.some.injEq] at h;subst h;intro b hb;simp[lk] at hb
 | b0::bs,fs,h=>by
   simp only[D7] at h;split at h
   ·rename_i t ht;have ih:=Jo bs t ht;split at h
    ·simp only[Option.some.injEq] at h;subst h;exact ih
    have cons:∀(aV:av),(lk H b0).isSome=true→∀b,(lk ((b0,aV)::t) b).isSome=true→(lk H b).isSome=true:=by
     intro aV h0 b hb;rw[aj] at hb;split at hb
     ·rename_i e;rw[←e];exact h0
     exact ih b hb
    split at h
    ·rename_i hb;simp only[Option.some.injEq] at h;subst h;exact cons _ (by rw[hb];rfl)
    ·rename_i hb;split at h
     ·simp only[Option.some.injEq] at h;subst h;exact cons _ (by rw[hb];rfl)
     cases h
    ·simp only[Option.some.injEq] at h;subst h;exact ih
    ·simp only[Option.some.injEq] at h;subst h;exact ih
    ·cases h
    ·cases h
    ·cases h
    ·cases h
    cases h
   cases h
def Mw:Nat→List Nat→Bool
 |_,[]=>true
 | i,k::r=>match Nat.beq k i with
   |true=>Mw (i+1) r
   |false=>false
theorem Jp:∀{i:Nat} {ks:List Nat},Mw i ks=true→ks=List.range' i ks.length
 |i,[],_=>rfl
 | i,k::r,h=>by
   simp only[Mw] at h;split at h
   ·rename_i hk;have hk:=Nat.eq_of_beq_eq_true hk;subst hk;have:=Jp h;rw[List.length_cons,List.range'_succ,←this]
   cases h
def AO (i:TI):List PV→Option (List (List PV))
 |[]=>some []
 | p::r=>match jc i p with
   | some cs=>match Nat.beq cs.length i.size with
     | true=>match AO i r with
       |some t=>some (cs::t)
       |none=>none
     |false=>none
   |none=>none
def jd (T:Tab)(H:List (Nat×av))(t:TypeId)(len:Nat)(ks:List Nat)(vs:List AV)(id:Nat)(K:AV→List (Nat×av)→Prop):Prop:=
 match lk T t with
 | some i=>match i.d with
   | .slt e=>match lk T e with
     | some ei=>Rk ei fun lM DZ=>match Nat.beq lM 0,Mw 0 ks,Nat.beq ks.length len,Nat.ble (len*lM) 16777216 with
       | false,true,true,true=>match D5 H vs with
         | some ps=>match AO ei ps,D7 H (dx vs) with
           | some rows,some fs=>match Nat.beq rows.length len with
             |true=>K (.aG id 0) ((id,.arr e 0 lM rows)::fs)
             |false=>False
           |_,_=>False
         |none=>False
       |_,_,_,_=>False
     |none=>False
   |_=>False
 |none=>False
section
variable {P:Program}{T:Tab}{c:Ctx}{R:Real}{s:AS}{a:Act}{w:World}
theorem Rl {st:Nat}:∀(vs:List Value) (i0:Nat) (cells:Array Value),(∀v∈vs,v.cells.size=st)→(i0+vs.length)*st≤cells.size →
  ∃r,Instr.fill (fun i=>some (i*st,st)) cells ((List.range' i0 vs.length).zip vs)=some r ∧
   r.toList=cells.toList.take (i0*st)++(vs.map (·.cells.toList)).flatten++cells.toList.drop ((i0+vs.length)*st)
 |[],i0,cells,_,_=>⟨cells,rfl,by simp⟩
 | v::vs,i0,cells,hv,hle=>by
   have hvs:v.cells.size=st:=hv v List.mem_cons_self;have e1:(i0+(v::vs).length)*st=i0*st+st+vs.length*st:=by simp only[List.length_cons,Nat.add_mul,Nat.one_mul];omega
   have e2:(i0+1+vs.length)*st=i0*st+st+vs.length*st:=by simp only[Nat.add_mul,Nat.one_mul]
   have e3:(i0+1)*st=i0*st+st:=by simp only[Nat.add_mul,Nat.one_mul]
   rw[e1] at hle;have hl:v.cells.toList.length=st:=by simpa using hvs
   have xN:(v.cells.zipIdx.foldl (fun cs (x:Value×Nat)=>cs.setIfInBounds (i0*st+x.2) x.1) cells).toList=cells.toList.take (i0*st)++v.cells.toList++cells.toList.drop (i0*st+v.cells.toList.length):=by
    rw[←oN (i0*st) v.cells.toList cells (by omega)];rw[←Array.foldl_toList,Array.toList_zipIdx]
   generalize hcs:v.cells.zipIdx.foldl (fun cs (x:Value×Nat)=>cs.setIfInBounds (i0*st+x.2) x.1) cells=Z7 at xN;have hsz:Z7.size=cells.size:=by
    rw[←Array.length_toList,xN];simp only[List.length_append,List.length_take,List.length_drop,Array.length_toList,hvs];omega
   obtain⟨r,hr,hk⟩:=Rl vs (i0+1) Z7 (fun u hu=>hv u (List.mem_cons_of_mem _ hu)) (by rw[hsz,e2];exact hle);refine⟨r,?_,?_⟩
   ·simp only[List.length_cons,List.range'_succ,List.zip_cons_cons,Instr.fill,hvs];rw[if_neg (by simp;omega),←hr,hcs]
   have h0:(cells.toList.take (i0*st)).length=i0*st:=by simp;omega
   have h1:(cells.toList.take (i0*st)++v.cells.toList).length=i0*st+st:=by rw[List.length_append,h0,hl]
   rw[hk,e1,e2,e3,xN];have t1:List.take (i0*st+st) (cells.toList.take (i0*st)++v.cells.toList++cells.toList.drop (i0*st+v.cells.toList.length))=cells.toList.take (i0*st)++v.cells.toList:=by
    rw[List.take_left' h1]
   have t2:List.drop (i0*st+st+vs.length*st) (cells.toList.take (i0*st)++v.cells.toList++cells.toList.drop (i0*st+v.cells.toList.length))=cells.toList.drop (i0*st+st+vs.length*st):=by
    rw[←List.drop_drop,List.drop_left' h1,List.drop_drop,hl]
   rw[t1,t2];simp
theorem vF {N:Nat→Prop}{i:TI}:∀{ps:List PV} {rows:List (List PV)} {us:List Value},AO i ps=some rows→FL (aU N w) ps us →
  rows.length=ps.length∧(∀v∈us,v.cells.size=i.size)∧bf N w i.size rows (us.map (·.cells.toList)).flatten
 | [],rows,us,h,hu=>by
   simp only[AO,Option.some.injEq] at h;subst h;simp only[FL] at hu;subst hu;exact⟨rfl,by simp,by simp[bf]⟩
 | p::ps,rows,us,h,hu=>by
   obtain⟨v,r,rfl,hv,hu⟩:=hu;simp only[AO] at h;split at h
   ·rename_i cs hcs;split at h
    ·rename_i hl;have hl:=Nat.eq_of_beq_eq_true hl;split at h
     ·rename_i t ht;simp only[Option.some.injEq] at h;subst h;obtain⟨a1,a2,a3⟩:=vF ht hu;have hc:=oO hcs hv;have hvs:v.cells.size=i.size:=by rw[←hl,←hc.length];simp
      refine⟨by simp[a1],fun u hu=>?_,?_⟩
      ·rcases List.mem_cons.1 hu with rfl|hu
       ·exact hvs
       exact a2 u hu
      simp only[List.map_cons,List.flatten_cons];refine⟨hl,by rw[bM];exact hc.fp.app _,?_⟩;rw[List.drop_left' (by simpa using hvs)];exact a3
     cases h
    cases h
   cases h
theorem kJ (g:aR c R s a w)(hT:bC P T){H:List (Nat×av)}(hH:∀b box,lk H b=some box→lk s.hp b=some box){id:Nat}(hf:lk s.hp id=none)
  {t:TypeId} {len:Nat} {ks:List Nat} {vs:List AV} {us:List Value} {K:AV→List (Nat×av)→Prop} (h:jd T H t len ks vs id K) (hv:FL (ah (aH c R s.hp) w s.hp R) vs us) :
  ∃y w' R' z ws,(Instr.buildSlice t len (ks.zip us).toArray).run P w=.ok y w'∧K z ws∧aR c R' (s.app ws) a w'∧ah (aH c R' (ws++s.hp)) w' (ws++s.hp) R' z y:=by
 unfold jd at h;simp only[bW] at h;split at h;rotate_left;cases h
 rename_i i hi;obtain⟨d,hd,eH⟩:=(hT t i hi).eF;split at h;rotate_left;cases h
 rename_i e hte;have ht:P.underlying t=some (.slice e):=by
  rw[hte] at eH;cases d<;>simp[di] at eH
  subst eH;exact hd
 split at h;rotate_left;cases h
 rename_i ei lJ;have fH:=hT _ _ lJ;obtain⟨zv,hz1,hz2,hz3⟩:=fH.mE w;split at h;rotate_left;cases h
 rename_i hs0 hks hkl U2;have hs0:=Nat.ne_of_beq_eq_false hs0;have hks:=Jp hks;have hkl:=Nat.eq_of_beq_eq_true hkl;have U2:=Nat.le_of_ble_eq_true U2;split at h;rotate_left;cases h
 rename_i ps hps;split at h;rotate_left;cases h
 rename_i rows fs hrows hfs;split at h;rotate_left;cases h
 rename_i hrl;have hrl:=Nat.eq_of_beq_eq_true hrl;obtain⟨g1,m1,n1,o1⟩:=iR g hH _ _ hfs;have l6:=fT g hH n1 vs ps us (fun b hb=>o1 b (.inr hb)) hps (by rw[bZ];exact hv);rw[iF] at l6;obtain⟨q1,q2,q3⟩:=vF hrows l6;have XD:us.length=len:=by rw[l6.length,←q1,hrl]
 have hcz:((Array.range (len*ei.size)).map fun x=>(if len*ei.size=0 then (#[]:Array Value) else zv.cells)[x%(if len*ei.size=0 then (#[]:Array Value) else zv.cells).size]!).size=len*ei.size:=by simp
 obtain⟨r,hr1,hr2⟩:=Rl us 0 ((Array.range (len*ei.size)).map fun x=>(if len*ei.size=0 then (#[]:Array Value) else zv.cells)[x%(if len*ei.size=0 then (#[]:Array Value) else zv.cells).size]!) q2 (by rw[hcz,XD];simp);have hr3:r.toList=(us.map (·.cells.toList)).flatten:=by
  rw[hr2,XD];simp only[Nat.zero_mul,List.take_zero,List.nil_append,Nat.zero_add];rw[List.drop_eq_nil_of_le (by simp),List.append_nil]
 have UB:lk (s.app fs).hp id=none:=by
  show lk (fs++s.hp) id=none
  rw[dS];cases hx:lk fs id with
  |none=>exact hf
  | some b=>
    have:=Jo _ _ hfs id (by rw[hx];rfl);cases hy:lk H id with
    |none=>rw[hy] at this;cases this
    |some box=>rw[hH _ _ hy] at hf;cases hf
 have hq3:bf (aH c R (s.app fs).hp) w ei.size rows r.toList:=by rw[hr3];exact q3
 obtain⟨t1,t2,t3⟩:=dR hq3;have U3:r.toList.length=len*ei.size:=by
  rw[hr3];have:∀us:List Value,(∀v∈us,v.cells.size=ei.size)→(us.map (·.cells.toList)).flatten.length=us.length*ei.size:=by
   intro us;induction us with
   |nil=>intro _;simp
   | cons v us ih=>
     intro h;have:=ih fun u hu=>h u (List.mem_cons_of_mem _ hu)
     simp only[List.map_cons,List.flatten_cons,List.length_append,this,Array.length_toList,h v List.mem_cons_self,List.length_cons,Nat.add_mul];omega
  rw[this us q2,XD]
 have hlm:len≤maxLen:=by
  have:len≤len*ei.size:=Nat.le_mul_of_pos_right _ (Nat.pos_of_ne_zero hs0);unfold maxLen;omega
 obtain⟨R',g2,r2⟩:=g1.Mx (e:=e) (st:=ei.size) (rows:=rows) (w':={ w with heap:=w.heap.push (.cells r e) }) (cur:=r) (cap:=len) UB ⟨rfl,rfl,rfl,rfl⟩ (by omega) hlm
  (by rw[←Array.length_toList];exact U3) hq3
 refine⟨.slice (some ⟨w.heap.size,0,none⟩) len len,_,R',_,_,?_,h,g2,by rw[hrl] at r2;exact r2⟩;rw[XD,←hkl,←hks,hkl] at hr1;have qZ:¬len*ei.size>2 ^ 24:=by omega
 by_cases hz:len*ei.size=0
 ·simp only[if_pos hz] at hr1;simp only[Instr.buildSlice,Sem.run_bind,run_underlying ht,Result.andThen_ok,fH.run_sizeOf,if_neg qZ,if_pos hz,Sem.run_pure,hr1,newRow,run_newObj]
 simp only[if_neg hz] at hr1;simp only[Instr.buildSlice,Sem.run_bind,run_underlying ht,Result.andThen_ok,fH.run_sizeOf,if_neg qZ,if_neg hz,hz1,Sem.run_pure,hr1,newRow,run_newObj]
end
def oP (T:Tab)(t:TypeId)(vs:List AV)(id:Nat)(K:AV→List (Nat×av)→Prop):Prop:=
 match vs with
 | [.pv (.sc (.int _ l)),.pv (.sc (.int _ n))]=>match lk T t with
   | some i=>match i.d with
     | .slt e=>match lk T e with
       | some ei=>Rk ei fun lM DZ=>match Nat.beq lM 0,UC ei.zero with
         |false,some z=>0≤l∧l≤n∧n≤9223372036854775807∧(DZ:Int)*n≤281474976710656∧K (.aG id 0) [(id,.arr e 0 lM (List.replicate l.toNat z))]
         |_,_=>False
       |none=>False
     |_=>False
   |none=>False
 |_=>False
def uH (T:Tab)(t:TypeId)(id:Nat)(K:AV→List (Nat×av)→Prop):Prop:=
 match lk T t with
 | some i=>match Sm i.zero with
   |some z=>K (.ptr id 0) [(id,.var z)]
   |none=>False
 |none=>False
def Km (T:Tab)(t:TypeId)(x:AV)(id:Nat)(K:AV→List (Nat×av)→Prop):Prop:=
 match lk T t with
 | some i=>match cellsOf i x with
   |some cs=>K (.ptr id 0) [(id,.var cs)]
   |none=>False
 |none=>False
def l7 (T:Tab)(H:List (Nat×av))(src dst:TypeId)(x:AV)(K:AV→List (Nat×av)→Prop):Prop:=
 match lk T dst with
 | some dt=>match dt.d with
   | .slt e=>match lk T src,lk T e with
     | some si,some ei=>match si.d,ei.d with
       | .D9,.q8 .u8=>match x with
         |.pv (.sc (.string str))=>str.size≤140737488355328∧K (.pv (.sl false 1 (str.data.toList.map aB))) []
         |_=>False
       |_,_=>False
     |_,_=>False
   |_=>oQ T H src dst x fun v=>K v []
 |none=>False
def jG (T:Tab)(H:List (Nat×av))(t:TypeId)(lo hi mx:Option Operand)(vs:List AV)(K:AV→List (Nat×av)→Prop):Prop:=
 match vs with
 | .aG b ver::r=>match oJ (lk H b) ver,D7 H [b] with
   |some p,some fs=>kK T t lo hi mx (.pv p::r) fun v=>K v fs
   |_,_=>False
 |_=>kK T t lo hi mx vs fun v=>K v []
def PG (mx:Bool)(vs:List AV)(K:AV→Prop):Prop:=
 match vs with
 | [.pv (.sc (.int k a)),.pv (.sc (.int j b))]=>match decide (k=j) with
   | true=>match mx with
     |true=>K (.pv (.sc (.int k (if b>a then b else a))))
     |false=>K (.pv (.sc (.int k (if b<a then b else a))))
   |false=>False
 |_=>False
def AP (P:Program)(H:List (Nat×av))(vs:List AV)(K:AV→List (Nat×av)→Prop):Prop:=
 match vs with
 | .pv (.fn (.func f) first aT)::args=>match D5 H args with
   | some ps=>∃r,dH P f (first++(ps++aT)) r∧match wQ r with
     |true=>K (.pv r) []
     | false=>match D7 H (dx args) with
       |some fs=>K (.pv r) fs
       |none=>False
   |none=>False
 |_=>False
section
variable {P:Program}{T:Tab}{c:Ctx}{R:Real}{s:AS}{a:Act}{w:World}
theorem FL.imp {α:Type}{Q Q':α→Value→Prop}:∀{l:List α} {m:List Value},FL Q l m→(∀p v,Q p v→Q' p v)→FL Q' l m
 |[],_,h,_=>h
 |p::ps,m,h,hi=>by obtain⟨v,r,e,h1,h2⟩:=h;exact⟨v,r,e,hi _ _ h1,h2.imp hi⟩
theorem xO {N:Nat→Prop}{st:Nat}{z:List PV}{zs:List Value}(hz:FC (aU N w) z zs)(hst:z.length=st):∀(n:Nat) (L:List Value),
  n*st≤L.length→(∀j,j<n*st→L[j]? = zs[j%st]?)→bf N w st (List.replicate n z) L
 |0,L,_,_=>by simp[bf]
 | n+1,L,hl,h=>by
   have e:(n+1)*st=st+n*st:=by rw[Nat.add_mul];omega
   rw[e] at hl h;have hzl:=hz.length;have ht:L.take st=zs:=by
    apply List.ext_getElem?;intro j;rw[List.getElem?_take];by_cases hj:j<st
    ·rw[if_pos hj,h j (by omega),Nat.mod_eq_of_lt hj]
    rw[if_neg hj];exact (List.getElem?_eq_none (by omega)).symm
   rw[List.replicate_succ];refine⟨hst,?_,xO hz hst n (L.drop st) (by simp;omega) fun j hj=>?_⟩
   ·rw[bM];have:=hz.fp.app (L.drop st);rw[←ht,List.take_append_drop] at this;exact this
   rw[List.getElem?_drop,h (st+j) (by omega),Nat.add_mod_left]
theorem xP {N:Nat→Prop}:∀{vs:List Value},vs.all (·.oneCell')=true→FC (aU N w) (vs.map .sc) vs
 |[],_=>rfl
 | v::vs,h=>by
   simp only[List.all_cons,Bool.and_eq_true] at h;exact⟨v,vs,rfl,h.1,by simp only[aU],xP h.2⟩
theorem Ea (g:aR c R s a w)(hT:bC P T){id:Nat}(hf:lk s.hp id=none){t:TypeId}{x y:AV}{u v:Value}{K:AV→List (Nat×av)→Prop}
  (h:oP T t [x,y] id K) (hx:ah (aH c R s.hp) w s.hp R x u) (hy:ah (aH c R s.hp) w s.hp R y v) :
  ∃z w' R' q ws,(Instr.makeSlice t u v).run P w=.ok z w'∧K q ws∧aR c R' (s.app ws) a w'∧ah (aH c R' (ws++s.hp)) w' (ws++s.hp) R' q z:=by
 unfold oP at h;simp only[bW] at h;split at h;rotate_left;cases h
 rename_i _ k l j n heq;simp only[List.cons.injEq,and_true] at heq;obtain⟨rfl,rfl⟩:=heq;simp only[ah,aU] at hx hy;subst hx;subst hy;split at h;rotate_left;cases h
 rename_i i hi;obtain⟨d,hd,eH⟩:=(hT t i hi).eF;split at h;rotate_left;cases h
 rename_i e hte;have ht:P.underlying t=some (.slice e):=by
  rw[hte] at eH;cases d<;>simp[di] at eH
  subst eH;exact hd
 split at h;rotate_left;cases h
 rename_i ei lJ;have fH:=hT _ _ lJ;obtain⟨ti,zv,hinfo,hsz,hby,hzero,hzc⟩:=fH.xK;have Mr:zv.cells.size=ei.size:=by have:=fH.Ms;rw[←hzc] at this;simpa using this
 split at h;rotate_left;cases h
 rename_i z hs0 hz;have hs0:=Nat.ne_of_beq_eq_false hs0;have:=GA hz;subst this;obtain⟨h0,h1,h63,hb,hK⟩:=h;have hrun:=run_make (P:=P) w t e ti zv ht hinfo hzero k j l n h0 h1 (by rw[hby];exact hb) h63;have hle:(List.replicate l.toNat (ei.zero.map PV.sc)).length≤n.toNat:=by simp;omega
 have Mt:bf (aH c R s.hp) w ei.size (List.replicate l.toNat (ei.zero.map PV.sc)) (madeCells zv.cells (n.toNat*ti.size)).toList:=by
  refine xO (xP fH.Kl) (by simpa using fH.Ms) _ _ ?_ fun j hj=>?_
  ·rw[Array.length_toList,size_madeCells,hsz];exact Nat.mul_le_mul_right _ (by omega)
  have hj2:j<n.toNat*ei.size:=Nat.lt_of_lt_of_le hj (Nat.mul_le_mul_right _ (by omega));rw[hsz];have hlt:j%zv.cells.size<zv.cells.size:=Nat.mod_lt _ (by rw[Mr];exact Nat.pos_of_ne_zero hs0);have hmc:(madeCells zv.cells (n.toNat*ei.size))[j]? = some (zv.cells[j%zv.cells.size]!):=by
   simp[madeCells,hj2]
  rw[Array.getElem?_toList,hmc,getElem!_pos zv.cells _ hlt,←hzc,Array.getElem?_toList,←Mr];exact (Array.getElem?_eq_getElem hlt).symm
 obtain⟨R',g2,r2⟩:=g.Mx (e:=e) (st:=ei.size) (w':=w.alloc (.cells (madeCells zv.cells (n.toNat*ti.size)) e)) (cap:=n.toNat) hf ⟨rfl,rfl,rfl,rfl⟩ hle (by unfold maxLen;omega)
  (by rw[size_madeCells,hsz]) Mt
 rw[List.length_replicate] at r2;exact⟨_,_,R',_,_,hrun,hK,g2,r2⟩
theorem Cn (g:aR c R s a w)(hT:bC P T){id:Nat}(hf:lk s.hp id=none){t:TypeId}{K:AV→List (Nat×av)→Prop}(h:uH T t id K) :
  ∃z w' R' q ws,(Instr.alloc t true (.tuple #[])).run P w=.ok z w'∧K q ws∧aR c R' (s.app ws) a w'∧ah (aH c R' (ws++s.hp)) w' (ws++s.hp) R' q z:=by
 unfold uH at h;split at h;rotate_left;cases h
 rename_i i hi;have hi':=hT _ _ hi;obtain⟨zv,hz1,hz2,hz3⟩:=hi'.mE w;split at h;rotate_left;cases h
 rename_i z hz;have:=Cm hz;subst this;obtain⟨R',g2,r2⟩:=g.newVar hf (cells:=i.zero.map fun v=>.pv (.sc v)) (vs:=zv.cells) (t:=t) (by rw[hz2];exact nE hi'.Kl);refine⟨_,_,R',_,_,?_,h,g2,r2⟩;simp[Instr.alloc,hz1,newVar,newRow]
theorem GD (g:aR c R s a w)(hT:bC P T){id:Nat}(hf:lk s.hp id=none){t:TypeId}{x:AV}{u:Value}{K:AV→List (Nat×av)→Prop}(h:Km T t x id K)
  (hx:ah (aH c R s.hp) w s.hp R x u) :
  ∃z w' R' q ws,(Instr.box t u).run P w=.ok z w'∧K q ws∧aR c R' (s.app ws) a w'∧ah (aH c R' (ws++s.hp)) w' (ws++s.hp) R' q z:=by
 unfold Km at h;split at h;rotate_left;cases h
 split at h;rotate_left;cases h
 rename_i cs hcs;obtain⟨R',g2,r2⟩:=g.newVar hf (vs:=u.cells) (t:=t) (gD hcs hx);refine⟨_,_,R',_,_,?_,h,g2,r2⟩;simp[Instr.box,newVar,newRow]
theorem AQ {N:Nat→Prop}{hp:List (Nat×av)}{mx:Bool}{x y:AV}{u v:Value}{K:AV→Prop}(h:PG mx [x,y] K)(hx:ah N w hp R x u)(hy:ah N w hp R y v)(ts:Array TypeId)(ty:TypeId) :
  ∃z q,(if mx then Builtin.max_ ts ty #[u,v] else Builtin.min_ ts ty #[u,v]).run P w=.ok z w∧K q∧ah N w hp R q z:=by
 unfold PG at h;split at h;rotate_left;cases h
 rename_i _ k a j b heq;simp only[List.cons.injEq,and_true] at heq;obtain⟨rfl,rfl⟩:=heq;simp only[ah,aU] at hx hy;subst hx;subst hy;split at h;rotate_left;cases h
 rename_i hk;have hk:=of_decide_eq_true hk;subst hk;split at h
 ·exact⟨.int k (if b>a then b else a),_,by simp[Builtin.max_,Builtin.max2],h,by simp only[ah,aU]⟩
 exact⟨.int k (if b<a then b else a),_,by simp[Builtin.min_,Builtin.min2],h,by simp only[ah,aU]⟩
theorem Eb {α:Type}(a:Array α)(x:α)(f:α→α):(a.push x).modify a.size f=a.push (f x):=by
 apply Array.ext_getElem?;intro i;simp only[Array.getElem?_modify,Array.getElem?_push];by_cases h:a.size=i
 ·subst h;simp
 rw[if_neg h,if_neg (fun e=>h e.symm),if_neg (fun e=>h e.symm)]
theorem sI (e:TypeId)(str:ByteArray):∃cap w',(str.size≤cap∧(str.size≤140737488355328→cap≤9223372036854775807))∧(Conv.stringToBytes e str).run P w=.ok (.slice (some ⟨w.heap.size,0,none⟩) str.size cap) w' ∧
  ∃cur fr,w'.heap=w.heap.push (.cells cur e fr)∧cur.toList.take str.size=(str.data.toList.map fun b=>Value.int .u8 b.toNat)∧w'.os=w.os∧w'.tape=w.tape∧w'.output=w.output:=by
 generalize hX:(str.data.map (fun b=>Value.int .u8 b.toNat)++Array.replicate (grownCap w str.size 0 e-str.size) (Value.int .u8 0))=X;refine⟨grownCap w str.size 0 e,(w.drew.alloc (.cells X e)).freeze ⟨w.heap.size,X.size,none⟩ 1,⟨grownCap_ge w str.size 0 e,fun hb=>by have:=grownCap_le_maxLen w str.size 0 e (by unfold maxLen;omega);unfold maxLen at this;omega⟩,?_,X,(X.size,X.size+1),?_,?_,?_,?_,?_⟩
 ·simp only[Conv.stringToBytes,Sem.run_bind,run_choose,Question.forced,Bool.false_eq_true,if_false,Result.andThen_ok,newRow,run_newObj,Sem.run_pure,markStringish,run_shape];simp only[World.shape?,Array.getElem?_push_size,Result.andThen_ok,run_freeze,Sem.run_pure];rw[←hX];rfl
 ·unfold World.freeze;rw[if_neg (by decide)];have e1:(w.drew.alloc (Obj.cells X e)).heap=w.heap.push (Obj.cells X e):=rfl;simp only[e1];rw[Eb];simp
 ·rw[←hX];simp only[Array.toList_append,Array.toList_map];exact List.take_left' (by simp)
 ·rfl
 ·rfl
 rfl
theorem xQ {N:Nat→Prop}:∀(bs:List UInt8) (r:List Value),bf N w 1 (bs.map aB) (bs.map (fun b=>Value.int .u8 b.toNat)++r)
 |[],r=>trivial
 |b::bs,r=>⟨rfl,⟨_,_,rfl,rfl,rfl,trivial⟩,by simpa using xQ bs r⟩
theorem nG (g:aR c R s a w)(hT:bC P T){H:List (Nat×av)}(hH:∀b box,lk H b=some box→lk s.hp b=some box){src dst:TypeId}{x:AV}{K:AV→List (Nat×av)→Prop}
  (h:l7 T H src dst x K) {u:Value} (hx:ah (aH c R s.hp) w s.hp R x u) :
  ∃z w' R' q ws,(convert src dst u).run P w=.ok z w'∧K q ws∧aR c R' (s.app ws) a w'∧ah (aH c R' (ws++s.hp)) w' (ws++s.hp) R' q z:=by
 unfold l7 at h;split at h;rotate_left;cases h
 rename_i dt hdt;split at h
 ·rename_i e hde;split at h;rotate_left;cases h
  rename_i si ei hsi lJ;split at h;rotate_left;cases h
  rename_i hss hes;split at h;rotate_left;cases h
  rename_i str;simp only[ah,aU] at hx;subst hx;obtain⟨hsb,h⟩:=h;obtain⟨d1,hd1,e1⟩:=(hT _ _ hsi).eF;obtain⟨d2,hd2,e2⟩:=(hT _ _ hdt).eF;obtain⟨d3,U4,e3⟩:=(hT _ _ lJ).eF;have q1:P.underlying src=some .string:=by rw[hss] at e1;cases d1<;>simp[di] at e1;exact hd1
  have q2:P.underlying dst=some (.slice e):=by rw[hde] at e2;cases d2<;>simp[di] at e2;subst e2;exact hd2
  have q3:P.underlying e=some (.int .u8):=by rw[hes] at e3;cases d3<;>simp[di] at e3;subst e3;exact U4
  obtain⟨cap,w',⟨hcap,hcm⟩,hrun,cur,fr,xR,Sn,ho,ht,hu⟩:=sI (P:=P) (w:=w) e str;have hcm:=hcm hsb;have hev:iZ (fun _=>False) w w':=by
   refine⟨by rw[xR];simp,fun r hr _=>?_,ho,ht,hu⟩;rw[xR,Array.getElem?_push];simp[Nat.ne_of_lt hr]
  refine⟨.slice (some ⟨w.heap.size,0,none⟩) str.size cap,w',R,_,[],?_,h,g.grow hev,?_⟩
  ·simp only[convert,Sem.run_bind,run_underlying q1,run_underlying q2,run_underlying q3,Result.andThen_ok];exact hrun
  simp only[ah,aU];refine⟨_,_,cap,rfl,by simp,⟨by omega,hcm⟩,fun e=>(by cases e),fun ad ha=>?_⟩;simp only[Option.some.injEq] at ha;subst ha;refine .inr ⟨rfl,fun hn=>?_,cur,e,fr,by rw[xR];simp,?_⟩
  ·have:=g.UD hn;simp at this
  have:=xQ (w:=w') (N:=aH c R s.hp) str.data.toList (cur.toList.drop str.size);rw[←Sn,List.take_append_drop] at this;simpa using this
 obtain⟨y,z,h1,h2,h3⟩:=Ec g hT hH h hx;exact⟨y,w,R,z,[],h1,h2,g,h3⟩
theorem zU (g:aR c R s a w)(hT:bC P T){H:List (Nat×av)}(hH:∀b box,lk H b=some box→lk s.hp b=some box){t:TypeId}{x0:Operand}{lo hi mx:Option Operand}{vs:List AV}
  {K:AV→List (Nat×av)→Prop} (h:jG T H t lo hi mx vs K)
  (hv:FL (ah (aH c R s.hp) w s.hp R) vs ((x0::(lo.toList++(hi.toList++mx.toList))).map a.eval)) :
  ∃y z ws,(Instr.sliceAt t (a.eval x0) (lo.map a.eval) (hi.map a.eval) (mx.map a.eval)).run P w=.ok y w∧K z ws∧aR c R (s.app ws) a w∧ah (aH c R (ws++s.hp)) w (ws++s.hp) R z y:=by
 unfold jG at h;split at h
 ·rename_i b ver r;split at h;rotate_left;cases h
  rename_i p fs hp' hfs;obtain⟨g1,m1,n1,o1⟩:=iR g hH _ _ hfs;simp only[List.map_cons] at hv;obtain⟨u,r',e1,hx,hv⟩:=hv;have hp2:aU (aH c R (fs++s.hp)) w p u:=by
   refine mG g hH n1 (.aG b ver) p u (fun b' hb'=>o1 b' (.inr (by simpa[refs] using hb'))) ?_ hx;simpa[vw] using hp'
  have hv2:FL (ah (aH c R (s.app fs).hp) w (s.app fs).hp R) (.pv p::r) ((x0::(lo.toList++(hi.toList++mx.toList))).map a.eval):=by
   simp only[List.map_cons,e1];exact⟨u,r',rfl,(by simp only[ah];exact hp2),hv.imp m1⟩
  obtain⟨y,z,h1,h2,h3⟩:=sJ g1 hT h hv2;exact⟨y,z,fs,h1,h2,g1,h3⟩
 obtain⟨y,z,h1,h2,h3⟩:=sJ g hT h hv;exact⟨y,z,[],h1,h2,g,h3⟩
mutual
theorem sK {N N':Nat→Prop}{w w':World}:∀(p:PV) (v:Value),wQ p=true→aU N w p v→aU N' w' p v
 |.sc x,v,_,h=>by simpa only[aU] using h
 | .agg cs,v,hs,h=>by
   simp only[aU] at h ⊢;obtain⟨vs,e,h⟩:=h;exact⟨vs,e,xS cs _ (by simpa[wQ] using hs) h⟩
 | .fF cs,v,hs,h=>by
   simp only[aU] at h ⊢;obtain⟨vs,e,h⟩:=h;exact⟨vs,e,xU cs _ (by simpa[wQ] using hs) h⟩
 |.sl _ _ _,v,hs,h=>by simp[wQ] at hs
 |.bT _ _,v,hs,h=>by simp[wQ] at hs
 |.fn _ _ _,v,hs,h=>by simp[wQ] at hs
 |.junk,v,hs,h=>by simp only[aU]
 |.Gw _ _,v,hs,h=>by simp[wQ] at hs
theorem xS {N N':Nat→Prop}{w w':World}:∀(ps:List PV) (vs:List Value),xV ps=true→fG N w ps vs→fG N' w' ps vs
 |[],vs,_,h=>by simpa only[fG] using h
 | p::ps,vs,hs,h=>by
   simp only[xV] at hs;split at hs
   ·rename_i hp;simp only[fG] at h ⊢;obtain⟨v,r,e,h0,h1,h2⟩:=h;exact⟨v,r,e,h0,sK p v hp h1,xS ps r hs h2⟩
   cases hs
theorem xU {N N':Nat→Prop}{w w':World}:∀(ps:List PV) (vs:List Value),xV ps=true→cZ N w ps vs→cZ N' w' ps vs
 |[],vs,_,h=>by simpa only[cZ] using h
 | p::ps,vs,hs,h=>by
   simp only[xV] at hs;split at hs
   ·rename_i hp;simp only[cZ] at h ⊢;obtain⟨v,r,e,h1,h2⟩:=h;exact⟨v,r,e,sK p v hp h1,xU ps r hs h2⟩
   cases hs
end
theorem Ed (g:aR c R s a w){H:List (Nat×av)}(hH:∀b box,lk H b=some box→lk s.hp b=some box){fv:AV}{args:List AV}{K:AV→List (Nat×av)→Prop}(h:AP P H (fv::args) K)
  {u:Value} {us:List Value} (hf:ah (aH c R s.hp) w s.hp R fv u) (hv:FL (ah (aH c R s.hp) w s.hp R) args us) :
  ∃f first aT,u=.func (.func f) first aT∧Enters P f∧Calls P f (first++us.toArray++aT) w fun e w'=>∃v z ws,e=.returned v∧K z ws∧aR c R (s.app ws) a w'∧ah (aH c R (ws++s.hp)) w' (ws++s.hp) R z v:=by
 unfold AP at h;split at h;rotate_left;cases h
 rename_i f first aT Z8 heq
 simp only[List.cons.injEq] at heq;obtain⟨rfl,rfl⟩:=heq;split at h;rotate_left;cases h
 rename_i ps hps;obtain⟨r,hpc,h⟩:=h;simp only[ah,aU] at hf;obtain⟨fs,cs,rfl,hf1,hf2⟩:=hf;refine⟨f,fs,cs,rfl,hpc.1,?_⟩;let F:Nat→Prop:=fun r=>aH c R s.hp r∧¬∃b,b∈dx args∧ax R b r (lk s.hp b)
 have Z9:∀r,F r→aH c R s.hp r:=fun r h=>h.1
 have l6:cZ F w ps us:=by
  refine fT g hH Z9 args ps us (fun b hb r ho hF=>hF.2 ⟨b,hb,ho⟩) hps ?_;rw[bZ];exact hv
 have hargs:cZ F w (first++(ps++aT)) (fs++us.toArray++cs).toList:=by
  rw[iF] at l6 hf1 hf2 ⊢;have mono:∀{l:List PV} {m:List Value},FL (aU (aH c R s.hp) w) l m→FL (aU F w) l m:=by
   intro l;induction l with
   |nil=>intro m h;exact h
   |cons x l ih=>intro m h;obtain⟨v,r,e,h1,h2⟩:=h;exact⟨v,r,e,bN (fun r _ h=>Z9 r h) (fun _ _ _=>rfl) _ _ h1,ih h2⟩
  have e:(fs++us.toArray++cs).toList=fs.toList++(us++cs.toList):=by simp
  rw[e];exact (mono hf1).app (l6.app (mono hf2))
 refine (hpc.2 F w _ (fun r h=>g.UD h.1) hargs).mono ?_;rintro e w' ⟨v,r',rfl,rfl,hr,hsame⟩
 have g2:=g.grow hsame;split at h
 ·rename_i hs;refine⟨v,_,[],rfl,h,g2,?_⟩;simp only[ah];exact sK _ _ hs hr
 split at h
 ·rename_i fz hfz;obtain⟨g3,m1,n1,o1⟩:=iR g2 hH _ _ hfz;refine⟨v,_,fz,rfl,h,g3,?_⟩;simp only[ah];refine bN ?_ (fun _ _ _=>rfl) _ _ hr;intro r _ hN;exact⟨n1 r hN,fun⟨b,hb,ho⟩=>o1 b (.inr hb) r ho hN⟩
 exact h.elim
end
abbrev Ren:=List (Nat×(Nat×Nat))
def gy (ρ:Ren)(b:Nat):Nat:=
 match lk ρ b with
 | some p=>match p with
   |(x,_)=>x
 |none=>b+2000000000
def wS (ρ:Ren)(b:Nat):Nat:=
 match lk ρ b with
 | some p=>match p with
   |(_,d)=>d
 |none=>0
section
variable (ρ:Ren)
mutual
def je:AV→AV
 |.pv p=>.pv p
 |.agg cs=>.agg (fP cs)
 |.fF cs=>.fF (fP cs)
 |.ptr b off=>.ptr (gy ρ b) off
 |.cB b ver i off=>.cB (gy ρ b) (ver+wS ρ b) i off
 |.aG b ver=>.aG (gy ρ b) (ver+wS ρ b)
 |.sub b ver st lo hi=>.sub (gy ρ b) (ver+wS ρ b) st lo hi
 |.fn f first aT=>.fn f (fP first) (fP aT)
def fP:List AV→List AV
 |[]=>[]
 |v::r=>je v::fP r
end
def dI (b:Nat):av→av
 |.var cells=>.var (fP ρ cells)
 |.ny cells=>.ny cells
 |.arr e ver st rows=>.arr e (ver+wS ρ b) st rows
 |.bX ver st rows=>.bX (ver+wS ρ b) st rows
 |.tr y ver rest st=>.tr y (ver+wS ρ b) rest st
 |.dL e ver st pre row post=>.dL e (ver+wS ρ b) st pre (fP ρ row) post
 |.mp kk kv es=>.mp kk kv es
 |.bR e ver st j ed sd pre row post=>.bR e (ver+wS ρ b) st j ed sd pre (fP ρ row) post
end
theorem qj (ρ:Ren):∀(vs:List AV),(fP ρ vs).length=vs.length
 |[]=>rfl
 |v::r=>by simp[fP,qj ρ r]
theorem Ta (ρ:Ren)(vs:List AV):bJ (fP ρ vs)=bJ vs:=sj (qj ρ vs)
theorem uO {R R':Real}{b b' n:Nat}(h1:R'.blk b'=R.blk b)(h2:R'.nil b'=R.nil b)(h3:R'.cap b'=R.cap b):bA R' b' n=bA R b n:=by
 simp only[bA,h1,h2,h3]
section
variable {ρ:Ren}{N:Nat→Prop}{w:World}{dY hp:List (Nat×av)}{R0 R:Real}
variable (h:∀b box,lk dY b=some box→lk hp (gy ρ b)=some (dI ρ b box)∧R.blk (gy ρ b)=R0.blk b∧R.nil (gy ρ b)=R0.nil b∧R.cap (gy ρ b)=R0.cap b)
include h
theorem Ic {b off:Nat}{x:Value}(hx:aI R0 b off x (lk dY b)):aI R (gy ρ b) off x (lk hp (gy ρ b)):=by
 cases hb:lk dY b with
 |none=>rw[hb] at hx;exact hx.elim
 | some box=>
   obtain⟨e,e1,e2,e3⟩:=h b box hb;rw[hb] at hx;rw[e];cases box<;>simp only[aI,dI,e1] at hx ⊢ <;> exact hx
theorem Bb {b ver:Nat}{x:Value}(hx:aD R0 b ver x (lk dY b)):aD R (gy ρ b) (ver+wS ρ b) x (lk hp (gy ρ b)):=by
 cases hb:lk dY b with
 |none=>rw[hb] at hx;exact hx.elim
 | some box=>
   obtain⟨e,e1,e2,e3⟩:=h b box hb;rw[hb] at hx;rw[e];cases box<;>simp only[aD,dI,Ta,uO e1 e2 e3] at hx ⊢ <;> first
    |exact hx
    |exact⟨Nat.zero_le _,hx.2.1,hx.2.2⟩
    |exact⟨by omega,hx.2.1,fun he=>hx.2.2 (by omega)⟩
theorem K4 {b ver i off:Nat}{x:Value}(hx:aK R0 b ver i off x (lk dY b)):aK R (gy ρ b) (ver+wS ρ b) i off x (lk hp (gy ρ b)):=by
 cases hb:lk dY b with
 |none=>rw[hb] at hx;exact hx.elim
 | some box=>
   obtain⟨e,e1,e2,e3⟩:=h b box hb;rw[hb] at hx;rw[e];cases box<;>simp only[aK,dI,e1,e2] at hx ⊢ <;> first
    |exact hx
    |exact⟨Nat.zero_le _,hx.2.1,hx.2.2⟩
    |exact⟨by omega,hx.2.1,fun he=>hx.2.2 (by omega)⟩
mutual
theorem CU:∀(v:AV) (x:Value),ah N w dY R0 v x→ah N w hp R (je ρ v) x
 |.pv p,x=>by simp only[ah,je];exact id
 |.agg cs,x=>by simp only[ah,je];rintro⟨vs,a,b⟩;exact⟨vs,a,pF cs _ b⟩
 |.fF cs,x=>by simp only[ah,je];rintro⟨vs,a,b⟩;exact⟨vs,a,tq cs _ b⟩
 |.ptr b off,x=>by simp only[ah,je];exact Ic h
 |.aG b ver,x=>by simp only[ah,je];exact Bb h
 |.sub b ver st lo hi,x=>by simp only[ah,je];rintro⟨u,a,c⟩;exact⟨u,Bb h a,c⟩
 |.cB b ver i off,x=>by simp only[ah,je];exact K4 h
 | .fn f first aT,x=>by
   simp only[ah,je];rintro⟨fs,cs,a,b,c⟩;exact⟨fs,cs,a,tq _ _ b,tq _ _ c⟩
theorem tq:∀(vs:List AV) (xs:List Value),bB N w dY R0 vs xs→bB N w hp R (fP ρ vs) xs
 |[],xs=>by simp only[bB,fP];exact id
 |p::ps,xs=>by simp only[bB,fP];rintro⟨v,r,a,b,c⟩;exact⟨v,r,a,CU p v b,tq ps r c⟩
theorem pF:∀(vs:List AV) (xs:List Value),bq N w dY R0 vs xs→bq N w hp R (fP ρ vs) xs
 |[],xs=>by simp only[bq,fP];exact id
 |p::ps,xs=>by simp only[bq,fP];rintro⟨v,r,a,d,b,c⟩;exact⟨v,r,a,d,CU p v b,pF ps r c⟩
end
end
section
variable {ρ:Ren}{N:Nat→Prop}{w:World}{dY hp:List (Nat×av)}{R0 R:Real}
variable (h:∀b box,lk hp (gy ρ b)=some box→∃box0,lk dY b=some box0∧box=dI ρ b box0∧R.blk (gy ρ b)=R0.blk b∧R.nil (gy ρ b)=R0.nil b∧R.cap (gy ρ b)=R0.cap b)
include h
theorem Ie {b off:Nat}{x:Value}(hx:aI R (gy ρ b) off x (lk hp (gy ρ b))):aI R0 b off x (lk dY b):=by
 cases hb:lk hp (gy ρ b) with
 |none=>rw[hb] at hx;exact hx.elim
 | some box=>
   obtain⟨box0,e,rfl,e1,e2,e3⟩:=h b box hb;rw[hb] at hx;rw[e];cases box0<;>simp only[aI,dI,e1] at hx ⊢ <;> exact hx
theorem Bc {b ver:Nat}{x:Value}(hx:aD R (gy ρ b) (ver+wS ρ b) x (lk hp (gy ρ b))):aD R0 b ver x (lk dY b):=by
 cases hb:lk hp (gy ρ b) with
 |none=>rw[hb] at hx;exact hx.elim
 | some box=>
   obtain⟨box0,e,rfl,e1,e2,e3⟩:=h b box hb;rw[hb] at hx;rw[e];cases box0<;>simp only[aD,dI,Ta,uO e1 e2 e3] at hx ⊢ <;> first
    |exact hx
    |exact⟨Nat.zero_le _,hx.2.1,hx.2.2⟩
    |exact⟨by omega,hx.2.1,fun he=>hx.2.2 (by omega)⟩
theorem K5 {b ver i off:Nat}{x:Value}(hx:aK R (gy ρ b) (ver+wS ρ b) i off x (lk hp (gy ρ b))):aK R0 b ver i off x (lk dY b):=by
 cases hb:lk hp (gy ρ b) with
 |none=>rw[hb] at hx;exact hx.elim
 | some box=>
   obtain⟨box0,e,rfl,e1,e2,e3⟩:=h b box hb;rw[hb] at hx;rw[e];cases box0<;>simp only[aK,dI,e1,e2] at hx ⊢ <;> first
    |exact hx
    |exact⟨Nat.zero_le _,hx.2.1,hx.2.2⟩
    |exact⟨by omega,hx.2.1,fun he=>hx.2.2 (by omega)⟩
mutual
theorem JF:∀(v:AV) (x:Value),ah N w hp R (je ρ v) x→ah N w dY R0 v x
 |.pv p,x=>by simp only[ah,je];exact id
 |.agg cs,x=>by simp only[ah,je];rintro⟨vs,a,b⟩;exact⟨vs,a,EM cs _ b⟩
 |.fF cs,x=>by simp only[ah,je];rintro⟨vs,a,b⟩;exact⟨vs,a,tu cs _ b⟩
 |.ptr b off,x=>by simp only[ah,je];exact Ie h
 |.aG b ver,x=>by simp only[ah,je];exact Bc h
 |.sub b ver st lo hi,x=>by simp only[ah,je];rintro⟨u,a,c⟩;exact⟨u,Bc h a,c⟩
 |.cB b ver i off,x=>by simp only[ah,je];exact K5 h
 | .fn f first aT,x=>by
   simp only[ah,je];rintro⟨fs,cs,a,b,c⟩;exact⟨fs,cs,a,tu _ _ b,tu _ _ c⟩
theorem tu:∀(vs:List AV) (xs:List Value),bB N w hp R (fP ρ vs) xs→bB N w dY R0 vs xs
 |[],xs=>by simp only[bB,fP];exact id
 |p::ps,xs=>by simp only[bB,fP];rintro⟨v,r,a,b,c⟩;exact⟨v,r,a,JF p v b,tu ps r c⟩
theorem EM:∀(vs:List AV) (xs:List Value),bq N w hp R (fP ρ vs) xs→bq N w dY R0 vs xs
 |[],xs=>by simp only[bq,fP];exact id
 |p::ps,xs=>by simp only[bq,fP];rintro⟨v,r,a,d,b,c⟩;exact⟨v,r,a,d,JF p v b,EM ps r c⟩
end
end
structure xk (c:Ctx)(R:Real)(hp:List (Nat×av))(w:World):Prop where
 boxes:∀b box,lk hp b=some box→dm (aH c R hp) w hp R b box
 inj:∀b b' r,ax R b r (lk hp b)→ax R b' r (lk hp b')→b=b'
 free:∀r,owned R hp r→¬c.F r
 gq:iZ c.O c.w w
 eG:∀r,owned R hp r→c.O r∨c.w.heap.size≤r
 kept:∀v x,c.K v x→ah (aH c R hp) w hp R v x
 fixed:ou c.fix (owned R hp) w
 lo:R.Y.n0=c.n0∧c.n0.1≤c.lo∧c.lo≤w.heap.size
theorem aR.hap {c:Ctx}{R:Real}{s:AS}{a:Act}{w:World}(g:aR c R s a w):xk c R s.hp w:=
 ⟨g.boxes,g.inj,g.free,g.gq,g.eG,g.kept,g.fixed,g.lo⟩
theorem xk.JA {c:Ctx}{R:Real}{hp:List (Nat×av)}{w:World}(h:xk c R hp w){tm:List (Nat×AV)}{nx:Nat}{a:Act}
  (hs:∀t v,lk tm t=some v→∃x,a.tmps[t]? = some x∧ah (aH c R hp) w hp R v x) (hz:a.tmps.size=c.n) (hd:∃Ds,Marks c.lo (owned R hp) w a.defers Ds):aR c R ⟨tm,nx,hp⟩ a w:=
 ⟨hs,hz,h.lo,hd,h.fixed,h.boxes,h.inj,h.free,h.gq,h.eG,h.kept⟩
inductive Src where
 |old (b d:Nat)
 |nil
abbrev rF:=List (Nat×Src)
def Nn (v:AV):Option (List AV):=
 match v with
 |.agg cs=>some cs
 |.pv (.agg ps)=>some (ps.map .pv)
 |_=>none
def Np (v:AV):Option (List AV):=
 match v with
 |.fF cs=>some cs
 |.pv (.fF ps)=>some (ps.map .pv)
 |_=>none
def Ig (v:AV):Option (Fn×List AV×List AV):=
 match v with
 |.fn f a c=>some (f,a,c)
 |.pv (.fn f a c)=>some (f,a.map .pv,c.map .pv)
 |_=>none
mutual
def nQ:PV→PV→Prop
 |.junk,_=>True
 | .sc v,q=>match v with
   | .int k b=>match q with
     |.sc (.int j a)=>j=k∧a=b
     |_=>False
   | .bool b=>match q with
     |.sc (.bool a)=>a=b
     |_=>False
   |v=>q=.sc v
 | .sl nn st rows,q=>match q with
   |.sl nn' st' aF=>(nn=true→nn'=true)∧st'=st∧fC rows aF
   |.sc (.slice none 0 0)=>nn=false∧rows=[]
   |_=>False
 | .agg ps,q=>match q with
   |.agg qs=>iy ps qs
   |_=>False
 | .fF ps,q=>match q with
   |.fF qs=>iy ps qs
   |_=>False
 |.bT row off,q=>q=.bT row off
 |.fn f a b,q=>q=.fn f a b
 |.Gw st rows,q=>q=.Gw st rows
def iy:List PV→List PV→Prop
 | [],qs=>match qs with
   |[]=>True
   |_=>False
 | p::ps,qs=>match qs with
   |q::qs=>nQ p q∧iy ps qs
   |[]=>False
def fC:List (List PV)→List (List PV)→Prop
 | [],qs=>match qs with
   |[]=>True
   |_=>False
 | p::ps,qs=>match qs with
   |q::qs=>iy p q∧fC ps qs
   |[]=>False
end
abbrev Nq (q p:PV):Prop:=nQ p q
abbrev uP (q p:List PV):Prop:=iy p q
def Yh (v:AV)(p:PV):Prop:=
 match p with
 |.junk=>True
 | p=>match v with
   |.pv q=>Nq q p
   |_=>False
section
variable (ρ:rF)
mutual
def le:AV→AV→Prop
 |v,.pv p=>Yh v p
 | v,.ptr b off=>match lk ρ b with
   |some (.old x _)=>v=.ptr x off
   |_=>False
 | v,.aG b ver=>match lk ρ b with
   |some (.old x d)=>v=.aG x (ver+d)
   |some .nil=>ver=0∧v=.pv (.sc (.slice none 0 0))
   |none=>False
 | v,.sub b ver st lo hi=>match lk ρ b with
   |some (.old x d)=>v=.sub x (ver+d) st lo hi
   |_=>False
 | v,.cB b ver i off=>match Nat.beq b 999 with
   |true=>False
   | false=>match lk ρ b with
     |some (.old x d)=>v=.cB x (ver+d) i off
     |_=>False
 | v,.agg cs=>match Nn v with
   |some us=>Aj us cs
   |none=>False
 | v,.fF cs=>match Np v with
   |some us=>Aj us cs
   |none=>False
 | v,.fn f a c=>match Ig v with
   |some (g,a',c')=>g=f∧Aj a' a∧Aj c' c
   |none=>False
def Aj:List AV→List AV→Prop
 |[],[]=>True
 |u::us,v::vs=>le u v∧Aj us vs
 |_,_=>False
end
end
def qM (ρ:rF)(d:Nat)(o:Option av)(box:av):Prop:=
 match box with
 | .var cells=>match o with
   |some (.var cs)=>Aj ρ cs cells
   |_=>False
 | .ny cells=>match o with
   |some (.ny cs)=>cs=cells
   |_=>False
 | .arr e ver st rows=>match o with
   |some (.arr e' dh st' aF)=>e'=e∧dh=ver+d∧st'=st∧fC rows aF
   |_=>False
 | .bX ver st rows=>match o with
   |some (.bX dh st' aF)=>dh=ver+d∧st'=st∧fC rows aF
   |some (.arr _ dh st' aF)=>False
   |_=>False
 | .tr y _ rest st=>match o with
   |some (.tr y' _ rest' st')=>y'=y∧rest'=rest∧st'=st
   |_=>False
 | .dL e ver st pre row post=>match o with
   |some (.dL e' dh st' pre' row' post')=>e'=e∧dh=ver+d∧st'=st∧fC pre pre'∧Aj ρ row' row∧fC post post'
   |_=>False
 | .mp kk kv es=>match o with
   |some (.mp Px Nr es')=>Px=kk∧Nr=kv∧es'=es
   |_=>False
 | .bR e ver st j ed sd pre row post=>match o with
   |some (.bR e' dh st' j' ed' sd' pre' row' post')=>(e'=e∧dh=ver+d∧st'=st∧j'=j∧ed'=ed∧sd'=sd)∧pre'=pre∧Aj ρ row' row∧post'=post
   |_=>False
def mK (box:av):Prop:=
 match box with
 |.arr _ _ _ rows=>rows=[]
 |.bR _ _ _ _ _ _ pre row post=>pre=[]∧row=[]∧post=[]
 |_=>False
structure Ns (ρ:rF)(hp hp':List (Nat×av)):Prop where
 box:∀b box,lk hp' b=some box→match lk ρ b with
  |some (.old x d)=>qM ρ d (lk hp x) box
  |some .nil=>mK box
  |none=>False
 dom:∀b,(∃s,lk ρ b=some s)→∃box,lk hp' b=some box
 inj:∀b b' x d d',lk ρ b=some (.old x d)→lk ρ b'=some (.old x d')→b=b'
 low:∀b,b<1000→(∃box,lk hp b=some box)→lk ρ b=some (.old b 0)
 Vt:∀b a0 a1 a2 a3,lk hp' b=some (.tr a0 a1 a2 a3)→b=999
def j3 (ρ:rF)(R:Real):Real where
 blk b:=match lk ρ b with
  |some (.old x _)=>R.blk x
  |_=>0
 nil b:=match lk ρ b with
  |some (.old x _)=>R.nil x
  |_=>true
 cap b:=match lk ρ b with
  |some (.old x _)=>R.cap x
  |_=>(0,[])
 Y:=R.Y
theorem pG {ρ:rF}{R:Real}{b x d:Nat}(h:lk ρ b=some (.old x d)):(j3 ρ R).blk b=R.blk x∧(j3 ρ R).nil b=R.nil x∧(j3 ρ R).cap b=R.cap x:=by
 simp[j3,h]
theorem mM {ρ:rF}{R:Real}{b:Nat}(h:lk ρ b=some .nil):(j3 ρ R).nil b=true:=by
 simp[j3,h]
theorem uQ {ρ:rF}{R:Real}{b:Nat}(h:lk ρ b=some .nil):(j3 ρ R).cap b=(0,[]):=by
 simp[j3,h]
theorem xw {ρ:rF}:∀(us vs:List AV),Aj ρ us vs→us.length=vs.length
 |[],[],_=>rfl
 |[],_::_,h=>by simp only[Aj] at h
 |_::_,[],h=>by simp only[Aj] at h
 |u::us,v::vs,h=>by simp only[Aj] at h;simp[xw us vs h.2]
theorem nR {ρ:rF}{R:Real}{b x d n:Nat}(h:lk ρ b=some (.old x d)):bA (j3 ρ R) b n=bA R x n:=by
 obtain⟨h1,h2,h3⟩:=pG (R:=R) h;simp only[bA,h1,h2,h3]
theorem kz {N:Nat→Prop}{w:World}{hp:List (Nat×av)}{R:Real}:∀(ps:List PV) (xs:List Value),cZ N w ps xs→bB N w hp R (ps.map .pv) xs
 |[],xs,h=>by simpa only[List.map,bB,cZ] using h
 | p::ps,xs,h=>by
   simp only[cZ] at h;obtain⟨v,r,e,h1,h2⟩:=h;simp only[List.map_cons,bB,ah];exact⟨v,r,e,h1,kz ps r h2⟩
theorem Bd {N:Nat→Prop}{w:World}{hp:List (Nat×av)}{R:Real}:∀(ps:List PV) (xs:List Value),fG N w ps xs→bq N w hp R (ps.map .pv) xs
 |[],xs,h=>by simpa only[List.map,bq,fG] using h
 | p::ps,xs,h=>by
   simp only[fG] at h;obtain⟨v,r,e,h0,h1,h2⟩:=h;simp only[List.map_cons,bq,ah];exact⟨v,r,e,h0,h1,Bd ps r h2⟩
section
mutual
theorem Nt:∀(p:PV),nQ p p
 |.junk=>by unfold nQ;trivial
 |.sc v=>by unfold nQ;cases v<;>simp
 |.sl nn st rows=>by unfold nQ;exact⟨id,rfl,bH rows⟩
 |.agg ps=>by unfold nQ;exact mO ps
 |.fF ps=>by unfold nQ;exact mO ps
 |.bT _ _=>by unfold nQ;rfl
 |.fn _ _ _=>by unfold nQ;rfl
 |.Gw _ _=>by unfold nQ;rfl
theorem mO:∀(ps:List PV),iy ps ps
 |[]=>by unfold iy;trivial
 |p::ps=>by unfold iy;exact⟨Nt p,mO ps⟩
theorem bH:∀(ps:List (List PV)),fC ps ps
 |[]=>by unfold fC;trivial
 |p::ps=>by unfold fC;exact⟨mO p,bH ps⟩
end
theorem eu {a b:List (List PV)}(h:b=a):fC a b:=h▸bH _
theorem EN:∀(ps qs:List PV),iy ps qs→qs.length=ps.length
 |[],[],_=>rfl
 |[],_::_,h=>by unfold iy at h;exact h.elim
 |_::_,[],h=>by unfold iy at h;exact h.elim
 | p::ps,q::qs,h=>by
   unfold iy at h;simp[EN ps qs h.2]
theorem gB:∀(ps qs:List (List PV)),fC ps qs→qs.length=ps.length
 |[],[],_=>rfl
 |[],_::_,h=>by unfold fC at h;exact h.elim
 |_::_,[],h=>by unfold fC at h;exact h.elim
 | p::ps,q::qs,h=>by
   unfold fC at h;simp[gB ps qs h.2]
theorem gU {a b c d:List (List PV)}(h:fC a b)(h':fC c d):fC (a++c) (b++d):=by
 induction a generalizing b with
 | nil=>
   cases b with
   |nil=>exact h'
   |cons _ _=>unfold fC at h;exact h.elim
 | cons x a ih=>
   cases b with
   |nil=>unfold fC at h;exact h.elim
   | cons y b=>
     rw[List.cons_append,List.cons_append];unfold fC at h ⊢;exact⟨h.1,ih h.2⟩
end
section
variable {N N':Nat→Prop}{w:World}(hN:∀r,N' r→N r)
include hN
mutual
theorem kC:∀(p q:PV) (x:Value),Nq q p→aU N w q x→aU N' w p x
 |.junk,q,x,h,hx=>by simp only[aU]
 | .sc v,q,x,h,hx=>by
   unfold Nq nQ at h;split at h
   ·split at h
    ·obtain⟨rfl,rfl⟩:=h;simpa only[aU] using hx
    exact h.elim
   ·split at h
    ·subst h;simpa only[aU] using hx
    exact h.elim
   subst h;simpa only[aU] using hx
 | .sl nn st rows,q,x,h,hx=>by
   unfold Nq nQ at h;split at h
   ·obtain⟨h1,rfl,h2⟩:=h;simp only[aU] at hx ⊢;obtain⟨p,len,cap,a1,a2,a3,a4,a5⟩:=hx;have hl:=gB _ _ h2;refine⟨p,len,cap,a1,by omega,a3,fun hp=>⟨Bool.eq_false_iff.2 fun hnn=>?_,(a4 hp).2⟩,fun a ha=>?_⟩
    ·have:=(a4 hp).1;rw[h1 hnn] at this;cases this
    rcases a5 a ha with b2|⟨b1,b2,cur,e,fr,b3,b4⟩
    ·subst b2;exact .inl (List.eq_nil_of_length_eq_zero hl.symm)
    exact .inr ⟨b1,fun h=>b2 (hN _ h),cur,e,fr,b3,kS rows _ _ _ h2 b4⟩
   ·obtain⟨rfl,rfl⟩:=h;simp only[aU] at hx ⊢;subst hx;exact⟨none,0,0,rfl,rfl,⟨Nat.le_refl _,by omega⟩,by simp,fun a ha=>(by cases ha)⟩
   exact h.elim
 | .agg ps,q,x,h,hx=>by
   unfold Nq nQ at h;split at h
   ·simp only[aU] at hx ⊢;obtain⟨vs,e,h1⟩:=hx;exact⟨vs,e,vR ps _ _ h h1⟩
   exact h.elim
 | .fF ps,q,x,h,hx=>by
   unfold Nq nQ at h;split at h
   ·simp only[aU] at hx ⊢;obtain⟨vs,e,h1⟩:=hx;exact⟨vs,e,lS ps _ _ h h1⟩
   exact h.elim
 | .Gw st rows,q,x,h,hx=>by
   unfold Nq nQ at h;subst h;exact bN (fun r _ h=>hN r h) (fun _ _ _=>rfl) _ _ hx
 | .bT row off,q,x,h,hx=>by
   unfold Nq nQ at h;subst h;exact bN (fun r _ h=>hN r h) (fun _ _ _=>rfl) _ _ hx
 | .fn f a b,q,x,h,hx=>by
   unfold Nq nQ at h;subst h;exact bN (fun r _ h=>hN r h) (fun _ _ _=>rfl) _ _ hx
theorem lS:∀(ps qs:List PV) (xs:List Value),uP qs ps→cZ N w qs xs→cZ N' w ps xs
 |[],[],xs,h,hx=>by simpa only[cZ] using hx
 |[],_::_,xs,h,hx=>by unfold uP iy at h;exact h.elim
 |_::_,[],xs,h,hx=>by unfold uP iy at h;exact h.elim
 | p::ps,q::qs,xs,h,hx=>by
   unfold uP iy at h;simp only[cZ] at hx ⊢;obtain⟨x,r,e,h1,h2⟩:=hx;exact⟨x,r,e,kC p q x h.1 h1,lS ps qs r h.2 h2⟩
theorem vR:∀(ps qs:List PV) (xs:List Value),uP qs ps→fG N w qs xs→fG N' w ps xs
 |[],[],xs,h,hx=>by simpa only[fG] using hx
 |[],_::_,xs,h,hx=>by unfold uP iy at h;exact h.elim
 |_::_,[],xs,h,hx=>by unfold uP iy at h;exact h.elim
 | p::ps,q::qs,xs,h,hx=>by
   unfold uP iy at h;simp only[fG] at hx ⊢;obtain⟨x,r,e,h0,h1,h2⟩:=hx;exact⟨x,r,e,h0,kC p q x h.1 h1,vR ps qs r h.2 h2⟩
theorem vS:∀(ps qs:List PV) (xs:List Value),uP qs ps→dM N w qs xs→dM N' w ps xs
 |[],[],xs,h,hx=>by simp only[dM]
 |[],_::_,xs,h,hx=>by unfold uP iy at h;exact h.elim
 |_::_,[],xs,h,hx=>by unfold uP iy at h;exact h.elim
 | p::ps,q::qs,xs,h,hx=>by
   unfold uP iy at h;simp only[dM] at hx ⊢;obtain⟨x,r,e,h0,h1,h2⟩:=hx;exact⟨x,r,e,h0,kC p q x h.1 h1,vS ps qs r h.2 h2⟩
theorem kS:∀(ps qs:List (List PV)) (st:Nat) (xs:List Value),fC ps qs→bf N w st qs xs→bf N' w st ps xs
 |[],[],st,xs,h,hx=>by simp only[bf]
 |[],_::_,st,xs,h,hx=>by unfold fC at h;exact h.elim
 |_::_,[],st,xs,h,hx=>by unfold fC at h;exact h.elim
 | p::ps,q::qs,st,xs,h,hx=>by
   unfold fC at h;simp only[bf] at hx ⊢;obtain⟨h1,h2,h3⟩:=hx;exact⟨by rw[←EN _ _ h.1];exact h1,vS p q xs h.1 h2,kS ps qs st _ h.2 h3⟩
end
end
theorem K6 {N N':Nat→Prop}{w:World}{hp hp':List (Nat×av)}{R R':Real}(hN:∀r,N' r→N r){v:AV}{p:PV}(h:Yh v p){x:Value}(hx:ah N w hp R v x):aU N' w p x:=by
 unfold Yh at h;split at h
 ·simp only[aU]
 split at h
 ·simp only[ah] at hx;exact kC hN _ _ _ h hx
 exact h.elim
section
variable {ρ:rF}{c:Ctx}{R:Real}{hp hp':List (Nat×av)}{w:World}
theorem RD (H:Ns ρ hp hp'){b x d off:Nat}(hb:lk ρ b=some (.old x d)){v:Value}(h:aI R x off v (lk hp x)):aI (j3 ρ R) b off v (lk hp' b):=by
 obtain⟨box,jy⟩:=H.dom b ⟨_,hb⟩;have hl:=H.box b box jy;rw[hb] at hl;simp only at hl;rw[jy];obtain⟨e1,e2,e3⟩:=pG (R:=R) hb;cases ho:lk hp x with
 |none=>rw[ho] at h;exact h.elim
 | some o=>
   rw[ho] at h hl;cases o<;>simp only[aI] at h<;>cases box<;>simp only[qM] at hl<;>simp only[aI,e1]<;>exact h
theorem Tc (H:Ns ρ hp hp'){b x d ver:Nat}(hb:lk ρ b=some (.old x d)){v:Value}(h:aD R x (ver+d) v (lk hp x)):aD (j3 ρ R) b ver v (lk hp' b):=by
 obtain⟨box,jy⟩:=H.dom b ⟨_,hb⟩;have hl:=H.box b box jy;rw[hb] at hl;simp only at hl;rw[jy];cases ho:lk hp x with
 |none=>rw[ho] at h;exact h.elim
 | some o=>
   rw[ho] at h hl;cases o<;>simp only[aD] at h<;>cases box<;>simp only[qM] at hl
   ·obtain⟨_,e2,e3,e4⟩:=hl;simp only[aD,nR hb,←gB _ _ e4];exact⟨by omega,h.2.1,fun e=>h.2.2 (by omega)⟩
   ·obtain⟨e2,e3,e4⟩:=hl;simp only[aD,nR hb,←gB _ _ e4];exact⟨by omega,h.2.1,fun e=>h.2.2 (by omega)⟩
   ·obtain⟨_,e2,e3,e4,_,e5⟩:=hl;simp only[aD,nR hb,←gB _ _ e4,←gB _ _ e5];exact⟨by omega,h.2.1,fun e=>h.2.2 (by omega)⟩
   obtain⟨⟨_,e2,_⟩,rfl,e4,rfl⟩:=hl;simp only[aD,nR hb,←sj (xw _ _ e4)];exact⟨by omega,h.2.1,fun e=>h.2.2 (by omega)⟩
theorem Vu (H:Ns ρ hp hp'){b x d ver i off:Nat}(Vv:Nat.beq b 999=false)(hb:lk ρ b=some (.old x d)){v:Value}(h:aK R x (ver+d) i off v (lk hp x)):aK (j3 ρ R) b ver i off v (lk hp' b):=by
 obtain⟨box,jy⟩:=H.dom b ⟨_,hb⟩;have hl:=H.box b box jy;rw[hb] at hl;simp only at hl;rw[jy];obtain⟨e1,e2,e3⟩:=pG (R:=R) hb;cases ho:lk hp x with
 |none=>rw[ho] at h;exact h.elim
 | some o=>
   rw[ho] at h hl;cases o<;>simp only[aK] at h<;>cases box<;>simp only[qM] at hl
   ·obtain⟨_,f2,f3,f4⟩:=hl;subst f3;simp only[aK,e1,e2];exact⟨by omega,h.2.1,fun e=>h.2.2 (by omega)⟩
   ·obtain⟨f2,f3,f4⟩:=hl;subst f3;simp only[aK,e1,e2];exact⟨by omega,h.2.1,fun e=>h.2.2 (by omega)⟩
   ·exfalso;have:=H.Vt b _ _ _ _ jy;subst this;cases Vv
   ·obtain⟨_,f2,f3,f4⟩:=hl;subst f3;simp only[aK,e1,e2];exact⟨by omega,h.2.1,fun e=>h.2.2 (by omega)⟩
   ·simp only[aK,e1];exact⟨Nat.zero_le _,h.2.1,h.2.2⟩
   obtain⟨⟨_,f2,f3,f4⟩,_⟩:=hl;subst f3;simp only[aK,e1,e2];exact⟨by omega,h.2.1,fun e=>h.2.2 (by omega)⟩
theorem yH (H:Ns ρ hp hp'){b r:Nat}(h:ax (j3 ρ R) b r (lk hp' b)):∃x d,lk ρ b=some (.old x d)∧ax R x r (lk hp x):=by
 cases jy:lk hp' b with
 |none=>rw[jy] at h;exact h.elim
 | some box=>
   have hl:=H.box b box jy;rw[jy] at h;cases hb:lk ρ b with
   |none=>rw[hb] at hl;exact hl.elim
   | some s=>
     cases s with
     | nil=>
       rw[hb] at hl;cases box<;>simp only[mK] at hl
       ·simp only[ax,mM hb] at h;simp at h
       simp only[ax,mM hb,uQ hb] at h;simp at h
     | old x d=>
       rw[hb] at hl;simp only at hl;refine⟨x,d,rfl,?_⟩;obtain⟨e1,e2,e3⟩:=pG (R:=R) hb;cases ho:lk hp x with
       |none=>rw[ho] at hl;cases box<;>simp only[qM] at hl
       | some o=>
         rw[ho] at hl;cases o<;>cases box<;>simp only[qM] at hl<;>simp only[ax,e1,e2,e3] at h ⊢ <;> exact h
theorem Qc (H:Ns ρ hp hp'){r:Nat}(h:aH c (j3 ρ R) hp' r):aH c R hp r:=by
 rcases h with h|⟨b,h⟩
 ·exact .inl h
 obtain⟨x,d,_,h⟩:=yH H h;exact .inr ⟨x,h⟩
mutual
theorem tC (H:Ns ρ hp hp'):∀(v':AV) (v:AV) (x:Value),le ρ v v'→ah (aH c R hp) w hp R v x→ah (aH c (j3 ρ R) hp') w hp' (j3 ρ R) v' x
 | .pv p,v,x,h,hx=>by
   simp only[ah];simp only[le] at h;exact K6 (fun r h=>Qc H h) (hp':=hp') (R':=R) h hx
 | .ptr b off,v,x,h,hx=>by
   simp only[le] at h;split at h;rotate_left;cases h
   rename_i y d hb;subst h;simp only[ah] at hx ⊢;exact RD H hb hx
 | .aG b ver,v,x,h,hx=>by
   simp only[le] at h;split at h
   ·rename_i y d hb;subst h;simp only[ah] at hx ⊢;exact Tc H hb hx
   ·rename_i hb;obtain⟨rfl,rfl⟩:=h;simp only[ah,aU] at hx ⊢;subst hx;obtain⟨box,jy⟩:=H.dom b ⟨_,hb⟩;have hl:=H.box b box jy;rw[hb] at hl;rw[jy];cases box<;>simp only[mK] at hl
    ·subst hl;rename_i e dh st;simp only[aD,bA,mM hb];exact⟨Nat.zero_le _,rfl,fun _=>rfl⟩
    simp only[aD,bA,mM hb];exact⟨Nat.zero_le _,rfl,fun _=>rfl⟩
   exact h.elim
 | .sub b ver st lo hi,v,x,h,hx=>by
   simp only[le] at h;split at h;rotate_left;cases h
   rename_i y d hb;subst h;simp only[ah] at hx ⊢;obtain⟨u,a,cc⟩:=hx;exact⟨u,Tc H hb a,cc⟩
 | .cB b ver i off,v,x,h,hx=>by
   simp only[le] at h;split at h
   ·exact h.elim
   rename_i Vv;split at h;rotate_left;cases h
   rename_i y d hb;subst h;simp only[ah] at hx ⊢;exact Vu H Vv hb hx
 | .agg cs,v,x,h,hx=>by
   simp only[le] at h;split at h;rotate_left;cases h
   rename_i us nD;have:∃vs:Array Value,x=.agg vs∧bq (aH c R hp) w hp R us vs.toList:=by
    unfold Nn at nD;split at nD
    ·simp only[Option.some.injEq] at nD;subst nD;simpa only[ah] using hx
    ·simp only[Option.some.injEq] at nD;subst nD;simp only[ah,aU] at hx;obtain⟨vs,e,h1⟩:=hx;exact⟨vs,e,Bd _ _ h1⟩
    cases nD
   obtain⟨vs,e,h1⟩:=this;simp only[ah];exact⟨vs,e,kT H cs us _ h h1⟩
 | .fF cs,v,x,h,hx=>by
   simp only[le] at h;split at h;rotate_left;cases h
   rename_i us nD;have:∃vs:Array Value,x=.tuple vs∧bB (aH c R hp) w hp R us vs.toList:=by
    unfold Np at nD;split at nD
    ·simp only[Option.some.injEq] at nD;subst nD;simpa only[ah] using hx
    ·simp only[Option.some.injEq] at nD;subst nD;simp only[ah,aU] at hx;obtain⟨vs,e,h1⟩:=hx;exact⟨vs,e,kz _ _ h1⟩
    cases nD
   obtain⟨vs,e,h1⟩:=this;simp only[ah];exact⟨vs,e,kU H cs us _ h h1⟩
 | .fn f a cc,v,x,h,hx=>by
   simp only[le] at h;split at h;rotate_left;cases h
   rename_i g a' c' nD;obtain⟨rfl,h1,h2⟩:=h;have:∃fs cs:Array Value,x=.func g fs cs∧bB (aH c R hp) w hp R a' fs.toList∧bB (aH c R hp) w hp R c' cs.toList:=by
    unfold Ig at nD;split at nD
    ·simp only[Option.some.injEq,Prod.mk.injEq] at nD;obtain⟨rfl,rfl,rfl⟩:=nD;simpa only[ah] using hx
    ·simp only[Option.some.injEq,Prod.mk.injEq] at nD;obtain⟨rfl,rfl,rfl⟩:=nD;simp only[ah,aU] at hx;obtain⟨fs,cs,e,h3,h4⟩:=hx;exact⟨fs,cs,e,kz _ _ h3,kz _ _ h4⟩
    cases nD
   obtain⟨fs,cs,e,h3,h4⟩:=this;simp only[ah];exact⟨fs,cs,e,kU H a a' _ h1 h3,kU H cc c' _ h2 h4⟩
theorem kU (H:Ns ρ hp hp'):∀(Ju:List AV) (vs:List AV) (xs:List Value),Aj ρ vs Ju→bB (aH c R hp) w hp R vs xs→bB (aH c (j3 ρ R) hp') w hp' (j3 ρ R) Ju xs
 |[],[],xs,h,hx=>by simpa only[bB] using hx
 |[],_::_,xs,h,hx=>by simp only[Aj] at h
 |_::_,[],xs,h,hx=>by simp only[Aj] at h
 | v'::Ju,v::vs,xs,h,hx=>by
   simp only[Aj] at h;simp only[bB] at hx ⊢;obtain⟨x,r,e,h1,h2⟩:=hx;exact⟨x,r,e,tC H v' v x h.1 h1,kU H Ju vs r h.2 h2⟩
theorem kT (H:Ns ρ hp hp'):∀(Ju:List AV) (vs:List AV) (xs:List Value),Aj ρ vs Ju→bq (aH c R hp) w hp R vs xs→bq (aH c (j3 ρ R) hp') w hp' (j3 ρ R) Ju xs
 |[],[],xs,h,hx=>by simpa only[bq] using hx
 |[],_::_,xs,h,hx=>by simp only[Aj] at h
 |_::_,[],xs,h,hx=>by simp only[Aj] at h
 | v'::Ju,v::vs,xs,h,hx=>by
   simp only[Aj] at h;simp only[bq] at hx ⊢;obtain⟨x,r,e,h0,h1,h2⟩:=hx;exact⟨x,r,e,h0,tC H v' v x h.1 h1,kT H Ju vs r h.2 h2⟩
end
theorem xk.weaken (h:xk c R hp w)(H:Ns ρ hp hp'):xk c (j3 ρ R) hp' w:=by
 refine⟨fun b box hb=>?_,fun b b' r h1 h2=>?_,fun r ⟨b,hr⟩=>?_,h.gq,fun r ⟨b,hr⟩=>?_,fun v x hv=>?_,?_,h.lo⟩
 ·have hl:=H.box b box hb;cases hs:lk ρ b with
  |none=>rw[hs] at hl;exact hl.elim
  | some s=>
    rw[hs] at hl;cases s with
    | nil=>
      cases box<;>simp only[mK] at hl
      ·subst hl;refine⟨[],⟨?_,.inl ⟨?_,rfl⟩⟩,by simp only[bf]⟩
       ·simp
       simp[bA,mM hs]
      obtain⟨rfl,rfl,rfl⟩:=hl;refine⟨[],[],[],by rw[uQ hs];rfl,⟨by simp[bJ],.inl ⟨by simp[bA,mM hs],by simp[bJ]⟩⟩,by simp only[bS],by simp[bJ],by simp only[bJ,Nat.zero_mul,List.take_zero,bq],by simp only[bS],?_⟩;unfold wO;rw[uQ hs];exact⟨by simp,fun v r hv=>by simp at hv⟩
    | old x d=>
      simp only at hl;obtain⟨e1,e2,e3⟩:=pG (R:=R) hs;cases ho:lk hp x with
      |none=>rw[ho] at hl;cases box<;>simp only[qM] at hl
      | some o=>
        have hr:=h.boxes x o ho;rw[ho] at hl;cases o<;>cases box<;>simp only[qM] at hl
        ·obtain⟨cur,e,a1,a2⟩:=hr;exact⟨cur,e,by rw[e1];exact a1,kT H _ _ _ hl a2⟩
        ·subst hl;obtain⟨cur,e,fr,a1,a2,a3⟩:=hr;refine⟨cur,e,fr,by rw[e1];exact a1,by rw[e1];exact fun hn=>a2 (Qc H hn),bL (fun r _ h=>Qc H h) (fun _ _ _=>rfl) _ _ a3⟩
        ·obtain⟨rfl,_,rfl,hl⟩:=hl;obtain⟨xs,a1,a2⟩:=hr;refine⟨xs,?_,kS (fun r h=>Qc H h) _ _ _ _ hl a2⟩;rw[nR hs,←gB _ _ hl];exact a1
        ·obtain⟨_,rfl,hl⟩:=hl;simp only[dm,nR hs,←gB _ _ hl] at hr ⊢;exact kC (fun r h=>Qc H h) (.sl false _ _) (.sl false _ _) _ (by unfold Nq nQ;exact⟨id,rfl,hl⟩) hr
        ·obtain⟨rfl,rfl,rfl⟩:=hl;obtain⟨k0,kh,k1,k2,k3,k4⟩:=hr;refine⟨H.Vt _ _ _ _ _ hb,kh,by rw[e2];exact k1,k2,k3,fun r hn=>k4 r (Qc H hn)⟩
        ·obtain⟨rfl,_,rfl,hl,hl2,hl3⟩:=hl;obtain⟨xs,a1,a2,a3,a4,a5⟩:=hr;refine⟨xs,?_,kS (fun r h=>Qc H h) _ _ _ _ hl a2,by rw[←xw _ _ hl2];exact a3,?_,?_⟩
         ·rw[nR hs,←gB _ _ hl,←gB _ _ hl3];exact a1
         ·rw[←gB _ _ hl];exact kT H _ _ _ hl2 a4
         rw[←gB _ _ hl];exact kS (fun r h=>Qc H h) _ _ _ _ hl3 a5
        ·obtain⟨rfl,rfl,rfl⟩:=hl;obtain⟨cur,clock,a1,a2,a3⟩:=hr;exact⟨cur,clock,by rw[e1];exact a1,by rw[e2];exact a2,a3⟩
        obtain⟨⟨rfl,_,rfl,rfl,rfl,rfl⟩,rfl,hl2,rfl⟩:=hl;exact gQ (fun r _ h=>Qc H h) (fun _ _ _=>rfl) e1 e2 e3 (fun _ _=>rfl) (xw _ _ hl2).symm (fun vs hv=>kT H _ _ _ hl2 hv) hr
 ·obtain⟨x,d,a1,a2⟩:=yH H h1;obtain⟨y,d',b1,b2⟩:=yH H h2;have:=h.inj x y r a2 b2;subst this;exact H.inj _ _ _ _ _ a1 b1
 ·obtain⟨x,d,_,a2⟩:=yH H hr;exact h.free r ⟨x,a2⟩
 ·obtain⟨x,d,_,a2⟩:=yH H hr;exact h.eG r ⟨x,a2⟩
 ·have hk:=h.kept v x hv;have hlow:=c.hK v x hv;cases v with
  | ptr b off=>
    simp only[fQ,Nat.blt_eq] at hlow;simp only[ah] at hk ⊢;have he:∃box,lk hp b=some box:=by
     cases hb:lk hp b with
     |none=>rw[hb] at hk;exact hk.elim
     |some box=>exact⟨box,rfl⟩
    exact RD H (H.low b hlow he) hk
  | aG b ver=>
    simp only[fQ,Nat.blt_eq] at hlow;simp only[ah] at hk ⊢;have he:∃box,lk hp b=some box:=by
     cases hb:lk hp b with
     |none=>rw[hb] at hk;exact hk.elim
     |some box=>exact⟨box,rfl⟩
    exact Tc H (d:=0) (H.low b hlow he) hk
  | cB b ver i off=>
    simp only[fQ,Bool.and_eq_true,Nat.blt_eq,Bool.not_eq_true'] at hlow;obtain⟨hlow,Vv⟩:=hlow;simp only[ah] at hk ⊢;have he:∃box,lk hp b=some box:=by
     cases hb:lk hp b with
     |none=>rw[hb] at hk;exact hk.elim
     |some box=>exact⟨box,rfl⟩
    exact Vu H (d:=0) Vv (H.low b hlow he) hk
  |_=>simp[fQ] at hlow
 exact h.fixed.kept (fun _ _ _=>rfl) fun r _ ⟨b,ho⟩=>let ⟨x,_,_,h2⟩:=yH H ho;⟨x,h2⟩
end
def pairs:List AV→List AV→List (AV×AV)→List (AV×AV)
 |u::us,v::vs,l=>(u,v)::pairs us vs l
 |_,_,l=>l
def mt (hp hp':List (Nat×av)):Nat→rF→List (AV×AV)→Option rF
 |_,ρ,[]=>some ρ
 |0,_,_::_=>none
 | n+1,ρ,(v,v')::l=>match v' with
   |.pv _=>mt hp hp' n ρ l
   | .ptr b _=>match lk ρ b with
     |some _=>mt hp hp' n ρ l
     | none=>match v with
       | .ptr x _=>match lk hp' b with
         | some (.var xA)=>match lk hp x with
           |some (.var cs)=>mt hp hp' n ((b,.old x 0)::ρ) (pairs cs xA l)
           |_=>none
         |some (.ny _)=>mt hp hp' n ((b,.old x 0)::ρ) l
         |_=>none
       |_=>none
   | .aG b ver=>match lk ρ b with
     |some _=>mt hp hp' n ρ l
     | none=>match v with
       | .aG x dh=>match lk hp' b with
         | some (.dL _ _ _ _ xA _)=>match lk hp x with
           |some (.dL _ _ _ _ cs _)=>mt hp hp' n ((b,.old x (dh-ver))::ρ) (pairs cs xA l)
           |_=>none
         | some (.bR _ _ _ _ _ _ _ xA _)=>match lk hp x with
           |some (.bR _ _ _ _ _ _ _ cs _)=>mt hp hp' n ((b,.old x (dh-ver))::ρ) (pairs cs xA l)
           |_=>none
         |_=>mt hp hp' n ((b,.old x (dh-ver))::ρ) l
       |.pv (.sc (.slice none 0 0))=>mt hp hp' n ((b,.nil)::ρ) l
       |_=>none
   | .sub b ver _ _ _=>match lk ρ b with
     |some _=>mt hp hp' n ρ l
     | none=>match v with
       |.sub x dh _ _ _=>mt hp hp' n ((b,.old x (dh-ver))::ρ) l
       |_=>none
   | .cB b ver _ _=>match lk ρ b with
     |some _=>mt hp hp' n ρ l
     | none=>match v with
       |.cB x dh _ _=>mt hp hp' n ((b,.old x (dh-ver))::ρ) l
       |_=>none
   | .agg cs=>match Nn v with
     |some us=>mt hp hp' n ρ (pairs us cs l)
     |none=>none
   | .fF cs=>match Np v with
     |some us=>mt hp hp' n ρ (pairs us cs l)
     |none=>none
   | .fn _ a c=>match Ig v with
     |some (_,a',c')=>mt hp hp' n ρ (pairs a' a (pairs c' c l))
     |none=>none
def JG:rF→List (Nat×av)→rF
 |acc,[]=>acc
 | acc,(b,_)::r=>match Nat.blt b 1000 with
   | true=>match lk acc b with
     |some _=>JG acc r
     |none=>JG ((b,.old b 0)::acc) r
   |false=>JG acc r
def Ih (hp:List (Nat×av)):rF:=JG [] hp
def iJ (hp hp':List (Nat×av)):rF→List (AV×AV)→List (AV×AV)
 |[],l=>l
 | (b,_)::r,l=>match lk hp' b with
   | some (.var xA)=>match lk hp b with
     |some (.var cs)=>pairs cs xA (iJ hp hp' r l)
     |_=>iJ hp hp' r l
   | some (.dL _ _ _ _ xA _)=>match lk hp b with
     |some (.dL _ _ _ _ cs _)=>pairs cs xA (iJ hp hp' r l)
     |_=>iJ hp hp' r l
   | some (.bR _ _ _ _ _ _ _ xA _)=>match lk hp b with
     |some (.bR _ _ _ _ _ _ _ cs _)=>pairs cs xA (iJ hp hp' r l)
     |_=>iJ hp hp' r l
   |_=>iJ hp hp' r l
def CV (tm:List (Nat×AV)):List (Nat×AV)→List (AV×AV)
 |[]=>[]
 | (t,v')::r=>match lk tm t with
   |some v=>(v,v')::CV tm r
   |none=>CV tm r
def isSome {α:Type}:Option α→Bool
 |some _=>true
 |none=>false
def RF (ρ:rF)(b:Nat):Bool:=
 match lk ρ b with
 |some (.old x d)=>Nat.beq x b&&Nat.beq d 0
 |_=>false
def EO (ρ:rF):List (Nat×av)→Bool
 |[]=>true
 | (b,_)::r=>match Nat.blt b 1000 with
   |true=>RF ρ b&&EO ρ r
   |false=>EO ρ r
def rG (x:Nat):rF→Bool
 |[]=>false
 | (_,.old y _)::r=>match Nat.beq x y with
   |true=>true
   |false=>rG x r
 |(_,.nil)::r=>rG x r
def Be (hp':List (Nat×av)):rF→Bool
 |[]=>true
 | (b,s)::r=>isSome (lk hp' b)&&(match lk r b with
   |some _=>false
   |none=>true)&&(match s with
   |.old x _=>!rG x r
   |.nil=>true)&&Be hp' r
def rH:List (Nat×av)→Bool
 |[]=>true
 | (b,_)::r=>(match lk r b with
   |some _=>false
   |none=>true)&&rH r
def Ak (ρ:rF)(hp:List (Nat×av)):List (Nat×av)→Prop→Prop
 |[],X=>X
 | (b,box)::r,X=>match lk ρ b with
   |some (.old x d)=>qM ρ d (lk hp x) box∧Ak ρ hp r X
   |some .nil=>mK box∧Ak ρ hp r X
   |none=>False
def Qd (ρ:rF)(tm:List (Nat×AV)):List (Nat×AV)→Prop→Prop
 |[],X=>X
 | (t,v')::r,X=>match lk tm t with
   |some v=>le ρ v v'∧Qd ρ tm r X
   |none=>False
theorem pI {ρ:rF}{hp:List (Nat×av)}:∀{l:List (Nat×av)} {X:Prop},Ak ρ hp l X→X
 |[],X,h=>h
 | (b,box)::r,X,h=>by
   simp only[Ak] at h;split at h
   ·exact pI h.2
   ·exact pI h.2
   exact h.elim
theorem yI {ρ:rF}{hp:List (Nat×av)}:∀{l:List (Nat×av)} {X:Prop},Ak ρ hp l X→∀b box,lk l b=some box→match lk ρ b with
  |some (.old x d)=>qM ρ d (lk hp x) box
  |some .nil=>mK box
  |none=>False
 |[],X,h,b,box,hb=>by simp[lk] at hb
 | (b',aV)::r,X,h,b,box,hb=>by
   simp only[Ak] at h;rw[aj] at hb;split at hb
   ·rename_i e;subst e;simp only[Option.some.injEq] at hb;subst hb;split at h
    ·exact h.1
    ·exact h.1
    exact h.elim
   split at h
   ·exact yI h.2 b box hb
   ·exact yI h.2 b box hb
   exact h.elim
theorem Bf {ρ:rF}{tm:List (Nat×AV)}:∀{l:List (Nat×AV)} {X:Prop},Qd ρ tm l X→∀t v',lk l t=some v'→∃v,lk tm t=some v∧le ρ v v'
 |[],X,h,t,v',hb=>by simp[lk] at hb
 | (t',u')::r,X,h,t,v',hb=>by
   simp only[Qd] at h;rw[aj] at hb;split at h;rotate_left;cases h
   rename_i u hu;split at hb
   ·rename_i e;subst e;simp only[Option.some.injEq] at hb;subst hb;exact⟨u,hu,h.1⟩
   exact Bf h.2 t v' hb
theorem Bg {hp':List (Nat×av)}:∀{ρ:rF},Be hp' ρ=true→∀b,(∃s,lk ρ b=some s)→∃box,lk hp' b=some box
 |[],_,b,⟨s,hs⟩=>by simp[lk] at hs
 | (b',s')::r,h,b,⟨s,hs⟩=>by
   simp only[Be,Bool.and_eq_true] at h;rw[aj] at hs;split at hs
   ·rename_i e;subst e;have:=h.1.1.1;cases hb:lk hp' b' with
    |none=>rw[hb] at this;cases this
    |some box=>exact⟨box,rfl⟩
   exact Bg h.2 b ⟨s,hs⟩
theorem Bh {ρ:rF}{b x d:Nat}:lk ρ b=some (.old x d)→rG x ρ=true:=by
 induction ρ with
 |nil=>intro h;simp[lk] at h
 | cons y r ih=>
   obtain⟨b',s⟩:=y;intro h;rw[aj] at h;split at h
   ·simp only[Option.some.injEq] at h;subst h;simp[rG]
   have:=ih h;cases s with
   |nil=>simpa only[rG] using this
   | old y d'=>
     simp only[rG];split
     ·rfl
     exact this
theorem Bj {hp':List (Nat×av)}:∀{ρ:rF},Be hp' ρ=true→∀b b' x d d',lk ρ b=some (.old x d)→lk ρ b'=some (.old x d')→b=b'
 |[],_,b,b',x,d,d',h1,h2=>by simp[lk] at h1
 | (y,s)::r,h,b,b',x,d,d',h1,h2=>by
   simp only[Be,Bool.and_eq_true] at h;rw[aj] at h1 h2;split at h1
   ·rename_i e1;simp only[Option.some.injEq] at h1;subst h1;split at h2
    ·rename_i e2;rw[←e1,←e2]
    have:=Bh h2;have h3:=h.1.2;simp only[this] at h3;cases h3
   split at h2
   ·simp only[Option.some.injEq] at h2;subst h2;have:=Bh h1;have h3:=h.1.2;simp only[this] at h3;cases h3
   exact Bj h.2 b b' x d d' h1 h2
theorem uR {ρ:rF}:∀{hp:List (Nat×av)},EO ρ hp=true→∀b,b<1000→(∃box,lk hp b=some box)→lk ρ b=some (.old b 0)
 |[],_,b,_,⟨box,hb⟩=>by simp[lk] at hb
 | (b',aV)::r,h,b,hlt,⟨box,hb⟩=>by
   simp only[EO] at h;rw[aj] at hb;split at hb
   ·rename_i e;subst e;split at h
    ·simp only[Bool.and_eq_true] at h;have h1:=h.1;unfold RF at h1;split at h1
     ·rename_i x d hx;simp only[Bool.and_eq_true] at h1;rw[hx,Nat.eq_of_beq_eq_true h1.1,Nat.eq_of_beq_eq_true h1.2]
     cases h1
    rename_i hf;have:Nat.blt b' 1000=true:=by rw[Nat.blt_eq];exact hlt
    rw[this] at hf;cases hf
   split at h
   ·simp only[Bool.and_eq_true] at h;exact uR h.2 b hlt ⟨box,hb⟩
   exact uR h b hlt ⟨box,hb⟩
def K7:List (Nat×av)→Bool
 |[]=>true
 | (b,box)::r=>match box with
   |.tr _ _ _ _=>Nat.beq b 999&&K7 r
   |_=>K7 r
theorem Bl:∀{h:List (Nat×av)},K7 h=true→∀b a0 a1 a2 a3,lk h b=some (.tr a0 a1 a2 a3)→b=999
 |[],_,b,a0,a1,a2,a3,hk=>by simp[lk] at hk
 | (k',box)::r,h,b,a0,a1,a2,a3,hk=>by
   rw[aj] at hk;split at hk
   ·rename_i e;simp only[Option.some.injEq] at hk;subst hk;simp only[K7,Bool.and_eq_true] at h;rw[←e,Nat.eq_of_beq_eq_true h.1]
   refine Bl (h:=r) ?_ b a0 a1 a2 a3 hk;cases box<;>simp only[K7,Bool.and_eq_true] at h<;>first|exact h|exact h.2
def yJ (ρ:rF)(hp hp':List (Nat×av)):Bool:=Be hp' ρ&&(EO ρ hp&&K7 hp')
theorem CW {ρ:rF}{hp hp':List (Nat×av)}{X:Prop}(h:yJ ρ hp hp'=true)(h':Ak ρ hp hp' X):Ns ρ hp hp':=by
 simp only[yJ,Bool.and_eq_true] at h;exact⟨yI h',Bg h.1,Bj h.1,uR h.2.1,Bl h.2.2⟩
def Td (s s':AS):Prop:=
 match s with
 | ⟨tm,_,hp⟩=>match s' with
   | ⟨tm',_,hp'⟩=>match Ih hp with
     | ρ0=>match mt hp hp' 1000 ρ0 (iJ hp hp' ρ0 (CV tm tm')) with
       | some ρ=>match yJ ρ hp hp' with
         |true=>Ak ρ hp hp' (Qd ρ tm tm' True)
         |false=>False
       |none=>False
theorem aA {s s':AS}(h:Td s s')(c:Ctx)(R:Real)(a:Act)(w:World)(g:aR c R s a w):∃R',aR c R' s' a w:=by
 obtain⟨tm,nx,hp⟩:=s;obtain⟨tm',nx',hp'⟩:=s';simp only[Td] at h;split at h;rotate_left;cases h
 rename_i ρ _;split at h;rotate_left;cases h
 rename_i hf;have H:=CW hf h;refine⟨j3 ρ R,(g.hap.weaken H).JA (fun t v' hv'=>?_) g.size (g.marks.imp fun Ds hm=>hm.kept (fun _ _ _=>rfl) fun r _ ⟨b,ho⟩=>let ⟨x,_,_,h2⟩:=yH H ho;⟨x,h2⟩)⟩;obtain⟨v,hv,hle⟩:=Bf (pI h) t v' hv';obtain⟨x,hx,hr⟩:=g.slots t v hv;exact⟨x,hx,tC H v' v x hle hr⟩
def Kz (hp:List (Nat×av))(r:AV)(Q:AV→List (Nat×av)→Prop):Prop:=
 ∃r' hp',Q r' hp'∧match Ih hp with
  | ρ0=>match mt hp hp' 1000 ρ0 (iJ hp hp' ρ0 [(r,r')]) with
    | some ρ=>match yJ ρ hp hp' with
      |true=>Ak ρ hp hp' (le ρ r r')
      |false=>False
    |none=>False
theorem kM {hp:List (Nat×av)}{r:AV}{Q:AV→List (Nat×av)→Prop}(h:Kz hp r Q){c:Ctx}{R:Real}{w:World}(g:xk c R hp w){v:Value}(hv:ah (aH c R hp) w hp R r v) :
  ∃r' hp' R',Q r' hp'∧xk c R' hp' w∧ah (aH c R' hp') w hp' R' r' v:=by
 obtain⟨r',hp',hQ,h⟩:=h;simp only at h;split at h;rotate_left;cases h
 rename_i ρ _;split at h
 ·rename_i hf;have H:=CW hf h;exact⟨r',hp',j3 ρ R,hQ,g.weaken H,tC H r' r v (pI h) hv⟩
 exact h.elim
def GC (P:Program)(f:FuncId)(args:List AV)(hp:List (Nat×av))(Q:AV→List (Nat×av)→Prop):Prop:=
 Enters P f∧∀(c:Ctx) (R:Real) (w:World) (bG:Array Value),xk c R hp w→bB (aH c R hp) w hp R args bG.toList →
  Calls P f bG w fun e w'=>∃v r hp' R',e=.returned v∧Q r hp'∧xk c R' hp' w'∧ah (aH c R' hp') w' hp' R' r v
def gY (P:Program)(f:FuncId)(args:List AV)(hp:List (Nat×av))(r:AV)(hp':List (Nat×av)):Prop:=GC P f args hp fun x h=>x=r∧h=hp'
def x9 (x:Nat):List Nat→Bool
 |[]=>false
 | y::r=>match Nat.beq x y with
   |true=>true
   |false=>x9 x r
def keys {α:Type}:List (Nat×α)→List Nat
 |[]=>[]
 |(k,_)::r=>k::keys r
def iw (hp:List (Nat×av)):List Nat→Option (List (Nat×av))
 |[]=>some []
 | b::r=>match lk hp b with
   | some box=>match iw hp r with
     |some t=>some ((b,box)::t)
     |none=>none
   |none=>none
def snoc:List Nat→Nat→List Nat
 |[],x=>[x]
 |y::r,x=>y::snoc r x
def sS (hp:List (Nat×av)):Nat→List Nat→List Nat→List Nat
 |0,_,seen=>seen
 |_+1,[],seen=>seen
 | n+1,b::todo,seen=>match x9 b seen with
   |true=>sS hp n todo seen
   | false=>match lk hp b with
     |some (.var cells)=>sS hp n (dx cells++todo) (snoc seen b)
     |some (.dL _ _ _ _ row _)=>sS hp n (dx row++todo) (snoc seen b)
     |some (.bR _ _ _ _ _ _ _ row _)=>sS hp n (dx row++todo) (snoc seen b)
     |_=>sS hp n todo (snoc seen b)
abbrev Inv:=List (Nat×(Nat×Nat))
def j4:av→Nat
 |.arr _ v _ _=>v
 |.bX v _ _=>v
 |.tr _ v _ _=>v
 |.dL _ v _ _ _ _=>v
 |.bR _ v _ _ _ _ _ _ _=>v
 |_=>0
def iV:Nat→List (Nat×av)→Inv
 |_,[]=>[]
 |k,(b,box)::r=>(b,(k,j4 box))::iV (k+1) r
def gP:Nat→List (Nat×av)→Ren
 |_,[]=>[]
 |k,(b,box)::r=>(k,(b,j4 box))::gP (k+1) r
section
variable (inv:Inv)
mutual
def Al:AV→AV
 |.pv p=>.pv p
 |.agg cs=>.agg (jf cs)
 |.fF cs=>.fF (jf cs)
 | .ptr b off=>match lk inv b with
   |some (k,_)=>.ptr k off
   |none=>.pv .junk
 | .cB b ver i off=>match lk inv b with
   | some (k,d)=>match Nat.ble d ver with
     |true=>.cB k (ver-d) i off
     |false=>.pv .junk
   |none=>.pv .junk
 | .aG b ver=>match lk inv b with
   | some (k,d)=>match Nat.ble d ver with
     |true=>.aG k (ver-d)
     |false=>.pv .junk
   |none=>.pv .junk
 | .sub b ver st lo hi=>match lk inv b with
   | some (k,d)=>match Nat.ble d ver with
     |true=>.sub k (ver-d) st lo hi
     |false=>.pv .junk
   |none=>.pv .junk
 |.fn f first aT=>.fn f (jf first) (jf aT)
def jf:List AV→List AV
 |[]=>[]
 |v::r=>Al v::jf r
end
def iN:av→av
 |.var cells=>.var (jf inv cells)
 |.ny cells=>.ny cells
 |.arr e ver st rows=>.arr e 0 st rows
 |.bX ver st rows=>.bX 0 st rows
 |.tr y _ rest st=>.tr y 0 rest st
 |.dL e ver st pre row post=>.dL e 0 st pre (jf inv row) post
 |.bR e ver st j ed sd pre row post=>.bR e 0 st j ed sd pre (jf inv row) post
 |.mp kk kv es=>.mp kk kv es
def oM:Nat→List (Nat×av)→List (Nat×av)
 |_,[]=>[]
 |k,(_,box)::r=>(k,iN inv box)::oM (k+1) r
end
def yK (dU:Ren)(id k:Nat):Nat×Nat:=
 match lk dU k with
 |some p=>p
 |none=>(id+1000000*k,0)
def uS (dU:Ren)(id:Nat):List (Nat×av)→Ren
 |[]=>[]
 |(k,_)::r=>(k,yK dU id k)::uS dU id r
def fe (ρ:Ren):List (Nat×av)→List (Nat×av)
 |[]=>[]
 |(k,box)::r=>(gy ρ k,dI ρ k box)::fe ρ r
def pJ (dU:Ren)(id:Nat):List (Nat×av)→List Nat
 |[]=>[]
 | (k,_)::r=>match lk dU k with
   |some _=>pJ dU id r
   |none=>(id+1000000*k)::pJ dU id r
def nM (hp:List (Nat×av)):List Nat→Bool
 |[]=>true
 | b::r=>(match lk hp b with
   |some _=>false
   |none=>true)&&nM hp r
def passed (hp':List (Nat×av)):Ren→Bool
 |[]=>true
 |(k,_)::r=>(isSome (lk hp' k)&&Nat.blt k 999)&&passed hp' r
def EP (inv:Inv):Ren→Bool
 |[]=>true
 | (k,(b,d))::r=>(match lk inv b with
   |some (k',d')=>Nat.beq k' k&&Nat.beq d' d
   |none=>false)&&EP inv r
def EQ:List (Nat×av)→Bool
 |[]=>true
 | (_,box)::r=>match box with
   |.tr _ _ _ _=>false
   |_=>EQ r
def SQ (inv:Inv)(dU:Ren)(id:Nat)(hp hp' dY:List (Nat×av)):Bool:=passed hp' dU&&(nM hp (pJ dU id hp')&&(rH hp'&&(EP inv dU&&EQ dY)))
def K8 (dU:Ren)(id:Nat):List (Nat×av)→(Ren→Prop)→Prop
 |[],K=>K []
 | (k,_)::r,K=>match lk dU k with
   |some p=>K8 dU id r fun t=>K ((k,p)::t)
   |none=>K8 dU id r fun t=>K ((k,(id+1000000*k,0))::t)
section
variable (ρ:Ren)
mutual
def wU:AV→(AV→Prop)→Prop
 |.pv p,K=>K (.pv p)
 |.agg cs,K=>pK cs fun cs=>K (.agg cs)
 |.fF cs,K=>pK cs fun cs=>K (.fF cs)
 | .ptr b off,K=>match lk ρ b with
   | some p=>match p with
     |(x,_)=>K (.ptr x off)
   |none=>K (.ptr (b+2000000000) off)
 | .cB b ver i off,K=>match lk ρ b with
   | some p=>match p with
     |(x,d)=>K (.cB x (ver+d) i off)
   |none=>K (.cB (b+2000000000) (ver+0) i off)
 | .aG b ver,K=>match lk ρ b with
   | some p=>match p with
     |(x,d)=>K (.aG x (ver+d))
   |none=>K (.aG (b+2000000000) (ver+0))
 | .sub b ver st lo hi,K=>match lk ρ b with
   | some p=>match p with
     |(x,d)=>K (.sub x (ver+d) st lo hi)
   |none=>K (.sub (b+2000000000) (ver+0) st lo hi)
 |.fn f first aT,K=>pK first fun first=>pK aT fun aT=>K (.fn f first aT)
def pK:List AV→(List AV→Prop)→Prop
 |[],K=>K []
 |v::r,K=>wU v fun v=>pK r fun r=>K (v::r)
end
def ji:List (Nat×av)→(List (Nat×av)→Prop)→Prop
 |[],K=>K []
 | (k,box)::r,K=>match lk ρ k with
   | some p=>match p with
     | (x,d)=>match box with
       |.var cells=>pK ρ cells fun cells=>ji r fun t=>K ((x,.var cells)::t)
       |.ny cells=>ji r fun t=>K ((x,.ny cells)::t)
       |.arr e ver st rows=>ji r fun t=>K ((x,.arr e (ver+d) st rows)::t)
       |.bX ver st rows=>ji r fun t=>K ((x,.bX (ver+d) st rows)::t)
       |.tr _ _ _ _=>False
       |.dL e ver st pre row post=>pK ρ row fun row=>ji r fun t=>K ((x,.dL e (ver+d) st pre row post)::t)
       |.mp kk kv es=>ji r fun t=>K ((x,.mp kk kv es)::t)
       |.bR e ver st j ed sd pre row post=>pK ρ row fun row=>ji r fun t=>K ((x,.bR e (ver+d) st j ed sd pre row post)::t)
   |none=>False
mutual
theorem sV:∀(v:AV) (K:AV→Prop),wU ρ v K=K (je ρ v)
 | .sub b ver st lo hi,K=>by
   simp only[wU,je,gy,wS];cases lk ρ b with
   |none=>rfl
   |some p=>rfl
 |.pv p,K=>by simp only[wU,je]
 |.agg cs,K=>by simp only[wU,je,eT cs]
 |.fF cs,K=>by simp only[wU,je,eT cs]
 | .ptr b off,K=>by
   simp only[wU,je,gy];cases lk ρ b with
   |none=>rfl
   |some p=>rfl
 | .cB b ver i off,K=>by
   simp only[wU,je,gy,wS];cases lk ρ b with
   |none=>rfl
   |some p=>rfl
 | .aG b ver,K=>by
   simp only[wU,je,gy,wS];cases lk ρ b with
   |none=>rfl
   |some p=>rfl
 |.fn f first aT,K=>by simp only[wU,je,eT first,eT aT]
theorem eT:∀(vs:List AV) (K:List AV→Prop),pK ρ vs K=K (fP ρ vs)
 |[],K=>by simp only[pK,fP]
 |v::r,K=>by simp only[pK,fP,sV v,eT r]
end
theorem iI:∀(h:List (Nat×av)) (K:List (Nat×av)→Prop),ji ρ h K→K (fe ρ h)
 |[],K,hh=>by simpa only[ji,fe] using hh
 | (k,box)::r,K,hh=>by
   simp only[ji] at hh;split at hh
   ·rename_i p hp;obtain⟨x,d⟩:=p;have e1:gy ρ k=x:=by simp[gy,hp]
    have e2:wS ρ k=d:=by simp[wS,hp]
    simp only at hh;cases box with
    | var cells=>
      simp only[eT] at hh;have:=iI r _ hh;simpa only[fe,dI,e1] using this
    |ny cells=>have:=iI r _ hh;simpa only[fe,dI,e1] using this
    |arr e ver st rows=>have:=iI r _ hh;simpa only[fe,dI,e1,e2] using this
    |bX ver st rows=>have:=iI r _ hh;simpa only[fe,dI,e1,e2] using this
    |tr y ver rest st=>exact hh.elim
    |mp kk kv es=>have:=iI r _ hh;simpa only[fe,dI,e1] using this
    | bR e ver st j ed sd pre row post=>
      simp only[eT] at hh;have:=iI r _ hh;simpa only[fe,dI,e1,e2] using this
    | dL e ver st pre row post=>
      simp only[eT] at hh;have:=iI r _ hh;simpa only[fe,dI,e1,e2] using this
   exact hh.elim
end
theorem fK {ρ:Ren}:∀(h:List (Nat×av)) (K K':List (Nat×av)→Prop),ji ρ h K→K' (fe ρ h)→ji ρ h K'
 |[],K,K',hh,hk=>by simpa only[ji,fe] using hk
 | (k,box)::r,K,K',hh,hk=>by
   simp only[ji] at hh ⊢;split at hh
   ·rename_i p hp;obtain⟨x,d⟩:=p;have e1:gy ρ k=x:=by simp[gy,hp]
    have e2:wS ρ k=d:=by simp[wS,hp]
    simp only at hh ⊢;simp only[fe,e1] at hk;cases box with
    | var cells=>
      simp only[eT] at hh ⊢;exact fK r _ _ hh hk
    |ny cells=>exact fK r _ _ hh hk
    |arr e ver st rows=>simp only[dI,e2] at hk;exact fK r _ _ hh hk
    |bX ver st rows=>simp only[dI,e2] at hk;exact fK r _ _ hh hk
    |tr y ver rest st=>exact hh.elim
    |mp kk kv es=>exact fK r _ _ hh hk
    | bR e ver st j ed sd pre row post=>
      simp only[eT] at hh ⊢;simp only[dI,e2] at hk;exact fK r _ _ hh hk
    | dL e ver st pre row post=>
      simp only[eT] at hh ⊢;simp only[dI,e2] at hk;exact fK r _ _ hh hk
   exact hh.elim
theorem sU (dU:Ren)(id:Nat):∀(h:List (Nat×av)) (K:Ren→Prop),K8 dU id h K=K (uS dU id h)
 |[],K=>rfl
 | (k,box)::r,K=>by
   simp only[K8,uS,yK,sU dU id r];cases lk dU k<;>rfl
theorem jA:∀{h:List (Nat×av)},EQ h=true→∀k x y z u,lk h k≠some (.tr x y z u)
 |[],_,k,x,y,z,u,hk=>by simp[lk] at hk
 | (k',box)::r,h,k,x,y,z,u,hk=>by
   rw[aj] at hk;split at hk
   ·simp only[Option.some.injEq] at hk;subst hk;simp[EQ] at h
   refine jA (h:=r) ?_ k x y z u hk;cases box<;>simp only[EQ] at h<;>first|exact h|cases h
theorem fU {ρ:Ren}:∀(h:List (Nat×av)) (K:List (Nat×av)→Prop),ji ρ h K→EQ h=true
 |[],K,hh=>rfl
 | (k,box)::r,K,hh=>by
   simp only[ji] at hh;split at hh
   ·simp only[EQ];cases box with
    |var cells=>simp only[eT] at hh;exact fU r _ hh
    |ny cells=>exact fU r _ hh
    |arr e ver st rows=>exact fU r _ hh
    |bX ver st rows=>exact fU r _ hh
    |tr y ver rest st=>exact hh.elim
    |dL e ver st pre row post=>simp only[eT] at hh;exact fU r _ hh
    |mp kk kv es=>exact fU r _ hh
    |bR e ver st j ed sd pre row post=>simp only[eT] at hh;exact fU r _ hh
   exact hh.elim
def gC (P:Program)(hp:List (Nat×av))(id:Nat)(vs:List AV)(K:AV→List (Nat×av)→List Nat→Prop):Prop:=
 match vs with
 | fv::args=>match Ig fv with
   | some (.func f,first,aT)=>match sS hp 100 (dx (first++(args++aT))) [] with
     | ids=>match iw hp ids with
       | some H=>match iV 1 H with
         | inv=>match gP 1 H with
           | dU=>∃r hp',gY P f (jf inv (first++(args++aT))) (oM inv 1 H) r hp'∧match SQ inv dU id hp hp' (oM inv 1 H) with
             |true=>K8 dU id hp' fun ρ=>wU ρ r fun r=>ji ρ hp' fun ws=>K r ws (ids++pJ dU id hp')
             |false=>False
       |none=>False
   |_=>False
 |_=>False
def gI (P:Program)(hp:List (Nat×av))(id:Nat)(vs:List AV)(K:AV→List (Nat×av)→List Nat→Prop):Prop:=
 match vs with
 | fv::args=>match Ig fv with
   | some (.func f,first,aT)=>match sS hp 100 (dx (first++(args++aT))) [] with
     | ids=>match iw hp ids with
       | some H=>match iV 1 H with
         | inv=>match gP 1 H with
           | dU=>match EP inv dU&&EQ (oM inv 1 H) with
             | true=>∃Q:AV→List (Nat×av)→Prop,GC P f (jf inv (first++(args++aT))) (oM inv 1 H) Q∧∀r hp',Q r hp'→match SQ inv dU id hp hp' (oM inv 1 H) with
               |true=>K8 dU id hp' fun ρ=>wU ρ r fun r=>ji ρ hp' fun ws=>K r ws (ids++pJ dU id hp')
               |false=>False
             |false=>False
       |none=>False
   |_=>False
 |_=>False
theorem mP {hp:List (Nat×av)}:∀{ids:List Nat} {H:List (Nat×av)},iw hp ids=some H→∀x∈H,lk hp x.1=some x.2
 |[],H,h,x,hx=>by simp only[iw,Option.some.injEq] at h;subst h;simp at hx
 | i::r,H,h,x,hx=>by
   simp only[iw] at h;split at h
   ·rename_i bx hbx;split at h
    ·rename_i t ht;simp only[Option.some.injEq] at h;subst h;rcases List.mem_cons.1 hx with rfl|hx
     ·exact hbx
     exact mP ht x hx
    cases h
   cases h
theorem uT:∀{H:List (Nat×av)} {k0 b k d:Nat},lk (iV k0 H) b=some (k,d)→k0≤k∧lk (gP k0 H) k=some (b,d)
 |[],k0,b,k,d,h=>by simp[iV,lk] at h
 | (b',box)::r,k0,b,k,d,h=>by
   simp only[iV,aj] at h;simp only[gP,aj];split at h
   ·rename_i e;simp only[Option.some.injEq,Prod.mk.injEq] at h;obtain⟨rfl,rfl⟩:=h;subst e;exact⟨Nat.le_refl _,by rw[if_pos rfl]⟩
   obtain⟨h1,h2⟩:=uT h;exact⟨by omega,by rw[if_neg (by omega)];exact h2⟩
theorem ER:∀{H:List (Nat×av)} {k0 k:Nat} {p:Nat×Nat},lk (gP k0 H) k=some p→k0≤k
 |[],k0,k,p,h=>by simp[gP,lk] at h
 | (b',box)::r,k0,k,p,h=>by
   simp only[gP,aj] at h;split at h
   ·omega
   have:=ER h;omega
theorem JH {inv:Inv}:∀{H:List (Nat×av)} {k0 k:Nat} {p:av},lk (oM inv k0 H) k=some p→k0≤k
 |[],k0,k,p,h=>by simp[oM,lk] at h
 | (b',box)::r,k0,k,p,h=>by
   simp only[oM,aj] at h;split at h
   ·omega
   have:=JH h;omega
theorem uU {inv:Inv}{hp:List (Nat×av)}:∀{H:List (Nat×av)} {k0 b k d:Nat},(∀x∈H,lk hp x.1=some x.2)→lk (gP k0 H) k=some (b,d) →
  ∃box,lk hp b=some box∧d=j4 box∧lk (oM inv k0 H) k=some (iN inv box)
 |[],k0,b,k,d,_,h=>by simp[gP,lk] at h
 | (b',box)::r,k0,b,k,d,hm,h=>by
   simp only[gP,aj] at h;simp only[oM,aj];split at h
   ·rename_i e;simp only[Option.some.injEq,Prod.mk.injEq] at h;obtain⟨rfl,rfl⟩:=h;exact⟨box,hm (b',box) (by simp),rfl,by rw[if_pos e]⟩
   have hge:=ER h;obtain⟨bx,h1,h2,h3⟩:=uU (inv:=inv) (fun x hx=>hm x (by simp[hx])) h;exact⟨bx,h1,h2,by rw[if_neg (by omega)];exact h3⟩
theorem yL {inv:Inv}{hp:List (Nat×av)}:∀{H:List (Nat×av)} {k0 k:Nat} {box0:av},(∀x∈H,lk hp x.1=some x.2)→lk (oM inv k0 H) k=some box0 →
  ∃b box,lk (gP k0 H) k=some (b,j4 box)∧lk hp b=some box∧box0=iN inv box
 |[],k0,k,box0,_,h=>by simp[oM,lk] at h
 | (b',box)::r,k0,k,box0,hm,h=>by
   simp only[oM,aj] at h;simp only[gP,aj];split at h
   ·rename_i e;simp only[Option.some.injEq] at h;exact⟨b',box,by rw[if_pos e],hm (b',box) (by simp),h.symm⟩
   have hge:=JH h;obtain⟨b,bx,h1,h2,h3⟩:=yL (fun x hx=>hm x (by simp[hx])) h;exact⟨b,bx,by rw[if_neg (by omega)];exact h1,h2,h3⟩
theorem rJ {inv:Inv}:∀{dU:Ren} {k b d:Nat},EP inv dU=true→lk dU k=some (b,d)→lk inv b=some (k,d)
 |[],k,b,d,_,h=>by simp[lk] at h
 | (k',(b',d'))::r,k,b,d,hok,h=>by
   simp only[EP,Bool.and_eq_true] at hok;rw[aj] at h;split at h
   ·rename_i e;simp only[Option.some.injEq,Prod.mk.injEq] at h;obtain⟨rfl,rfl⟩:=h;have h1:=hok.1;split at h1
    ·rename_i k2 d2 h2;simp only[Bool.and_eq_true] at h1;rw[h2,Nat.eq_of_beq_eq_true h1.1,Nat.eq_of_beq_eq_true h1.2,e]
    cases h1
   exact rJ hok.2 h
theorem pM {hp':List (Nat×av)}:∀{dU:Ren} {k:Nat} {p:Nat×Nat},passed hp' dU=true→lk dU k=some p→k<999∧∃box,lk hp' k=some box
 |[],k,p,_,h=>by simp[lk] at h
 | (k',p')::r,k,p,hok,h=>by
   simp only[passed,Bool.and_eq_true] at hok;rw[aj] at h;split at h
   ·rename_i e;subst e;have h1:=hok.1;rw[Nat.blt_eq] at h1;refine⟨h1.2,?_⟩;cases hb:lk hp' k' with
    |none=>rw[hb] at h1;cases h1.1
    |some box=>exact⟨box,rfl⟩
   exact pM hok.2 h
theorem nS {hp:List (Nat×av)}:∀{l:List Nat},nM hp l=true→∀b∈l,lk hp b=none
 |[],_,b,hb=>by simp at hb
 | x::r,h,b,hb=>by
   simp only[nM,Bool.and_eq_true] at h;rcases List.mem_cons.1 hb with rfl|hb
   ·have h1:=h.1;cases hx:lk hp b with
    |none=>rfl
    |some y=>rw[hx] at h1;cases h1
   exact nS h.2 b hb
theorem yM {dU:Ren}{id:Nat}:∀{hp':List (Nat×av)} {k:Nat} {box:av},lk hp' k=some box→lk dU k=none→id+1000000*k∈pJ dU id hp'
 |[],k,box,h,_=>by simp[lk] at h
 | (k',b')::r,k,box,h,hf=>by
   rw[aj] at h;simp only[pJ];split at h
   ·rename_i e;subst e;rw[hf];simp
   have:=yM (id:=id) h hf;split
   ·exact this
   exact List.mem_cons_of_mem _ this
theorem Bn {dU:Ren}{id:Nat}:∀{hp':List (Nat×av)} {k:Nat},lk (uS dU id hp') k=(lk hp' k).map fun _=>yK dU id k
 |[],k=>rfl
 | (k',b')::r,k=>by
   simp only[uS,aj];split
   ·rename_i e;subst e;rfl
   exact Bn
theorem ql (inv:Inv):∀(vs:List AV),(jf inv vs).length=vs.length
 |[]=>rfl
 |v::r=>by simp[jf,ql inv r]
theorem Yi (inv:Inv)(vs:List AV):bJ (jf inv vs)=bJ vs:=sj (ql inv vs)
def Gt (dU:Ren)(R:Real):Real where
 blk k:=match lk dU k with
  |some (b,_)=>R.blk b
  |none=>0
 nil k:=match lk dU k with
  |some (b,_)=>R.nil b
  |none=>true
 cap k:=match lk dU k with
  |some (b,_)=>R.cap b
  |none=>(0,[])
 Y:=R.Y
theorem yN {dU:Ren}{R:Real}{k b d:Nat}(h:lk dU k=some (b,d)):(Gt dU R).blk k=R.blk b∧(Gt dU R).nil k=R.nil b∧(Gt dU R).cap k=R.cap b:=by
 simp[Gt,h]
theorem CX {dU:Ren}{R:Real}{k b d n:Nat}(h:lk dU k=some (b,d)):bA (Gt dU R) k n=bA R b n:=by
 obtain⟨h1,h2,h3⟩:=yN (R:=R) h;simp only[bA,h1,h2,h3]
section
variable {inv:Inv}{dU:Ren}{hp dY:List (Nat×av)}{R:Real}{N N0:Nat→Prop}{w:World}
variable (h1:∀b k d,lk inv b=some (k,d)→lk dU k=some (b,d))(h2:∀k b d,lk dU k=some (b,d)→∃box,lk hp b=some box∧d=j4 box∧lk dY k=some (iN inv box))(hN:∀r,N0 r→N r)
include h1 h2
theorem yO {b k d off:Nat}(hb:lk inv b=some (k,d)){v:Value}(h:aI R b off v (lk hp b)):aI (Gt dU R) k off v (lk dY k):=by
 obtain⟨box,a1,a2,a3⟩:=h2 k b d (h1 b k d hb);obtain⟨e1,e2,e3⟩:=yN (R:=R) (h1 b k d hb);rw[a1] at h;rw[a3];cases box<;>simp only[aI,iN,e1] at h ⊢ <;> exact h
theorem uV {b k d ver:Nat}(hb:lk inv b=some (k,d))(hd:d≤ver){v:Value}(h:aD R b ver v (lk hp b)):aD (Gt dU R) k (ver-d) v (lk dY k):=by
 obtain⟨box,a1,a2,a3⟩:=h2 k b d (h1 b k d hb);rw[a1] at h;rw[a3];cases box<;>simp only[aD,iN,Yi,CX (h1 b k d hb)] at h ⊢ <;> first
  |exact h
  |(simp only[j4] at a2;exact⟨by omega,h.2.1,fun e=>h.2.2 (by omega)⟩)
theorem Bo {b k d ver i off:Nat}(hb:lk inv b=some (k,d))(hd:d≤ver){v:Value}(h:aK R b ver i off v (lk hp b)):aK (Gt dU R) k (ver-d) i off v (lk dY k):=by
 obtain⟨box,a1,a2,a3⟩:=h2 k b d (h1 b k d hb);obtain⟨e1,e2,e3⟩:=yN (R:=R) (h1 b k d hb);rw[a1] at h;rw[a3];cases box<;>simp only[aK,iN,e1,e2] at h ⊢ <;> first
  |exact h
  |exact⟨Nat.zero_le _,h.2.1,h.2.2⟩
  |(simp only[j4] at a2;exact⟨by omega,h.2.1,fun e=>h.2.2 (by omega)⟩)
include hN
mutual
theorem ES:∀(v:AV) (x:Value),ah N w hp R v x→ah N0 w dY (Gt dU R) (Al inv v) x
 |.pv p,x=>by simp only[Al,ah];exact bN (fun r _ h=>hN r h) (fun _ _ _=>rfl) p x
 |.agg cs,x=>by simp only[Al,ah];rintro⟨vs,a,b⟩;exact⟨vs,a,mQ cs _ b⟩
 |.fF cs,x=>by simp only[Al,ah];rintro⟨vs,a,b⟩;exact⟨vs,a,kD cs _ b⟩
 | .ptr b off,x=>by
   intro h;simp only[Al];split
   ·rename_i k d hb;simp only[ah] at h ⊢;exact yO h1 h2 hb h
   simp only[ah,aU]
 | .cB b ver i off,x=>by
   intro h;simp only[Al];split
   ·rename_i k d hb;split
    ·rename_i hd;simp only[ah] at h ⊢;exact Bo h1 h2 hb (Nat.le_of_ble_eq_true hd) h
    simp only[ah,aU]
   simp only[ah,aU]
 | .aG b ver,x=>by
   intro h;simp only[Al];split
   ·rename_i k d hb;split
    ·rename_i hd;simp only[ah] at h ⊢;exact uV h1 h2 hb (Nat.le_of_ble_eq_true hd) h
    simp only[ah,aU]
   simp only[ah,aU]
 | .sub b ver st lo hi,x=>by
   intro h;simp only[Al];split
   ·rename_i k d hb;split
    ·rename_i hd;simp only[ah] at h ⊢;obtain⟨u,a,c⟩:=h;exact⟨u,uV h1 h2 hb (Nat.le_of_ble_eq_true hd) a,c⟩
    simp only[ah,aU]
   simp only[ah,aU]
 | .fn f first aT,x=>by
   simp only[Al,ah];rintro⟨fs,cs,a,b,c⟩;exact⟨fs,cs,a,kD _ _ b,kD _ _ c⟩
theorem kD:∀(vs:List AV) (xs:List Value),bB N w hp R vs xs→bB N0 w dY (Gt dU R) (jf inv vs) xs
 |[],xs=>by simp only[jf,bB];exact id
 |p::ps,xs=>by simp only[jf,bB];rintro⟨v,r,a,b,c⟩;exact⟨v,r,a,ES p v b,kD ps r c⟩
theorem mQ:∀(vs:List AV) (xs:List Value),bq N w hp R vs xs→bq N0 w dY (Gt dU R) (jf inv vs) xs
 |[],xs=>by simp only[jf,bq];exact id
 |p::ps,xs=>by simp only[jf,bq];rintro⟨v,r,a,d,b,c⟩;exact⟨v,r,a,d,ES p v b,mQ ps r c⟩
end
end
def Qe (ρ:Ren)(R R2:Real)(hp':List (Nat×av)):Real where
 blk b:=match lk (hp'.map fun x=>(gy ρ x.1,x.1)) b with
  |some k=>R2.blk k
  |none=>R.blk b
 nil b:=match lk (hp'.map fun x=>(gy ρ x.1,x.1)) b with
  |some k=>R2.nil k
  |none=>R.nil b
 cap b:=match lk (hp'.map fun x=>(gy ρ x.1,x.1)) b with
  |some k=>R2.cap k
  |none=>R.cap b
 Y:=R.Y
theorem Bp {ρ:Ren}{b:Nat}:∀{hp':List (Nat×av)},lk (hp'.map fun x=>(gy ρ x.1,x.1)) b=none→lk (fe ρ hp') b=none
 |[],_=>rfl
 | (k,box)::r,h=>by
   simp only[List.map_cons,aj] at h;simp only[fe,aj];split at h
   ·cases h
   rename_i e;rw[if_neg e];exact Bp h
theorem uW {ρ:Ren}{b k:Nat}:∀{hp':List (Nat×av)},rH hp'=true→lk (hp'.map fun x=>(gy ρ x.1,x.1)) b=some k →
  b=gy ρ k∧∃box,lk hp' k=some box∧lk (fe ρ hp') b=some (dI ρ k box)
 |[],_,h=>by simp[lk] at h
 | (k',box)::r,hok,h=>by
   simp only[rH,Bool.and_eq_true] at hok;simp only[List.map_cons,aj] at h;simp only[fe,aj];split at h
   ·rename_i e;simp only[Option.some.injEq] at h;subst h;exact⟨e.symm,box,by rw[if_pos rfl],by rw[if_pos e]⟩
   rename_i e;obtain⟨h1,bx,h2,h3⟩:=uW hok.2 h;refine⟨h1,bx,?_,by rw[if_neg e];exact h3⟩;rw[if_neg]
   ·exact h2
   rintro rfl
   have:=hok.1;rw[h2] at this;cases this
theorem ET {ρ:Ren}{k:Nat}:∀{hp':List (Nat×av)} {box:av},(∀k' aV,lk hp' k'=some aV→gy ρ k'=gy ρ k→k'=k)→rH hp'=true→lk hp' k=some box →
  lk (hp'.map fun x=>(gy ρ x.1,x.1)) (gy ρ k)=some k
 |[],box,_,_,h=>by simp[lk] at h
 | (k',b')::r,box,hinj,hok,h=>by
   simp only[rH,Bool.and_eq_true] at hok;simp only[List.map_cons,aj];split
   ·rename_i e;rw[hinj k' b' (by simp[aj]) e]
   rename_i e;rw[aj] at h;rw[if_neg (fun e'=>e (by rw[e']))] at h;refine ET (fun k2 Yj h2 e2=>hinj k2 Yj ?_ e2) hok.2 h;rw[aj,if_neg]
   ·exact h2
   rintro rfl
   have:=hok.1;rw[h2] at this;cases this
end Go.AX
end
