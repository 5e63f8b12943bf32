/-
  Conditions: none. A framework for walks: abstract values, memory, and conditions that suffice; the chapters in plain terms.
-/
import Derived.Test.YtfoiekbkkbnpkaaGreatAa
import Derived.Great.FillDense
set_option linter.unusedSectionVars false
set_option linter.unusedVariables false
set_option linter.unusedSimpArgs false
section
namespace Go.AX
theorem IK:∀{ps:List PV} {cs:List AV},IG ps=some cs→cs=ps.map .pv
 |[],cs,h=>by simp only[IG,Option.some.injEq] at h;simp[←h]
 | p::ps,cs,h=>by
   simp only[IG] at h;split at h
   ·rename_i t ht;simp only[Option.some.injEq] at h;simp[←h,IK ht]
   cases h
theorem Fz:∀{vs:List Value} {cs:List AV},XM vs=some cs→cs=vs.map fun v=>.pv (.sc v)
 |[],cs,h=>by simp only[XM,Option.some.injEq] at h;simp[←h]
 | p::ps,cs,h=>by
   simp only[XM] at h;split at h
   ·rename_i t ht;simp only[Option.some.injEq] at h;simp[←h,Fz ht]
   cases h
theorem Ka:∀{vs:List Value} {cs:List PV},Zm vs=some cs→cs=vs.map .sc
 |[],cs,h=>by simp only[Zm,Option.some.injEq] at h;simp[←h]
 | p::ps,cs,h=>by
   simp only[Zm] at h;split at h
   ·rename_i t ht;simp only[Option.some.injEq] at h;simp[←h,Ka ht]
   cases h
section
variable {N:Nat→Prop}{w:World}{hp:List (Nat×au)}{R:Real}
theorem EH {p:PV}(h:cellP p=true){v:Value}(hv:aU N w p v):v.oneCell'=true:=by
 cases p<;>simp only[cellP] at h<;>simp only[aU] at hv<;>try (cases h;done)
 ·subst hv;exact h
 ·obtain⟨p,len,cap,rfl,_⟩:=hv;rfl
 ·obtain⟨g,base,cur,e,fr,rfl,_⟩:=hv;rfl
 obtain⟨fs,cs,rfl,_⟩:=hv;rfl
theorem EI {p:AV}(h:Xu p=true){v:Value}(hv:ai N w hp R p v):v.oneCell'=true:=by
 cases p with
 |pv p=>exact EH h (by simpa only[ai] using hv)
 |agg _=>cases h
 |fM _=>cases h
 | ptr b off=>
   simp only[ai] at hv;cases hb:lk hp b with
   |none=>rw[hb] at hv;exact hv.elim
   |some box=>rw[hb] at hv;cases box<;>simp only[aH] at hv<;>(subst hv;rfl)
 | bU b ver i off=>
   simp only[ai] at hv;cases hb:lk hp b with
   |none=>rw[hb] at hv;exact hv.elim
   |some box=>rw[hb] at hv;cases box<;>simp only[aJ] at hv<;>exact hv.2.1
 | sub b ver st lo hi=>
   simp only[ai] at hv;obtain⟨u,_,_,rfl⟩:=hv;exact QD _ _ _ _
 | aZ b ver=>
   simp only[ai] at hv;cases hb:lk hp b with
   |none=>rw[hb] at hv;exact hv.elim
   |some box=>rw[hb] at hv;cases box<;>simp only[aD] at hv<;>exact hv.2.1
 | fn f a c=>
   simp only[ai] at hv;obtain⟨fs,cs,rfl,_⟩:=hv;rfl
theorem yD {v:Value}(h:v.oneCell'=true):v.cells = #[v]:=by
 cases v<;>first|rfl|(simp[Value.oneCell'] at h)
theorem iA {i:TI}{v:AV}{cs:List AV}(h:cellsOf i v=some cs){u:Value}(hv:ai N w hp R v u):FC (ai N w hp R) cs u.cells.toList:=by
 unfold cellsOf at h;split at h
 ·split at h
  ·rename_i ps;have:=IK h;subst this;simp only[ai,aU] at hv;obtain⟨vs,rfl,hv⟩:=hv;rw[eB] at hv;exact FC.map (fun p v hv=>by simpa only[ai] using hv) hv
  ·simp only[Option.some.injEq] at h;subst h;simp only[ai] at hv;obtain⟨vs,rfl,hv⟩:=hv;rw[aW] at hv;exact hv
  cases h
 split at h
 ·rename_i hc;simp only[Option.some.injEq] at h;subst h;have h1:=EI hc hv;rw[yD h1];exact⟨u,[],rfl,h1,hv,rfl⟩
 cases h
theorem ru {i:TI}{p:PV}{cs:List PV}(h:jR i p=some cs){u:Value}(hv:aU N w p u):FC (aU N w) cs u.cells.toList:=by
 unfold jR at h;split at h
 ·split at h
  ·simp only[Option.some.injEq] at h;subst h;simp only[aU] at hv;obtain⟨vs,rfl,hv⟩:=hv;rw[eB] at hv;exact hv
  cases h
 split at h
 ·rename_i hc;simp only[Option.some.injEq] at h;subst h;have h1:=EH hc hv;rw[yD h1];exact⟨u,[],rfl,h1,hv,rfl⟩
 cases h
end
def nZ (T:Tab)(H:List (Nat×au))(t:TypeId)(x y:AV)(K:AV→List (Nat×au)→Prop):Prop:=
 match lk T t with
 | some i=>match x with
   | .ptr b off=>match lk H b with
     | some (.var cells)=>match cellsOf i y with
       | some cs=>match Nat.beq cs.length i.size with
         | true=>match iT off cells cs with
           |some cells'=>K (.pv (.sc undef)) [(b,.var cells')]
           |none=>False
         |false=>False
       |none=>False
     |_=>False
   | .bU b ver k off=>match lk H b with
     | some (.arr e v st rows)=>match Nat.beq ver v with
       | true=>match y with
         | .pv p=>match jR i p with
           | some cs=>match Nat.beq cs.length i.size with
             | true=>∃row,rows[k]? = some row∧match iT off row cs with
               |some row'=>K (.pv (.sc undef)) [(b,.arr e v st (rows.set k row'))]
               |none=>False
             |false=>False
           |none=>False
         |_=>False
       |false=>False
     |_=>False
   |_=>False
 |none=>False
section
variable {P:Program}{T:Tab}{c:Ctx}{R:Real}{s:AS}{a:Act}{w:World}
theorem l7 (w:World)(g:Nat)(cs:Array Value):kK (fun r=>r=g) w (w.setRow g cs):=
 ⟨by simp,fun r _ hn=>setRow_other w g r cs hn,rfl,rfl,rfl⟩
theorem qp (g:aS c R s a w)(hT:bA P T){H:List (Nat×au)}(hH:∀b box,lk H b=some box→lk s.hp b=some box){t:TypeId}{x y:AV}
  {K:AV→List (Nat×au)→Prop} (h:nZ T H t x y K) {u v:Value} (hx:ai (aG c R s.hp) w s.hp R x u) (hy:ai (aG c R s.hp) w s.hp R y v) :
  ∃w' ws,(Instr.storeAt t u v).run P w=.ok () w'∧K (.pv (.sc undef)) ws∧aS c R (s.app ws) a w':=by
 unfold nZ at h;split at h;rotate_left;cases h
 rename_i i hi;have hi':=hT _ _ hi;split at h
 ·rename_i b off;split at h;rotate_left;cases h
  rename_i cells hb;have hb':=hH _ _ hb;split at h;rotate_left;cases h
  rename_i cs hcs;split at h;rotate_left;cases h
  rename_i hlen;have hlen:=Nat.eq_of_beq_eq_true hlen;split at h;rotate_left;cases h
  rename_i cells' hset;simp only[ai,hb',aH] at hx;subst hx;obtain⟨cur,e,hg,hc⟩:=(g.boxes b _ hb');rw[aW] at hc;have hcv:=iA hcs hy;obtain⟨hl,hc'⟩:=FC.iT hc hcv hset;have hvs:v.cells.size=i.size:=by rw[←hlen,←hcv.length];simp
  have hrun:=qM (w:=w) hi' hg hvs (off:=off) (by simp at hl;omega) hcv.one;have hrun':(Instr.storeAt t (.pointer (some ⟨R.blk b,off,none⟩)) v).run P w=.ok () (w.setRow (R.blk b) (cur.toList.take off++v.cells.toList++cur.toList.drop (off+v.cells.toList.length)).toArray):=by
   simp only[Instr.storeAt,Instr.sureAddr,pure_bind];exact hrun
  refine⟨_,_,hrun',h,?_⟩;have hR:∀b',b'≠b→R.blk b'=R.blk b'∧R.nil b'=R.nil b'∧R.cap b'=R.cap b':=fun _ _=>⟨rfl,rfl,rfl⟩
  have r1:∀off v,aH R b off v (lk s.hp b)→aH R b off v (some (.var cells')):=fun off v h=>by rw[hb'] at h;exact h
  have r2:∀ver v,aD R b ver v (lk s.hp b)→aD R b ver v (some (.var cells')):=fun _ v h=>by rw[hb'] at h;exact h
  have r3:∀ver i off v,aJ R b ver i off v (lk s.hp b)→aJ R b ver i off v (some (.var cells')):=fun _ _ _ v h=>by rw[hb'] at h;exact h
  have hown:∀r,ax R b r (some (.var cells'))→ax R b r (lk s.hp b)∨w.heap.size≤r:=fun r h=>by rw[hb'];exact .inl h
  have hworld:kK (fun r=>ax R b r (lk s.hp b)) w (w.setRow (R.blk b) (cur.toList.take off++v.cells.toList++cur.toList.drop (off+v.cells.toList.length)).toArray):=by
   refine (l7 w _ _).mono ?_;rintro r rfl
   rw[hb'];rfl
  obtain⟨m1,m2,m3,m4,m5⟩:=g.Df hR r1 r2 r3 hown hworld;refine g.upd hR r1 r2 r3 hown hworld ?_;refine⟨_,e,setRow_heap w _ cur _ e _ hg,?_⟩;rw[aW];exact hc'.imp fun p v h=>bP m1 m2 m3 m4 m5 p v h
 ·rename_i b ver k off;split at h;rotate_left;cases h
  rename_i e vr st rows hb;have hb':=hH _ _ hb;split at h;rotate_left;cases h
  rename_i dN;split at h;rotate_left;cases h
  rename_i p;split at h;rotate_left;cases h
  rename_i cs hcs;split at h;rotate_left;cases h
  rename_i hlen;have hlen:=Nat.eq_of_beq_eq_true hlen;obtain⟨row,hrow,h⟩:=h;split at h;rotate_left;cases h
  rename_i row' hset;simp only[ai,hb',aJ] at hx;obtain⟨hn,rfl⟩:=hx.2.2 (Nat.eq_of_beq_eq_true dN);simp only[ai] at hy;obtain⟨cur,hg,hs,hle,hm,hr,_⟩:=eO (g.boxes b _ hb') hn;have hcv:=ru hcs hy;have Yt:k<rows.length:=(List.getElem?_eq_some_iff.1 hrow).1;obtain⟨hrl,Qy⟩:=oV hr hrow;rw[bT] at Qy;have hrc:=Qy.take;rw[hrl] at hrc;obtain⟨hl,hc'⟩:=FC.iT hrc hcv hset;have hvs:v.cells.size=i.size:=by rw[←hlen,←hcv.length];simp
  have hpl:=Qy.length;simp only[List.length_take,List.length_drop,Array.length_toList] at hl hpl;have hks:k*st+st≤cur.size:=by
   have:(k+1)*st≤(R.cap b).1*st:=Nat.mul_le_mul_right _ (by omega);rw[Nat.add_mul] at this;omega
  have hrun:=qM (w:=w) hi' hg hvs (off:=k*st+off) (by have:=hcv.length;simp only[Array.length_toList] at this hl;omega) hcv.one;have hrun':(Instr.storeAt t (.pointer (some ⟨R.blk b,k*st+off,none⟩)) v).run P w =
    .ok () (w.setRow (R.blk b) (cur.toList.take (k*st+off)++v.cells.toList++cur.toList.drop (k*st+off+v.cells.toList.length)).toArray):=by
   simp only[Instr.storeAt,Instr.sureAddr,pure_bind];exact hrun
  refine⟨_,_,hrun',h,?_⟩;have hR:∀b',b'≠b→R.blk b'=R.blk b'∧R.nil b'=R.nil b'∧R.cap b'=R.cap b':=fun _ _=>⟨rfl,rfl,rfl⟩
  have hll:(rows.set k row').length=rows.length:=by simp
  have r1:∀off v,aH R b off v (lk s.hp b)→aH R b off v (some (.arr e vr st (rows.set k row'))):=fun off v h=>by rw[hb'] at h;exact h
  have r2:∀ver v,aD R b ver v (lk s.hp b)→aD R b ver v (some (.arr e vr st (rows.set k row'))):=fun _ v h=>by rw[hb'] at h;simp only[aD,hll] at h ⊢;exact h
  have r3:∀ver i off v,aJ R b ver i off v (lk s.hp b)→aJ R b ver i off v (some (.arr e vr st (rows.set k row'))):=fun _ _ _ v h=>by rw[hb'] at h;exact h
  have hown:∀r,ax R b r (some (.arr e vr st (rows.set k row')))→ax R b r (lk s.hp b)∨w.heap.size≤r:=fun r h=>by rw[hb'];exact .inl h
  have hworld:kK (fun r=>ax R b r (lk s.hp b)) w (w.setRow (R.blk b) (cur.toList.take (k*st+off)++v.cells.toList++cur.toList.drop (k*st+off+v.cells.toList.length)).toArray):=by
   refine (l7 w _ _).mono ?_;rintro r rfl
   rw[hb'];exact⟨hn,rfl⟩
  obtain⟨m1,m2,m3,m4,m5⟩:=g.Df hR r1 r2 r3 hown hworld;refine g.upd hR r1 r2 r3 hown hworld ?_;have Sj:row'.length=st:=(zu hset).trans hrl;have Sk:=IB (i:=k) hr Yt Sj hc';have hyl:(List.take off (List.take st (List.drop (k*st) cur.toList))++v.cells.toList++List.drop (off+v.cells.toList.length) (List.take st (List.drop (k*st) cur.toList))).length=st:=by
   rw[hc'.length];exact Sj
  rw[hyl] at Sk;have heq:cur.toList.take (k*st)++(List.take off (List.take st (List.drop (k*st) cur.toList))++v.cells.toList++List.drop (off+v.cells.toList.length) (List.take st (List.drop (k*st) cur.toList)))++cur.toList.drop (k*st+st) =
    cur.toList.take (k*st+off)++v.cells.toList++cur.toList.drop (k*st+off+v.cells.toList.length):=by
   have e1:List.take off (List.take st (List.drop (k*st) cur.toList))=List.take off (List.drop (k*st) cur.toList):=by
    have:min off st=off:=by omega
    rw[List.take_take,this]
   have e2:List.drop (off+v.cells.toList.length) (List.take st (List.drop (k*st) cur.toList))++cur.toList.drop (k*st+st)=cur.toList.drop (k*st+off+v.cells.toList.length):=by
    have h1:cur.toList.drop (k*st+st)=(cur.toList.drop (k*st)).drop st:=by rw[List.drop_drop]
    have h2:cur.toList.drop (k*st+off+v.cells.toList.length)=(cur.toList.drop (k*st)).drop (off+v.cells.toList.length):=by rw[List.drop_drop,Nat.add_assoc]
    rw[h1,h2,←List.drop_append_of_le_length (by simp only[List.length_take,List.length_drop,Array.length_toList];omega),List.take_append_drop]
   rw[e1,List.take_add];simp only[List.append_assoc] at e2 ⊢;rw[e2]
  rw[heq] at Sk;have hsl:bO R b (rows.set k row').length=.slice (some ⟨R.blk b,0,none⟩) rows.length ((R.cap b).1):=by simp[bO,hn]
  obtain⟨t1,t2,t3⟩:=d9 (aI m1 m2 _ _ _ Sk);refine⟨_,?_,t2⟩;rw[hsl,hll];rw[hll] at t1;refine⟨?_,.inr ⟨R.blk b,(R.cap b).1,_,rfl,Nat.zero_le _,setRow_heap w _ cur _ e _ hg,hle,hm,?_,by simp⟩⟩
  ·simp only[List.length_take];omega
  simp only[List.size_toArray,List.length_append,List.length_take,List.length_drop,Array.length_toList];have:=hcv.length;simp only[Array.length_toList] at this hl ⊢;omega
 exact h.elim
end
section
variable {P:Program}{T:Tab}{c:Ctx}{R:Real}{s:AS}{a:Act}{w:World}
theorem aS.pX (g:aS c R s a w){b:Nat}{e:TypeId}{ver st:Nat}{rows:List (List PV)}{R':Real}{w':World}
  (hold:lk s.hp b=none∨∃e0 v J6 vN,lk s.hp b=some (.arr e0 v J6 vN)∧v<ver)
  (hR:∀b',b'≠b→R'.blk b'=R.blk b'∧R'.nil b'=R.nil b'∧R'.cap b'=R.cap b')
  (hworld:kK (fun r=>ax R b r (lk s.hp b)) w w')
  (hown:R'.nil b=false→ax R b (R'.blk b) (lk s.hp b)∨w.heap.size≤R'.blk b)
  {xs:List Value} (ho:w'.ownsRow 0 e st (bO R' b rows.length) rows.length xs) (hr:bB (aG c R s.hp) w st rows xs) (hY:R'.Y=R.Y:=by rfl) :
  aS c R' (s.app [(b,.arr e ver st rows)]) a w' ∧
   ai (aG c R' ((b,.arr e ver st rows)::s.hp)) w' ((b,.arr e ver st rows)::s.hp) R' (.aZ b ver) (bO R' b rows.length):=by
 have r1:∀off v,aH R b off v (lk s.hp b)→aH R' b off v (some (.arr e ver st rows)):=by
  intro off v h;rcases hold with hf|⟨e0,v0,J6,vN,hf,hv⟩<;>rw[hf] at h<;>exact h.elim
 have r2:∀dD v,aD R b dD v (lk s.hp b)→aD R' b dD v (some (.arr e ver st rows)):=by
  intro dD v h;rcases hold with hf|⟨e0,v0,J6,vN,hf,hv⟩
  ·rw[hf] at h;exact h.elim
  rw[hf] at h;simp only[aD] at h ⊢;exact⟨by omega,h.2.1,fun x=>by omega⟩
 have r3:∀dD i off v,aJ R b dD i off v (lk s.hp b)→aJ R' b dD i off v (some (.arr e ver st rows)):=by
  intro dD i off v h;rcases hold with hf|⟨e0,v0,J6,vN,hf,hv⟩
  ·rw[hf] at h;exact h.elim
  rw[hf] at h;simp only[aJ] at h ⊢;exact⟨by omega,h.2.1,fun x=>by omega⟩
 have hown':∀r,ax R' b r (some (.arr e ver st rows))→ax R b r (lk s.hp b)∨w.heap.size≤r:=by
  rintro r ⟨h1,rfl⟩
  exact hown h1
 obtain⟨m1,m2,m3,m4,m5⟩:=g.Df hR r1 r2 r3 hown' hworld hY;refine⟨g.upd hR r1 r2 r3 hown' hworld ⟨xs,ho,aI m1 m2 _ _ _ hr⟩ hY,?_⟩;simp only[ai,ak,if_true];refine⟨Nat.le_refl _,?_,fun _=>rfl⟩;unfold bO;split<;>rfl
def jP (H:List (Nat×au))(st:Nat)(x:AV):Option (List (List PV)):=
 match x with
 |.pv (.sc (.slice none 0 0))=>some []
 | .pv (.sl _ st' rows)=>match Nat.beq st' st with
   |true=>some rows
   |false=>none
 | .aZ b ver=>match qQ (lk H b) ver with
   | some (.sl _ st' rows)=>match Nat.beq st' st with
     |true=>some rows
     |false=>none
   |_=>none
 | .sub b ver st1 lo hi=>match qQ (lk H b) ver with
   | some (.sl _ st' rows)=>match Nat.beq st' st,Nat.beq st1 st with
     |true,true=>some (jM rows lo hi)
     |_,_=>none
   |_=>none
 |_=>none
theorem uM {N:Nat→Prop}{nn:Bool}{st:Nat}{rows:List (List PV)}{u:Value}(h:aU N w (.sl nn st rows) u) :
  ∃p len cap,u=.slice p len cap∧len=rows.length∧len≤cap∧(p=none→rows=[])∧∀ad,p=some ad→∃news:List Value,news.length=rows.length*st ∧
   (∀j v,news[j]? = some v→w.cell? (ad.add j)=some v)∧(∀u∈news,u.oneCell'=true)∧bB N w st rows news:=by
 simp only[aU] at h;obtain⟨p,len,cap,rfl,rfl,⟨hle,_⟩,hnone,hsome⟩:=h;refine⟨p,_,cap,rfl,rfl,hle,fun e=>List.eq_nil_of_length_eq_zero (by have:=(hnone e).2;omega),fun ad e=>?_⟩;rcases hsome ad e with h6|⟨hs,hn,cur,e2,fr,hg,hr⟩
 ·subst h6;exact⟨[],by simp,by simp,by simp,by simp[bB]⟩
 obtain⟨h1,h2,h3⟩:=d9 hr;obtain⟨blk,off,spot⟩:=ad;simp only at hs hg hr;subst hs;refine⟨_,?_,?_,h3,h2⟩
 ·simp only[List.length_take,List.length_drop] at h1 ⊢;omega
 intro j v hv;rw[addr_add,vO hg];rw[List.getElem?_take] at hv;split at hv
 ·simp only[List.getElem?_drop] at hv;simpa using hv
 cases hv
theorem add_add (a:Addr)(n m:Nat):(a.add n).add m=a.add (n+m):=by
 unfold Addr.add;by_cases h1:n=0
 ·subst h1;simp
 by_cases h2:m=0
 ·subst h2;simp[h1]
 rw[if_neg h1,if_neg h2,if_neg (by omega)];simp[Nat.add_assoc]
theorem Mw (g:aS c R s a w){H:List (Nat×au)}(hH:∀b box,lk H b=some box→lk s.hp b=some box){st:Nat}{b ver:Nat}{nn:Bool}{rows:List (List PV)}
  (hv:qQ (lk H b) ver=some (.sl nn st rows)) {u:Value} (hx:aD R b ver u (lk s.hp b)) :
  ∃p len cap,u=.slice p len cap∧len=rows.length∧len≤cap∧(p=none→rows=[])∧∀ad,p=some ad→∃news:List Value,news.length=rows.length*st ∧
   (∀j v,news[j]? = some v→w.cell? (ad.add j)=some v)∧(∀u∈news,u.oneCell'=true)∧bB (aG c R s.hp) w st rows news:=by
 cases hb:lk H b with
 |none=>rw[hb] at hv;cases hv
 | some box=>
   have hb':=hH _ _ hb;rw[hb] at hv;cases box with
   |var _=>cases hv
   |lM _=>cases hv
   |tr _ _ _ _=>cases hv
   |dX _ _ _ _ _ _=>cases hv
   |mp _ _ _=>cases hv
   |fZ _ _ _ _ _ _ _ _ _=>cases hv
   | arr e v J6 vN=>
     simp only[qQ] at hv;split at hv
     ·rename_i dN;simp only[Option.some.injEq,PV.sl.injEq] at hv;obtain⟨rfl,rfl,rfl⟩:=hv;rw[hb'] at hx;have:=hx.2.2 (Nat.eq_of_beq_eq_true dN);subst this;obtain⟨xs,ho,hr⟩:=(g.boxes b _ hb');rcases ho.2 with ⟨e1,e2⟩|⟨g',cap,cur,e1,_,hg,hle,hm,hs,ht⟩
      ·have he:vN=[]:=List.eq_nil_of_length_eq_zero e2;subst he;rw[e1];exact⟨none,0,0,rfl,rfl,Nat.le_refl _,fun _=>rfl,fun ad e=>by cases e⟩
      rw[e1];refine⟨_,_,cap,rfl,rfl,hle,fun e=>(by cases e),fun ad e=>?_⟩;simp only[Option.some.injEq] at e;subst e;have hr':bB (aG c R s.hp) w J6 vN cur.toList:=by
       have:=l6 (cur.toList.drop (vN.length*J6)) hr;rwa [←ht,List.take_append_drop] at this
      obtain⟨h1,h2,h3⟩:=d9 hr';refine⟨xs,ho.1,fun j v hv=>?_,?_,hr⟩
      ·rw[addr_add,vO hg];rw[←ht,List.getElem?_take] at hv;split at hv
       ·simpa using hv
       cases hv
      rw[←ht];exact h3
     cases hv
   | gD v J6 vN=>
     simp only[qQ] at hv;split at hv
     ·rename_i dN;simp only[Option.some.injEq,PV.sl.injEq] at hv;obtain⟨rfl,rfl,rfl⟩:=hv;rw[hb'] at hx;have:=hx.2.2 (Nat.eq_of_beq_eq_true dN);subst this;exact uM (g.boxes b _ hb')
     cases hv
theorem DX (g:aS c R s a w){H:List (Nat×au)}(hH:∀b box,lk H b=some box→lk s.hp b=some box){st:Nat}{x:AV}{rows:List (List PV)}
  (h:jP H st x=some rows) {u:Value} (hx:ai (aG c R s.hp) w s.hp R x u) :
  ∃p len cap,u=.slice p len cap∧len=rows.length∧len≤cap∧(p=none→rows=[])∧∀ad,p=some ad→∃news:List Value,news.length=rows.length*st ∧
   (∀j v,news[j]? = some v→w.cell? (ad.add j)=some v)∧(∀u∈news,u.oneCell'=true)∧bB (aG c R s.hp) w st rows news:=by
 unfold jP at h;split at h
 ·simp only[Option.some.injEq] at h;subst h;simp only[ai,aU] at hx;exact⟨none,0,0,hx,rfl,Nat.le_refl _,fun _=>rfl,fun ad e=>by cases e⟩
 ·rename_i nn st' aB;split at h
  ·rename_i hst;simp only[Option.some.injEq] at h;subst h;have:=Nat.eq_of_beq_eq_true hst;subst this;simp only[ai] at hx;exact uM hx
  cases h
 ·rename_i b ver;split at h
  ·rename_i nn st' aB hv;split at h
   ·rename_i hst;simp only[Option.some.injEq] at h;subst h;have:=Nat.eq_of_beq_eq_true hst;subst this;simp only[ai] at hx;exact Mw g hH hv hx
   cases h
  cases h
 ·rename_i b ver st1 lo hi;split at h
  ·rename_i nn st' aB hv;split at h
   ·rename_i hst ZO;simp only[Option.some.injEq] at h;subst h;have e1:=Nat.eq_of_beq_eq_true hst;have e2:=Nat.eq_of_beq_eq_true ZO;rw[←e1] at e2;subst e2;rw[←e1];clear hst ZO e1;simp only[ai] at hx;obtain⟨u',hx,hok,rfl⟩:=hx;obtain⟨p,len,cap,rfl,rfl,hle,hnone,hsome⟩:=Mw g hH hv hx;simp only[l5] at hok;have hlen:(jM aB lo hi).length=hi-lo:=by simp only[jM,List.length_take,List.length_drop];omega
    cases p with
    | none=>
      have hr0:=hnone rfl;subst hr0;simp only[List.length_nil] at hok hle;refine⟨none,0,0,rfl,by rw[hlen];omega,Nat.le_refl _,fun _=>List.eq_nil_of_length_eq_zero (by rw[hlen];omega),fun ad e=>by cases e⟩
    | some ad=>
      obtain⟨news,n1,n2,n3,n4⟩:=hsome ad rfl;refine⟨_,_,_,rfl,hlen.symm,by omega,fun e=>(by cases e),fun ad' e=>?_⟩;simp only[Option.some.injEq] at e;have hr:=jQ (hi-lo) (kr lo n4);obtain⟨t1,t2,t3⟩:=d9 hr;change (jM aB lo hi).length*_≤_ at t1
      rw[show (List.take (hi-lo) (List.drop lo aB)).length=hi-lo from hlen] at t2 t3;rw[hlen] at t1;by_cases hcl:cap=lo
      ·have hz:hi-lo=0:=by omega
       refine⟨[],by rw[hlen,hz];simp,by simp,by simp,?_⟩;have:jM aB lo hi=[]:=List.eq_nil_of_length_eq_zero (by rw[hlen];exact hz);rw[this];simp[bB]
      rw[if_neg hcl] at e;subst e;refine⟨(news.drop (lo*st1)).take ((hi-lo)*st1),by rw[List.length_take,hlen];omega,fun j v hj=>?_,t3,t2⟩;rw[List.getElem?_take] at hj;split at hj
      ·rw[List.getElem?_drop] at hj;have:=n2 _ _ hj;rw[←this];rw[add_add]
      cases hj
   cases h
  cases h
 cases h
theorem ku {t e:TypeId}{ty:TypeId}{ei:TI}(ht:P.underlying t=some (.slice e))(hi:bH P e ei)(base p:Option Addr)(sLen sCap cap:Nat)(hle:sLen≤sCap) :
  (Builtin.append_ #[t,t] ty #[.slice base sLen sCap,.slice p 0 cap]).run P w=.ok (.slice base sLen sCap) w:=by
 cases p<;>cases base<;>simp[Builtin.append_,run_underlying ht,hi.run_sizeOf,Builtin.lenOf,hle,Builtin.firstCells,loadCells,loadCellsFrom,storeCells]
def qR (T:Tab)(H:List (Nat×au))(t:TypeId)(vs:List AV)(id:Nat)(K:AV→List (Nat×au)→Prop):Prop:=
 match vs with
 | [d,x]=>match lk T t with
   | some i=>match i.d with
     | .slt e=>match lk T e with
       | some ei=>W9 ei fun nE GR=>match Nat.beq GR 0,Nat.beq nE 0 with
         | false,false=>match jP H nE x with
           | some aB=>match d with
             |.pv (.sc (.slice none 0 0))=>aB.length*GR≤140737488355328∧K (.aZ id 0) [(id,.arr e 0 nE aB)]
             | .aZ b ver=>match lk H b with
               | some (.arr e' v st rows)=>match Nat.beq ver v,Nat.beq st nE,Nat.beq e' e with
                 |true,true,true=>(rows.length+aB.length)*GR≤140737488355328∧K (.aZ b (v+1)) [(b,.arr e (v+1) nE (rows++aB))]
                 |_,_,_=>False
               |_=>False
             | .pv (.J5 st rows)=>match Nat.beq st nE with
               |true=>0<aB.length∧(rows.length+aB.length)*GR≤140737488355328∧K (.aZ id 0) [(id,.arr e 0 nE (rows++aB))]
               |false=>False
             |_=>False
           |none=>False
         |_,_=>False
       |none=>False
     |_=>False
   |none=>False
 |_=>False
theorem tu {n b:Nat}(hb:b≠0)(h:n*b≤140737488355328):n≤maxLen∧(n:Int)≤9223372036854775807∧n≤140737488355328:=by
 have:n≤n*b:=Nat.le_mul_of_pos_right _ (Nat.pos_of_ne_zero hb);unfold maxLen;omega
theorem kL {e:TypeId}{st cap n:Nat}{xs:List Value}{z:Array Value}{w0:World}(hz:z.size=st)(hx:xs.length=n*st)(hc:n≤cap)(hm:cap≤maxLen){w1:World}
  (hw:w1.heap=w0.heap.push (.cells (xs.toArray++Builtin.zeroCells z (cap-n)) e)) :
  w1.ownsRow 0 e st (.slice (some ⟨w0.heap.size,0,none⟩) n cap) n xs:=by
 refine⟨hx,.inr ⟨w0.heap.size,cap,_,rfl,Nat.zero_le _,by rw[hw];exact Array.getElem?_push_size,hc,hm,?_,?_⟩⟩
 ·simp only[Array.size_append,List.size_toArray,size_zeroCells,hz,hx,←Nat.add_mul];congr 1
  omega
 simp only[Array.toList_append];rw[←hx];exact List.take_left
theorem pY (g:aS c R s a w)(hT:bA P T){H:List (Nat×au)}(hH:∀b box,lk H b=some box→lk s.hp b=some box){id:Nat}(hf:lk s.hp id=none)
  {t ty:TypeId} {d x:AV} {K:AV→List (Nat×au)→Prop} (h:qR T H t [d,x] id K) {u v:Value} (hd:ai (aG c R s.hp) w s.hp R d u) (hx:ai (aG c R s.hp) w s.hp R x v) :
  ∃y w' R' z ws,(Builtin.append_ #[t,t] ty #[u,v]).run P w=.ok y w'∧K z ws∧aS c R' (s.app ws) a w'∧ai (aG c R' (ws++s.hp)) w' (ws++s.hp) R' z y:=by
 unfold qR at h;simp only[cK] at h;try simp only at h
 split at h;rotate_left;cases h
 rename_i i hi;obtain⟨dd,hdd,fC⟩:=(hT t i hi).fq;split at h;rotate_left;cases h
 rename_i e hte;have ht:P.underlying t=some (.slice e):=by
  rw[hte] at fC;cases dd<;>simp[di] at fC
  subst fC;exact hdd
 split at h;rotate_left;cases h
 rename_i ei ng;have gH:=hT _ _ ng;obtain⟨ti,zv,hinfo,hsz,hby,hzero,hzc⟩:=gH.AL;have QH:zv.cells.size=ei.size:=by have:=gH.QI;rw[←hzc] at this;simpa using this
 split at h;rotate_left;cases h
 rename_i hb0 hs0;have hb0:=Nat.ne_of_beq_eq_false hb0;have hs0:=Nat.ne_of_beq_eq_false hs0;split at h;rotate_left;cases h
 rename_i aB hsrc;obtain⟨p,len,cap,rfl,rfl,hlc,ZP,hps⟩:=DX g hH hsrc hx;split at h
 ·-- the GV is nil
  obtain⟨hbd,hK⟩:=h;simp only[ai,aU] at hd;subst hd;obtain⟨b1,b2,b3⟩:=tu hb0 hbd;by_cases hz:aB.length=0
  ·have he:aB=[]:=List.eq_nil_of_length_eq_zero hz;subst he;have hrun:=ku (P:=P) (w:=w) (ty:=ty) ht gH none p 0 0 cap (Nat.le_refl _);obtain⟨g1,g2⟩:=g.pX (e:=e) (ver:=0) (st:=ei.size) (rows:=[]) (R':=R.at id 0 true 0) (.inl hf) (Real.vP R id 0 true 0) (kK.refl _ w) (by simp[Real.at])
    (xs:=[]) (by simp only[bO,Real.at,if_true,List.length_nil];exact World.ownsRow_nil w 0 e ei.size) (by simp[bB])
   have hsl:bO (R.at id 0 true 0) id 0=.slice none 0 0:=by simp[bO,Real.at]
   refine⟨_,w,_,_,_,hrun,hK,g1,?_⟩;simp only[List.length_nil,hsl] at g2;exact g2
  cases p with
  |none=>exact absurd (by rw[ZP rfl];rfl) hz
  | some ad=>
    obtain⟨news,n1,n2,n3,n4⟩:=hps ad rfl;have hrun:=run_append_nil (P:=P) w t ty e ti zv ht hinfo hzero ad aB.length cap news (by rw[hsz];exact n1) n2 (by omega) b2 (by rw[hby];omega);have J7:=grownCap_ge w aB.length 0 e;have XJ:=grownCap_le_maxLen w aB.length 0 e b1;have hsl:bO (R.at id w.heap.size false (grownCap w aB.length 0 e)) id aB.length=.slice (some ⟨w.heap.size,0,none⟩) aB.length (grownCap w aB.length 0 e):=by simp[bO,Real.at]
    have AO:(w.drew.alloc (.cells (news.toArray++Builtin.zeroCells zv.cells (grownCap w aB.length 0 e-aB.length)) e)).ownsRow 0 e ei.size
      (.slice (some ⟨w.heap.size,0,none⟩) aB.length (grownCap w aB.length 0 e)) aB.length news:=
     kL (w0:=w) QH n1 J7 XJ rfl
    obtain⟨g1,g2⟩:=g.pX (e:=e) (ver:=0) (st:=ei.size) (rows:=aB) (R':=R.at id w.heap.size false (grownCap w aB.length 0 e)) (.inl hf)
     (Real.vP R id _ _ _) (w':=w.drew.alloc (.cells (news.toArray++Builtin.zeroCells zv.cells (grownCap w aB.length 0 e-aB.length)) e))
     ⟨by simp,fun r hr _=>(by first|exact heap_alloc_old w.drew _ hr|exact heap_alloc_old w.drew _ r hr),rfl,rfl,rfl⟩ (fun _=>.inr (by simp[Real.at])) (xs:=news) (by rw[hsl];exact AO) n4
    rw[hsl] at g2;exact⟨_,_,_,_,_,hrun,hK,g1,g2⟩
 ·rename_i b ver;split at h;rotate_left;cases h
  rename_i e' vr st rows hb;have hb':=hH _ _ hb;split at h;rotate_left;cases h
  rename_i dN hst he;have dN:=Nat.eq_of_beq_eq_true dN;have hst:=Nat.eq_of_beq_eq_true hst;have he:=Nat.eq_of_beq_eq_true he;subst dN;subst hst;subst he;obtain⟨hbd,hK⟩:=h;obtain⟨b1,b2,b3⟩:=tu hb0 hbd;simp only[ai,hb'] at hd;have:=hd.2.2 rfl;subst this;obtain⟨xs,ho,hr⟩:=(g.boxes b _ hb');have hlen:(rows++aB).length=rows.length+aB.length:=by simp
  by_cases hz:aB.length=0
  ·have he:aB=[]:=List.eq_nil_of_length_eq_zero hz;subst he;have XK:∃p0 l0 c0,bO R b rows.length=.slice p0 l0 c0∧l0≤c0:=by
    rcases ho.2 with ⟨e1,e2⟩|⟨g',XL,cur,e1,_,hg,hle,_⟩
    ·exact⟨_,_,_,e1,Nat.le_refl _⟩
    exact⟨_,_,_,e1,hle⟩
   obtain⟨p0,l0,c0,e1,e2⟩:=XK;have hrun:=ku (P:=P) (w:=w) (ty:=ty) ht gH p0 p l0 c0 cap e2;rw[←e1] at hrun;obtain⟨g1,g2⟩:=g.pX (b:=b) (e:=e') (ver:=ver+1) (st:=ei.size) (rows:=rows++[]) (R':=R) (.inr ⟨_,_,_,_,hb',Nat.lt_succ_self _⟩) (fun _ _=>⟨rfl,rfl,rfl⟩) (kK.refl _ w)
    (fun hn=>.inl (by rw[hb'];exact⟨hn,rfl⟩)) (xs:=xs) (by simpa using ho) (by simpa using hr)
   simp only[List.append_nil] at g2;exact⟨_,w,R,_,_,hrun,hK,g1,by simpa using g2⟩
  cases p with
  |none=>exact absurd (by rw[ZP rfl];rfl) hz
  | some ad=>
    obtain⟨news,n1,n2,n3,n4⟩:=hps ad rfl;have Vb:bB (aG c R s.hp) w ei.size (rows++aB) (xs++news):=iI hr ho.1 n4;rcases ho.2 with ⟨e1,e2⟩|⟨g',XL,cur,e1,_,hg,hle,hm,hcs,ht'⟩
    ·-- nil so far
     have he:rows=[]:=List.eq_nil_of_length_eq_zero e2;subst he;have hx0:xs=[]:=List.eq_nil_of_length_eq_zero (by simpa using ho.1);subst hx0;have hrun:=run_append_nil (P:=P) w t ty e' ti zv ht hinfo hzero ad aB.length cap news (by rw[hsz];exact n1) n2 (by omega) (by simpa using (tu hb0 (by simpa using hbd)).2.1) (by rw[hby];simp at hbd;omega);rw[←e1] at hrun;have J7:=grownCap_ge w aB.length 0 e';have XJ:=grownCap_le_maxLen w aB.length 0 e' (by simpa using b1);have hsl:bO (R.at b w.heap.size false (grownCap w aB.length 0 e')) b ([]++aB).length=.slice (some ⟨w.heap.size,0,none⟩) aB.length (grownCap w aB.length 0 e'):=by simp[bO,Real.at]
     have AO:(w.drew.alloc (.cells (news.toArray++Builtin.zeroCells zv.cells (grownCap w aB.length 0 e' - aB.length)) e')).ownsRow 0 e' ei.size
       (.slice (some ⟨w.heap.size,0,none⟩) aB.length (grownCap w aB.length 0 e')) aB.length news:=
      kL (w0:=w) QH n1 J7 XJ rfl
     obtain⟨g1,g2⟩:=g.pX (b:=b) (e:=e') (ver:=ver+1) (st:=ei.size) (rows:=[]++aB) (R':=R.at b w.heap.size false (grownCap w aB.length 0 e')) (.inr ⟨_,_,_,_,hb',Nat.lt_succ_self _⟩)
      (Real.vP R b _ _ _) (w':=w.drew.alloc (.cells (news.toArray++Builtin.zeroCells zv.cells (grownCap w aB.length 0 e' - aB.length)) e'))
      ⟨by simp,fun r hr _=>(by first|exact heap_alloc_old w.drew _ hr|exact heap_alloc_old w.drew _ r hr),rfl,rfl,rfl⟩ (fun _=>.inr (by simp[Real.at])) (xs:=news) (by rw[hsl];exact AO) (by simpa using n4)
     rw[hsl] at g2;exact⟨_,_,_,_,_,hrun,hK,g1,g2⟩
    have hnil:R.nil b=false:=by
     cases hn:R.nil b with
     |false=>rfl
     |true=>simp[bO,hn] at e1
    have hgb:g'=R.blk b∧XL=(R.cap b).1:=by simp[bO,hnil] at e1;exact⟨e1.1.symm,e1.2.symm⟩
    obtain⟨rfl,rfl⟩:=hgb;by_cases hroom:rows.length+aB.length≤(R.cap b).1
    ·have hfit:rows.length*ei.size+news.length≤cur.size:=by rw[n1,hcs,←Nat.add_mul];exact Nat.mul_le_mul_right _ hroom
     have hrun:=run_append_room (P:=P) w t ty e' ti ht hinfo (R.blk b) rows.length ((R.cap b).1) cur hg ad aB.length cap news (by rw[hsz];exact n1) n2 n3 hroom (by rw[hsz];exact hfit);rw[←e1,hsz] at hrun;have hsl:bO R b (rows++aB).length=.slice (some ⟨R.blk b,0,none⟩) (rows.length+aB.length) ((R.cap b).1):=by simp[bO,hnil]
     obtain⟨g1,g2⟩:=g.pX (b:=b) (e:=e') (ver:=ver+1) (st:=ei.size) (rows:=rows++aB) (R':=R) (.inr ⟨_,_,_,_,hb',Nat.lt_succ_self _⟩) (fun _ _=>⟨rfl,rfl,rfl⟩)
      (w':=w.setRow (R.blk b) (cur.toList.take (rows.length*ei.size)++news++cur.toList.drop (rows.length*ei.size+news.length)).toArray)
      ((l7 w _ _).mono fun r hr=>by rw[hb'];exact⟨hnil,hr.symm⟩) (fun hn=>.inl (by rw[hb'];exact⟨hn,rfl⟩)) (xs:=xs++news) (by
        rw[hsl];refine⟨by rw[hlen,List.length_append,ho.1,n1,Nat.add_mul],.inr ⟨R.blk b,(R.cap b).1,_,by rw[hlen],Nat.zero_le _,setRow_heap w _ cur _ e' _ hg,by rw[hlen];exact hroom,hm,?_,?_⟩⟩
        ·simp only[List.size_toArray,List.length_append,List.length_take,List.length_drop,Array.length_toList];omega
        rw[hlen,ht',Nat.add_mul,←ho.1,←n1,←List.length_append];exact List.take_left) Vb
     rw[hsl] at g2;exact⟨_,_,_,_,_,hrun,hK,g1,g2⟩
    have holds:∀j v,xs[j]? = some v→w.cell? ((⟨R.blk b,0,none⟩:Addr).add j)=some v:=by
     intro j v hv;rw[addr_add,vO hg];rw[←ht',List.getElem?_take] at hv;split at hv
     ·simpa using hv
     cases hv
    have hrun:=run_append_grow (P:=P) w t ty e' ti zv ht hinfo hzero ⟨R.blk b,0,none⟩ rows.length ((R.cap b).1) xs (by rw[hsz];exact ho.1) holds ad aB.length cap news (by rw[hsz];exact n1) n2 (by omega)
     (by omega) (growslice_fits (by omega) (by rw[hby];exact hbd))
    rw[←e1] at hrun;have J7:=grownCap_ge w (rows.length+aB.length) ((R.cap b).1) e';have XJ:=grownCap_le_maxLen w (rows.length+aB.length) ((R.cap b).1) e' b1;have hsl:bO (R.at b w.heap.size false (grownCap w (rows.length+aB.length) ((R.cap b).1) e')) b (rows++aB).length =
      .slice (some ⟨w.heap.size,0,none⟩) (rows.length+aB.length) (grownCap w (rows.length+aB.length) ((R.cap b).1) e'):=by simp[bO,Real.at]
    have AO:(w.drew.alloc (.cells (xs.toArray++news.toArray++Builtin.zeroCells zv.cells (grownCap w (rows.length+aB.length) ((R.cap b).1) e' - (rows.length+aB.length))) e')).ownsRow 0 e' ei.size
      (.slice (some ⟨w.heap.size,0,none⟩) (rows.length+aB.length) (grownCap w (rows.length+aB.length) ((R.cap b).1) e')) (rows.length+aB.length) (xs++news):=
     kL (w0:=w) QH (by rw[List.length_append,ho.1,n1,Nat.add_mul]) J7 XJ (by rw[show (xs++news).toArray=xs.toArray++news.toArray from by simp];rfl)
    obtain⟨g1,g2⟩:=g.pX (b:=b) (e:=e') (ver:=ver+1) (st:=ei.size) (rows:=rows++aB) (R':=R.at b w.heap.size false (grownCap w (rows.length+aB.length) ((R.cap b).1) e'))
     (.inr ⟨_,_,_,_,hb',Nat.lt_succ_self _⟩) (Real.vP R b _ _ _)
     (w':=w.drew.alloc (.cells (xs.toArray++news.toArray++Builtin.zeroCells zv.cells (grownCap w (rows.length+aB.length) ((R.cap b).1) e' - (rows.length+aB.length))) e'))
     ⟨by simp,fun r hr _=>(by first|exact heap_alloc_old w.drew _ hr|exact heap_alloc_old w.drew _ r hr),rfl,rfl,rfl⟩ (fun _=>.inr (by simp[Real.at])) (xs:=xs++news) (by rw[hsl,hlen];exact AO) Vb
    rw[hsl] at g2;exact⟨_,_,_,_,_,hrun,hK,g1,g2⟩
 ·-- nothing is behind the GV
  rename_i st rows;split at h;rotate_left;cases h
  rename_i hst;have hst:=Nat.eq_of_beq_eq_true hst;subst hst;obtain⟨hz,hbd,hK⟩:=h;obtain⟨b1,b2,b3⟩:=tu hb0 hbd;simp only[ai] at hd;obtain⟨bp,af6,af7,hbe,_,_,_,hbs⟩:=uM (DY hd);simp only[aU] at hd;obtain⟨ba,rfl,_,_⟩:=hd;simp only[Value.slice.injEq] at hbe;obtain⟨rfl,rfl,rfl⟩:=hbe;obtain⟨xs,x1,x2,x3,x4⟩:=hbs ba rfl;cases p with
  |none=>exact absurd (by rw[ZP rfl];rfl) (Nat.ne_of_gt hz)
  | some ad=>
    obtain⟨news,n1,n2,n3,n4⟩:=hps ad rfl;have Vb:bB (aG c R s.hp) w ei.size (rows++aB) (xs++news):=iI x4 x1 n4;have hlen:(rows++aB).length=rows.length+aB.length:=by simp
    have hrun:=run_append_grow (P:=P) w t ty e ti zv ht hinfo hzero ba rows.length rows.length xs (by rw[hsz];exact x1) x2 ad aB.length cap news (by rw[hsz];exact n1) n2 (by omega)
     (by omega) (growslice_fits (by omega) (by rw[hby];exact hbd))
    have J7:=grownCap_ge w (rows.length+aB.length) rows.length e;have XJ:=grownCap_le_maxLen w (rows.length+aB.length) rows.length e b1;have hsl:bO (R.at id w.heap.size false (grownCap w (rows.length+aB.length) rows.length e)) id (rows++aB).length =
      .slice (some ⟨w.heap.size,0,none⟩) (rows.length+aB.length) (grownCap w (rows.length+aB.length) rows.length e):=by simp[bO,Real.at]
    have AO:(w.drew.alloc (.cells (xs.toArray++news.toArray++Builtin.zeroCells zv.cells (grownCap w (rows.length+aB.length) rows.length e-(rows.length+aB.length))) e)).ownsRow 0 e ei.size
      (.slice (some ⟨w.heap.size,0,none⟩) (rows.length+aB.length) (grownCap w (rows.length+aB.length) rows.length e)) (rows.length+aB.length) (xs++news):=
     kL (w0:=w) QH (by rw[List.length_append,x1,n1,Nat.add_mul]) J7 XJ (by rw[show (xs++news).toArray=xs.toArray++news.toArray from by simp];rfl)
    obtain⟨g1,g2⟩:=g.pX (e:=e) (ver:=0) (st:=ei.size) (rows:=rows++aB) (R':=R.at id w.heap.size false (grownCap w (rows.length+aB.length) rows.length e)) (.inl hf)
     (Real.vP R id _ _ _) (w':=w.drew.alloc (.cells (xs.toArray++news.toArray++Builtin.zeroCells zv.cells (grownCap w (rows.length+aB.length) rows.length e-(rows.length+aB.length))) e))
     ⟨by simp,fun r hr _=>(by first|exact heap_alloc_old w.drew _ hr|exact heap_alloc_old w.drew _ r hr),rfl,rfl,rfl⟩ (fun _=>.inr (by simp[Real.at])) (xs:=xs++news) (by rw[hsl,hlen];exact AO) Vb
    rw[hsl] at g2;exact⟨_,_,_,_,_,hrun,hK,g1,g2⟩
 exact h.elim
end
theorem xQ {α:Type}(l m:List (Nat×α))(t:Nat):lk (l++m) t=match lk l t with
  |some v=>some v
  |none=>lk m t:=by
 induction l with
 |nil=>simp[lk]
 | cons x l ih=>
   obtain⟨k,v⟩:=x;simp only[List.cons_append,ak];split
   ·rfl
   exact ih
section
variable {P:Program}{T:Tab}{c:Ctx}{R:Real}{s:AS}{a:Act}{w:World}
theorem iy (g:aS c R s a w){H:List (Nat×au)}(hH:∀b box,lk H b=some box→lk s.hp b=some box):∀(bs:List Nat) (fs:List (Nat×au)),DZ H bs=some fs →
  aS c R (s.app fs) a w∧(∀v x,ai (aG c R s.hp) w s.hp R v x→ai (aG c R (fs++s.hp)) w (fs++s.hp) R v x) ∧
   (∀r,aG c R (fs++s.hp) r→aG c R s.hp r)∧(∀b,(lk fs b).isSome=true∨b∈bs→∀r,ax R b r (lk s.hp b)→¬aG c R (fs++s.hp) r)
 | [],fs,h=>by
   simp only[DZ,Option.some.injEq] at h;subst h;exact⟨g,fun v x h=>h,fun r h=>h,fun b h=>by simp[lk] at h⟩
 | b::bs,fs,h=>by
   simp only[DZ] at h;split at h
   ·rename_i t ht;obtain⟨g1,m1,n1,o1⟩:=iy g hH bs t ht;split at h
    ·rename_i x hx;simp only[Option.some.injEq] at h;subst h;refine⟨g1,m1,n1,fun b' hb'=>?_⟩;rcases hb' with hb'|hb'
     ·exact o1 b' (.inl hb')
     rcases List.mem_cons.1 hb' with rfl|hb'
     ·exact o1 _ (.inl (by rw[hx];rfl))
     exact o1 b' (.inr hb')
    rename_i hnone;have step:∀{box aV:au},lk H b=some box →
      ((∃e v st rows,box=.arr e v st rows∧aV=.gD v st rows)∨(∃cells ps,box=.var cells∧gY cells=some ps∧aV=.lM ps)) →
      aS c R (s.app ((b,aV)::t)) a w∧(∀v x,ai (aG c R s.hp) w s.hp R v x→ai (aG c R ((b,aV)::t++s.hp)) w ((b,aV)::t++s.hp) R v x) ∧
       (∀r,aG c R ((b,aV)::t++s.hp) r→aG c R s.hp r)∧(∀b',(lk ((b,aV)::t) b').isSome=true∨b'∈b::bs→∀r,ax R b' r (lk s.hp b')→¬aG c R ((b,aV)::t++s.hp) r):=by
     intro box aV hb hf;have hl:lk (s.app t).hp b=some box:=by
      show lk (t++s.hp) b=_
      rw[xQ,hnone];exact hH _ _ hb
     obtain⟨g2,m2,n2,o2⟩:=g1.freeze hl hf;refine⟨g2,fun v x h=>m2 v x (m1 v x h),fun r h=>n1 r (n2 r h),fun b' hb' r ho hN=>?_⟩;by_cases e:b'=b
     ·subst e;refine o2 r ?_ hN;rw[hl,←hH _ _ hb];exact ho
     rcases hb' with hb'|hb'
     ·rw[ak,if_neg (fun x=>e x.symm)] at hb';exact o1 b' (.inl hb') r ho (n2 r hN)
     rcases List.mem_cons.1 hb' with rfl|hb'
     ·exact e rfl
     exact o1 b' (.inr hb') r ho (n2 r hN)
    have keep:fs=t→(∀r,¬ax R b r (lk s.hp b))→aS c R (s.app fs) a w∧(∀v x,ai (aG c R s.hp) w s.hp R v x→ai (aG c R (fs++s.hp)) w (fs++s.hp) R v x) ∧
      (∀r,aG c R (fs++s.hp) r→aG c R s.hp r)∧(∀b',(lk fs b').isSome=true∨b'∈b::bs→∀r,ax R b' r (lk s.hp b')→¬aG c R (fs++s.hp) r):=by
     rintro rfl hno
     refine⟨g1,m1,n1,fun b' hb' r ho=>?_⟩;rcases hb' with hb'|hb'
     ·exact o1 b' (.inl hb') r ho
     rcases List.mem_cons.1 hb' with rfl|hb'
     ·exact (hno r ho).elim
     exact o1 b' (.inr hb') r ho
    split at h
    ·rename_i e v st rows hb;simp only[Option.some.injEq] at h;subst h;exact step hb (.inl ⟨_,_,_,_,rfl,rfl⟩)
    ·rename_i cells hb;split at h
     ·rename_i ps hps;simp only[Option.some.injEq] at h;subst h;exact step hb (.inr ⟨_,_,rfl,hps,rfl⟩)
     cases h
    ·rename_i v st rows hb;simp only[Option.some.injEq] at h;exact keep h.symm (fun r=>by rw[hH _ _ hb];exact id)
    ·rename_i cells hb;simp only[Option.some.injEq] at h;exact keep h.symm (fun r=>by rw[hH _ _ hb];exact id)
    ·cases h
    ·cases h
    ·cases h
    ·cases h
    cases h
   cases h
def D5 (H:List (Nat×au))(f:Fn)(nf:Nat)(vs:List AV)(K:AV→List (Nat×au)→Prop):Prop:=
 match iW nf vs,je nf vs with
 | some xs,some ys=>match D6 H xs,D6 H ys with
   | some ps,some qs=>match DZ H (dG xs++dG ys) with
     |some fs=>K (.pv (.fn f ps qs)) fs
     |none=>K (.fn f xs ys) []
   |_,_=>K (.fn f xs ys) []
 |_,_=>False
theorem FL.split {α:Type}{Q:α→Value→Prop}:∀{n:Nat} {l xs ys:List α} {m:List Value},FL Q l m→iW n l=some xs→je n l=some ys→FL Q xs (m.take n)∧FL Q ys (m.drop n)
 | 0,l,xs,ys,m,h,h1,h2=>by
   simp only[iW,je,Option.some.injEq] at h1 h2;subst h1;subst h2;exact⟨by simp[FL],by simpa using h⟩
 |n+1,[],xs,ys,m,h,h1,h2=>by simp[iW] at h1
 | n+1,p::ps,xs,ys,m,h,h1,h2=>by
   obtain⟨v,r,rfl,h3,h⟩:=h;simp only[iW] at h1;split at h1
   ·rename_i t ht;simp only[Option.some.injEq] at h1;subst h1;simp only[je] at h2;obtain⟨a1,a2⟩:=h.split ht h2;exact⟨⟨v,r.take n,by simp,h3,a1⟩,by simpa using a2⟩
   cases h1
theorem GX (g:aS c R s a w){H:List (Nat×au)}(hH:∀b box,lk H b=some box→lk s.hp b=some box){f:Fn}{first aT:Array Value}{vs:List AV}{K:AV→List (Nat×au)→Prop}
  (h:D5 H f first.size vs K) (hv:FL (ai (aG c R s.hp) w s.hp R) vs (first.toList++aT.toList)) :
  ∃z ws,(Instr.makeFunc f first aT).run P w=.ok (.func f first aT) w∧K z ws∧aS c R (s.app ws) a w∧ai (aG c R (ws++s.hp)) w (ws++s.hp) R z (.func f first aT):=by
 have ref:∀{xs ys:List AV},iW first.size vs=some xs→je first.size vs=some ys→K (.fn f xs ys) [] →
   ∃z ws,(Instr.makeFunc f first aT).run P w=.ok (.func f first aT) w∧K z ws∧aS c R (s.app ws) a w∧ai (aG c R (ws++s.hp)) w (ws++s.hp) R z (.func f first aT):=by
  intro xs ys hxs hys h;obtain⟨a1,a2⟩:=hv.split hxs hys;have l1:(first.toList++aT.toList).take first.size=first.toList:=by rw[←Array.length_toList];exact List.take_left
  have l2:(first.toList++aT.toList).drop first.size=aT.toList:=by rw[←Array.length_toList];exact List.drop_left
  rw[l1] at a1;rw[l2] at a2;refine⟨_,[],rfl,h,g,?_⟩;simp only[ai];exact⟨first,aT,rfl,by rw[dn];exact a1,by rw[dn];exact a2⟩
 unfold D5 at h;split at h;rotate_left;cases h
 rename_i xs ys hxs hys;split at h
 ·rename_i ps qs hps hqs;split at h
  ·rename_i fs hfs;obtain⟨g1,m1,n1,o1⟩:=iy g hH _ _ hfs;obtain⟨a1,a2⟩:=hv.split hxs hys;have l1:(first.toList++aT.toList).take first.size=first.toList:=by rw[←Array.length_toList];exact List.take_left
   have l2:(first.toList++aT.toList).drop first.size=aT.toList:=by rw[←Array.length_toList];exact List.drop_left
   rw[l1] at a1;rw[l2] at a2;refine⟨_,fs,rfl,h,g1,?_⟩;simp only[ai,aU];refine⟨first,aT,rfl,?_,?_⟩
   ·exact fO g hH n1 xs ps _ (fun b hb=>o1 b (.inr (by simp[hb]))) hps (by rw[dn];exact a1)
   exact fO g hH n1 ys qs _ (fun b hb=>o1 b (.inr (by simp[hb]))) hqs (by rw[dn];exact a2)
  exact ref hxs hys h
 exact ref hxs hys h
def vQ (T:Tab):List (Nat×TypeId)→Bool
 |[]=>true
 | (_,ft)::r=>match lk T ft with
   |some _=>vQ T r
   |none=>false
def J9 (T:Tab)(t:TypeId):List Nat→List AV→List AV→Option (List AV)
 |[],[],cells=>some cells
 | f::fs,v::vs,cells=>match vR T t f with
   | some (off,j)=>match cellsOf j v with
     | some cs=>match Nat.beq cs.length j.size with
       | true=>match iT off cells cs with
         |some cells'=>J9 T t fs vs cells'
         |none=>none
       |false=>none
     |none=>none
   |none=>none
 |_,_,_=>none
def xR (T:Tab)(t:TypeId)(ks:List Nat)(vs:List AV)(K:AV→Prop):Prop:=
 match lk T t with
 | some i=>match i.d with
   | .str fs=>match vQ T fs with
     | true=>match XM i.zero with
       | some z=>match J9 T t ks vs z with
         | some cells=>match vS cells with
           |some v=>K v
           |none=>False
         |none=>False
       |none=>False
     |false=>False
   |_=>False
 |none=>False
theorem rq (off:Nat)(l:List Value)(cs:Array Value)(h:off+l.length≤cs.size) :
  ((l.zipIdx 0).foldl (fun cs (x:Value×Nat)=>cs.setIfInBounds (off+x.2) x.1) cs).toList=cs.toList.take off++l++cs.toList.drop (off+l.length):=by
 obtain⟨h1,h2⟩:=Great.foldl_set off l 0 cs;apply List.ext_getElem?;intro k;rw[Array.getElem?_toList,h2 k];simp only[Nat.add_zero,List.append_assoc,List.getElem?_append,List.length_take,Array.length_toList,List.getElem?_take,List.getElem?_drop,Array.getElem?_toList];have hm:min off cs.size=off:=by omega
 rw[hm];by_cases h3:k<off
 ·rw[if_neg (by omega),if_pos h3,if_pos h3]
 rw[if_neg h3];by_cases h4:k<off+l.length
 ·rw[if_pos ⟨by omega,h4,by omega⟩,if_pos (by omega)]
 rw[if_neg (by omega),if_neg (by omega)];congr 1
 omega
theorem AP {N:Nat→Prop}{hp:List (Nat×au)}(hT:bA P T){t:TypeId}{fs:Array Field}(ht:P.underlying t=some (.struct fs)){place:Nat→Option (Nat×Nat)}
  (hpl:∀(f:Nat) (fd:Field) (j:TI),fs[f]? = some fd→bH P fd.type j→place f=some (fd.offset,j.size)) :
  ∀(ks:List Nat) (vs cells cells':List AV) (us:List Value) (zs:Array Value),J9 T t ks vs cells=some cells'→FL (ai N w hp R) vs us→FC (ai N w hp R) cells zs.toList →
   ∃N8,Instr.fill place zs (ks.zip us)=some N8∧FC (ai N w hp R) cells' N8.toList
 | [],[],cells,cells',us,zs,h,hv,hz=>by
   simp only[J9,Option.some.injEq] at h;subst h;simp only[FL] at hv;subst hv;exact⟨zs,rfl,hz⟩
 |[],v::vs,cells,cells',us,zs,h,hv,hz=>by simp[J9] at h
 |f::ks,[],cells,cells',us,zs,h,hv,hz=>by simp[J9] at h
 | f::ks,v::vs,cells,cells',us,zs,h,hv,hz=>by
   obtain⟨u,r,rfl,hu,hv⟩:=hv;simp only[J9] at h;split at h
   ·rename_i off j hf;split at h
    ·rename_i cs hcs;split at h
     ·rename_i hl;have hl:=Nat.eq_of_beq_eq_true hl;split at h
      ·rename_i c2 hc2;obtain⟨fs',fd,h1,h2,rfl,h4⟩:=nV hT hf;rw[ht] at h1;simp only[Option.some.injEq,TypeDesc.struct.injEq] at h1;subst h1;have Xa:=iA hcs hu;obtain⟨hle,hset⟩:=FC.iT hz Xa hc2;have nW:u.cells.size=j.size:=by rw[←hl,←Xa.length];simp
       simp only[List.zip_cons_cons,Instr.fill,hpl f fd j h2 h4];have ac3:fd.offset+j.size≤zs.size:=by simp only[Array.length_toList] at hle;omega
       rw[if_neg (by simp[nW];omega)];have AQ:(u.cells.zipIdx.foldl (fun cs (x:Value×Nat)=>cs.setIfInBounds (fd.offset+x.2) x.1) zs).toList=zs.toList.take fd.offset++u.cells.toList++zs.toList.drop (fd.offset+u.cells.toList.length):=by
        rw[←rq fd.offset u.cells.toList zs (by simpa using hle)];rw[←Array.foldl_toList,Array.toList_zipIdx]
       exact AP hT ht hpl ks vs c2 cells' r _ h hv (by rw[AQ];exact hset)
      cases h
     cases h
    cases h
   cases h
theorem zY {fs:List Field}{g:Field→Nat×Nat}(h:∀f∈fs,(sizeOf f.type).run P w=.ok (g f).2 w)(h1:∀f∈fs,(g f).1=f.offset) :
  (fs.mapM fun f=>(do pure (f.offset,←sizeOf f.type):Sem (Nat×Nat))).run P w=.ok (fs.map g) w:=by
 induction fs with
 |nil=>simp
 | cons f fs ih=>
   have:=ih (fun f hf=>h f (List.mem_cons_of_mem _ hf)) (fun f hf=>h1 f (List.mem_cons_of_mem _ hf));simp only[List.mapM_cons,Sem.run_bind,h f List.mem_cons_self,Result.andThen_ok,Sem.run_pure,this,List.map_cons];rw[←h1 f List.mem_cons_self]
theorem p8 {N:Nat→Prop}{hp:List (Nat×au)}:∀{vs:List Value},vs.all (·.oneCell')=true→FC (ai N w hp R) (vs.map fun v=>.pv (.sc v)) vs
 |[],_=>rfl
 | v::vs,h=>by
   simp only[List.all_cons,Bool.and_eq_true] at h;exact⟨v,vs,rfl,h.1,by simp only[ai,aU],p8 h.2⟩
theorem Fy (hT:bA P T){N:Nat→Prop}{hp:List (Nat×au)}{t:TypeId}{ks:List Nat}{vs:List AV}{us:List Value}{K:AV→Prop}(h:xR T t ks vs K)
  (hv:FL (ai N w hp R) vs us):∃y z,(Instr.build t (ks.zip us).toArray).run P w=.ok y w∧K z∧ai N w hp R z y:=by
 unfold xR at h;split at h;rotate_left;cases h
 rename_i i hi;have hi':=hT _ _ hi;obtain⟨d,hd,fC⟩:=hi'.fq;obtain⟨zv,hz1,hz2,hz3⟩:=hi'.oH w;split at h;rotate_left;cases h
 rename_i fl hfl;rw[hfl] at fC;cases d<;>simp[di] at fC
 rename_i fs;subst fC;split at h;rotate_left;cases h
 rename_i hfi;split at h;rotate_left;cases h
 rename_i z hz;have:=Fz hz;subst this;split at h;rotate_left;cases h
 rename_i cells hcells;split at h;rotate_left;cases h
 rename_i v hv';have hall:∀f∈fs.toList,∃j,bH P f.type j:=by
  have key:∀l:List Field,vQ T (l.map fun f=>(f.offset,f.type))=true→∀f∈l,∃j,bH P f.type j:=by
   intro l;induction l with
   |nil=>intro _ f hf;cases hf
   | cons x l ih=>
     intro h f hf;simp only[List.map_cons,vQ] at h;split at h
     ·rename_i j hj;rcases List.mem_cons.1 hf with rfl|hf
      ·exact⟨j,hT _ _ hj⟩
      exact ih h f hf
     cases h
  exact key _ hfi
 have hsz:∀f∈fs.toList,(sizeOf f.type).run P w=.ok (P.cellsOf f.type) w:=by
  intro f hf;obtain⟨j,hj⟩:=hall f hf;obtain⟨x,_,h1,_⟩:=hj.AL;simp[sizeOf,typeInfo,h1,Program.cellsOf]
 have hmap:=zY (g:=fun f=>(f.offset,P.cellsOf f.type)) hsz (fun _ _=>rfl);have hpl:∀(f:Nat) (fd:Field) (j:TI),fs[f]? = some fd→bH P fd.type j→((fs.map fun f=>(f.offset,P.cellsOf f.type))[f]? : Option (Nat×Nat))=some (fd.offset,j.size):=by
  intro f fd j h1 h2;obtain⟨x,_,h3,h4,_⟩:=h2.AL;simp[h1,Program.cellsOf,h3,h4]
 obtain⟨N8,hf1,hf2⟩:=AP hT hd hpl ks vs _ cells us zv.cells hcells hv (by rw[hz2];exact p8 hi'.N9);refine⟨.agg N8,v,?_,h,?_⟩
 ·have hm2:(fs.mapM fun f=>(do pure (f.offset,←sizeOf f.type):Sem (Nat×Nat))).run P w=.ok (fs.map fun f=>(f.offset,P.cellsOf f.type)) w:=by
   rw[Array.mapM_eq_mapM_toList,Sem.run_map,hmap];simp only[Result.andThen_ok];rw[←Array.toList_map,Array.toArray_toList]
  simp only[Instr.build,Sem.run_bind,hz1,Result.andThen_ok,run_underlying hd,hm2,hf1,Sem.run_pure]
 unfold vS at hv';split at hv'
 ·rename_i ps hps;simp only[Option.some.injEq] at hv';subst hv';simp only[ai,aU];exact⟨N8,rfl,by rw[eB];exact oI hps hf2⟩
 simp only[Option.some.injEq] at hv';subst hv';simp only[ai];exact⟨N8,rfl,by rw[aW];exact hf2⟩
end
theorem Mx {H:List (Nat×au)}:∀(bs:List Nat) (fs:List (Nat×au)),DZ H bs=some fs→∀b,(lk fs b).isSome=true→(lk H b).isSome=true
 |[],fs,h=>by simp only[DZ,Option.some.injEq] at h;subst h;intro b hb;simp[lk] at hb
 | b0::bs,fs,h=>by
   simp only[DZ] at h;split at h
   ·rename_i t ht;have ih:=Mx bs t ht;split at h
    ·simp only[Option.some.injEq] at h;subst h;exact ih
    have cons:∀(aV:au),(lk H b0).isSome=true→∀b,(lk ((b0,aV)::t) b).isSome=true→(lk H b).isSome=true:=by
     intro aV h0 b hb;rw[ak] at hb;split at hb
     ·rename_i e;rw[←e];exact h0
     exact ih b hb
    split at h
    ·rename_i hb;simp only[Option.some.injEq] at h;subst h;exact cons _ (by rw[hb];rfl)
    ·rename_i hb;split at h
     ·simp only[Option.some.injEq] at h;subst h;exact cons _ (by rw[hb];rfl)
     cases h
    ·simp only[Option.some.injEq] at h;subst h;exact ih
    ·simp only[Option.some.injEq] at h;subst h;exact ih
    ·cases h
    ·cases h
    ·cases h
    ·cases h
    cases h
   cases h
def QK:Nat→List Nat→Bool
 |_,[]=>true
 | i,k::r=>match Nat.beq k i with
   |true=>QK (i+1) r
   |false=>false
theorem MB:∀{i:Nat} {ks:List Nat},QK i ks=true→ks=List.range' i ks.length
 |i,[],_=>rfl
 | i,k::r,h=>by
   simp only[QK] at h;split at h
   ·rename_i hk;have hk:=Nat.eq_of_beq_eq_true hk;subst hk;have:=MB h;rw[List.length_cons,List.range'_succ,←this]
   cases h
def D7 (i:TI):List PV→Option (List (List PV))
 |[]=>some []
 | p::r=>match jR i p with
   | some cs=>match Nat.beq cs.length i.size with
     | true=>match D7 i r with
       |some t=>some (cs::t)
       |none=>none
     |false=>none
   |none=>none
def jS (T:Tab)(H:List (Nat×au))(t:TypeId)(len:Nat)(ks:List Nat)(vs:List AV)(id:Nat)(K:AV→List (Nat×au)→Prop):Prop:=
 match lk T t with
 | some i=>match i.d with
   | .slt e=>match lk T e with
     | some ei=>W9 ei fun nE GR=>match Nat.beq nE 0,QK 0 ks,Nat.beq ks.length len,Nat.ble (len*nE) 16777216 with
       | false,true,true,true=>match D6 H vs with
         | some ps=>match D7 ei ps,DZ H (dG vs) with
           | some rows,some fs=>match Nat.beq rows.length len with
             |true=>K (.aZ id 0) ((id,.arr e 0 nE rows)::fs)
             |false=>False
           |_,_=>False
         |none=>False
       |_,_,_,_=>False
     |none=>False
   |_=>False
 |none=>False
section
variable {P:Program}{T:Tab}{c:Ctx}{R:Real}{s:AS}{a:Act}{w:World}
theorem Xb {st:Nat}:∀(vs:List Value) (i0:Nat) (cells:Array Value),(∀v∈vs,v.cells.size=st)→(i0+vs.length)*st≤cells.size →
  ∃r,Instr.fill (fun i=>some (i*st,st)) cells ((List.range' i0 vs.length).zip vs)=some r ∧
   r.toList=cells.toList.take (i0*st)++(vs.map (·.cells.toList)).flatten++cells.toList.drop ((i0+vs.length)*st)
 |[],i0,cells,_,_=>⟨cells,rfl,by simp⟩
 | v::vs,i0,cells,hv,hle=>by
   have hvs:v.cells.size=st:=hv v List.mem_cons_self;have e1:(i0+(v::vs).length)*st=i0*st+st+vs.length*st:=by simp only[List.length_cons,Nat.add_mul,Nat.one_mul];omega
   have e2:(i0+1+vs.length)*st=i0*st+st+vs.length*st:=by simp only[Nat.add_mul,Nat.one_mul]
   have e3:(i0+1)*st=i0*st+st:=by simp only[Nat.add_mul,Nat.one_mul]
   rw[e1] at hle;have hl:v.cells.toList.length=st:=by simpa using hvs
   have AQ:(v.cells.zipIdx.foldl (fun cs (x:Value×Nat)=>cs.setIfInBounds (i0*st+x.2) x.1) cells).toList=cells.toList.take (i0*st)++v.cells.toList++cells.toList.drop (i0*st+v.cells.toList.length):=by
    rw[←rq (i0*st) v.cells.toList cells (by omega)];rw[←Array.foldl_toList,Array.toList_zipIdx]
   generalize hcs:v.cells.zipIdx.foldl (fun cs (x:Value×Nat)=>cs.setIfInBounds (i0*st+x.2) x.1) cells=cs1 at AQ;have hsz:cs1.size=cells.size:=by
    rw[←Array.length_toList,AQ];simp only[List.length_append,List.length_take,List.length_drop,Array.length_toList,hvs];omega
   obtain⟨r,hr,hk⟩:=Xb vs (i0+1) cs1 (fun u hu=>hv u (List.mem_cons_of_mem _ hu)) (by rw[hsz,e2];exact hle);refine⟨r,?_,?_⟩
   ·simp only[List.length_cons,List.range'_succ,List.zip_cons_cons,Instr.fill,hvs];rw[if_neg (by simp;omega),←hr,hcs]
   have h0:(cells.toList.take (i0*st)).length=i0*st:=by simp;omega
   have h1:(cells.toList.take (i0*st)++v.cells.toList).length=i0*st+st:=by rw[List.length_append,h0,hl]
   rw[hk,e1,e2,e3,AQ];have t1:List.take (i0*st+st) (cells.toList.take (i0*st)++v.cells.toList++cells.toList.drop (i0*st+v.cells.toList.length))=cells.toList.take (i0*st)++v.cells.toList:=by
    rw[List.take_left' h1]
   have t2:List.drop (i0*st+st+vs.length*st) (cells.toList.take (i0*st)++v.cells.toList++cells.toList.drop (i0*st+v.cells.toList.length))=cells.toList.drop (i0*st+st+vs.length*st):=by
    rw[←List.drop_drop,List.drop_left' h1,List.drop_drop,hl]
   rw[t1,t2];simp
theorem yZ {N:Nat→Prop}{i:TI}:∀{ps:List PV} {rows:List (List PV)} {us:List Value},D7 i ps=some rows→FL (aU N w) ps us →
  rows.length=ps.length∧(∀v∈us,v.cells.size=i.size)∧bB N w i.size rows (us.map (·.cells.toList)).flatten
 | [],rows,us,h,hu=>by
   simp only[D7,Option.some.injEq] at h;subst h;simp only[FL] at hu;subst hu;exact⟨rfl,by simp,by simp[bB]⟩
 | p::ps,rows,us,h,hu=>by
   obtain⟨v,r,rfl,hv,hu⟩:=hu;simp only[D7] at h;split at h
   ·rename_i cs hcs;split at h
    ·rename_i hl;have hl:=Nat.eq_of_beq_eq_true hl;split at h
     ·rename_i t ht;simp only[Option.some.injEq] at h;subst h;obtain⟨a1,a2,a3⟩:=yZ ht hu;have hc:=ru hcs hv;have hvs:v.cells.size=i.size:=by rw[←hl,←hc.length];simp
      refine⟨by simp[a1],fun u hu=>?_,?_⟩
      ·rcases List.mem_cons.1 hu with rfl|hu
       ·exact hvs
       exact a2 u hu
      simp only[List.map_cons,List.flatten_cons];refine⟨hl,by rw[bT];exact hc.fp.app _,?_⟩;rw[List.drop_left' (by simpa using hvs)];exact a3
     cases h
    cases h
   cases h
theorem l8 (g:aS c R s a w)(hT:bA P T){H:List (Nat×au)}(hH:∀b box,lk H b=some box→lk s.hp b=some box){id:Nat}(hf:lk s.hp id=none)
  {t:TypeId} {len:Nat} {ks:List Nat} {vs:List AV} {us:List Value} {K:AV→List (Nat×au)→Prop} (h:jS T H t len ks vs id K) (hv:FL (ai (aG c R s.hp) w s.hp R) vs us) :
  ∃y w' R' z ws,(Instr.buildSlice t len (ks.zip us).toArray).run P w=.ok y w'∧K z ws∧aS c R' (s.app ws) a w'∧ai (aG c R' (ws++s.hp)) w' (ws++s.hp) R' z y:=by
 unfold jS at h;simp only[cK] at h;split at h;rotate_left;cases h
 rename_i i hi;obtain⟨d,hd,fC⟩:=(hT t i hi).fq;split at h;rotate_left;cases h
 rename_i e hte;have ht:P.underlying t=some (.slice e):=by
  rw[hte] at fC;cases d<;>simp[di] at fC
  subst fC;exact hd
 split at h;rotate_left;cases h
 rename_i ei ng;have gH:=hT _ _ ng;obtain⟨zv,hz1,hz2,hz3⟩:=gH.oH w;split at h;rotate_left;cases h
 rename_i hs0 hks hkl ZQ;have hs0:=Nat.ne_of_beq_eq_false hs0;have hks:=MB hks;have hkl:=Nat.eq_of_beq_eq_true hkl;have ZQ:=Nat.le_of_ble_eq_true ZQ;split at h;rotate_left;cases h
 rename_i ps hps;split at h;rotate_left;cases h
 rename_i rows fs hrows hfs;split at h;rotate_left;cases h
 rename_i hrl;have hrl:=Nat.eq_of_beq_eq_true hrl;obtain⟨g1,m1,n1,o1⟩:=iy g hH _ _ hfs;have nX:=fO g hH n1 vs ps us (fun b hb=>o1 b (.inr hb)) hps (by rw[dn];exact hv);rw[iJ] at nX;obtain⟨q1,q2,q3⟩:=yZ hrows nX;have Qt:us.length=len:=by rw[nX.length,←q1,hrl]
 have hcz:((Array.range (len*ei.size)).map fun x=>(if len*ei.size=0 then (#[]:Array Value) else zv.cells)[x%(if len*ei.size=0 then (#[]:Array Value) else zv.cells).size]!).size=len*ei.size:=by simp
 obtain⟨r,hr1,hr2⟩:=Xb us 0 ((Array.range (len*ei.size)).map fun x=>(if len*ei.size=0 then (#[]:Array Value) else zv.cells)[x%(if len*ei.size=0 then (#[]:Array Value) else zv.cells).size]!) q2 (by rw[hcz,Qt];simp);have hr3:r.toList=(us.map (·.cells.toList)).flatten:=by
  rw[hr2,Qt];simp only[Nat.zero_mul,List.take_zero,List.nil_append,Nat.zero_add];rw[List.drop_eq_nil_of_le (by simp),List.append_nil]
 have XO:lk (s.app fs).hp id=none:=by
  show lk (fs++s.hp) id=none
  rw[xQ];cases hx:lk fs id with
  |none=>exact hf
  | some b=>
    have:=Mx _ _ hfs id (by rw[hx];rfl);cases hy:lk H id with
    |none=>rw[hy] at this;cases this
    |some box=>rw[hH _ _ hy] at hf;cases hf
 have hq3:bB (aG c R (s.app fs).hp) w ei.size rows r.toList:=by rw[hr3];exact q3
 obtain⟨t1,t2,t3⟩:=d9 hq3;have ZR:r.toList.length=len*ei.size:=by
  rw[hr3];have:∀us:List Value,(∀v∈us,v.cells.size=ei.size)→(us.map (·.cells.toList)).flatten.length=us.length*ei.size:=by
   intro us;induction us with
   |nil=>intro _;simp
   | cons v us ih=>
     intro h;have:=ih fun u hu=>h u (List.mem_cons_of_mem _ hu)
     simp only[List.map_cons,List.flatten_cons,List.length_append,this,Array.length_toList,h v List.mem_cons_self,List.length_cons,Nat.add_mul];omega
  rw[this us q2,Qt]
 have hlm:len≤maxLen:=by
  have:len≤len*ei.size:=Nat.le_mul_of_pos_right _ (Nat.pos_of_ne_zero hs0);unfold maxLen;omega
 obtain⟨R',g2,r2⟩:=g1.QL (e:=e) (st:=ei.size) (rows:=rows) (w':={ w with heap:=w.heap.push (.cells r e) }) (cur:=r) (cap:=len) XO ⟨rfl,rfl,rfl,rfl⟩ (by omega) hlm
  (by rw[←Array.length_toList];exact ZR) hq3
 refine⟨.slice (some ⟨w.heap.size,0,none⟩) len len,_,R',_,_,?_,h,g2,by rw[hrl] at r2;exact r2⟩;rw[Qt,←hkl,←hks,hkl] at hr1;have ZT:¬len*ei.size>2 ^ 24:=by omega
 by_cases hz:len*ei.size=0
 ·simp only[if_pos hz] at hr1;simp only[Instr.buildSlice,Sem.run_bind,run_underlying ht,Result.andThen_ok,gH.run_sizeOf,if_neg ZT,if_pos hz,Sem.run_pure,hr1,newRow,run_newObj]
 simp only[if_neg hz] at hr1;simp only[Instr.buildSlice,Sem.run_bind,run_underlying ht,Result.andThen_ok,gH.run_sizeOf,if_neg ZT,if_neg hz,hz1,Sem.run_pure,hr1,newRow,run_newObj]
end
def rz (T:Tab)(t:TypeId)(vs:List AV)(id:Nat)(K:AV→List (Nat×au)→Prop):Prop:=
 match vs with
 | [.pv (.sc (.int _ l)),.pv (.sc (.int _ n))]=>match lk T t with
   | some i=>match i.d with
     | .slt e=>match lk T e with
       | some ei=>W9 ei fun nE GR=>match Nat.beq nE 0,Zm ei.zero with
         |false,some z=>0≤l∧l≤n∧n≤9223372036854775807∧(GR:Int)*n≤281474976710656∧K (.aZ id 0) [(id,.arr e 0 nE (List.replicate l.toNat z))]
         |_,_=>False
       |none=>False
     |_=>False
   |none=>False
 |_=>False
def xS (T:Tab)(t:TypeId)(id:Nat)(K:AV→List (Nat×au)→Prop):Prop:=
 match lk T t with
 | some i=>match XM i.zero with
   |some z=>K (.ptr id 0) [(id,.var z)]
   |none=>False
 |none=>False
def Oa (T:Tab)(t:TypeId)(x:AV)(id:Nat)(K:AV→List (Nat×au)→Prop):Prop:=
 match lk T t with
 | some i=>match cellsOf i x with
   |some cs=>K (.ptr id 0) [(id,.var cs)]
   |none=>False
 |none=>False
def nY (T:Tab)(H:List (Nat×au))(src dst:TypeId)(x:AV)(K:AV→List (Nat×au)→Prop):Prop:=
 match lk T dst with
 | some dt=>match dt.d with
   | .slt e=>match lk T src,lk T e with
     | some si,some ei=>match si.d,ei.d with
       | .GY,.uN .u8=>match x with
         |.pv (.sc (.string str))=>str.size≤140737488355328∧K (.pv (.sl false 1 (str.data.toList.map jq))) []
         |_=>False
       |_,_=>False
     |_,_=>False
   |_=>rA T H src dst x fun v=>K v []
 |none=>False
def kM (T:Tab)(H:List (Nat×au))(t:TypeId)(lo hi mx:Option Operand)(vs:List AV)(K:AV→List (Nat×au)→Prop):Prop:=
 match vs with
 | .aZ b ver::r=>match qQ (lk H b) ver,DZ H [b] with
   |some p,some fs=>l9 T t lo hi mx (.pv p::r) fun v=>K v fs
   |_,_=>False
 |_=>l9 T t lo hi mx vs fun v=>K v []
def Vd (mx:Bool)(vs:List AV)(K:AV→Prop):Prop:=
 match vs with
 | [.pv (.sc (.int k a)),.pv (.sc (.int j b))]=>match decide (k=j) with
   | true=>match mx with
     |true=>K (.pv (.sc (.int k (if b>a then b else a))))
     |false=>K (.pv (.sc (.int k (if b<a then b else a))))
   |false=>False
 |_=>False
def D8 (P:Program)(H:List (Nat×au))(vs:List AV)(K:AV→List (Nat×au)→Prop):Prop:=
 match vs with
 | .pv (.fn (.func f) first aT)::args=>match D6 H args with
   | some ps=>∃r,dP P f (first++(ps++aT)) r∧match zZ r with
     |true=>K (.pv r) []
     | false=>match DZ H (dG args) with
       |some fs=>K (.pv r) fs
       |none=>False
   |none=>False
 |_=>False
section
variable {P:Program}{T:Tab}{c:Ctx}{R:Real}{s:AS}{a:Act}{w:World}
theorem FL.imp {α:Type}{Q Q':α→Value→Prop}:∀{l:List α} {m:List Value},FL Q l m→(∀p v,Q p v→Q' p v)→FL Q' l m
 |[],_,h,_=>h
 |p::ps,m,h,hi=>by obtain⟨v,r,e,h1,h2⟩:=h;exact⟨v,r,e,hi _ _ h1,h2.imp hi⟩
theorem AR {N:Nat→Prop}{st:Nat}{z:List PV}{zs:List Value}(hz:FC (aU N w) z zs)(hst:z.length=st):∀(n:Nat) (L:List Value),
  n*st≤L.length→(∀j,j<n*st→L[j]? = zs[j%st]?)→bB N w st (List.replicate n z) L
 |0,L,_,_=>by simp[bB]
 | n+1,L,hl,h=>by
   have e:(n+1)*st=st+n*st:=by rw[Nat.add_mul];omega
   rw[e] at hl h;have hzl:=hz.length;have ht:L.take st=zs:=by
    apply List.ext_getElem?;intro j;rw[List.getElem?_take];by_cases hj:j<st
    ·rw[if_pos hj,h j (by omega),Nat.mod_eq_of_lt hj]
    rw[if_neg hj];exact (List.getElem?_eq_none (by omega)).symm
   rw[List.replicate_succ];refine⟨hst,?_,AR hz hst n (L.drop st) (by simp;omega) fun j hj=>?_⟩
   ·rw[bT];have:=hz.fp.app (L.drop st);rw[←ht,List.take_append_drop] at this;exact this
   rw[List.getElem?_drop,h (st+j) (by omega),Nat.add_mod_left]
theorem AU {N:Nat→Prop}:∀{vs:List Value},vs.all (·.oneCell')=true→FC (aU N w) (vs.map .sc) vs
 |[],_=>rfl
 | v::vs,h=>by
   simp only[List.all_cons,Bool.and_eq_true] at h;exact⟨v,vs,rfl,h.1,by simp only[aU],AU h.2⟩
theorem GZ (g:aS c R s a w)(hT:bA P T){id:Nat}(hf:lk s.hp id=none){t:TypeId}{x y:AV}{u v:Value}{K:AV→List (Nat×au)→Prop}
  (h:rz T t [x,y] id K) (hx:ai (aG c R s.hp) w s.hp R x u) (hy:ai (aG c R s.hp) w s.hp R y v) :
  ∃z w' R' q ws,(Instr.makeSlice t u v).run P w=.ok z w'∧K q ws∧aS c R' (s.app ws) a w'∧ai (aG c R' (ws++s.hp)) w' (ws++s.hp) R' q z:=by
 unfold rz at h;simp only[cK] at h;split at h;rotate_left;cases h
 rename_i _ k l j n heq;simp only[List.cons.injEq,and_true] at heq;obtain⟨rfl,rfl⟩:=heq;simp only[ai,aU] at hx hy;subst hx;subst hy;split at h;rotate_left;cases h
 rename_i i hi;obtain⟨d,hd,fC⟩:=(hT t i hi).fq;split at h;rotate_left;cases h
 rename_i e hte;have ht:P.underlying t=some (.slice e):=by
  rw[hte] at fC;cases d<;>simp[di] at fC
  subst fC;exact hd
 split at h;rotate_left;cases h
 rename_i ei ng;have gH:=hT _ _ ng;obtain⟨ti,zv,hinfo,hsz,hby,hzero,hzc⟩:=gH.AL;have QH:zv.cells.size=ei.size:=by have:=gH.QI;rw[←hzc] at this;simpa using this
 split at h;rotate_left;cases h
 rename_i z hs0 hz;have hs0:=Nat.ne_of_beq_eq_false hs0;have:=Ka hz;subst this;obtain⟨h0,h1,h63,hb,hK⟩:=h;have hrun:=run_make (P:=P) w t e ti zv ht hinfo hzero k j l n h0 h1 (by rw[hby];exact hb) h63;have hle:(List.replicate l.toNat (ei.zero.map PV.sc)).length≤n.toNat:=by simp;omega
 have Vb:bB (aG c R s.hp) w ei.size (List.replicate l.toNat (ei.zero.map PV.sc)) (madeCells zv.cells (n.toNat*ti.size)).toList:=by
  refine AR (AU gH.N9) (by simpa using gH.QI) _ _ ?_ fun j hj=>?_
  ·rw[Array.length_toList,size_madeCells,hsz];exact Nat.mul_le_mul_right _ (by omega)
  have hj2:j<n.toNat*ei.size:=Nat.lt_of_lt_of_le hj (Nat.mul_le_mul_right _ (by omega));rw[hsz];have hlt:j%zv.cells.size<zv.cells.size:=Nat.mod_lt _ (by rw[QH];exact Nat.pos_of_ne_zero hs0);have hmc:(madeCells zv.cells (n.toNat*ei.size))[j]? = some (zv.cells[j%zv.cells.size]!):=by
   simp[madeCells,hj2]
  rw[Array.getElem?_toList,hmc,getElem!_pos zv.cells _ hlt,←hzc,Array.getElem?_toList,←QH];exact (Array.getElem?_eq_getElem hlt).symm
 obtain⟨R',g2,r2⟩:=g.QL (e:=e) (st:=ei.size) (w':=w.alloc (.cells (madeCells zv.cells (n.toNat*ti.size)) e)) (cap:=n.toNat) hf ⟨rfl,rfl,rfl,rfl⟩ hle (by unfold maxLen;omega)
  (by rw[size_madeCells,hsz]) Vb
 rw[List.length_replicate] at r2;exact⟨_,_,R',_,_,hrun,hK,g2,r2⟩
theorem FB (g:aS c R s a w)(hT:bA P T){id:Nat}(hf:lk s.hp id=none){t:TypeId}{K:AV→List (Nat×au)→Prop}(h:xS T t id K) :
  ∃z w' R' q ws,(Instr.alloc t true (.tuple #[])).run P w=.ok z w'∧K q ws∧aS c R' (s.app ws) a w'∧ai (aG c R' (ws++s.hp)) w' (ws++s.hp) R' q z:=by
 unfold xS at h;split at h;rotate_left;cases h
 rename_i i hi;have hi':=hT _ _ hi;obtain⟨zv,hz1,hz2,hz3⟩:=hi'.oH w;split at h;rotate_left;cases h
 rename_i z hz;have:=Fz hz;subst this;obtain⟨R',g2,r2⟩:=g.newVar hf (cells:=i.zero.map fun v=>.pv (.sc v)) (vs:=zv.cells) (t:=t) (by rw[hz2];exact p8 hi'.N9);refine⟨_,_,R',_,_,?_,h,g2,r2⟩;simp[Instr.alloc,hz1,newVar,newRow]
theorem Kb (g:aS c R s a w)(hT:bA P T){id:Nat}(hf:lk s.hp id=none){t:TypeId}{x:AV}{u:Value}{K:AV→List (Nat×au)→Prop}(h:Oa T t x id K)
  (hx:ai (aG c R s.hp) w s.hp R x u) :
  ∃z w' R' q ws,(Instr.box t u).run P w=.ok z w'∧K q ws∧aS c R' (s.app ws) a w'∧ai (aG c R' (ws++s.hp)) w' (ws++s.hp) R' q z:=by
 unfold Oa at h;split at h;rotate_left;cases h
 split at h;rotate_left;cases h
 rename_i cs hcs;obtain⟨R',g2,r2⟩:=g.newVar hf (vs:=u.cells) (t:=t) (iA hcs hx);refine⟨_,_,R',_,_,?_,h,g2,r2⟩;simp[Instr.box,newVar,newRow]
theorem D9 {N:Nat→Prop}{hp:List (Nat×au)}{mx:Bool}{x y:AV}{u v:Value}{K:AV→Prop}(h:Vd mx [x,y] K)(hx:ai N w hp R x u)(hy:ai N w hp R y v)(ts:Array TypeId)(ty:TypeId) :
  ∃z q,(if mx then Builtin.max_ ts ty #[u,v] else Builtin.min_ ts ty #[u,v]).run P w=.ok z w∧K q∧ai N w hp R q z:=by
 unfold Vd at h;split at h;rotate_left;cases h
 rename_i _ k a j b heq;simp only[List.cons.injEq,and_true] at heq;obtain⟨rfl,rfl⟩:=heq;simp only[ai,aU] at hx hy;subst hx;subst hy;split at h;rotate_left;cases h
 rename_i hk;have hk:=of_decide_eq_true hk;subst hk;split at h
 ·exact⟨.int k (if b>a then b else a),_,by simp[Builtin.max_,Builtin.max2],h,by simp only[ai,aU]⟩
 exact⟨.int k (if b<a then b else a),_,by simp[Builtin.min_,Builtin.min2],h,by simp only[ai,aU]⟩
theorem G8 {α:Type}(a:Array α)(x:α)(f:α→α):(a.push x).modify a.size f=a.push (f x):=by
 apply Array.ext_getElem?;intro i;simp only[Array.getElem?_modify,Array.getElem?_push];by_cases h:a.size=i
 ·subst h;simp
 rw[if_neg h,if_neg (fun e=>h e.symm),if_neg (fun e=>h e.symm)]
theorem vT (e:TypeId)(str:ByteArray):∃cap w',(str.size≤cap∧(str.size≤140737488355328→cap≤9223372036854775807))∧(Conv.stringToBytes e str).run P w=.ok (.slice (some ⟨w.heap.size,0,none⟩) str.size cap) w' ∧
  ∃cur fr,w'.heap=w.heap.push (.cells cur e fr)∧cur.toList.take str.size=(str.data.toList.map fun b=>Value.int .u8 b.toNat)∧w'.os=w.os∧w'.tape=w.tape∧w'.output=w.output:=by
 generalize hX:(str.data.map (fun b=>Value.int .u8 b.toNat)++Array.replicate (grownCap w str.size 0 e-str.size) (Value.int .u8 0))=X;refine⟨grownCap w str.size 0 e,(w.drew.alloc (.cells X e)).freeze ⟨w.heap.size,X.size,none⟩ 1,⟨grownCap_ge w str.size 0 e,fun hb=>by have:=grownCap_le_maxLen w str.size 0 e (by unfold maxLen;omega);unfold maxLen at this;omega⟩,?_,X,(X.size,X.size+1),?_,?_,?_,?_,?_⟩
 ·simp only[Conv.stringToBytes,Sem.run_bind,run_choose,Question.forced,Bool.false_eq_true,if_false,Result.andThen_ok,newRow,run_newObj,Sem.run_pure,markStringish,run_shape];simp only[World.shape?,Array.getElem?_push_size,Result.andThen_ok,run_freeze,Sem.run_pure];rw[←hX];rfl
 ·unfold World.freeze;rw[if_neg (by decide)];have e1:(w.drew.alloc (Obj.cells X e)).heap=w.heap.push (Obj.cells X e):=rfl;simp only[e1];rw[G8];simp
 ·rw[←hX];simp only[Array.toList_append,Array.toList_map];exact List.take_left' (by simp)
 ·rfl
 ·rfl
 rfl
theorem AY {N:Nat→Prop}:∀(bs:List UInt8) (r:List Value),bB N w 1 (bs.map jq) (bs.map (fun b=>Value.int .u8 b.toNat)++r)
 |[],r=>trivial
 |b::bs,r=>⟨rfl,⟨_,_,rfl,rfl,rfl,trivial⟩,by simpa using AY bs r⟩
theorem p9 (g:aS c R s a w)(hT:bA P T){H:List (Nat×au)}(hH:∀b box,lk H b=some box→lk s.hp b=some box){src dst:TypeId}{x:AV}{K:AV→List (Nat×au)→Prop}
  (h:nY T H src dst x K) {u:Value} (hx:ai (aG c R s.hp) w s.hp R x u) :
  ∃z w' R' q ws,(convert src dst u).run P w=.ok z w'∧K q ws∧aS c R' (s.app ws) a w'∧ai (aG c R' (ws++s.hp)) w' (ws++s.hp) R' q z:=by
 unfold nY at h;split at h;rotate_left;cases h
 rename_i dt hdt;split at h
 ·rename_i e hde;split at h;rotate_left;cases h
  rename_i si ei hsi ng;split at h;rotate_left;cases h
  rename_i hss hes;split at h;rotate_left;cases h
  rename_i str;simp only[ai,aU] at hx;subst hx;obtain⟨hsb,h⟩:=h;obtain⟨d1,hd1,e1⟩:=(hT _ _ hsi).fq;obtain⟨d2,hd2,e2⟩:=(hT _ _ hdt).fq;obtain⟨d3,ZU,e3⟩:=(hT _ _ ng).fq;have q1:P.underlying src=some .string:=by rw[hss] at e1;cases d1<;>simp[di] at e1;exact hd1
  have q2:P.underlying dst=some (.slice e):=by rw[hde] at e2;cases d2<;>simp[di] at e2;subst e2;exact hd2
  have q3:P.underlying e=some (.int .u8):=by rw[hes] at e3;cases d3<;>simp[di] at e3;subst e3;exact ZU
  obtain⟨cap,w',⟨hcap,hcm⟩,hrun,cur,fr,AZ,XP,ho,ht,hu⟩:=vT (P:=P) (w:=w) e str;have hcm:=hcm hsb;have hev:kK (fun _=>False) w w':=by
   refine⟨by rw[AZ];simp,fun r hr _=>?_,ho,ht,hu⟩;rw[AZ,Array.getElem?_push];simp[Nat.ne_of_lt hr]
  refine⟨.slice (some ⟨w.heap.size,0,none⟩) str.size cap,w',R,_,[],?_,h,g.grow hev,?_⟩
  ·simp only[convert,Sem.run_bind,run_underlying q1,run_underlying q2,run_underlying q3,Result.andThen_ok];exact hrun
  simp only[ai,aU];refine⟨_,_,cap,rfl,by simp,⟨by omega,hcm⟩,fun e=>(by cases e),fun ad ha=>?_⟩;simp only[Option.some.injEq] at ha;subst ha;refine .inr ⟨rfl,fun hn=>?_,cur,e,fr,by rw[AZ];simp,?_⟩
  ·have:=g.Zn hn;simp at this
  have:=AY (w:=w') (N:=aG c R s.hp) str.data.toList (cur.toList.drop str.size);rw[←XP,List.take_append_drop] at this;simpa using this
 obtain⟨y,z,h1,h2,h3⟩:=G9 g hT hH h hx;exact⟨y,w,R,z,[],h1,h2,g,h3⟩
theorem Dg (g:aS c R s a w)(hT:bA P T){H:List (Nat×au)}(hH:∀b box,lk H b=some box→lk s.hp b=some box){t:TypeId}{x0:Operand}{lo hi mx:Option Operand}{vs:List AV}
  {K:AV→List (Nat×au)→Prop} (h:kM T H t lo hi mx vs K)
  (hv:FL (ai (aG c R s.hp) w s.hp R) vs ((x0::(lo.toList++(hi.toList++mx.toList))).map a.eval)) :
  ∃y z ws,(Instr.sliceAt t (a.eval x0) (lo.map a.eval) (hi.map a.eval) (mx.map a.eval)).run P w=.ok y w∧K z ws∧aS c R (s.app ws) a w∧ai (aG c R (ws++s.hp)) w (ws++s.hp) R z y:=by
 unfold kM at h;split at h
 ·rename_i b ver r;split at h;rotate_left;cases h
  rename_i p fs hp' hfs;obtain⟨g1,m1,n1,o1⟩:=iy g hH _ _ hfs;simp only[List.map_cons] at hv;obtain⟨u,r',e1,hx,hv⟩:=hv;have hp2:aU (aG c R (fs++s.hp)) w p u:=by
   refine oJ g hH n1 (.aZ b ver) p u (fun b' hb'=>o1 b' (.inr (by simpa[refs] using hb'))) ?_ hx;simpa[vw] using hp'
  have hv2:FL (ai (aG c R (s.app fs).hp) w (s.app fs).hp R) (.pv p::r) ((x0::(lo.toList++(hi.toList++mx.toList))).map a.eval):=by
   simp only[List.map_cons,e1];exact⟨u,r',rfl,(by simp only[ai];exact hp2),hv.imp m1⟩
  obtain⟨y,z,h1,h2,h3⟩:=vU g1 hT h hv2;exact⟨y,z,fs,h1,h2,g1,h3⟩
 obtain⟨y,z,h1,h2,h3⟩:=vU g hT h hv;exact⟨y,z,[],h1,h2,g,h3⟩
mutual
theorem vV {N N':Nat→Prop}{w w':World}:∀(p:PV) (v:Value),zZ p=true→aU N w p v→aU N' w' p v
 |.sc x,v,_,h=>by simpa only[aU] using h
 | .agg cs,v,hs,h=>by
   simp only[aU] at h ⊢;obtain⟨vs,e,h⟩:=h;exact⟨vs,e,A7 cs _ (by simpa[zZ] using hs) h⟩
 | .fM cs,v,hs,h=>by
   simp only[aU] at h ⊢;obtain⟨vs,e,h⟩:=h;exact⟨vs,e,A8 cs _ (by simpa[zZ] using hs) h⟩
 |.sl _ _ _,v,hs,h=>by simp[zZ] at hs
 |.dh _ _,v,hs,h=>by simp[zZ] at hs
 |.fn _ _ _,v,hs,h=>by simp[zZ] at hs
 |.junk,v,hs,h=>by simp only[aU]
 |.J5 _ _,v,hs,h=>by simp[zZ] at hs
theorem A7 {N N':Nat→Prop}{w w':World}:∀(ps:List PV) (vs:List Value),A9 ps=true→gG N w ps vs→gG N' w' ps vs
 |[],vs,_,h=>by simpa only[gG] using h
 | p::ps,vs,hs,h=>by
   simp only[A9] at hs;split at hs
   ·rename_i hp;simp only[gG] at h ⊢;obtain⟨v,r,e,h0,h1,h2⟩:=h;exact⟨v,r,e,h0,vV p v hp h1,A7 ps r hs h2⟩
   cases hs
theorem A8 {N N':Nat→Prop}{w w':World}:∀(ps:List PV) (vs:List Value),A9 ps=true→dI N w ps vs→dI N' w' ps vs
 |[],vs,_,h=>by simpa only[dI] using h
 | p::ps,vs,hs,h=>by
   simp only[A9] at hs;split at hs
   ·rename_i hp;simp only[dI] at h ⊢;obtain⟨v,r,e,h1,h2⟩:=h;exact⟨v,r,e,vV p v hp h1,A8 ps r hs h2⟩
   cases hs
end
theorem He (g:aS c R s a w){H:List (Nat×au)}(hH:∀b box,lk H b=some box→lk s.hp b=some box){fv:AV}{args:List AV}{K:AV→List (Nat×au)→Prop}(h:D8 P H (fv::args) K)
  {u:Value} {us:List Value} (hf:ai (aG c R s.hp) w s.hp R fv u) (hv:FL (ai (aG c R s.hp) w s.hp R) args us) :
  ∃f first aT,u=.func (.func f) first aT∧Enters P f∧Calls P f (first++us.toArray++aT) w fun e w'=>∃v z ws,e=.returned v∧K z ws∧aS c R (s.app ws) a w'∧ai (aG c R (ws++s.hp)) w' (ws++s.hp) R z v:=by
 unfold D8 at h;split at h;rotate_left;cases h
 rename_i f first aT afe heq
 simp only[List.cons.injEq] at heq;obtain⟨rfl,rfl⟩:=heq;split at h;rotate_left;cases h
 rename_i ps hps;obtain⟨r,hpc,h⟩:=h;simp only[ai,aU] at hf;obtain⟨fs,cs,rfl,hf1,hf2⟩:=hf;refine⟨f,fs,cs,rfl,hpc.1,?_⟩;let F:Nat→Prop:=fun r=>aG c R s.hp r∧¬∃b,b∈dG args∧ax R b r (lk s.hp b)
 have hFN:∀r,F r→aG c R s.hp r:=fun r h=>h.1
 have nX:dI F w ps us:=by
  refine fO g hH hFN args ps us (fun b hb r ho hF=>hF.2 ⟨b,hb,ho⟩) hps ?_;rw[dn];exact hv
 have hargs:dI F w (first++(ps++aT)) (fs++us.toArray++cs).toList:=by
  rw[iJ] at nX hf1 hf2 ⊢;have mono:∀{l:List PV} {m:List Value},FL (aU (aG c R s.hp) w) l m→FL (aU F w) l m:=by
   intro l;induction l with
   |nil=>intro m h;exact h
   |cons x l ih=>intro m h;obtain⟨v,r,e,h1,h2⟩:=h;exact⟨v,r,e,bV (fun r _ h=>hFN r h) (fun _ _ _=>rfl) _ _ h1,ih h2⟩
  have e:(fs++us.toArray++cs).toList=fs.toList++(us++cs.toList):=by simp
  rw[e];exact (mono hf1).app (nX.app (mono hf2))
 refine (hpc.2 F w _ (fun r h=>g.Zn h.1) hargs).mono ?_;rintro e w' ⟨v,r',rfl,rfl,hr,hsame⟩
 have g2:=g.grow hsame;split at h
 ·rename_i hs;refine⟨v,_,[],rfl,h,g2,?_⟩;simp only[ai];exact vV _ _ hs hr
 split at h
 ·rename_i fz hfz;obtain⟨g3,m1,n1,o1⟩:=iy g2 hH _ _ hfz;refine⟨v,_,fz,rfl,h,g3,?_⟩;simp only[ai];refine bV ?_ (fun _ _ _=>rfl) _ _ hr;intro r _ hN;exact⟨n1 r hN,fun⟨b,hb,ho⟩=>o1 b (.inr hb) r ho hN⟩
 exact h.elim
end
abbrev Ren:=List (Nat×(Nat×Nat))
def ic (ρ:Ren)(b:Nat):Nat:=
 match lk ρ b with
 | some p=>match p with
   |(x,_)=>x
 |none=>b+2000000000
def Aa (ρ:Ren)(b:Nat):Nat:=
 match lk ρ b with
 | some p=>match p with
   |(_,d)=>d
 |none=>0
section
variable (ρ:Ren)
mutual
def jV:AV→AV
 |.pv p=>.pv p
 |.agg cs=>.agg (gL cs)
 |.fM cs=>.fM (gL cs)
 |.ptr b off=>.ptr (ic ρ b) off
 |.bU b ver i off=>.bU (ic ρ b) (ver+Aa ρ b) i off
 |.aZ b ver=>.aZ (ic ρ b) (ver+Aa ρ b)
 |.sub b ver st lo hi=>.sub (ic ρ b) (ver+Aa ρ b) st lo hi
 |.fn f first aT=>.fn f (gL first) (gL aT)
def gL:List AV→List AV
 |[]=>[]
 |v::r=>jV v::gL r
end
def dS (b:Nat):au→au
 |.var cells=>.var (gL ρ cells)
 |.lM cells=>.lM cells
 |.arr e ver st rows=>.arr e (ver+Aa ρ b) st rows
 |.gD ver st rows=>.gD (ver+Aa ρ b) st rows
 |.tr y ver rest st=>.tr y (ver+Aa ρ b) rest st
 |.dX e ver st pre row post=>.dX e (ver+Aa ρ b) st pre (gL ρ row) post
 |.mp kk kv es=>.mp kk kv es
 |.fZ e ver st j ed sd pre row post=>.fZ e (ver+Aa ρ b) st j ed sd pre (gL ρ row) post
end
theorem tN (ρ:Ren):∀(vs:List AV),(gL ρ vs).length=vs.length
 |[]=>rfl
 |v::r=>by simp[gL,tN ρ r]
theorem Yg (ρ:Ren)(vs:List AV):fA (gL ρ vs)=fA vs:=oG (tN ρ vs)
theorem yc {R R':Real}{b b' n:Nat}(h1:R'.blk b'=R.blk b)(h2:R'.nil b'=R.nil b)(h3:R'.cap b'=R.cap b):bO R' b' n=bO R b n:=by
 simp only[bO,h1,h2,h3]
section
variable {ρ:Ren}{N:Nat→Prop}{w:World}{lq hp:List (Nat×au)}{R0 R:Real}
variable (h:∀b box,lk lq b=some box→lk hp (ic ρ b)=some (dS ρ b box)∧R.blk (ic ρ b)=R0.blk b∧R.nil (ic ρ b)=R0.nil b∧R.cap (ic ρ b)=R0.cap b)
include h
theorem KQ {b off:Nat}{x:Value}(hx:aH R0 b off x (lk lq b)):aH R (ic ρ b) off x (lk hp (ic ρ b)):=by
 cases hb:lk lq b with
 |none=>rw[hb] at hx;exact hx.elim
 | some box=>
   obtain⟨e,e1,e2,e3⟩:=h b box hb;rw[hb] at hx;rw[e];cases box<;>simp only[aH,dS,e1] at hx ⊢ <;> exact hx
theorem Ei {b ver:Nat}{x:Value}(hx:aD R0 b ver x (lk lq b)):aD R (ic ρ b) (ver+Aa ρ b) x (lk hp (ic ρ b)):=by
 cases hb:lk lq b with
 |none=>rw[hb] at hx;exact hx.elim
 | some box=>
   obtain⟨e,e1,e2,e3⟩:=h b box hb;rw[hb] at hx;rw[e];cases box<;>simp only[aD,dS,Yg,yc e1 e2 e3] at hx ⊢ <;> first
    |exact hx
    |exact⟨Nat.zero_le _,hx.2.1,hx.2.2⟩
    |exact⟨by omega,hx.2.1,fun he=>hx.2.2 (by omega)⟩
theorem OU {b ver i off:Nat}{x:Value}(hx:aJ R0 b ver i off x (lk lq b)):aJ R (ic ρ b) (ver+Aa ρ b) i off x (lk hp (ic ρ b)):=by
 cases hb:lk lq b with
 |none=>rw[hb] at hx;exact hx.elim
 | some box=>
   obtain⟨e,e1,e2,e3⟩:=h b box hb;rw[hb] at hx;rw[e];cases box<;>simp only[aJ,dS,e1,e2] at hx ⊢ <;> first
    |exact hx
    |exact⟨Nat.zero_le _,hx.2.1,hx.2.2⟩
    |exact⟨by omega,hx.2.1,fun he=>hx.2.2 (by omega)⟩
mutual
theorem FZ:∀(v:AV) (x:Value),ai N w lq R0 v x→ai N w hp R (jV ρ v) x
 |.pv p,x=>by simp only[ai,jV];exact id
 |.agg cs,x=>by simp only[ai,jV];rintro⟨vs,a,b⟩;exact⟨vs,a,rR cs _ b⟩
 |.fM cs,x=>by simp only[ai,jV];rintro⟨vs,a,b⟩;exact⟨vs,a,wI cs _ b⟩
 |.ptr b off,x=>by simp only[ai,jV];exact KQ h
 |.aZ b ver,x=>by simp only[ai,jV];exact Ei h
 |.sub b ver st lo hi,x=>by simp only[ai,jV];rintro⟨u,a,c⟩;exact⟨u,Ei h a,c⟩
 |.bU b ver i off,x=>by simp only[ai,jV];exact OU h
 | .fn f first aT,x=>by
   simp only[ai,jV];rintro⟨fs,cs,a,b,c⟩;exact⟨fs,cs,a,wI _ _ b,wI _ _ c⟩
theorem wI:∀(vs:List AV) (xs:List Value),bD N w lq R0 vs xs→bD N w hp R (gL ρ vs) xs
 |[],xs=>by simp only[bD,gL];exact id
 |p::ps,xs=>by simp only[bD,gL];rintro⟨v,r,a,b,c⟩;exact⟨v,r,a,FZ p v b,wI ps r c⟩
theorem rR:∀(vs:List AV) (xs:List Value),bN N w lq R0 vs xs→bN N w hp R (gL ρ vs) xs
 |[],xs=>by simp only[bN,gL];exact id
 |p::ps,xs=>by simp only[bN,gL];rintro⟨v,r,a,d,b,c⟩;exact⟨v,r,a,d,FZ p v b,rR ps r c⟩
end
end
section
variable {ρ:Ren}{N:Nat→Prop}{w:World}{lq hp:List (Nat×au)}{R0 R:Real}
variable (h:∀b box,lk hp (ic ρ b)=some box→∃box0,lk lq b=some box0∧box=dS ρ b box0∧R.blk (ic ρ b)=R0.blk b∧R.nil (ic ρ b)=R0.nil b∧R.cap (ic ρ b)=R0.cap b)
include h
theorem KR {b off:Nat}{x:Value}(hx:aH R (ic ρ b) off x (lk hp (ic ρ b))):aH R0 b off x (lk lq b):=by
 cases hb:lk hp (ic ρ b) with
 |none=>rw[hb] at hx;exact hx.elim
 | some box=>
   obtain⟨box0,e,rfl,e1,e2,e3⟩:=h b box hb;rw[hb] at hx;rw[e];cases box0<;>simp only[aH,dS,e1] at hx ⊢ <;> exact hx
theorem Ej {b ver:Nat}{x:Value}(hx:aD R (ic ρ b) (ver+Aa ρ b) x (lk hp (ic ρ b))):aD R0 b ver x (lk lq b):=by
 cases hb:lk hp (ic ρ b) with
 |none=>rw[hb] at hx;exact hx.elim
 | some box=>
   obtain⟨box0,e,rfl,e1,e2,e3⟩:=h b box hb;rw[hb] at hx;rw[e];cases box0<;>simp only[aD,dS,Yg,yc e1 e2 e3] at hx ⊢ <;> first
    |exact hx
    |exact⟨Nat.zero_le _,hx.2.1,hx.2.2⟩
    |exact⟨by omega,hx.2.1,fun he=>hx.2.2 (by omega)⟩
theorem OV {b ver i off:Nat}{x:Value}(hx:aJ R (ic ρ b) (ver+Aa ρ b) i off x (lk hp (ic ρ b))):aJ R0 b ver i off x (lk lq b):=by
 cases hb:lk hp (ic ρ b) with
 |none=>rw[hb] at hx;exact hx.elim
 | some box=>
   obtain⟨box0,e,rfl,e1,e2,e3⟩:=h b box hb;rw[hb] at hx;rw[e];cases box0<;>simp only[aJ,dS,e1,e2] at hx ⊢ <;> first
    |exact hx
    |exact⟨Nat.zero_le _,hx.2.1,hx.2.2⟩
    |exact⟨by omega,hx.2.1,fun he=>hx.2.2 (by omega)⟩
mutual
theorem MU:∀(v:AV) (x:Value),ai N w hp R (jV ρ v) x→ai N w lq R0 v x
 |.pv p,x=>by simp only[ai,jV];exact id
 |.agg cs,x=>by simp only[ai,jV];rintro⟨vs,a,b⟩;exact⟨vs,a,Io cs _ b⟩
 |.fM cs,x=>by simp only[ai,jV];rintro⟨vs,a,b⟩;exact⟨vs,a,wJ cs _ b⟩
 |.ptr b off,x=>by simp only[ai,jV];exact KR h
 |.aZ b ver,x=>by simp only[ai,jV];exact Ej h
 |.sub b ver st lo hi,x=>by simp only[ai,jV];rintro⟨u,a,c⟩;exact⟨u,Ej h a,c⟩
 |.bU b ver i off,x=>by simp only[ai,jV];exact OV h
 | .fn f first aT,x=>by
   simp only[ai,jV];rintro⟨fs,cs,a,b,c⟩;exact⟨fs,cs,a,wJ _ _ b,wJ _ _ c⟩
theorem wJ:∀(vs:List AV) (xs:List Value),bD N w hp R (gL ρ vs) xs→bD N w lq R0 vs xs
 |[],xs=>by simp only[bD,gL];exact id
 |p::ps,xs=>by simp only[bD,gL];rintro⟨v,r,a,b,c⟩;exact⟨v,r,a,MU p v b,wJ ps r c⟩
theorem Io:∀(vs:List AV) (xs:List Value),bN N w hp R (gL ρ vs) xs→bN N w lq R0 vs xs
 |[],xs=>by simp only[bN,gL];exact id
 |p::ps,xs=>by simp only[bN,gL];rintro⟨v,r,a,d,b,c⟩;exact⟨v,r,a,d,MU p v b,Io ps r c⟩
end
end
structure vZ (c:Ctx)(R:Real)(hp:List (Nat×au))(w:World):Prop where
 boxes:∀b box,lk hp b=some box→dB (aG c R hp) w hp R b box
 inj:∀b b' r,ax R b r (lk hp b)→ax R b' r (lk hp b')→b=b'
 free:∀r,owned R hp r→¬c.F r
 iE:kK c.O c.w w
 fG:∀r,owned R hp r→c.O r∨c.w.heap.size≤r
 kept:∀v x,c.K v x→ai (aG c R hp) w hp R v x
 fixed:rf c.fix (owned R hp) w
 lo:R.Y.n0=c.n0∧c.n0.1≤c.lo∧c.lo≤w.heap.size
theorem aS.hap {c:Ctx}{R:Real}{s:AS}{a:Act}{w:World}(g:aS c R s a w):vZ c R s.hp w:=
 ⟨g.boxes,g.inj,g.free,g.iE,g.fG,g.kept,g.fixed,g.lo⟩
theorem vZ.U1 {c:Ctx}{R:Real}{hp:List (Nat×au)}{w:World}(h:vZ c R hp w){tm:List (Nat×AV)}{nx:Nat}{a:Act}
  (hs:∀t v,lk tm t=some v→∃x,a.tmps[t]? = some x∧ai (aG c R hp) w hp R v x) (hz:a.tmps.size=c.n) (hd:∃Ds,Marks c.lo (owned R hp) w a.defers Ds):aS c R ⟨tm,nx,hp⟩ a w:=
 ⟨hs,hz,h.lo,hd,h.fixed,h.boxes,h.inj,h.free,h.iE,h.fG,h.kept⟩
inductive Src where
 |old (b d:Nat)
 |nil
abbrev uY:=List (Nat×Src)
def RD (v:AV):Option (List AV):=
 match v with
 |.agg cs=>some cs
 |.pv (.agg ps)=>some (ps.map .pv)
 |_=>none
def RF (v:AV):Option (List AV):=
 match v with
 |.fM cs=>some cs
 |.pv (.fM ps)=>some (ps.map .pv)
 |_=>none
def KS (v:AV):Option (Fn×List AV×List AV):=
 match v with
 |.fn f a c=>some (f,a,c)
 |.pv (.fn f a c)=>some (f,a.map .pv,c.map .pv)
 |_=>none
mutual
def qj:PV→PV→Prop
 |.junk,_=>True
 | .sc v,q=>match v with
   | .int k b=>match q with
     |.sc (.int j a)=>j=k∧a=b
     |_=>False
   | .bool b=>match q with
     |.sc (.bool a)=>a=b
     |_=>False
   |v=>q=.sc v
 | .sl nn st rows,q=>match q with
   |.sl nn' st' aB=>(nn=true→nn'=true)∧st'=st∧gu rows aB
   |.sc (.slice none 0 0)=>nn=false∧rows=[]
   |_=>False
 | .agg ps,q=>match q with
   |.agg qs=>iY ps qs
   |_=>False
 | .fM ps,q=>match q with
   |.fM qs=>iY ps qs
   |_=>False
 |.dh row off,q=>q=.dh row off
 |.fn f a b,q=>q=.fn f a b
 |.J5 st rows,q=>q=.J5 st rows
def iY:List PV→List PV→Prop
 | [],qs=>match qs with
   |[]=>True
   |_=>False
 | p::ps,qs=>match qs with
   |q::qs=>qj p q∧iY ps qs
   |[]=>False
def gu:List (List PV)→List (List PV)→Prop
 | [],qs=>match qs with
   |[]=>True
   |_=>False
 | p::ps,qs=>match qs with
   |q::qs=>iY p q∧gu ps qs
   |[]=>False
end
abbrev RG (q p:PV):Prop:=qj p q
abbrev yg (q p:List PV):Prop:=iY p q
def leP (v:AV)(p:PV):Prop:=
 match p with
 |.junk=>True
 | p=>match v with
   |.pv q=>RG q p
   |_=>False
section
variable (ρ:uY)
mutual
def le:AV→AV→Prop
 |v,.pv p=>leP v p
 | v,.ptr b off=>match lk ρ b with
   |some (.old x _)=>v=.ptr x off
   |_=>False
 | v,.aZ b ver=>match lk ρ b with
   |some (.old x d)=>v=.aZ x (ver+d)
   |some .nil=>ver=0∧v=.pv (.sc (.slice none 0 0))
   |none=>False
 | v,.sub b ver st lo hi=>match lk ρ b with
   |some (.old x d)=>v=.sub x (ver+d) st lo hi
   |_=>False
 | v,.bU b ver i off=>match Nat.beq b 999 with
   |true=>False
   | false=>match lk ρ b with
     |some (.old x d)=>v=.bU x (ver+d) i off
     |_=>False
 | v,.agg cs=>match RD v with
   |some us=>Dz us cs
   |none=>False
 | v,.fM cs=>match RF v with
   |some us=>Dz us cs
   |none=>False
 | v,.fn f a c=>match KS v with
   |some (g,a',c')=>g=f∧Dz a' a∧Dz c' c
   |none=>False
def Dz:List AV→List AV→Prop
 |[],[]=>True
 |u::us,v::vs=>le u v∧Dz us vs
 |_,_=>False
end
end
def uD (ρ:uY)(d:Nat)(o:Option au)(box:au):Prop:=
 match box with
 | .var cells=>match o with
   |some (.var cs)=>Dz ρ cs cells
   |_=>False
 | .lM cells=>match o with
   |some (.lM cs)=>cs=cells
   |_=>False
 | .arr e ver st rows=>match o with
   |some (.arr e' dD st' aB)=>e'=e∧dD=ver+d∧st'=st∧gu rows aB
   |_=>False
 | .gD ver st rows=>match o with
   |some (.gD dD st' aB)=>dD=ver+d∧st'=st∧gu rows aB
   |some (.arr _ dD st' aB)=>False
   |_=>False
 | .tr y _ rest st=>match o with
   |some (.tr y' _ rest' st')=>y'=y∧rest'=rest∧st'=st
   |_=>False
 | .dX e ver st pre row post=>match o with
   |some (.dX e' dD st' pre' row' post')=>e'=e∧dD=ver+d∧st'=st∧gu pre pre'∧Dz ρ row' row∧gu post post'
   |_=>False
 | .mp kk kv es=>match o with
   |some (.mp U2 RH es')=>U2=kk∧RH=kv∧es'=es
   |_=>False
 | .fZ e ver st j ed sd pre row post=>match o with
   |some (.fZ e' dD st' j' ed' sd' pre' row' post')=>(e'=e∧dD=ver+d∧st'=st∧j'=j∧ed'=ed∧sd'=sd)∧pre'=pre∧Dz ρ row' row∧post'=post
   |_=>False
def oO (box:au):Prop:=
 match box with
 |.arr _ _ _ rows=>rows=[]
 |.fZ _ _ _ _ _ _ pre row post=>pre=[]∧row=[]∧post=[]
 |_=>False
structure RI (ρ:uY)(hp hp':List (Nat×au)):Prop where
 box:∀b box,lk hp' b=some box→match lk ρ b with
  |some (.old x d)=>uD ρ d (lk hp x) box
  |some .nil=>oO box
  |none=>False
 dom:∀b,(∃s,lk ρ b=some s)→∃box,lk hp' b=some box
 inj:∀b b' x d d',lk ρ b=some (.old x d)→lk ρ b'=some (.old x d')→b=b'
 low:∀b,b<1000→(∃box,lk hp b=some box)→lk ρ b=some (.old b 0)
 aaq:∀b a0 a1 a2 a3,lk hp' b=some (.tr a0 a1 a2 a3)→b=999
def lH (ρ:uY)(R:Real):Real where
 blk b:=match lk ρ b with
  |some (.old x _)=>R.blk x
  |_=>0
 nil b:=match lk ρ b with
  |some (.old x _)=>R.nil x
  |_=>true
 cap b:=match lk ρ b with
  |some (.old x _)=>R.cap x
  |_=>(0,[])
 Y:=R.Y
theorem rT {ρ:uY}{R:Real}{b x d:Nat}(h:lk ρ b=some (.old x d)):(lH ρ R).blk b=R.blk x∧(lH ρ R).nil b=R.nil x∧(lH ρ R).cap b=R.cap x:=by
 simp[lH,h]
theorem oP {ρ:uY}{R:Real}{b:Nat}(h:lk ρ b=some .nil):(lH ρ R).nil b=true:=by
 simp[lH,h]
theorem yh {ρ:uY}{R:Real}{b:Nat}(h:lk ρ b=some .nil):(lH ρ R).cap b=(0,[]):=by
 simp[lH,h]
theorem Ap {ρ:uY}:∀(us vs:List AV),Dz ρ us vs→us.length=vs.length
 |[],[],_=>rfl
 |[],_::_,h=>by simp only[Dz] at h
 |_::_,[],h=>by simp only[Dz] at h
 |u::us,v::vs,h=>by simp only[Dz] at h;simp[Ap us vs h.2]
theorem ql {ρ:uY}{R:Real}{b x d n:Nat}(h:lk ρ b=some (.old x d)):bO (lH ρ R) b n=bO R x n:=by
 obtain⟨h1,h2,h3⟩:=rT (R:=R) h;simp only[bO,h1,h2,h3]
theorem lV {N:Nat→Prop}{w:World}{hp:List (Nat×au)}{R:Real}:∀(ps:List PV) (xs:List Value),dI N w ps xs→bD N w hp R (ps.map .pv) xs
 |[],xs,h=>by simpa only[List.map,bD,dI] using h
 | p::ps,xs,h=>by
   simp only[dI] at h;obtain⟨v,r,e,h1,h2⟩:=h;simp only[List.map_cons,bD,ai];exact⟨v,r,e,h1,lV ps r h2⟩
theorem El {N:Nat→Prop}{w:World}{hp:List (Nat×au)}{R:Real}:∀(ps:List PV) (xs:List Value),gG N w ps xs→bN N w hp R (ps.map .pv) xs
 |[],xs,h=>by simpa only[List.map,bN,gG] using h
 | p::ps,xs,h=>by
   simp only[gG] at h;obtain⟨v,r,e,h0,h1,h2⟩:=h;simp only[List.map_cons,bN,ai];exact⟨v,r,e,h0,h1,El ps r h2⟩
section
mutual
theorem RL:∀(p:PV),qj p p
 |.junk=>by unfold qj;trivial
 |.sc v=>by unfold qj;cases v<;>simp
 |.sl nn st rows=>by unfold qj;exact⟨id,rfl,aC rows⟩
 |.agg ps=>by unfold qj;exact tO ps
 |.fM ps=>by unfold qj;exact tO ps
 |.dh _ _=>by unfold qj;rfl
 |.fn _ _ _=>by unfold qj;rfl
 |.J5 _ _=>by unfold qj;rfl
theorem tO:∀(ps:List PV),iY ps ps
 |[]=>by unfold iY;trivial
 |p::ps=>by unfold iY;exact⟨RL p,tO ps⟩
theorem aC:∀(ps:List (List PV)),gu ps ps
 |[]=>by unfold gu;trivial
 |p::ps=>by unfold gu;exact⟨tO p,aC ps⟩
end
theorem gN {a b:List (List PV)}(h:b=a):gu a b:=h▸aC _
theorem Ip:∀(ps qs:List PV),iY ps qs→qs.length=ps.length
 |[],[],_=>rfl
 |[],_::_,h=>by unfold iY at h;exact h.elim
 |_::_,[],h=>by unfold iY at h;exact h.elim
 | p::ps,q::qs,h=>by
   unfold iY at h;simp[Ip ps qs h.2]
theorem ig:∀(ps qs:List (List PV)),gu ps qs→qs.length=ps.length
 |[],[],_=>rfl
 |[],_::_,h=>by unfold gu at h;exact h.elim
 |_::_,[],h=>by unfold gu at h;exact h.elim
 | p::ps,q::qs,h=>by
   unfold gu at h;simp[ig ps qs h.2]
theorem dH {a b c d:List (List PV)}(h:gu a b)(h':gu c d):gu (a++c) (b++d):=by
 induction a generalizing b with
 | nil=>
   cases b with
   |nil=>exact h'
   |cons _ _=>unfold gu at h;exact h.elim
 | cons x a ih=>
   cases b with
   |nil=>unfold gu at h;exact h.elim
   | cons y b=>
     rw[List.cons_append,List.cons_append];unfold gu at h ⊢;exact⟨h.1,ih h.2⟩
end
section
variable {N N':Nat→Prop}{w:World}(hN:∀r,N' r→N r)
include hN
mutual
theorem lW:∀(p q:PV) (x:Value),RG q p→aU N w q x→aU N' w p x
 |.junk,q,x,h,hx=>by simp only[aU]
 | .sc v,q,x,h,hx=>by
   unfold RG qj at h;split at h
   ·split at h
    ·obtain⟨rfl,rfl⟩:=h;simpa only[aU] using hx
    exact h.elim
   ·split at h
    ·subst h;simpa only[aU] using hx
    exact h.elim
   subst h;simpa only[aU] using hx
 | .sl nn st rows,q,x,h,hx=>by
   unfold RG qj at h;split at h
   ·obtain⟨h1,rfl,h2⟩:=h;simp only[aU] at hx ⊢;obtain⟨p,len,cap,a1,a2,a3,a4,a5⟩:=hx;have hl:=ig _ _ h2;refine⟨p,len,cap,a1,by omega,a3,fun hp=>⟨Bool.eq_false_iff.2 fun hnn=>?_,(a4 hp).2⟩,fun a ha=>?_⟩
    ·have:=(a4 hp).1;rw[h1 hnn] at this;cases this
    rcases a5 a ha with b2|⟨b1,b2,cur,e,fr,b3,b4⟩
    ·subst b2;exact .inl (List.eq_nil_of_length_eq_zero hl.symm)
    exact .inr ⟨b1,fun h=>b2 (hN _ h),cur,e,fr,b3,mE rows _ _ _ h2 b4⟩
   ·obtain⟨rfl,rfl⟩:=h;simp only[aU] at hx ⊢;subst hx;exact⟨none,0,0,rfl,rfl,⟨Nat.le_refl _,by omega⟩,by simp,fun a ha=>(by cases ha)⟩
   exact h.elim
 | .agg ps,q,x,h,hx=>by
   unfold RG qj at h;split at h
   ·simp only[aU] at hx ⊢;obtain⟨vs,e,h1⟩:=hx;exact⟨vs,e,zl ps _ _ h h1⟩
   exact h.elim
 | .fM ps,q,x,h,hx=>by
   unfold RG qj at h;split at h
   ·simp only[aU] at hx ⊢;obtain⟨vs,e,h1⟩:=hx;exact⟨vs,e,nJ ps _ _ h h1⟩
   exact h.elim
 | .J5 st rows,q,x,h,hx=>by
   unfold RG qj at h;subst h;exact bV (fun r _ h=>hN r h) (fun _ _ _=>rfl) _ _ hx
 | .dh row off,q,x,h,hx=>by
   unfold RG qj at h;subst h;exact bV (fun r _ h=>hN r h) (fun _ _ _=>rfl) _ _ hx
 | .fn f a b,q,x,h,hx=>by
   unfold RG qj at h;subst h;exact bV (fun r _ h=>hN r h) (fun _ _ _=>rfl) _ _ hx
theorem nJ:∀(ps qs:List PV) (xs:List Value),yg qs ps→dI N w qs xs→dI N' w ps xs
 |[],[],xs,h,hx=>by simpa only[dI] using hx
 |[],_::_,xs,h,hx=>by unfold yg iY at h;exact h.elim
 |_::_,[],xs,h,hx=>by unfold yg iY at h;exact h.elim
 | p::ps,q::qs,xs,h,hx=>by
   unfold yg iY at h;simp only[dI] at hx ⊢;obtain⟨x,r,e,h1,h2⟩:=hx;exact⟨x,r,e,lW p q x h.1 h1,nJ ps qs r h.2 h2⟩
theorem zl:∀(ps qs:List PV) (xs:List Value),yg qs ps→gG N w qs xs→gG N' w ps xs
 |[],[],xs,h,hx=>by simpa only[gG] using hx
 |[],_::_,xs,h,hx=>by unfold yg iY at h;exact h.elim
 |_::_,[],xs,h,hx=>by unfold yg iY at h;exact h.elim
 | p::ps,q::qs,xs,h,hx=>by
   unfold yg iY at h;simp only[gG] at hx ⊢;obtain⟨x,r,e,h0,h1,h2⟩:=hx;exact⟨x,r,e,h0,lW p q x h.1 h1,zl ps qs r h.2 h2⟩
theorem zm:∀(ps qs:List PV) (xs:List Value),yg qs ps→eY N w qs xs→eY N' w ps xs
 |[],[],xs,h,hx=>by simp only[eY]
 |[],_::_,xs,h,hx=>by unfold yg iY at h;exact h.elim
 |_::_,[],xs,h,hx=>by unfold yg iY at h;exact h.elim
 | p::ps,q::qs,xs,h,hx=>by
   unfold yg iY at h;simp only[eY] at hx ⊢;obtain⟨x,r,e,h0,h1,h2⟩:=hx;exact⟨x,r,e,h0,lW p q x h.1 h1,zm ps qs r h.2 h2⟩
theorem mE:∀(ps qs:List (List PV)) (st:Nat) (xs:List Value),gu ps qs→bB N w st qs xs→bB N' w st ps xs
 |[],[],st,xs,h,hx=>by simp only[bB]
 |[],_::_,st,xs,h,hx=>by unfold gu at h;exact h.elim
 |_::_,[],st,xs,h,hx=>by unfold gu at h;exact h.elim
 | p::ps,q::qs,st,xs,h,hx=>by
   unfold gu at h;simp only[bB] at hx ⊢;obtain⟨h1,h2,h3⟩:=hx;exact⟨by rw[←Ip _ _ h.1];exact h1,zm p q xs h.1 h2,mE ps qs st _ h.2 h3⟩
end
end
theorem OW {N N':Nat→Prop}{w:World}{hp hp':List (Nat×au)}{R R':Real}(hN:∀r,N' r→N r){v:AV}{p:PV}(h:leP v p){x:Value}(hx:ai N w hp R v x):aU N' w p x:=by
 unfold leP at h;split at h
 ·simp only[aU]
 split at h
 ·simp only[ai] at hx;exact lW hN _ _ _ h hx
 exact h.elim
section
variable {ρ:uY}{c:Ctx}{R:Real}{hp hp':List (Nat×au)}{w:World}
theorem Xn (H:RI ρ hp hp'){b x d off:Nat}(hb:lk ρ b=some (.old x d)){v:Value}(h:aH R x off v (lk hp x)):aH (lH ρ R) b off v (lk hp' b):=by
 obtain⟨box,qV⟩:=H.dom b ⟨_,hb⟩;have hl:=H.box b box qV;rw[hb] at hl;simp only at hl;rw[qV];obtain⟨e1,e2,e3⟩:=rT (R:=R) hb;cases ho:lk hp x with
 |none=>rw[ho] at h;exact h.elim
 | some o=>
   rw[ho] at h hl;cases o<;>simp only[aH] at h<;>cases box<;>simp only[uD] at hl<;>simp only[aH,e1]<;>exact h
theorem Yh (H:RI ρ hp hp'){b x d ver:Nat}(hb:lk ρ b=some (.old x d)){v:Value}(h:aD R x (ver+d) v (lk hp x)):aD (lH ρ R) b ver v (lk hp' b):=by
 obtain⟨box,qV⟩:=H.dom b ⟨_,hb⟩;have hl:=H.box b box qV;rw[hb] at hl;simp only at hl;rw[qV];cases ho:lk hp x with
 |none=>rw[ho] at h;exact h.elim
 | some o=>
   rw[ho] at h hl;cases o<;>simp only[aD] at h<;>cases box<;>simp only[uD] at hl
   ·obtain⟨_,e2,e3,e4⟩:=hl;simp only[aD,ql hb,←ig _ _ e4];exact⟨by omega,h.2.1,fun e=>h.2.2 (by omega)⟩
   ·obtain⟨e2,e3,e4⟩:=hl;simp only[aD,ql hb,←ig _ _ e4];exact⟨by omega,h.2.1,fun e=>h.2.2 (by omega)⟩
   ·obtain⟨_,e2,e3,e4,_,e5⟩:=hl;simp only[aD,ql hb,←ig _ _ e4,←ig _ _ e5];exact⟨by omega,h.2.1,fun e=>h.2.2 (by omega)⟩
   obtain⟨⟨_,e2,_⟩,rfl,e4,rfl⟩:=hl;simp only[aD,ql hb,←oG (Ap _ _ e4)];exact⟨by omega,h.2.1,fun e=>h.2.2 (by omega)⟩
theorem aar (H:RI ρ hp hp'){b x d ver i off:Nat}(h99:Nat.beq b 999=false)(hb:lk ρ b=some (.old x d)){v:Value}(h:aJ R x (ver+d) i off v (lk hp x)):aJ (lH ρ R) b ver i off v (lk hp' b):=by
 obtain⟨box,qV⟩:=H.dom b ⟨_,hb⟩;have hl:=H.box b box qV;rw[hb] at hl;simp only at hl;rw[qV];obtain⟨e1,e2,e3⟩:=rT (R:=R) hb;cases ho:lk hp x with
 |none=>rw[ho] at h;exact h.elim
 | some o=>
   rw[ho] at h hl;cases o<;>simp only[aJ] at h<;>cases box<;>simp only[uD] at hl
   ·obtain⟨_,f2,f3,f4⟩:=hl;subst f3;simp only[aJ,e1,e2];exact⟨by omega,h.2.1,fun e=>h.2.2 (by omega)⟩
   ·obtain⟨f2,f3,f4⟩:=hl;subst f3;simp only[aJ,e1,e2];exact⟨by omega,h.2.1,fun e=>h.2.2 (by omega)⟩
   ·exfalso;have:=H.aaq b _ _ _ _ qV;subst this;cases h99
   ·obtain⟨_,f2,f3,f4⟩:=hl;subst f3;simp only[aJ,e1,e2];exact⟨by omega,h.2.1,fun e=>h.2.2 (by omega)⟩
   ·simp only[aJ,e1];exact⟨Nat.zero_le _,h.2.1,h.2.2⟩
   obtain⟨⟨_,f2,f3,f4⟩,_⟩:=hl;subst f3;simp only[aJ,e1,e2];exact⟨by omega,h.2.1,fun e=>h.2.2 (by omega)⟩
theorem Bw (H:RI ρ hp hp'){b r:Nat}(h:ax (lH ρ R) b r (lk hp' b)):∃x d,lk ρ b=some (.old x d)∧ax R x r (lk hp x):=by
 cases qV:lk hp' b with
 |none=>rw[qV] at h;exact h.elim
 | some box=>
   have hl:=H.box b box qV;rw[qV] at h;cases hb:lk ρ b with
   |none=>rw[hb] at hl;exact hl.elim
   | some s=>
     cases s with
     | nil=>
       rw[hb] at hl;cases box<;>simp only[oO] at hl
       ·simp only[ax,oP hb] at h;simp at h
       simp only[ax,oP hb,yh hb] at h;simp at h
     | old x d=>
       rw[hb] at hl;simp only at hl;refine⟨x,d,rfl,?_⟩;obtain⟨e1,e2,e3⟩:=rT (R:=R) hb;cases ho:lk hp x with
       |none=>rw[ho] at hl;cases box<;>simp only[uD] at hl
       | some o=>
         rw[ho] at hl;cases o<;>cases box<;>simp only[uD] at hl<;>simp only[ax,e1,e2,e3] at h ⊢ <;> exact h
theorem Vx (H:RI ρ hp hp'){r:Nat}(h:aG c (lH ρ R) hp' r):aG c R hp r:=by
 rcases h with h|⟨b,h⟩
 ·exact .inl h
 obtain⟨x,d,_,h⟩:=Bw H h;exact .inr ⟨x,h⟩
mutual
theorem wK (H:RI ρ hp hp'):∀(v':AV) (v:AV) (x:Value),le ρ v v'→ai (aG c R hp) w hp R v x→ai (aG c (lH ρ R) hp') w hp' (lH ρ R) v' x
 | .pv p,v,x,h,hx=>by
   simp only[ai];simp only[le] at h;exact OW (fun r h=>Vx H h) (hp':=hp') (R':=R) h hx
 | .ptr b off,v,x,h,hx=>by
   simp only[le] at h;split at h;rotate_left;cases h
   rename_i y d hb;subst h;simp only[ai] at hx ⊢;exact Xn H hb hx
 | .aZ b ver,v,x,h,hx=>by
   simp only[le] at h;split at h
   ·rename_i y d hb;subst h;simp only[ai] at hx ⊢;exact Yh H hb hx
   ·rename_i hb;obtain⟨rfl,rfl⟩:=h;simp only[ai,aU] at hx ⊢;subst hx;obtain⟨box,qV⟩:=H.dom b ⟨_,hb⟩;have hl:=H.box b box qV;rw[hb] at hl;rw[qV];cases box<;>simp only[oO] at hl
    ·subst hl;rename_i e dD st;simp only[aD,bO,oP hb];exact⟨Nat.zero_le _,rfl,fun _=>rfl⟩
    simp only[aD,bO,oP hb];exact⟨Nat.zero_le _,rfl,fun _=>rfl⟩
   exact h.elim
 | .sub b ver st lo hi,v,x,h,hx=>by
   simp only[le] at h;split at h;rotate_left;cases h
   rename_i y d hb;subst h;simp only[ai] at hx ⊢;obtain⟨u,a,cc⟩:=hx;exact⟨u,Yh H hb a,cc⟩
 | .bU b ver i off,v,x,h,hx=>by
   simp only[le] at h;split at h
   ·exact h.elim
   rename_i h99;split at h;rotate_left;cases h
   rename_i y d hb;subst h;simp only[ai] at hx ⊢;exact aar H h99 hb hx
 | .agg cs,v,x,h,hx=>by
   simp only[le] at h;split at h;rotate_left;cases h
   rename_i us nW;have:∃vs:Array Value,x=.agg vs∧bN (aG c R hp) w hp R us vs.toList:=by
    unfold RD at nW;split at nW
    ·simp only[Option.some.injEq] at nW;subst nW;simpa only[ai] using hx
    ·simp only[Option.some.injEq] at nW;subst nW;simp only[ai,aU] at hx;obtain⟨vs,e,h1⟩:=hx;exact⟨vs,e,El _ _ h1⟩
    cases nW
   obtain⟨vs,e,h1⟩:=this;simp only[ai];exact⟨vs,e,mF H cs us _ h h1⟩
 | .fM cs,v,x,h,hx=>by
   simp only[le] at h;split at h;rotate_left;cases h
   rename_i us nW;have:∃vs:Array Value,x=.tuple vs∧bD (aG c R hp) w hp R us vs.toList:=by
    unfold RF at nW;split at nW
    ·simp only[Option.some.injEq] at nW;subst nW;simpa only[ai] using hx
    ·simp only[Option.some.injEq] at nW;subst nW;simp only[ai,aU] at hx;obtain⟨vs,e,h1⟩:=hx;exact⟨vs,e,lV _ _ h1⟩
    cases nW
   obtain⟨vs,e,h1⟩:=this;simp only[ai];exact⟨vs,e,mG H cs us _ h h1⟩
 | .fn f a cc,v,x,h,hx=>by
   simp only[le] at h;split at h;rotate_left;cases h
   rename_i g a' c' nW;obtain⟨rfl,h1,h2⟩:=h;have:∃fs cs:Array Value,x=.func g fs cs∧bD (aG c R hp) w hp R a' fs.toList∧bD (aG c R hp) w hp R c' cs.toList:=by
    unfold KS at nW;split at nW
    ·simp only[Option.some.injEq,Prod.mk.injEq] at nW;obtain⟨rfl,rfl,rfl⟩:=nW;simpa only[ai] using hx
    ·simp only[Option.some.injEq,Prod.mk.injEq] at nW;obtain⟨rfl,rfl,rfl⟩:=nW;simp only[ai,aU] at hx;obtain⟨fs,cs,e,h3,h4⟩:=hx;exact⟨fs,cs,e,lV _ _ h3,lV _ _ h4⟩
    cases nW
   obtain⟨fs,cs,e,h3,h4⟩:=this;simp only[ai];exact⟨fs,cs,e,mG H a a' _ h1 h3,mG H cc c' _ h2 h4⟩
theorem mG (H:RI ρ hp hp'):∀(MH:List AV) (vs:List AV) (xs:List Value),Dz ρ vs MH→bD (aG c R hp) w hp R vs xs→bD (aG c (lH ρ R) hp') w hp' (lH ρ R) MH xs
 |[],[],xs,h,hx=>by simpa only[bD] using hx
 |[],_::_,xs,h,hx=>by simp only[Dz] at h
 |_::_,[],xs,h,hx=>by simp only[Dz] at h
 | v'::MH,v::vs,xs,h,hx=>by
   simp only[Dz] at h;simp only[bD] at hx ⊢;obtain⟨x,r,e,h1,h2⟩:=hx;exact⟨x,r,e,wK H v' v x h.1 h1,mG H MH vs r h.2 h2⟩
theorem mF (H:RI ρ hp hp'):∀(MH:List AV) (vs:List AV) (xs:List Value),Dz ρ vs MH→bN (aG c R hp) w hp R vs xs→bN (aG c (lH ρ R) hp') w hp' (lH ρ R) MH xs
 |[],[],xs,h,hx=>by simpa only[bN] using hx
 |[],_::_,xs,h,hx=>by simp only[Dz] at h
 |_::_,[],xs,h,hx=>by simp only[Dz] at h
 | v'::MH,v::vs,xs,h,hx=>by
   simp only[Dz] at h;simp only[bN] at hx ⊢;obtain⟨x,r,e,h0,h1,h2⟩:=hx;exact⟨x,r,e,h0,wK H v' v x h.1 h1,mF H MH vs r h.2 h2⟩
end
theorem vZ.weaken (h:vZ c R hp w)(H:RI ρ hp hp'):vZ c (lH ρ R) hp' w:=by
 refine⟨fun b box hb=>?_,fun b b' r h1 h2=>?_,fun r ⟨b,hr⟩=>?_,h.iE,fun r ⟨b,hr⟩=>?_,fun v x hv=>?_,?_,h.lo⟩
 ·have hl:=H.box b box hb;cases hs:lk ρ b with
  |none=>rw[hs] at hl;exact hl.elim
  | some s=>
    rw[hs] at hl;cases s with
    | nil=>
      cases box<;>simp only[oO] at hl
      ·subst hl;refine⟨[],⟨?_,.inl ⟨?_,rfl⟩⟩,by simp only[bB]⟩
       ·simp
       simp[bO,oP hs]
      obtain⟨rfl,rfl,rfl⟩:=hl;refine⟨[],[],[],by rw[yh hs];rfl,⟨by simp[fA],.inl ⟨by simp[bO,oP hs],by simp[fA]⟩⟩,by simp only[fB],by simp[fA],by simp only[fA,Nat.zero_mul,List.take_zero,bN],by simp only[fB],?_⟩;unfold Dc;rw[yh hs];exact⟨by simp,fun v r hv=>by simp at hv⟩
    | old x d=>
      simp only at hl;obtain⟨e1,e2,e3⟩:=rT (R:=R) hs;cases ho:lk hp x with
      |none=>rw[ho] at hl;cases box<;>simp only[uD] at hl
      | some o=>
        have hr:=h.boxes x o ho;rw[ho] at hl;cases o<;>cases box<;>simp only[uD] at hl
        ·obtain⟨cur,e,a1,a2⟩:=hr;exact⟨cur,e,by rw[e1];exact a1,mF H _ _ _ hl a2⟩
        ·subst hl;obtain⟨cur,e,fr,a1,a2,a3⟩:=hr;refine⟨cur,e,fr,by rw[e1];exact a1,by rw[e1];exact fun hn=>a2 (Vx H hn),bY (fun r _ h=>Vx H h) (fun _ _ _=>rfl) _ _ a3⟩
        ·obtain⟨rfl,_,rfl,hl⟩:=hl;obtain⟨xs,a1,a2⟩:=hr;refine⟨xs,?_,mE (fun r h=>Vx H h) _ _ _ _ hl a2⟩;rw[ql hs,←ig _ _ hl];exact a1
        ·obtain⟨_,rfl,hl⟩:=hl;simp only[dB,ql hs,←ig _ _ hl] at hr ⊢;exact lW (fun r h=>Vx H h) (.sl false _ _) (.sl false _ _) _ (by unfold RG qj;exact⟨id,rfl,hl⟩) hr
        ·obtain⟨rfl,rfl,rfl⟩:=hl;obtain⟨k0,kh,k1,k2,k3,k4⟩:=hr;refine⟨H.aaq _ _ _ _ _ hb,kh,by rw[e2];exact k1,k2,k3,fun r hn=>k4 r (Vx H hn)⟩
        ·obtain⟨rfl,_,rfl,hl,hl2,hl3⟩:=hl;obtain⟨xs,a1,a2,a3,a4,a5⟩:=hr;refine⟨xs,?_,mE (fun r h=>Vx H h) _ _ _ _ hl a2,by rw[←Ap _ _ hl2];exact a3,?_,?_⟩
         ·rw[ql hs,←ig _ _ hl,←ig _ _ hl3];exact a1
         ·rw[←ig _ _ hl];exact mF H _ _ _ hl2 a4
         rw[←ig _ _ hl];exact mE (fun r h=>Vx H h) _ _ _ _ hl3 a5
        ·obtain⟨rfl,rfl,rfl⟩:=hl;obtain⟨cur,clock,a1,a2,a3⟩:=hr;exact⟨cur,clock,by rw[e1];exact a1,by rw[e2];exact a2,a3⟩
        obtain⟨⟨rfl,_,rfl,rfl,rfl,rfl⟩,rfl,hl2,rfl⟩:=hl;exact gZ (fun r _ h=>Vx H h) (fun _ _ _=>rfl) e1 e2 e3 (fun _ _=>rfl) (Ap _ _ hl2).symm (fun vs hv=>mF H _ _ _ hl2 hv) hr
 ·obtain⟨x,d,a1,a2⟩:=Bw H h1;obtain⟨y,d',b1,b2⟩:=Bw H h2;have:=h.inj x y r a2 b2;subst this;exact H.inj _ _ _ _ _ a1 b1
 ·obtain⟨x,d,_,a2⟩:=Bw H hr;exact h.free r ⟨x,a2⟩
 ·obtain⟨x,d,_,a2⟩:=Bw H hr;exact h.fG r ⟨x,a2⟩
 ·have hk:=h.kept v x hv;have hlow:=c.hK v x hv;cases v with
  | ptr b off=>
    simp only[iD,Nat.blt_eq] at hlow;simp only[ai] at hk ⊢;have he:∃box,lk hp b=some box:=by
     cases hb:lk hp b with
     |none=>rw[hb] at hk;exact hk.elim
     |some box=>exact⟨box,rfl⟩
    exact Xn H (H.low b hlow he) hk
  | aZ b ver=>
    simp only[iD,Nat.blt_eq] at hlow;simp only[ai] at hk ⊢;have he:∃box,lk hp b=some box:=by
     cases hb:lk hp b with
     |none=>rw[hb] at hk;exact hk.elim
     |some box=>exact⟨box,rfl⟩
    exact Yh H (d:=0) (H.low b hlow he) hk
  | bU b ver i off=>
    simp only[iD,Bool.and_eq_true,Nat.blt_eq,Bool.not_eq_true'] at hlow;obtain⟨hlow,h99⟩:=hlow;simp only[ai] at hk ⊢;have he:∃box,lk hp b=some box:=by
     cases hb:lk hp b with
     |none=>rw[hb] at hk;exact hk.elim
     |some box=>exact⟨box,rfl⟩
    exact aar H (d:=0) h99 (H.low b hlow he) hk
  |_=>simp[iD] at hlow
 exact h.fixed.kept (fun _ _ _=>rfl) fun r _ ⟨b,ho⟩=>let ⟨x,_,_,h2⟩:=Bw H ho;⟨x,h2⟩
end
def pairs:List AV→List AV→List (AV×AV)→List (AV×AV)
 |u::us,v::vs,l=>(u,v)::pairs us vs l
 |_,_,l=>l
def mt (hp hp':List (Nat×au)):Nat→uY→List (AV×AV)→Option uY
 |_,ρ,[]=>some ρ
 |0,_,_::_=>none
 | n+1,ρ,(v,v')::l=>match v' with
   |.pv _=>mt hp hp' n ρ l
   | .ptr b _=>match lk ρ b with
     |some _=>mt hp hp' n ρ l
     | none=>match v with
       | .ptr x _=>match lk hp' b with
         | some (.var Aq)=>match lk hp x with
           |some (.var cs)=>mt hp hp' n ((b,.old x 0)::ρ) (pairs cs Aq l)
           |_=>none
         |some (.lM _)=>mt hp hp' n ((b,.old x 0)::ρ) l
         |_=>none
       |_=>none
   | .aZ b ver=>match lk ρ b with
     |some _=>mt hp hp' n ρ l
     | none=>match v with
       | .aZ x dD=>match lk hp' b with
         | some (.dX _ _ _ _ Aq _)=>match lk hp x with
           |some (.dX _ _ _ _ cs _)=>mt hp hp' n ((b,.old x (dD-ver))::ρ) (pairs cs Aq l)
           |_=>none
         | some (.fZ _ _ _ _ _ _ _ Aq _)=>match lk hp x with
           |some (.fZ _ _ _ _ _ _ _ cs _)=>mt hp hp' n ((b,.old x (dD-ver))::ρ) (pairs cs Aq l)
           |_=>none
         |_=>mt hp hp' n ((b,.old x (dD-ver))::ρ) l
       |.pv (.sc (.slice none 0 0))=>mt hp hp' n ((b,.nil)::ρ) l
       |_=>none
   | .sub b ver _ _ _=>match lk ρ b with
     |some _=>mt hp hp' n ρ l
     | none=>match v with
       |.sub x dD _ _ _=>mt hp hp' n ((b,.old x (dD-ver))::ρ) l
       |_=>none
   | .bU b ver _ _=>match lk ρ b with
     |some _=>mt hp hp' n ρ l
     | none=>match v with
       |.bU x dD _ _=>mt hp hp' n ((b,.old x (dD-ver))::ρ) l
       |_=>none
   | .agg cs=>match RD v with
     |some us=>mt hp hp' n ρ (pairs us cs l)
     |none=>none
   | .fM cs=>match RF v with
     |some us=>mt hp hp' n ρ (pairs us cs l)
     |none=>none
   | .fn _ a c=>match KS v with
     |some (_,a',c')=>mt hp hp' n ρ (pairs a' a (pairs c' c l))
     |none=>none
def MV:uY→List (Nat×au)→uY
 |acc,[]=>acc
 | acc,(b,_)::r=>match Nat.blt b 1000 with
   | true=>match lk acc b with
     |some _=>MV acc r
     |none=>MV ((b,.old b 0)::acc) r
   |false=>MV acc r
def KT (hp:List (Nat×au)):uY:=MV [] hp
def ji (hp hp':List (Nat×au)):uY→List (AV×AV)→List (AV×AV)
 |[],l=>l
 | (b,_)::r,l=>match lk hp' b with
   | some (.var Aq)=>match lk hp b with
     |some (.var cs)=>pairs cs Aq (ji hp hp' r l)
     |_=>ji hp hp' r l
   | some (.dX _ _ _ _ Aq _)=>match lk hp b with
     |some (.dX _ _ _ _ cs _)=>pairs cs Aq (ji hp hp' r l)
     |_=>ji hp hp' r l
   | some (.fZ _ _ _ _ _ _ _ Aq _)=>match lk hp b with
     |some (.fZ _ _ _ _ _ _ _ cs _)=>pairs cs Aq (ji hp hp' r l)
     |_=>ji hp hp' r l
   |_=>ji hp hp' r l
def F3 (tm:List (Nat×AV)):List (Nat×AV)→List (AV×AV)
 |[]=>[]
 | (t,v')::r=>match lk tm t with
   |some v=>(v,v')::F3 tm r
   |none=>F3 tm r
def isSome {α:Type}:Option α→Bool
 |some _=>true
 |none=>false
def Xo (ρ:uY)(b:Nat):Bool:=
 match lk ρ b with
 |some (.old x d)=>Nat.beq x b&&Nat.beq d 0
 |_=>false
def Iq (ρ:uY):List (Nat×au)→Bool
 |[]=>true
 | (b,_)::r=>match Nat.blt b 1000 with
   |true=>Xo ρ b&&Iq ρ r
   |false=>Iq ρ r
def uZ (x:Nat):uY→Bool
 |[]=>false
 | (_,.old y _)::r=>match Nat.beq x y with
   |true=>true
   |false=>uZ x r
 |(_,.nil)::r=>uZ x r
def Em (hp':List (Nat×au)):uY→Bool
 |[]=>true
 | (b,s)::r=>isSome (lk hp' b)&&(match lk r b with
   |some _=>false
   |none=>true)&&(match s with
   |.old x _=>!uZ x r
   |.nil=>true)&&Em hp' r
def u6:List (Nat×au)→Bool
 |[]=>true
 | (b,_)::r=>(match lk r b with
   |some _=>false
   |none=>true)&&u6 r
def DC (ρ:uY)(hp:List (Nat×au)):List (Nat×au)→Prop→Prop
 |[],X=>X
 | (b,box)::r,X=>match lk ρ b with
   |some (.old x d)=>uD ρ d (lk hp x) box∧DC ρ hp r X
   |some .nil=>oO box∧DC ρ hp r X
   |none=>False
def Vy (ρ:uY)(tm:List (Nat×AV)):List (Nat×AV)→Prop→Prop
 |[],X=>X
 | (t,v')::r,X=>match lk tm t with
   |some v=>le ρ v v'∧Vy ρ tm r X
   |none=>False
theorem rU {ρ:uY}{hp:List (Nat×au)}:∀{l:List (Nat×au)} {X:Prop},DC ρ hp l X→X
 |[],X,h=>h
 | (b,box)::r,X,h=>by
   simp only[DC] at h;split at h
   ·exact rU h.2
   ·exact rU h.2
   exact h.elim
theorem Bz {ρ:uY}{hp:List (Nat×au)}:∀{l:List (Nat×au)} {X:Prop},DC ρ hp l X→∀b box,lk l b=some box→match lk ρ b with
  |some (.old x d)=>uD ρ d (lk hp x) box
  |some .nil=>oO box
  |none=>False
 |[],X,h,b,box,hb=>by simp[lk] at hb
 | (b',aV)::r,X,h,b,box,hb=>by
   simp only[DC] at h;rw[ak] at hb;split at hb
   ·rename_i e;subst e;simp only[Option.some.injEq] at hb;subst hb;split at h
    ·exact h.1
    ·exact h.1
    exact h.elim
   split at h
   ·exact Bz h.2 b box hb
   ·exact Bz h.2 b box hb
   exact h.elim
theorem En {ρ:uY}{tm:List (Nat×AV)}:∀{l:List (Nat×AV)} {X:Prop},Vy ρ tm l X→∀t v',lk l t=some v'→∃v,lk tm t=some v∧le ρ v v'
 |[],X,h,t,v',hb=>by simp[lk] at hb
 | (t',u')::r,X,h,t,v',hb=>by
   simp only[Vy] at h;rw[ak] at hb;split at h;rotate_left;cases h
   rename_i u hu;split at hb
   ·rename_i e;subst e;simp only[Option.some.injEq] at hb;subst hb;exact⟨u,hu,h.1⟩
   exact En h.2 t v' hb
theorem Eo {hp':List (Nat×au)}:∀{ρ:uY},Em hp' ρ=true→∀b,(∃s,lk ρ b=some s)→∃box,lk hp' b=some box
 |[],_,b,⟨s,hs⟩=>by simp[lk] at hs
 | (b',s')::r,h,b,⟨s,hs⟩=>by
   simp only[Em,Bool.and_eq_true] at h;rw[ak] at hs;split at hs
   ·rename_i e;subst e;have:=h.1.1.1;cases hb:lk hp' b' with
    |none=>rw[hb] at this;cases this
    |some box=>exact⟨box,rfl⟩
   exact Eo h.2 b ⟨s,hs⟩
theorem Ep {ρ:uY}{b x d:Nat}:lk ρ b=some (.old x d)→uZ x ρ=true:=by
 induction ρ with
 |nil=>intro h;simp[lk] at h
 | cons y r ih=>
   obtain⟨b',s⟩:=y;intro h;rw[ak] at h;split at h
   ·simp only[Option.some.injEq] at h;subst h;simp[uZ]
   have:=ih h;cases s with
   |nil=>simpa only[uZ] using this
   | old y d'=>
     simp only[uZ];split
     ·rfl
     exact this
theorem Er {hp':List (Nat×au)}:∀{ρ:uY},Em hp' ρ=true→∀b b' x d d',lk ρ b=some (.old x d)→lk ρ b'=some (.old x d')→b=b'
 |[],_,b,b',x,d,d',h1,h2=>by simp[lk] at h1
 | (y,s)::r,h,b,b',x,d,d',h1,h2=>by
   simp only[Em,Bool.and_eq_true] at h;rw[ak] at h1 h2;split at h1
   ·rename_i e1;simp only[Option.some.injEq] at h1;subst h1;split at h2
    ·rename_i e2;rw[←e1,←e2]
    have:=Ep h2;have h3:=h.1.2;simp only[this] at h3;cases h3
   split at h2
   ·simp only[Option.some.injEq] at h2;subst h2;have:=Ep h1;have h3:=h.1.2;simp only[this] at h3;cases h3
   exact Er h.2 b b' x d d' h1 h2
theorem yj {ρ:uY}:∀{hp:List (Nat×au)},Iq ρ hp=true→∀b,b<1000→(∃box,lk hp b=some box)→lk ρ b=some (.old b 0)
 |[],_,b,_,⟨box,hb⟩=>by simp[lk] at hb
 | (b',aV)::r,h,b,hlt,⟨box,hb⟩=>by
   simp only[Iq] at h;rw[ak] at hb;split at hb
   ·rename_i e;subst e;split at h
    ·simp only[Bool.and_eq_true] at h;have h1:=h.1;unfold Xo at h1;split at h1
     ·rename_i x d hx;simp only[Bool.and_eq_true] at h1;rw[hx,Nat.eq_of_beq_eq_true h1.1,Nat.eq_of_beq_eq_true h1.2]
     cases h1
    rename_i hf;have:Nat.blt b' 1000=true:=by rw[Nat.blt_eq];exact hlt
    rw[this] at hf;cases hf
   split at h
   ·simp only[Bool.and_eq_true] at h;exact yj h.2 b hlt ⟨box,hb⟩
   exact yj h b hlt ⟨box,hb⟩
def OX:List (Nat×au)→Bool
 |[]=>true
 | (b,box)::r=>match box with
   |.tr _ _ _ _=>Nat.beq b 999&&OX r
   |_=>OX r
theorem Es:∀{h:List (Nat×au)},OX h=true→∀b a0 a1 a2 a3,lk h b=some (.tr a0 a1 a2 a3)→b=999
 |[],_,b,a0,a1,a2,a3,hk=>by simp[lk] at hk
 | (k',box)::r,h,b,a0,a1,a2,a3,hk=>by
   rw[ak] at hk;split at hk
   ·rename_i e;simp only[Option.some.injEq] at hk;subst hk;simp only[OX,Bool.and_eq_true] at h;rw[←e,Nat.eq_of_beq_eq_true h.1]
   refine Es (h:=r) ?_ b a0 a1 a2 a3 hk;cases box<;>simp only[OX,Bool.and_eq_true] at h<;>first|exact h|exact h.2
def BA (ρ:uY)(hp hp':List (Nat×au)):Bool:=Em hp' ρ&&(Iq ρ hp&&OX hp')
theorem F4 {ρ:uY}{hp hp':List (Nat×au)}{X:Prop}(h:BA ρ hp hp'=true)(h':DC ρ hp hp' X):RI ρ hp hp':=by
 simp only[BA,Bool.and_eq_true] at h;exact⟨Bz h',Eo h.1,Er h.1,yj h.2.1,Es h.2.2⟩
def RN (s s':AS):Prop:=
 match s with
 | ⟨tm,_,hp⟩=>match s' with
   | ⟨tm',_,hp'⟩=>match KT hp with
     | ρ0=>match mt hp hp' 1000 ρ0 (ji hp hp' ρ0 (F3 tm tm')) with
       | some ρ=>match BA ρ hp hp' with
         |true=>DC ρ hp hp' (Vy ρ tm tm' True)
         |false=>False
       |none=>False
theorem ay {s s':AS}(h:RN s s')(c:Ctx)(R:Real)(a:Act)(w:World)(g:aS c R s a w):∃R',aS c R' s' a w:=by
 obtain⟨tm,nx,hp⟩:=s;obtain⟨tm',nx',hp'⟩:=s';simp only[RN] at h;split at h;rotate_left;cases h
 rename_i ρ _;split at h;rotate_left;cases h
 rename_i hf;have H:=F4 hf h;refine⟨lH ρ R,(g.hap.weaken H).U1 (fun t v' hv'=>?_) g.size (g.marks.imp fun Ds hm=>hm.kept (fun _ _ _=>rfl) fun r _ ⟨b,ho⟩=>let ⟨x,_,_,h2⟩:=Bw H ho;⟨x,h2⟩)⟩;obtain⟨v,hv,hle⟩:=En (rU h) t v' hv';obtain⟨x,hx,hr⟩:=g.slots t v hv;exact⟨x,hx,wK H v' v x hle hr⟩
def Vq (hp:List (Nat×au))(r:AV)(Q:AV→List (Nat×au)→Prop):Prop:=
 ∃r' hp',Q r' hp'∧match KT hp with
  | ρ0=>match mt hp hp' 1000 ρ0 (ji hp hp' ρ0 [(r,r')]) with
    | some ρ=>match BA ρ hp hp' with
      |true=>DC ρ hp hp' (le ρ r r')
      |false=>False
    |none=>False
theorem uV {hp:List (Nat×au)}{r:AV}{Q:AV→List (Nat×au)→Prop}(h:Vq hp r Q){c:Ctx}{R:Real}{w:World}(g:vZ c R hp w){v:Value}(hv:ai (aG c R hp) w hp R r v) :
  ∃r' hp' R',Q r' hp'∧vZ c R' hp' w∧ai (aG c R' hp') w hp' R' r' v:=by
 obtain⟨r',hp',hQ,h⟩:=h;simp only at h;split at h;rotate_left;cases h
 rename_i ρ _;split at h
 ·rename_i hf;have H:=F4 hf h;exact⟨r',hp',lH ρ R,hQ,g.weaken H,wK H r' r v (rU h) hv⟩
 exact h.elim
def GC (P:Program)(f:FuncId)(args:List AV)(hp:List (Nat×au))(Q:AV→List (Nat×au)→Prop):Prop:=
 Enters P f∧∀(c:Ctx) (R:Real) (w:World) (bQ:Array Value),vZ c R hp w→bD (aG c R hp) w hp R args bQ.toList →
  Calls P f bQ w fun e w'=>∃v r hp' R',e=.returned v∧Q r hp'∧vZ c R' hp' w'∧ai (aG c R' hp') w' hp' R' r v
def lg (P:Program)(f:FuncId)(args:List AV)(hp:List (Nat×au))(r:AV)(hp':List (Nat×au)):Prop:=GC P f args hp fun x h=>x=r∧h=hp'
def Be (x:Nat):List Nat→Bool
 |[]=>false
 | y::r=>match Nat.beq x y with
   |true=>true
   |false=>Be x r
def keys {α:Type}:List (Nat×α)→List Nat
 |[]=>[]
 |(k,_)::r=>k::keys r
def iX (hp:List (Nat×au)):List Nat→Option (List (Nat×au))
 |[]=>some []
 | b::r=>match lk hp b with
   | some box=>match iX hp r with
     |some t=>some ((b,box)::t)
     |none=>none
   |none=>none
def snoc:List Nat→Nat→List Nat
 |[],x=>[x]
 |y::r,x=>y::snoc r x
def wB (hp:List (Nat×au)):Nat→List Nat→List Nat→List Nat
 |0,_,seen=>seen
 |_+1,[],seen=>seen
 | n+1,b::todo,seen=>match Be b seen with
   |true=>wB hp n todo seen
   | false=>match lk hp b with
     |some (.var cells)=>wB hp n (dG cells++todo) (snoc seen b)
     |some (.dX _ _ _ _ row _)=>wB hp n (dG row++todo) (snoc seen b)
     |some (.fZ _ _ _ _ _ _ _ row _)=>wB hp n (dG row++todo) (snoc seen b)
     |_=>wB hp n todo (snoc seen b)
abbrev Inv:=List (Nat×(Nat×Nat))
def lI:au→Nat
 |.arr _ v _ _=>v
 |.gD v _ _=>v
 |.tr _ v _ _=>v
 |.dX _ v _ _ _ _=>v
 |.fZ _ v _ _ _ _ _ _ _=>v
 |_=>0
def jG:Nat→List (Nat×au)→Inv
 |_,[]=>[]
 |k,(b,box)::r=>(b,(k,lI box))::jG (k+1) r
def iL:Nat→List (Nat×au)→Ren
 |_,[]=>[]
 |k,(b,box)::r=>(k,(b,lI box))::iL (k+1) r
section
variable (inv:Inv)
mutual
def DF:AV→AV
 |.pv p=>.pv p
 |.agg cs=>.agg (jW cs)
 |.fM cs=>.fM (jW cs)
 | .ptr b off=>match lk inv b with
   |some (k,_)=>.ptr k off
   |none=>.pv .junk
 | .bU b ver i off=>match lk inv b with
   | some (k,d)=>match Nat.ble d ver with
     |true=>.bU k (ver-d) i off
     |false=>.pv .junk
   |none=>.pv .junk
 | .aZ b ver=>match lk inv b with
   | some (k,d)=>match Nat.ble d ver with
     |true=>.aZ k (ver-d)
     |false=>.pv .junk
   |none=>.pv .junk
 | .sub b ver st lo hi=>match lk inv b with
   | some (k,d)=>match Nat.ble d ver with
     |true=>.sub k (ver-d) st lo hi
     |false=>.pv .junk
   |none=>.pv .junk
 |.fn f first aT=>.fn f (jW first) (jW aT)
def jW:List AV→List AV
 |[]=>[]
 |v::r=>DF v::jW r
end
def jv:au→au
 |.var cells=>.var (jW inv cells)
 |.lM cells=>.lM cells
 |.arr e ver st rows=>.arr e 0 st rows
 |.gD ver st rows=>.gD 0 st rows
 |.tr y _ rest st=>.tr y 0 rest st
 |.dX e ver st pre row post=>.dX e 0 st pre (jW inv row) post
 |.fZ e ver st j ed sd pre row post=>.fZ e 0 st j ed sd pre (jW inv row) post
 |.mp kk kv es=>.mp kk kv es
def qW:Nat→List (Nat×au)→List (Nat×au)
 |_,[]=>[]
 |k,(_,box)::r=>(k,jv inv box)::qW (k+1) r
end
def BB (eu:Ren)(id k:Nat):Nat×Nat:=
 match lk eu k with
 |some p=>p
 |none=>(id+1000000*k,0)
def yu (eu:Ren)(id:Nat):List (Nat×au)→Ren
 |[]=>[]
 |(k,_)::r=>(k,BB eu id k)::yu eu id r
def fP (ρ:Ren):List (Nat×au)→List (Nat×au)
 |[]=>[]
 |(k,box)::r=>(ic ρ k,dS ρ k box)::fP ρ r
def rV (eu:Ren)(id:Nat):List (Nat×au)→List Nat
 |[]=>[]
 | (k,_)::r=>match lk eu k with
   |some _=>rV eu id r
   |none=>(id+1000000*k)::rV eu id r
def qf (hp:List (Nat×au)):List Nat→Bool
 |[]=>true
 | b::r=>(match lk hp b with
   |some _=>false
   |none=>true)&&qf hp r
def passed (hp':List (Nat×au)):Ren→Bool
 |[]=>true
 |(k,_)::r=>(isSome (lk hp' k)&&Nat.blt k 999)&&passed hp' r
def Ir (inv:Inv):Ren→Bool
 |[]=>true
 | (k,(b,d))::r=>(match lk inv b with
   |some (k',d')=>Nat.beq k' k&&Nat.beq d' d
   |none=>false)&&Ir inv r
def Iu:List (Nat×au)→Bool
 |[]=>true
 | (_,box)::r=>match box with
   |.tr _ _ _ _=>false
   |_=>Iu r
def Ya (inv:Inv)(eu:Ren)(id:Nat)(hp hp' lq:List (Nat×au)):Bool:=passed hp' eu&&(qf hp (rV eu id hp')&&(u6 hp'&&(Ir inv eu&&Iu lq)))
def OY (eu:Ren)(id:Nat):List (Nat×au)→(Ren→Prop)→Prop
 |[],K=>K []
 | (k,_)::r,K=>match lk eu k with
   |some p=>OY eu id r fun t=>K ((k,p)::t)
   |none=>OY eu id r fun t=>K ((k,(id+1000000*k,0))::t)
section
variable (ρ:Ren)
mutual
def Ab:AV→(AV→Prop)→Prop
 |.pv p,K=>K (.pv p)
 |.agg cs,K=>rW cs fun cs=>K (.agg cs)
 |.fM cs,K=>rW cs fun cs=>K (.fM cs)
 | .ptr b off,K=>match lk ρ b with
   | some p=>match p with
     |(x,_)=>K (.ptr x off)
   |none=>K (.ptr (b+2000000000) off)
 | .bU b ver i off,K=>match lk ρ b with
   | some p=>match p with
     |(x,d)=>K (.bU x (ver+d) i off)
   |none=>K (.bU (b+2000000000) (ver+0) i off)
 | .aZ b ver,K=>match lk ρ b with
   | some p=>match p with
     |(x,d)=>K (.aZ x (ver+d))
   |none=>K (.aZ (b+2000000000) (ver+0))
 | .sub b ver st lo hi,K=>match lk ρ b with
   | some p=>match p with
     |(x,d)=>K (.sub x (ver+d) st lo hi)
   |none=>K (.sub (b+2000000000) (ver+0) st lo hi)
 |.fn f first aT,K=>rW first fun first=>rW aT fun aT=>K (.fn f first aT)
def rW:List AV→(List AV→Prop)→Prop
 |[],K=>K []
 |v::r,K=>Ab v fun v=>rW r fun r=>K (v::r)
end
def ko:List (Nat×au)→(List (Nat×au)→Prop)→Prop
 |[],K=>K []
 | (k,box)::r,K=>match lk ρ k with
   | some p=>match p with
     | (x,d)=>match box with
       |.var cells=>rW ρ cells fun cells=>ko r fun t=>K ((x,.var cells)::t)
       |.lM cells=>ko r fun t=>K ((x,.lM cells)::t)
       |.arr e ver st rows=>ko r fun t=>K ((x,.arr e (ver+d) st rows)::t)
       |.gD ver st rows=>ko r fun t=>K ((x,.gD (ver+d) st rows)::t)
       |.tr _ _ _ _=>False
       |.dX e ver st pre row post=>rW ρ row fun row=>ko r fun t=>K ((x,.dX e (ver+d) st pre row post)::t)
       |.mp kk kv es=>ko r fun t=>K ((x,.mp kk kv es)::t)
       |.fZ e ver st j ed sd pre row post=>rW ρ row fun row=>ko r fun t=>K ((x,.fZ e (ver+d) st j ed sd pre row post)::t)
   |none=>False
mutual
theorem wE:∀(v:AV) (K:AV→Prop),Ab ρ v K=K (jV ρ v)
 | .sub b ver st lo hi,K=>by
   simp only[Ab,jV,ic,Aa];cases lk ρ b with
   |none=>rfl
   |some p=>rfl
 |.pv p,K=>by simp only[Ab,jV]
 |.agg cs,K=>by simp only[Ab,jV,fJ cs]
 |.fM cs,K=>by simp only[Ab,jV,fJ cs]
 | .ptr b off,K=>by
   simp only[Ab,jV,ic];cases lk ρ b with
   |none=>rfl
   |some p=>rfl
 | .bU b ver i off,K=>by
   simp only[Ab,jV,ic,Aa];cases lk ρ b with
   |none=>rfl
   |some p=>rfl
 | .aZ b ver,K=>by
   simp only[Ab,jV,ic,Aa];cases lk ρ b with
   |none=>rfl
   |some p=>rfl
 |.fn f first aT,K=>by simp only[Ab,jV,fJ first,fJ aT]
theorem fJ:∀(vs:List AV) (K:List AV→Prop),rW ρ vs K=K (gL ρ vs)
 |[],K=>by simp only[rW,gL]
 |v::r,K=>by simp only[rW,gL,wE v,fJ r]
end
theorem jh:∀(h:List (Nat×au)) (K:List (Nat×au)→Prop),ko ρ h K→K (fP ρ h)
 |[],K,hh=>by simpa only[ko,fP] using hh
 | (k,box)::r,K,hh=>by
   simp only[ko] at hh;split at hh
   ·rename_i p hp;obtain⟨x,d⟩:=p;have e1:ic ρ k=x:=by simp[ic,hp]
    have e2:Aa ρ k=d:=by simp[Aa,hp]
    simp only at hh;cases box with
    | var cells=>
      simp only[fJ] at hh;have:=jh r _ hh;simpa only[fP,dS,e1] using this
    |lM cells=>have:=jh r _ hh;simpa only[fP,dS,e1] using this
    |arr e ver st rows=>have:=jh r _ hh;simpa only[fP,dS,e1,e2] using this
    |gD ver st rows=>have:=jh r _ hh;simpa only[fP,dS,e1,e2] using this
    |tr y ver rest st=>exact hh.elim
    |mp kk kv es=>have:=jh r _ hh;simpa only[fP,dS,e1] using this
    | fZ e ver st j ed sd pre row post=>
      simp only[fJ] at hh;have:=jh r _ hh;simpa only[fP,dS,e1,e2] using this
    | dX e ver st pre row post=>
      simp only[fJ] at hh;have:=jh r _ hh;simpa only[fP,dS,e1,e2] using this
   exact hh.elim
end
theorem gK {ρ:Ren}:∀(h:List (Nat×au)) (K K':List (Nat×au)→Prop),ko ρ h K→K' (fP ρ h)→ko ρ h K'
 |[],K,K',hh,hk=>by simpa only[ko,fP] using hk
 | (k,box)::r,K,K',hh,hk=>by
   simp only[ko] at hh ⊢;split at hh
   ·rename_i p hp;obtain⟨x,d⟩:=p;have e1:ic ρ k=x:=by simp[ic,hp]
    have e2:Aa ρ k=d:=by simp[Aa,hp]
    simp only at hh ⊢;simp only[fP,e1] at hk;cases box with
    | var cells=>
      simp only[fJ] at hh ⊢;exact gK r _ _ hh hk
    |lM cells=>exact gK r _ _ hh hk
    |arr e ver st rows=>simp only[dS,e2] at hk;exact gK r _ _ hh hk
    |gD ver st rows=>simp only[dS,e2] at hk;exact gK r _ _ hh hk
    |tr y ver rest st=>exact hh.elim
    |mp kk kv es=>exact gK r _ _ hh hk
    | fZ e ver st j ed sd pre row post=>
      simp only[fJ] at hh ⊢;simp only[dS,e2] at hk;exact gK r _ _ hh hk
    | dX e ver st pre row post=>
      simp only[fJ] at hh ⊢;simp only[dS,e2] at hk;exact gK r _ _ hh hk
   exact hh.elim
theorem wC (eu:Ren)(id:Nat):∀(h:List (Nat×au)) (K:Ren→Prop),OY eu id h K=K (yu eu id h)
 |[],K=>rfl
 | (k,box)::r,K=>by
   simp only[OY,yu,BB,wC eu id r];cases lk eu k<;>rfl
theorem kG:∀{h:List (Nat×au)},Iu h=true→∀k x y z u,lk h k≠some (.tr x y z u)
 |[],_,k,x,y,z,u,hk=>by simp[lk] at hk
 | (k',box)::r,h,k,x,y,z,u,hk=>by
   rw[ak] at hk;split at hk
   ·simp only[Option.some.injEq] at hk;subst hk;simp[Iu] at h
   refine kG (h:=r) ?_ k x y z u hk;cases box<;>simp only[Iu] at h<;>first|exact h|cases h
theorem gP {ρ:Ren}:∀(h:List (Nat×au)) (K:List (Nat×au)→Prop),ko ρ h K→Iu h=true
 |[],K,hh=>rfl
 | (k,box)::r,K,hh=>by
   simp only[ko] at hh;split at hh
   ·simp only[Iu];cases box with
    |var cells=>simp only[fJ] at hh;exact gP r _ hh
    |lM cells=>exact gP r _ hh
    |arr e ver st rows=>exact gP r _ hh
    |gD ver st rows=>exact gP r _ hh
    |tr y ver rest st=>exact hh.elim
    |dX e ver st pre row post=>simp only[fJ] at hh;exact gP r _ hh
    |mp kk kv es=>exact gP r _ hh
    |fZ e ver st j ed sd pre row post=>simp only[fJ] at hh;exact gP r _ hh
   exact hh.elim
def gC (P:Program)(hp:List (Nat×au))(id:Nat)(vs:List AV)(K:AV→List (Nat×au)→List Nat→Prop):Prop:=
 match vs with
 | fv::args=>match KS fv with
   | some (.func f,first,aT)=>match wB hp 100 (dG (first++(args++aT))) [] with
     | ids=>match iX hp ids with
       | some H=>match jG 1 H with
         | inv=>match iL 1 H with
           | eu=>∃r hp',lg P f (jW inv (first++(args++aT))) (qW inv 1 H) r hp'∧match Ya inv eu id hp hp' (qW inv 1 H) with
             |true=>OY eu id hp' fun ρ=>Ab ρ r fun r=>ko ρ hp' fun ws=>K r ws (ids++rV eu id hp')
             |false=>False
       |none=>False
   |_=>False
 |_=>False
def gI (P:Program)(hp:List (Nat×au))(id:Nat)(vs:List AV)(K:AV→List (Nat×au)→List Nat→Prop):Prop:=
 match vs with
 | fv::args=>match KS fv with
   | some (.func f,first,aT)=>match wB hp 100 (dG (first++(args++aT))) [] with
     | ids=>match iX hp ids with
       | some H=>match jG 1 H with
         | inv=>match iL 1 H with
           | eu=>match Ir inv eu&&Iu (qW inv 1 H) with
             | true=>∃Q:AV→List (Nat×au)→Prop,GC P f (jW inv (first++(args++aT))) (qW inv 1 H) Q∧∀r hp',Q r hp'→match Ya inv eu id hp hp' (qW inv 1 H) with
               |true=>OY eu id hp' fun ρ=>Ab ρ r fun r=>ko ρ hp' fun ws=>K r ws (ids++rV eu id hp')
               |false=>False
             |false=>False
       |none=>False
   |_=>False
 |_=>False
theorem oQ {hp:List (Nat×au)}:∀{ids:List Nat} {H:List (Nat×au)},iX hp ids=some H→∀x∈H,lk hp x.1=some x.2
 |[],H,h,x,hx=>by simp only[iX,Option.some.injEq] at h;subst h;simp at hx
 | i::r,H,h,x,hx=>by
   simp only[iX] at h;split at h
   ·rename_i bx hbx;split at h
    ·rename_i t ht;simp only[Option.some.injEq] at h;subst h;rcases List.mem_cons.1 hx with rfl|hx
     ·exact hbx
     exact oQ ht x hx
    cases h
   cases h
theorem yw:∀{H:List (Nat×au)} {k0 b k d:Nat},lk (jG k0 H) b=some (k,d)→k0≤k∧lk (iL k0 H) k=some (b,d)
 |[],k0,b,k,d,h=>by simp[jG,lk] at h
 | (b',box)::r,k0,b,k,d,h=>by
   simp only[jG,ak] at h;simp only[iL,ak];split at h
   ·rename_i e;simp only[Option.some.injEq,Prod.mk.injEq] at h;obtain⟨rfl,rfl⟩:=h;subst e;exact⟨Nat.le_refl _,by rw[if_pos rfl]⟩
   obtain⟨h1,h2⟩:=yw h;exact⟨by omega,by rw[if_neg (by omega)];exact h2⟩
theorem Iw:∀{H:List (Nat×au)} {k0 k:Nat} {p:Nat×Nat},lk (iL k0 H) k=some p→k0≤k
 |[],k0,k,p,h=>by simp[iL,lk] at h
 | (b',box)::r,k0,k,p,h=>by
   simp only[iL,ak] at h;split at h
   ·omega
   have:=Iw h;omega
theorem MW {inv:Inv}:∀{H:List (Nat×au)} {k0 k:Nat} {p:au},lk (qW inv k0 H) k=some p→k0≤k
 |[],k0,k,p,h=>by simp[qW,lk] at h
 | (b',box)::r,k0,k,p,h=>by
   simp only[qW,ak] at h;split at h
   ·omega
   have:=MW h;omega
theorem yx {inv:Inv}{hp:List (Nat×au)}:∀{H:List (Nat×au)} {k0 b k d:Nat},(∀x∈H,lk hp x.1=some x.2)→lk (iL k0 H) k=some (b,d) →
  ∃box,lk hp b=some box∧d=lI box∧lk (qW inv k0 H) k=some (jv inv box)
 |[],k0,b,k,d,_,h=>by simp[iL,lk] at h
 | (b',box)::r,k0,b,k,d,hm,h=>by
   simp only[iL,ak] at h;simp only[qW,ak];split at h
   ·rename_i e;simp only[Option.some.injEq,Prod.mk.injEq] at h;obtain⟨rfl,rfl⟩:=h;exact⟨box,hm (b',box) (by simp),rfl,by rw[if_pos e]⟩
   have hge:=Iw h;obtain⟨bx,h1,h2,h3⟩:=yx (inv:=inv) (fun x hx=>hm x (by simp[hx])) h;exact⟨bx,h1,h2,by rw[if_neg (by omega)];exact h3⟩
theorem BD {inv:Inv}{hp:List (Nat×au)}:∀{H:List (Nat×au)} {k0 k:Nat} {box0:au},(∀x∈H,lk hp x.1=some x.2)→lk (qW inv k0 H) k=some box0 →
  ∃b box,lk (iL k0 H) k=some (b,lI box)∧lk hp b=some box∧box0=jv inv box
 |[],k0,k,box0,_,h=>by simp[qW,lk] at h
 | (b',box)::r,k0,k,box0,hm,h=>by
   simp only[qW,ak] at h;simp only[iL,ak];split at h
   ·rename_i e;simp only[Option.some.injEq] at h;exact⟨b',box,by rw[if_pos e],hm (b',box) (by simp),h.symm⟩
   have hge:=MW h;obtain⟨b,bx,h1,h2,h3⟩:=BD (fun x hx=>hm x (by simp[hx])) h;exact⟨b,bx,by rw[if_neg (by omega)];exact h1,h2,h3⟩
theorem u7 {inv:Inv}:∀{eu:Ren} {k b d:Nat},Ir inv eu=true→lk eu k=some (b,d)→lk inv b=some (k,d)
 |[],k,b,d,_,h=>by simp[lk] at h
 | (k',(b',d'))::r,k,b,d,hok,h=>by
   simp only[Ir,Bool.and_eq_true] at hok;rw[ak] at h;split at h
   ·rename_i e;simp only[Option.some.injEq,Prod.mk.injEq] at h;obtain⟨rfl,rfl⟩:=h;have h1:=hok.1;split at h1
    ·rename_i k2 d2 h2;simp only[Bool.and_eq_true] at h1;rw[h2,Nat.eq_of_beq_eq_true h1.1,Nat.eq_of_beq_eq_true h1.2,e]
    cases h1
   exact u7 hok.2 h
theorem rX {hp':List (Nat×au)}:∀{eu:Ren} {k:Nat} {p:Nat×Nat},passed hp' eu=true→lk eu k=some p→k<999∧∃box,lk hp' k=some box
 |[],k,p,_,h=>by simp[lk] at h
 | (k',p')::r,k,p,hok,h=>by
   simp only[passed,Bool.and_eq_true] at hok;rw[ak] at h;split at h
   ·rename_i e;subst e;have h1:=hok.1;rw[Nat.blt_eq] at h1;refine⟨h1.2,?_⟩;cases hb:lk hp' k' with
    |none=>rw[hb] at h1;cases h1.1
    |some box=>exact⟨box,rfl⟩
   exact rX hok.2 h
theorem qm {hp:List (Nat×au)}:∀{l:List Nat},qf hp l=true→∀b∈l,lk hp b=none
 |[],_,b,hb=>by simp at hb
 | x::r,h,b,hb=>by
   simp only[qf,Bool.and_eq_true] at h;rcases List.mem_cons.1 hb with rfl|hb
   ·have h1:=h.1;cases hx:lk hp b with
    |none=>rfl
    |some y=>rw[hx] at h1;cases h1
   exact qm h.2 b hb
theorem BF {eu:Ren}{id:Nat}:∀{hp':List (Nat×au)} {k:Nat} {box:au},lk hp' k=some box→lk eu k=none→id+1000000*k∈rV eu id hp'
 |[],k,box,h,_=>by simp[lk] at h
 | (k',b')::r,k,box,h,hf=>by
   rw[ak] at h;simp only[rV];split at h
   ·rename_i e;subst e;rw[hf];simp
   have:=BF (id:=id) h hf;split
   ·exact this
   exact List.mem_cons_of_mem _ this
theorem Et {eu:Ren}{id:Nat}:∀{hp':List (Nat×au)} {k:Nat},lk (yu eu id hp') k=(lk hp' k).map fun _=>BB eu id k
 |[],k=>rfl
 | (k',b')::r,k=>by
   simp only[yu,ak];split
   ·rename_i e;subst e;rfl
   exact Et
theorem tQ (inv:Inv):∀(vs:List AV),(jW inv vs).length=vs.length
 |[]=>rfl
 |v::r=>by simp[jW,tQ inv r]
theorem ade (inv:Inv)(vs:List AV):fA (jW inv vs)=fA vs:=oG (tQ inv vs)
def J4 (eu:Ren)(R:Real):Real where
 blk k:=match lk eu k with
  |some (b,_)=>R.blk b
  |none=>0
 nil k:=match lk eu k with
  |some (b,_)=>R.nil b
  |none=>true
 cap k:=match lk eu k with
  |some (b,_)=>R.cap b
  |none=>(0,[])
 Y:=R.Y
theorem BG {eu:Ren}{R:Real}{k b d:Nat}(h:lk eu k=some (b,d)):(J4 eu R).blk k=R.blk b∧(J4 eu R).nil k=R.nil b∧(J4 eu R).cap k=R.cap b:=by
 simp[J4,h]
theorem F5 {eu:Ren}{R:Real}{k b d n:Nat}(h:lk eu k=some (b,d)):bO (J4 eu R) k n=bO R b n:=by
 obtain⟨h1,h2,h3⟩:=BG (R:=R) h;simp only[bO,h1,h2,h3]
section
variable {inv:Inv}{eu:Ren}{hp lq:List (Nat×au)}{R:Real}{N N0:Nat→Prop}{w:World}
variable (h1:∀b k d,lk inv b=some (k,d)→lk eu k=some (b,d))(h2:∀k b d,lk eu k=some (b,d)→∃box,lk hp b=some box∧d=lI box∧lk lq k=some (jv inv box))(hN:∀r,N0 r→N r)
include h1 h2
theorem BH {b k d off:Nat}(hb:lk inv b=some (k,d)){v:Value}(h:aH R b off v (lk hp b)):aH (J4 eu R) k off v (lk lq k):=by
 obtain⟨box,a1,a2,a3⟩:=h2 k b d (h1 b k d hb);obtain⟨e1,e2,e3⟩:=BG (R:=R) (h1 b k d hb);rw[a1] at h;rw[a3];cases box<;>simp only[aH,jv,e1] at h ⊢ <;> exact h
theorem yA {b k d ver:Nat}(hb:lk inv b=some (k,d))(hd:d≤ver){v:Value}(h:aD R b ver v (lk hp b)):aD (J4 eu R) k (ver-d) v (lk lq k):=by
 obtain⟨box,a1,a2,a3⟩:=h2 k b d (h1 b k d hb);rw[a1] at h;rw[a3];cases box<;>simp only[aD,jv,ade,F5 (h1 b k d hb)] at h ⊢ <;> first
  |exact h
  |(simp only[lI] at a2;exact⟨by omega,h.2.1,fun e=>h.2.2 (by omega)⟩)
theorem Eu {b k d ver i off:Nat}(hb:lk inv b=some (k,d))(hd:d≤ver){v:Value}(h:aJ R b ver i off v (lk hp b)):aJ (J4 eu R) k (ver-d) i off v (lk lq k):=by
 obtain⟨box,a1,a2,a3⟩:=h2 k b d (h1 b k d hb);obtain⟨e1,e2,e3⟩:=BG (R:=R) (h1 b k d hb);rw[a1] at h;rw[a3];cases box<;>simp only[aJ,jv,e1,e2] at h ⊢ <;> first
  |exact h
  |exact⟨Nat.zero_le _,h.2.1,h.2.2⟩
  |(simp only[lI] at a2;exact⟨by omega,h.2.1,fun e=>h.2.2 (by omega)⟩)
include hN
mutual
theorem Iy:∀(v:AV) (x:Value),ai N w hp R v x→ai N0 w lq (J4 eu R) (DF inv v) x
 |.pv p,x=>by simp only[DF,ai];exact bV (fun r _ h=>hN r h) (fun _ _ _=>rfl) p x
 |.agg cs,x=>by simp only[DF,ai];rintro⟨vs,a,b⟩;exact⟨vs,a,oU cs _ b⟩
 |.fM cs,x=>by simp only[DF,ai];rintro⟨vs,a,b⟩;exact⟨vs,a,lX cs _ b⟩
 | .ptr b off,x=>by
   intro h;simp only[DF];split
   ·rename_i k d hb;simp only[ai] at h ⊢;exact BH h1 h2 hb h
   simp only[ai,aU]
 | .bU b ver i off,x=>by
   intro h;simp only[DF];split
   ·rename_i k d hb;split
    ·rename_i hd;simp only[ai] at h ⊢;exact Eu h1 h2 hb (Nat.le_of_ble_eq_true hd) h
    simp only[ai,aU]
   simp only[ai,aU]
 | .aZ b ver,x=>by
   intro h;simp only[DF];split
   ·rename_i k d hb;split
    ·rename_i hd;simp only[ai] at h ⊢;exact yA h1 h2 hb (Nat.le_of_ble_eq_true hd) h
    simp only[ai,aU]
   simp only[ai,aU]
 | .sub b ver st lo hi,x=>by
   intro h;simp only[DF];split
   ·rename_i k d hb;split
    ·rename_i hd;simp only[ai] at h ⊢;obtain⟨u,a,c⟩:=h;exact⟨u,yA h1 h2 hb (Nat.le_of_ble_eq_true hd) a,c⟩
    simp only[ai,aU]
   simp only[ai,aU]
 | .fn f first aT,x=>by
   simp only[DF,ai];rintro⟨fs,cs,a,b,c⟩;exact⟨fs,cs,a,lX _ _ b,lX _ _ c⟩
theorem lX:∀(vs:List AV) (xs:List Value),bD N w hp R vs xs→bD N0 w lq (J4 eu R) (jW inv vs) xs
 |[],xs=>by simp only[jW,bD];exact id
 |p::ps,xs=>by simp only[jW,bD];rintro⟨v,r,a,b,c⟩;exact⟨v,r,a,Iy p v b,lX ps r c⟩
theorem oU:∀(vs:List AV) (xs:List Value),bN N w hp R vs xs→bN N0 w lq (J4 eu R) (jW inv vs) xs
 |[],xs=>by simp only[jW,bN];exact id
 |p::ps,xs=>by simp only[jW,bN];rintro⟨v,r,a,d,b,c⟩;exact⟨v,r,a,d,Iy p v b,oU ps r c⟩
end
end
def Vz (ρ:Ren)(R R2:Real)(hp':List (Nat×au)):Real where
 blk b:=match lk (hp'.map fun x=>(ic ρ x.1,x.1)) b with
  |some k=>R2.blk k
  |none=>R.blk b
 nil b:=match lk (hp'.map fun x=>(ic ρ x.1,x.1)) b with
  |some k=>R2.nil k
  |none=>R.nil b
 cap b:=match lk (hp'.map fun x=>(ic ρ x.1,x.1)) b with
  |some k=>R2.cap k
  |none=>R.cap b
 Y:=R.Y
theorem Ev {ρ:Ren}{b:Nat}:∀{hp':List (Nat×au)},lk (hp'.map fun x=>(ic ρ x.1,x.1)) b=none→lk (fP ρ hp') b=none
 |[],_=>rfl
 | (k,box)::r,h=>by
   simp only[List.map_cons,ak] at h;simp only[fP,ak];split at h
   ·cases h
   rename_i e;rw[if_neg e];exact Ev h
theorem yB {ρ:Ren}{b k:Nat}:∀{hp':List (Nat×au)},u6 hp'=true→lk (hp'.map fun x=>(ic ρ x.1,x.1)) b=some k →
  b=ic ρ k∧∃box,lk hp' k=some box∧lk (fP ρ hp') b=some (dS ρ k box)
 |[],_,h=>by simp[lk] at h
 | (k',box)::r,hok,h=>by
   simp only[u6,Bool.and_eq_true] at hok;simp only[List.map_cons,ak] at h;simp only[fP,ak];split at h
   ·rename_i e;simp only[Option.some.injEq] at h;subst h;exact⟨e.symm,box,by rw[if_pos rfl],by rw[if_pos e]⟩
   rename_i e;obtain⟨h1,bx,h2,h3⟩:=yB hok.2 h;refine⟨h1,bx,?_,by rw[if_neg e];exact h3⟩;rw[if_neg]
   ·exact h2
   rintro rfl
   have:=hok.1;rw[h2] at this;cases this
theorem Iz {ρ:Ren}{k:Nat}:∀{hp':List (Nat×au)} {box:au},(∀k' aV,lk hp' k'=some aV→ic ρ k'=ic ρ k→k'=k)→u6 hp'=true→lk hp' k=some box →
  lk (hp'.map fun x=>(ic ρ x.1,x.1)) (ic ρ k)=some k
 |[],box,_,_,h=>by simp[lk] at h
 | (k',b')::r,box,hinj,hok,h=>by
   simp only[u6,Bool.and_eq_true] at hok;simp only[List.map_cons,ak];split
   ·rename_i e;rw[hinj k' b' (by simp[ak]) e]
   rename_i e;rw[ak] at h;rw[if_neg (fun e'=>e (by rw[e']))] at h;refine Iz (fun k2 adf h2 e2=>hinj k2 adf ?_ e2) hok.2 h;rw[ak,if_neg]
   ·exact h2
   rintro rfl
   have:=hok.1;rw[h2] at this;cases this
end Go.AX
end
