/-
  Conditions: none. A framework for walks: abstract values, memory, and conditions that suffice; the chapters in plain terms.
-/
import Derived.Test.YtfoiekbkkbnpkaaGreatAa
import Derived.Great.FillDense
set_option linter.unusedSectionVars false
set_option linter.unusedVariables false
set_option linter.unusedSimpArgs false
section
namespace Go.AX
section
variable {P:Program}{T:Tab}{c:Ctx}{R:Real}{s:AS}{a:Act}{w:World}
theorem bN.qW (g:bN c R s a w){b:Nat}{e:TypeId}{ver st:Nat}{rows:List (List PV)}{R':Real}{w':World}
  (J:lk s.hp b=none∨∃e0 v D6 zm,lk s.hp b=some (.arr e0 v D6 zm)∧v<ver)
  (hR:∀S,S≠b→R'.blk S=R.blk S∧R'.nil S=R.nil S∧R'.cap S=R.cap S)
  (G:mV (fun r=>aQ R b r (lk s.hp b)) w w')
  (X:R'.nil b=false→aQ R b (R'.blk b) (lk s.hp b)∨w.heap.size≤R'.blk b)
  {xs:List Value} (ho:O1 w' e st (dW R' b rows.length) rows.length xs) (hr:dI (bA c R s.hp) w st rows xs) (hY:R'.Y=R.Y:=by rfl) :
  bN c R' (s.app [(b,.arr e ver st rows)]) a w' ∧
   au (bA c R' ((b,.arr e ver st rows)::s.hp)) w' ((b,.arr e ver st rows)::s.hp) R' (.aO b ver) (dW R' b rows.length):=by
 have r1:∀off v,bf R b off v (lk s.hp b)→bf R' b off v (some (.arr e ver st rows)):=by
  intro off v h;rcases J with Q|⟨e0,v0,D6,zm,Q,hv⟩<;>rw[Q] at h<;>exact h.elim
 have r2:∀V v,aX R b V v (lk s.hp b)→aX R' b V v (some (.arr e ver st rows)):=by
  intro V v h;rcases J with Q|⟨e0,v0,D6,zm,Q,hv⟩
  ·rw[Q] at h;exact h.elim
  rw[Q] at h;simp only[aX] at h ⊢;exact⟨by omega,h.2.1,fun x=>by omega⟩
 have r3:∀V i off v,bC R b V i off v (lk s.hp b)→bC R' b V i off v (some (.arr e ver st rows)):=by
  intro V i off v h;rcases J with Q|⟨e0,v0,D6,zm,Q,hv⟩
  ·rw[Q] at h;exact h.elim
  rw[Q] at h;simp only[bC] at h ⊢;exact⟨by omega,h.2.1,fun x=>by omega⟩
 have K:∀r,aQ R' b r (some (.arr e ver st rows))→aQ R b r (lk s.hp b)∨w.heap.size≤r:=by
  rintro r ⟨h1,rfl⟩
  exact X h1
 obtain⟨m1,m2,m3,m4,m5⟩:=g.G8 hR r1 r2 r3 K G hY;refine⟨g.upd hR r1 r2 r3 K G ⟨xs,ho,bg m1 m2 _ _ _ hr⟩ hY,?_⟩;simp only[au,aG,if_true];refine⟨Nat.le_refl _,?_,fun _=>rfl⟩;unfold dW;split<;>rfl
def mr (H:List (Nat×aI))(st:Nat)(x:AV):Option (List (List PV)):=
 match x with
 |.pv (.sc (.slice none 0 0))=>some []
 | .pv (.sl _ J G)=>match Nat.beq J st with
   |true=>some G
   |false=>none
 | .aO b ver=>match uU (lk H b) ver with
   | some (.sl _ J G)=>match Nat.beq J st with
     |true=>some G
     |false=>none
   |_=>none
 | .sub b ver K Q hi=>match uU (lk H b) ver with
   | some (.sl _ J G)=>match Nat.beq J st,Nat.beq K st with
     |true,true=>some (jQ G Q hi)
     |_,_=>none
   |_=>none
 |_=>none
theorem xW {N:Nat→Prop}{nn:Bool}{st:Nat}{rows:List (List PV)}{u:Value}(h:bL N w (.sl nn st rows) u) :
  ∃p K J,u=.slice p K J∧K=rows.length∧K≤J∧(p=none→rows=[])∧∀V,p=some V→∃G:List Value,G.length=rows.length*st ∧
   (∀j v,G[j]? = some v→w.cell? (V.add j)=some v)∧(∀u∈G,u.oneCell'=true)∧dI N w st rows G:=by
 simp only[bL] at h;obtain⟨p,K,J,rfl,rfl,⟨aa,_⟩,Q,S⟩:=h;refine⟨p,_,J,rfl,rfl,aa,fun e=>List.eq_nil_of_length_eq_zero (by have:=(Q e).2;omega),fun V e=>?_⟩;rcases S V e with h6|⟨hs,hn,ag,e2,fr,hg,hr⟩
 ·subst h6;exact⟨[],by simp,by simp,by simp,by simp[dI]⟩
 obtain⟨h1,h2,h3⟩:=gH hr;obtain⟨af,off,ae⟩:=V;simp only at hs hg hr;subst hs;refine⟨_,?_,?_,h3,h2⟩
 ·simp only[List.length_take,List.length_drop] at h1 ⊢;omega
 intro j v X;rw[addr_add,zn hg];rw[List.getElem?_take] at X;split at X
 ·simp only[List.getElem?_drop] at X;simpa using X
 cases X
theorem add_add (a:Addr)(n m:Nat):(a.add n).add m=a.add (n+m):=by
 unfold Addr.add;by_cases G:n=0
 ·subst G;simp
 by_cases J:m=0
 ·subst J;simp[G]
 rw[if_neg G,if_neg J,if_neg (by omega)];simp[Nat.add_assoc]
theorem Sv (g:bN c R s a w){H:List (Nat×aI)}(hH:∀b box,lk H b=some box→lk s.hp b=some box){st:Nat}{b ver:Nat}{nn:Bool}{rows:List (List PV)}
  (G:uU (lk H b) ver=some (.sl nn st rows)) {u:Value} (hx:aX R b ver u (lk s.hp b)) :
  ∃p S K,u=.slice p S K∧S=rows.length∧S≤K∧(p=none→rows=[])∧∀X,p=some X→∃J:List Value,J.length=rows.length*st ∧
   (∀j v,J[j]? = some v→w.cell? (X.add j)=some v)∧(∀u∈J,u.oneCell'=true)∧dI (bA c R s.hp) w st rows J:=by
 cases hb:lk H b with
 |none=>rw[hb] at G;cases G
 | some box=>
   have Q:=hH _ _ hb;rw[hb] at G;cases box with
   |var _=>cases G
   |oN _=>cases G
   |tr _ _ _ _=>cases G
   |iP _ _ _ _ _ _=>cases G
   | arr e v D6 zm=>
     simp only[uU] at G;split at G
     ·rename_i gu;simp only[Option.some.injEq,PV.sl.injEq] at G;obtain⟨rfl,rfl,rfl⟩:=G;rw[Q] at hx;have:=hx.2.2 (Nat.eq_of_beq_eq_true gu);subst this;obtain⟨xs,ho,hr⟩:=(g.boxes b _ Q);rcases ho.2 with ⟨e1,e2⟩|⟨g',K,V,o',e1,hg,aa,hm,hs,ht⟩
      ·have he:zm=[]:=List.eq_nil_of_length_eq_zero e2;subst he;rw[e1];exact⟨none,0,0,rfl,rfl,Nat.le_refl _,fun _=>rfl,fun X e=>by cases e⟩
      rw[e1];refine⟨_,_,K,rfl,rfl,aa,fun e=>(by cases e),fun X e=>?_⟩;simp only[Option.some.injEq] at e;subst e;have ae:dI (bA c R s.hp) w D6 zm (V.toList.drop o'):=by
       have:=uV ((V.toList.drop o').drop (zm.length*D6)) hr;rwa [←ht,List.take_append_drop] at this
      obtain⟨h1,h2,h3⟩:=gH ae;refine⟨xs,ho.1,fun j v G=>?_,?_,hr⟩
      ·rw[addr_add,zn hg];rw[←ht,List.getElem?_take] at G;split at G
       ·simpa[List.getElem?_drop] using G
       cases G
      rw[←ht];exact h3
     cases G
   | d9 v D6 zm=>
     simp only[uU] at G;split at G
     ·rename_i gu;simp only[Option.some.injEq,PV.sl.injEq] at G;obtain⟨rfl,rfl,rfl⟩:=G;rw[Q] at hx;have:=hx.2.2 (Nat.eq_of_beq_eq_true gu);subst this;exact xW (g.boxes b _ Q)
     cases G
theorem Ia (g:bN c R s a w){H:List (Nat×aI)}(hH:∀b box,lk H b=some box→lk s.hp b=some box){st:Nat}{x:AV}{rows:List (List PV)}
  (h:mr H st x=some rows) {u:Value} (S:au (bA c R s.hp) w s.hp R x u) :
  ∃p X V,u=.slice p X V∧X=rows.length∧X≤V∧(p=none→rows=[])∧∀ad,p=some ad→∃J:List Value,J.length=rows.length*st ∧
   (∀j v,J[j]? = some v→w.cell? (ad.add j)=some v)∧(∀u∈J,u.oneCell'=true)∧dI (bA c R s.hp) w st rows J:=by
 unfold mr at h;split at h
 ·simp only[Option.some.injEq] at h;subst h;simp only[au,bL] at S;exact⟨none,0,0,S,rfl,Nat.le_refl _,fun _=>rfl,fun ad e=>by cases e⟩
 ·rename_i nn ah aR;split at h
  ·rename_i K;simp only[Option.some.injEq] at h;subst h;have:=Nat.eq_of_beq_eq_true K;subst this;simp only[au] at S;exact xW S
  cases h
 ·rename_i b ver;split at h
  ·rename_i nn ah aR hv;split at h
   ·rename_i K;simp only[Option.some.injEq] at h;subst h;have:=Nat.eq_of_beq_eq_true K;subst this;simp only[au] at S;exact Sv g hH hv S
   cases h
  cases h
 ·rename_i b ver ai Q hi;split at h
  ·rename_i nn ah aR hv;split at h
   ·rename_i K af;simp only[Option.some.injEq] at h;subst h;have e1:=Nat.eq_of_beq_eq_true K;have e2:=Nat.eq_of_beq_eq_true af;rw[←e1] at e2;subst e2;rw[←e1];clear K af e1;simp only[au] at S;obtain⟨u',S,ag,rfl⟩:=S;obtain⟨p,X,V,rfl,rfl,al,aa,ae⟩:=Sv g hH hv S;simp only[pz] at ag;have G:(jQ aR Q hi).length=hi-Q:=by simp only[jQ,List.length_take,List.length_drop];omega
    cases p with
    | none=>
      have am:=aa rfl;subst am;simp only[List.length_nil] at ag al;refine⟨none,0,0,rfl,by rw[G];omega,Nat.le_refl _,fun _=>List.eq_nil_of_length_eq_zero (by rw[G];omega),fun ad e=>by cases e⟩
    | some ad=>
      obtain⟨J,n1,n2,n3,n4⟩:=ae ad rfl;refine⟨_,_,_,rfl,G.symm,by omega,fun e=>(by cases e),fun ao e=>?_⟩;simp only[Option.some.injEq] at e;have hr:=mD (hi-Q) (lN Q n4);obtain⟨t1,t2,t3⟩:=gH hr;change (jQ aR Q hi).length*_≤_ at t1
      rw[show (List.take (hi-Q) (List.drop Q aR)).length=hi-Q from G] at t2 t3;rw[G] at t1;by_cases ak:V=Q
      ·have hz:hi-Q=0:=by omega
       refine⟨[],by rw[G,hz];simp,by simp,by simp,?_⟩;have:jQ aR Q hi=[]:=List.eq_nil_of_length_eq_zero (by rw[G];exact hz);rw[this];simp[dI]
      rw[if_neg ak] at e;subst e;refine⟨(J.drop (Q*ai)).take ((hi-Q)*ai),by rw[List.length_take,G];omega,fun j v hj=>?_,t3,t2⟩;rw[List.getElem?_take] at hj;split at hj
      ·rw[List.getElem?_drop] at hj;have:=n2 _ _ hj;rw[←this];rw[add_add]
      cases hj
   cases h
  cases h
 cases h
theorem mW {t e:TypeId}{ty:TypeId}{Q:TI}(S:P.underlying t=some (.slice e))(hi:og P e Q)(base p:Option Addr)(J G cap:Nat)(K:J≤G) :
  (Builtin.append_ #[t,t] ty #[.slice base J G,.slice p 0 cap]).run P w=.ok (.slice base J G) w:=by
 cases p<;>cases base<;>simp[Builtin.append_,run_underlying S,hi.run_sizeOf,Builtin.lenOf,K,Builtin.firstCells,loadCells,loadCellsFrom,storeCells]
def uM (T:Tab)(H:List (Nat×aI))(t:TypeId)(vs:List AV)(id:Nat)(K:AV→List (Nat×aI)→Prop):Prop:=
 match vs with
 | [d,x]=>match lk T t with
   | some i=>match i.d with
     | .slt e=>match lk T e with
       | some X=>tiF X fun Q S=>match Nat.beq S 0,Nat.beq Q 0 with
         | false,false=>match mr H Q x with
           | some J=>match d with
             |.pv (.sc (.slice none 0 0))=>J.length*S≤140737488355328∧K (.aO id 0) [(id,.arr e 0 Q J)]
             | .aO b ver=>match lk H b with
               | some (.arr e' v V G)=>match Nat.beq ver v,Nat.beq V Q,Nat.beq e' e with
                 |true,true,true=>(G.length+J.length)*S≤140737488355328∧K (.aO b (v+1)) [(b,.arr e (v+1) Q (G++J))]
                 |_,_,_=>False
               |_=>False
             | .pv (.O8 V G)=>match Nat.beq V Q with
               |true=>0<J.length∧(G.length+J.length)*S≤140737488355328∧K (.aO id 0) [(id,.arr e 0 Q (G++J))]
               |false=>False
             |_=>False
           |none=>False
         |_,_=>False
       |none=>False
     |_=>False
   |none=>False
 |_=>False
theorem wE {n b:Nat}(G:b≠0)(h:n*b≤140737488355328):n≤maxLen∧(n:Int)≤9223372036854775807∧n≤140737488355328:=by
 have:n≤n*b:=Nat.le_mul_of_pos_right _ (Nat.pos_of_ne_zero G);unfold maxLen;omega
theorem rC (w:World)(t ty e:TypeId)(i:TypeInfo)(ht:P.underlying t=some (.slice e))(hi:P.info? e=some i)
  (g o J K:Nat) (cur:Array Value) (hg:w.heap[g]? = some (.cells cur e (0,0)))
  (a:Addr) (m c:Nat) (G:List Value) (hl:G.length=m*i.size) (Q:∀j u,G[j]? = some u→w.cell? (a.add j)=some u) (h1:∀u∈G,u.oneCell'=true)
  (S:J+m≤K) (V:o+J*i.size+G.length≤cur.size) :
  (Builtin.append_ #[t,t] ty #[.slice (some ⟨g,o,none⟩) J K,.slice (some a) m c]).run P w =
   .ok (.slice (some ⟨g,o,none⟩) (J+m) K) (w.setRow g (cur.toList.take (o+J*i.size)++G++cur.toList.drop (o+J*i.size+G.length)).toArray):=by
 have hf:=run_firstCells_some (P:=P) w i.size m a m c G hl Q;have X:=run_storeCells_at P g (o+J*i.size) e G 0 cur w hg (by simpa using V) h1;simp only[Nat.add_zero] at X;simp[Builtin.append_,run_underlying ht,sizeOf,typeInfo,hi,Builtin.lenOf,S,hf,addr_add,X]
theorem wF {e:TypeId}{st cap n:Nat}{xs:List Value}{z:Array Value}{w0:World}(S:z.size=st)(G:xs.length=n*st)(hc:n≤cap)(K:cap≤maxLen){J:World}
  (Q:J.heap=w0.heap.push (.cells (xs.toArray++Builtin.zeroCells z (cap-n)) e)) :
  O1 J e st (.slice (some ⟨w0.heap.size,0,none⟩) n cap) n xs:=by
 refine⟨G,.inr ⟨w0.heap.size,cap,_,0,rfl,by rw[Q];exact Array.getElem?_push_size,hc,K,?_,?_⟩⟩
 ·simp only[Array.size_append,List.size_toArray,size_zeroCells,S,G,←Nat.add_mul,Nat.zero_add];exact Nat.mul_le_mul_right _ (by omega)
 simp only[Array.toList_append,List.drop_zero];rw[←G];exact List.take_left
theorem sU (g:bN c R s a w)(hT:dB P T){H:List (Nat×aI)}(hH:∀b box,lk H b=some box→lk s.hp b=some box){id:Nat}(hf:lk s.hp id=none)
  {t ty:TypeId} {d x:AV} {K:AV→List (Nat×aI)→Prop} (h:uM T H t [d,x] id K) {u v:Value} (hd:au (bA c R s.hp) w s.hp R d u) (hx:au (bA c R s.hp) w s.hp R x v) :
  ∃y w' R' z ws,(Builtin.append_ #[t,t] ty #[u,v]).run P w=.ok y w'∧K z ws∧bN c R' (s.app ws) a w'∧au (bA c R' (ws++s.hp)) w' (ws++s.hp) R' z y:=by
 unfold uM at h;simp only[fF] at h;try simp only at h
 split at h;rotate_left;cases h
 rename_i i hi;obtain⟨dd,a9,jb⟩:=(hT t i hi).jr;split at h;rotate_left;cases h
 rename_i e bd;have ht:P.underlying t=some (.slice e):=by
  rw[bd] at jb;cases dd<;>simp[di] at jb
  subst jb;exact a9
 split at h;rotate_left;cases h
 rename_i ei rD;have jl:=hT _ _ rD;obtain⟨ti,zv,V,af,aq,ag,bj⟩:=jl.Ey;have Xy:zv.cells.size=ei.size:=by have:=jl.Xz;rw[←bj] at this;simpa using this
 split at h;rotate_left;cases h
 rename_i ao a4;have ao:=Nat.ne_of_beq_eq_false ao;have a4:=Nat.ne_of_beq_eq_false a4;split at h;rotate_left;cases h
 rename_i J a5;obtain⟨p,br,ah,rfl,rfl,bq,ax,az⟩:=Ia g hH a5 hx;split at h
 ·-- the Lv is nil
  obtain⟨ae,hK⟩:=h;simp only[au,bL] at hd;subst hd;obtain⟨b1,b2,b3⟩:=wE ao ae;by_cases hz:J.length=0
  ·have he:J=[]:=List.eq_nil_of_length_eq_zero hz;subst he;have Q:=mW (P:=P) (w:=w) (ty:=ty) ht jl none p 0 0 ah (Nat.le_refl _);obtain⟨g1,g2⟩:=g.qW (e:=e) (ver:=0) (st:=ei.size) (rows:=[]) (R':=R.at id 0 true 0) (.inl hf) (Real.zo R id 0 true 0) (mV.refl _ w) (by simp[Real.at])
    (xs:=[]) (by simp only[dW,Real.at,if_true,List.length_nil];exact acJ w e ei.size) (by simp[dI])
   have S:dW (R.at id 0 true 0) id 0=.slice none 0 0:=by simp[dW,Real.at]
   refine⟨_,w,_,_,_,Q,hK,g1,?_⟩;simp only[List.length_nil,S] at g2;exact g2
  cases p with
  |none=>exact absurd (by rw[ax rfl];rfl) hz
  | some ad=>
    obtain⟨G,n1,n2,n3,n4⟩:=az ad rfl;have Q:=run_append_nil (P:=P) w t ty e ti zv ht V ag ad J.length ah G (by rw[af];exact n1) n2 (by omega) b2 (by rw[aq];omega);have Pb:=grownCap_ge w J.length 0 e;have ai:=grownCap_le_maxLen w J.length 0 e b1;have S:dW (R.at id w.heap.size false (grownCap w J.length 0 e)) id J.length=.slice (some ⟨w.heap.size,0,none⟩) J.length (grownCap w J.length 0 e):=by simp[dW,Real.at]
    have Ez:O1 (w.drew.alloc (.cells (G.toArray++Builtin.zeroCells zv.cells (grownCap w J.length 0 e-J.length)) e)) e ei.size
      (.slice (some ⟨w.heap.size,0,none⟩) J.length (grownCap w J.length 0 e)) J.length G:=
     wF (w0:=w) Xy n1 Pb ai rfl
    obtain⟨g1,g2⟩:=g.qW (e:=e) (ver:=0) (st:=ei.size) (rows:=J) (R':=R.at id w.heap.size false (grownCap w J.length 0 e)) (.inl hf)
     (Real.zo R id _ _ _) (w':=w.drew.alloc (.cells (G.toArray++Builtin.zeroCells zv.cells (grownCap w J.length 0 e-J.length)) e))
     ⟨by simp,fun r hr _=>(by first|exact heap_alloc_old w.drew _ hr|exact heap_alloc_old w.drew _ r hr),rfl,rfl,rfl⟩ (fun _=>.inr (by simp[Real.at])) (xs:=G) (by rw[S];exact Ez) n4
    rw[S] at g2;exact⟨_,_,_,_,_,Q,hK,g1,g2⟩
 ·rename_i b ver;split at h;rotate_left;cases h
  rename_i e' vr st rows hb;have aa:=hH _ _ hb;split at h;rotate_left;cases h
  rename_i gu al he;have gu:=Nat.eq_of_beq_eq_true gu;have al:=Nat.eq_of_beq_eq_true al;have he:=Nat.eq_of_beq_eq_true he;subst gu;subst al;subst he;obtain⟨ae,hK⟩:=h;obtain⟨b1,b2,b3⟩:=wE ao ae;simp only[au,aa] at hd;have:=hd.2.2 rfl;subst this;obtain⟨xs,ho,hr⟩:=(g.boxes b _ aa);have X:(rows++J).length=rows.length+J.length:=by simp
  by_cases hz:J.length=0
  ·have he:J=[]:=List.eq_nil_of_length_eq_zero hz;subst he;have a7:∃p0 l0 c0,dW R b rows.length=.slice p0 l0 c0∧l0≤c0:=by
    rcases ho.2 with ⟨e1,e2⟩|⟨g',a0,am,o',e1,hg,a3,_⟩
    ·exact⟨_,_,_,e1,Nat.le_refl _⟩
    exact⟨_,_,_,e1,a3⟩
   obtain⟨p0,l0,c0,e1,e2⟩:=a7;have Q:=mW (P:=P) (w:=w) (ty:=ty) ht jl p0 p l0 c0 ah e2;rw[←e1] at Q;obtain⟨g1,g2⟩:=g.qW (b:=b) (e:=e') (ver:=ver+1) (st:=ei.size) (rows:=rows++[]) (R':=R) (.inr ⟨_,_,_,_,aa,Nat.lt_succ_self _⟩) (fun _ _=>⟨rfl,rfl,rfl⟩) (mV.refl _ w)
    (fun hn=>.inl (by rw[aa];exact⟨hn,rfl⟩)) (xs:=xs) (by simpa using ho) (by simpa using hr)
   simp only[List.append_nil] at g2;exact⟨_,w,R,_,_,Q,hK,g1,by simpa using g2⟩
  cases p with
  |none=>exact absurd (by rw[ax rfl];rfl) hz
  | some ad=>
    obtain⟨G,n1,n2,n3,n4⟩:=az ad rfl;have ar:dI (bA c R s.hp) w ei.size (rows++J) (xs++G):=jW hr ho.1 n4;rcases ho.2 with ⟨e1,e2⟩|⟨g',a0,am,o',e1,hg,a3,hm,bo,a6⟩
    ·-- nil so far
     have he:rows=[]:=List.eq_nil_of_length_eq_zero e2;subst he;have bh:xs=[]:=List.eq_nil_of_length_eq_zero (by simpa using ho.1);subst bh;have Q:=run_append_nil (P:=P) w t ty e' ti zv ht V ag ad J.length ah G (by rw[af];exact n1) n2 (by omega) (by simpa using (wE ao (by simpa using ae)).2.1) (by rw[aq];simp at ae;omega);rw[←e1] at Q;have Pb:=grownCap_ge w J.length 0 e';have ai:=grownCap_le_maxLen w J.length 0 e' (by simpa using b1);have S:dW (R.at b w.heap.size false (grownCap w J.length 0 e')) b ([]++J).length=.slice (some ⟨w.heap.size,0,none⟩) J.length (grownCap w J.length 0 e'):=by simp[dW,Real.at]
     have Ez:O1 (w.drew.alloc (.cells (G.toArray++Builtin.zeroCells zv.cells (grownCap w J.length 0 e' - J.length)) e')) e' ei.size
       (.slice (some ⟨w.heap.size,0,none⟩) J.length (grownCap w J.length 0 e')) J.length G:=
      wF (w0:=w) Xy n1 Pb ai rfl
     obtain⟨g1,g2⟩:=g.qW (b:=b) (e:=e') (ver:=ver+1) (st:=ei.size) (rows:=[]++J) (R':=R.at b w.heap.size false (grownCap w J.length 0 e')) (.inr ⟨_,_,_,_,aa,Nat.lt_succ_self _⟩)
      (Real.zo R b _ _ _) (w':=w.drew.alloc (.cells (G.toArray++Builtin.zeroCells zv.cells (grownCap w J.length 0 e' - J.length)) e'))
      ⟨by simp,fun r hr _=>(by first|exact heap_alloc_old w.drew _ hr|exact heap_alloc_old w.drew _ r hr),rfl,rfl,rfl⟩ (fun _=>.inr (by simp[Real.at])) (xs:=G) (by rw[S];exact Ez) (by simpa using n4)
     rw[S] at g2;exact⟨_,_,_,_,_,Q,hK,g1,g2⟩
    have ap:R.nil b=false:=by
     cases hn:R.nil b with
     |false=>rfl
     |true=>simp[dW,hn] at e1
    have bb:g'=R.blk b∧o'=(R.cap b).2.2∧a0=(R.cap b).1:=by simp[dW,ap] at e1;exact⟨e1.1.1.symm,e1.1.2.symm,e1.2.symm⟩
    obtain⟨rfl,rfl,rfl⟩:=bb;by_cases ak:rows.length+J.length≤(R.cap b).1
    ·have a2:(R.cap b).2.2+rows.length*ei.size+G.length≤am.size:=by
      have:=Nat.mul_le_mul_right ei.size ak;rw[Nat.add_mul] at this;omega
     have Q:=rC (P:=P) w t ty e' ti ht V (R.blk b) (R.cap b).2.2 rows.length ((R.cap b).1) am hg ad J.length ah G (by rw[af];exact n1) n2 n3 ak (by rw[af];exact a2);rw[←e1,af] at Q;have S:dW R b (rows++J).length=.slice (some ⟨R.blk b,(R.cap b).2.2,none⟩) (rows.length+J.length) ((R.cap b).1):=by simp[dW,ap]
     obtain⟨g1,g2⟩:=g.qW (b:=b) (e:=e') (ver:=ver+1) (st:=ei.size) (rows:=rows++J) (R':=R) (.inr ⟨_,_,_,_,aa,Nat.lt_succ_self _⟩) (fun _ _=>⟨rfl,rfl,rfl⟩)
      (w':=w.setRow (R.blk b) (am.toList.take ((R.cap b).2.2+rows.length*ei.size)++G++am.toList.drop ((R.cap b).2.2+rows.length*ei.size+G.length)).toArray)
      ((pE w _ _).mono fun r hr=>by rw[aa];exact⟨ap,hr.symm⟩) (fun hn=>.inl (by rw[aa];exact⟨hn,rfl⟩)) (xs:=xs++G) (by
        rw[S];refine⟨by rw[X,List.length_append,ho.1,n1,Nat.add_mul],.inr ⟨R.blk b,(R.cap b).1,_,(R.cap b).2.2,by rw[X],setRow_heap w _ am _ e' _ hg,by rw[X];exact ak,hm,?_,?_⟩⟩
        ·simp only[List.size_toArray,List.length_append,List.length_take,List.length_drop,Array.length_toList];omega
        rw[X,List.toList_toArray,zq (by simp only[Array.length_toList];omega),a6,Nat.add_mul,←ho.1,←n1,←List.length_append];exact List.take_left) ar
     rw[S] at g2;exact⟨_,_,_,_,_,Q,hK,g1,g2⟩
    have aw:∀j v,xs[j]? = some v→w.cell? ((⟨R.blk b,(R.cap b).2.2,none⟩:Addr).add j)=some v:=by
     intro j v hv;rw[addr_add,zn hg];rw[←a6,List.getElem?_take] at hv;split at hv
     ·simpa[List.getElem?_drop] using hv
     cases hv
    have Q:=run_append_grow (P:=P) w t ty e' ti zv ht V ag ⟨R.blk b,(R.cap b).2.2,none⟩ rows.length ((R.cap b).1) xs (by rw[af];exact ho.1) aw ad J.length ah G (by rw[af];exact n1) n2 (by omega)
     (by omega) (growslice_fits (by omega) (by rw[aq];exact ae))
    rw[←e1] at Q;have Pb:=grownCap_ge w (rows.length+J.length) ((R.cap b).1) e';have ai:=grownCap_le_maxLen w (rows.length+J.length) ((R.cap b).1) e' b1;have S:dW (R.at b w.heap.size false (grownCap w (rows.length+J.length) ((R.cap b).1) e')) b (rows++J).length =
      .slice (some ⟨w.heap.size,0,none⟩) (rows.length+J.length) (grownCap w (rows.length+J.length) ((R.cap b).1) e'):=by simp[dW,Real.at]
    have Ez:O1 (w.drew.alloc (.cells (xs.toArray++G.toArray++Builtin.zeroCells zv.cells (grownCap w (rows.length+J.length) ((R.cap b).1) e' - (rows.length+J.length))) e')) e' ei.size
      (.slice (some ⟨w.heap.size,0,none⟩) (rows.length+J.length) (grownCap w (rows.length+J.length) ((R.cap b).1) e')) (rows.length+J.length) (xs++G):=
     wF (w0:=w) Xy (by rw[List.length_append,ho.1,n1,Nat.add_mul]) Pb ai (by rw[show (xs++G).toArray=xs.toArray++G.toArray from by simp];rfl)
    obtain⟨g1,g2⟩:=g.qW (b:=b) (e:=e') (ver:=ver+1) (st:=ei.size) (rows:=rows++J) (R':=R.at b w.heap.size false (grownCap w (rows.length+J.length) ((R.cap b).1) e'))
     (.inr ⟨_,_,_,_,aa,Nat.lt_succ_self _⟩) (Real.zo R b _ _ _)
     (w':=w.drew.alloc (.cells (xs.toArray++G.toArray++Builtin.zeroCells zv.cells (grownCap w (rows.length+J.length) ((R.cap b).1) e' - (rows.length+J.length))) e'))
     ⟨by simp,fun r hr _=>(by first|exact heap_alloc_old w.drew _ hr|exact heap_alloc_old w.drew _ r hr),rfl,rfl,rfl⟩ (fun _=>.inr (by simp[Real.at])) (xs:=xs++G) (by rw[S,X];exact Ez) ar
    rw[S] at g2;exact⟨_,_,_,_,_,Q,hK,g1,g2⟩
 ·-- nothing is behind the Lv
  rename_i st rows;split at h;rotate_left;cases h
  rename_i al;have al:=Nat.eq_of_beq_eq_true al;subst al;obtain⟨hz,ae,hK⟩:=h;obtain⟨b1,b2,b3⟩:=wE ao ae;simp only[au] at hd;obtain⟨bp,bk,bm,a1,_,_,_,a8⟩:=xW (Ib hd);simp only[bL] at hd;obtain⟨ba,rfl,_,_⟩:=hd;simp only[Value.slice.injEq] at a1;obtain⟨rfl,rfl,rfl⟩:=a1;obtain⟨xs,x1,x2,x3,x4⟩:=a8 ba rfl;cases p with
  |none=>exact absurd (by rw[ax rfl];rfl) (Nat.ne_of_gt hz)
  | some ad=>
    obtain⟨G,n1,n2,n3,n4⟩:=az ad rfl;have ar:dI (bA c R s.hp) w ei.size (rows++J) (xs++G):=jW x4 x1 n4;have X:(rows++J).length=rows.length+J.length:=by simp
    have Q:=run_append_grow (P:=P) w t ty e ti zv ht V ag ba rows.length rows.length xs (by rw[af];exact x1) x2 ad J.length ah G (by rw[af];exact n1) n2 (by omega)
     (by omega) (growslice_fits (by omega) (by rw[aq];exact ae))
    have Pb:=grownCap_ge w (rows.length+J.length) rows.length e;have ai:=grownCap_le_maxLen w (rows.length+J.length) rows.length e b1;have S:dW (R.at id w.heap.size false (grownCap w (rows.length+J.length) rows.length e)) id (rows++J).length =
      .slice (some ⟨w.heap.size,0,none⟩) (rows.length+J.length) (grownCap w (rows.length+J.length) rows.length e):=by simp[dW,Real.at]
    have Ez:O1 (w.drew.alloc (.cells (xs.toArray++G.toArray++Builtin.zeroCells zv.cells (grownCap w (rows.length+J.length) rows.length e-(rows.length+J.length))) e)) e ei.size
      (.slice (some ⟨w.heap.size,0,none⟩) (rows.length+J.length) (grownCap w (rows.length+J.length) rows.length e)) (rows.length+J.length) (xs++G):=
     wF (w0:=w) Xy (by rw[List.length_append,x1,n1,Nat.add_mul]) Pb ai (by rw[show (xs++G).toArray=xs.toArray++G.toArray from by simp];rfl)
    obtain⟨g1,g2⟩:=g.qW (e:=e) (ver:=0) (st:=ei.size) (rows:=rows++J) (R':=R.at id w.heap.size false (grownCap w (rows.length+J.length) rows.length e)) (.inl hf)
     (Real.zo R id _ _ _) (w':=w.drew.alloc (.cells (xs.toArray++G.toArray++Builtin.zeroCells zv.cells (grownCap w (rows.length+J.length) rows.length e-(rows.length+J.length))) e))
     ⟨by simp,fun r hr _=>(by first|exact heap_alloc_old w.drew _ hr|exact heap_alloc_old w.drew _ r hr),rfl,rfl,rfl⟩ (fun _=>.inr (by simp[Real.at])) (xs:=xs++G) (by rw[S,X];exact Ez) ar
    rw[S] at g2;exact⟨_,_,_,_,_,Q,hK,g1,g2⟩
 exact h.elim
end
theorem A9 {α:Type}(l m:List (Nat×α))(t:Nat):lk (l++m) t=match lk l t with
  |some v=>some v
  |none=>lk m t:=by
 induction l with
 |nil=>simp[lk]
 | cons x l ih=>
   obtain⟨k,v⟩:=x;simp only[List.cons_append,aG];split
   ·rfl
   exact ih
section
variable {P:Program}{T:Tab}{c:Ctx}{R:Real}{s:AS}{a:Act}{w:World}
theorem kE (g:bN c R s a w){H:List (Nat×aI)}(hH:∀b box,lk H b=some box→lk s.hp b=some box):∀(bs:List Nat) (fs:List (Nat×aI)),JZ H bs=some fs →
  bN c R (s.app fs) a w∧(∀v x,au (bA c R s.hp) w s.hp R v x→au (bA c R (fs++s.hp)) w (fs++s.hp) R v x) ∧
   (∀r,bA c R (fs++s.hp) r→bA c R s.hp r)∧(∀b,(lk fs b).isSome=true∨b∈bs→∀r,aQ R b r (lk s.hp b)→¬bA c R (fs++s.hp) r)
 | [],fs,h=>by
   simp only[JZ,Option.some.injEq] at h;subst h;exact⟨g,fun v x h=>h,fun r h=>h,fun b h=>by simp[lk] at h⟩
 | b::bs,fs,h=>by
   simp only[JZ] at h;split at h
   ·rename_i t ht;obtain⟨g1,m1,n1,o1⟩:=kE g hH bs t ht;split at h
    ·rename_i x hx;simp only[Option.some.injEq] at h;subst h;refine⟨g1,m1,n1,fun J G=>?_⟩;rcases G with G|G
     ·exact o1 J (.inl G)
     rcases List.mem_cons.1 G with rfl|G
     ·exact o1 _ (.inl (by rw[hx];rfl))
     exact o1 J (.inr G)
    rename_i aa;have step:∀{box V:aI},lk H b=some box →
      ((∃e v st Q,box=.arr e v st Q∧V=.d9 v st Q)∨(∃K ps,box=.var K∧jE K=some ps∧V=.oN ps)) →
      bN c R (s.app ((b,V)::t)) a w∧(∀v x,au (bA c R s.hp) w s.hp R v x→au (bA c R ((b,V)::t++s.hp)) w ((b,V)::t++s.hp) R v x) ∧
       (∀r,bA c R ((b,V)::t++s.hp) r→bA c R s.hp r)∧(∀J,(lk ((b,V)::t) J).isSome=true∨J∈b::bs→∀r,aQ R J r (lk s.hp J)→¬bA c R ((b,V)::t++s.hp) r):=by
     intro box V S hf;have hl:lk (s.app t).hp b=some box:=by
      show lk (t++s.hp) b=_
      rw[A9,aa];exact hH _ _ S
     obtain⟨g2,m2,n2,o2⟩:=g1.freeze hl hf;refine⟨g2,fun v x h=>m2 v x (m1 v x h),fun r h=>n1 r (n2 r h),fun J G r ho hN=>?_⟩;by_cases e:J=b
     ·subst e;refine o2 r ?_ hN;rw[hl,←hH _ _ S];exact ho
     rcases G with G|G
     ·rw[aG,if_neg (fun x=>e x.symm)] at G;exact o1 J (.inl G) r ho (n2 r hN)
     rcases List.mem_cons.1 G with rfl|G
     ·exact e rfl
     exact o1 J (.inr G) r ho (n2 r hN)
    have X:fs=t→(∀r,¬aQ R b r (lk s.hp b))→bN c R (s.app fs) a w∧(∀v x,au (bA c R s.hp) w s.hp R v x→au (bA c R (fs++s.hp)) w (fs++s.hp) R v x) ∧
      (∀r,bA c R (fs++s.hp) r→bA c R s.hp r)∧(∀J,(lk fs J).isSome=true∨J∈b::bs→∀r,aQ R J r (lk s.hp J)→¬bA c R (fs++s.hp) r):=by
     rintro rfl ad
     refine⟨g1,m1,n1,fun J G r ho=>?_⟩;rcases G with G|G
     ·exact o1 J (.inl G) r ho
     rcases List.mem_cons.1 G with rfl|G
     ·exact (ad r ho).elim
     exact o1 J (.inr G) r ho
    split at h
    ·rename_i e v st Q S;simp only[Option.some.injEq] at h;subst h;exact step S (.inl ⟨_,_,_,_,rfl,rfl⟩)
    ·rename_i K S;split at h
     ·rename_i ps ae;simp only[Option.some.injEq] at h;subst h;exact step S (.inr ⟨_,_,rfl,ae,rfl⟩)
     cases h
    ·rename_i v st Q S;simp only[Option.some.injEq] at h;exact X h.symm (fun r=>by rw[hH _ _ S];exact id)
    ·rename_i K S;simp only[Option.some.injEq] at h;exact X h.symm (fun r=>by rw[hH _ _ S];exact id)
    ·cases h
    ·cases h
    cases h
   cases h
def Ic (H:List (Nat×aI))(f:Fn)(G:Nat)(vs:List AV)(K:AV→List (Nat×aI)→Prop):Prop:=
 match kJ G vs,kV G vs with
 | some xs,some ys=>match Ie H xs,Ie H ys with
   | some Q,some S=>match JZ H (fH xs++fH ys) with
     |some J=>K (.pv (.fn f Q S)) J
     |none=>K (.fn f xs ys) []
   |_,_=>K (.fn f xs ys) []
 |_,_=>False
theorem FL.split {α:Type}{Q:α→Value→Prop}:∀{n:Nat} {l xs ys:List α} {m:List Value},FL Q l m→kJ n l=some xs→kV n l=some ys→FL Q xs (m.take n)∧FL Q ys (m.drop n)
 | 0,l,xs,ys,m,h,G,J=>by
   simp only[kJ,kV,Option.some.injEq] at G J;subst G;subst J;exact⟨by simp[FL],by simpa using h⟩
 |n+1,[],xs,ys,m,h,G,J=>by simp[kJ] at G
 | n+1,p::ps,xs,ys,m,h,G,J=>by
   obtain⟨v,r,rfl,V,h⟩:=h;simp only[kJ] at G;split at G
   ·rename_i t X;simp only[Option.some.injEq] at G;subst G;simp only[kV] at J;obtain⟨K,S⟩:=h.split X J;exact⟨⟨v,r.take n,by simp,V,K⟩,by simpa using S⟩
   cases G
theorem Lx (g:bN c R s a w){H:List (Nat×aI)}(X:∀b box,lk H b=some box→lk s.hp b=some box){f:Fn}{first G:Array Value}{vs:List AV}{K:AV→List (Nat×aI)→Prop}
  (h:Ic H f first.size vs K) (hv:FL (au (bA c R s.hp) w s.hp R) vs (first.toList++G.toList)) :
  ∃z ws,(Instr.makeFunc f first G).run P w=.ok (.func f first G) w∧K z ws∧bN c R (s.app ws) a w∧au (bA c R (ws++s.hp)) w (ws++s.hp) R z (.func f first G):=by
 have ref:∀{xs ys:List AV},kJ first.size vs=some xs→kV first.size vs=some ys→K (.fn f xs ys) [] →
   ∃z ws,(Instr.makeFunc f first G).run P w=.ok (.func f first G) w∧K z ws∧bN c R (s.app ws) a w∧au (bA c R (ws++s.hp)) w (ws++s.hp) R z (.func f first G):=by
  intro xs ys J Q h;obtain⟨S,V⟩:=hv.split J Q;have l1:(first.toList++G.toList).take first.size=first.toList:=by rw[←Array.length_toList];exact List.take_left
  have l2:(first.toList++G.toList).drop first.size=G.toList:=by rw[←Array.length_toList];exact List.drop_left
  rw[l1] at S;rw[l2] at V;refine⟨_,[],rfl,h,g,?_⟩;simp only[au];exact⟨first,G,rfl,by rw[eZ];exact S,by rw[eZ];exact V⟩
 unfold Ic at h;split at h;rotate_left;cases h
 rename_i xs ys J Q;split at h
 ·rename_i ps qs ad ae;split at h
  ·rename_i fs aa;obtain⟨g1,m1,n1,o1⟩:=kE g X _ _ aa;obtain⟨S,V⟩:=hv.split J Q;have l1:(first.toList++G.toList).take first.size=first.toList:=by rw[←Array.length_toList];exact List.take_left
   have l2:(first.toList++G.toList).drop first.size=G.toList:=by rw[←Array.length_toList];exact List.drop_left
   rw[l1] at S;rw[l2] at V;refine⟨_,fs,rfl,h,g1,?_⟩;simp only[au,bL];refine⟨first,G,rfl,?_,?_⟩
   ·exact iQ g X n1 xs ps _ (fun b hb=>o1 b (.inr (by simp[hb]))) ad (by rw[eZ];exact S)
   exact iQ g X n1 ys qs _ (fun b hb=>o1 b (.inr (by simp[hb]))) ae (by rw[eZ];exact V)
  exact ref J Q h
 exact ref J Q h
def zu (T:Tab):List (Nat×TypeId)→Bool
 |[]=>true
 | (_,G)::r=>match lk T G with
   |some _=>zu T r
   |none=>false
def Pd (T:Tab)(t:TypeId):List Nat→List AV→List AV→Option (List AV)
 |[],[],G=>some G
 | f::K,v::vs,G=>match zw T t f with
   | some (off,j)=>match cellsOf j v with
     | some cs=>match Nat.beq cs.length j.size with
       | true=>match oh off G cs with
         |some J=>Pd T t K vs J
         |none=>none
       |false=>none
     |none=>none
   |none=>none
 |_,_,_=>none
def Ba (T:Tab)(t:TypeId)(ks:List Nat)(vs:List AV)(K:AV→Prop):Prop:=
 match lk T t with
 | some i=>match i.d with
   | .str J=>match zu T J with
     | true=>match zAV i.zero with
       | some z=>match Pd T t ks vs z with
         | some G=>match EA G with
           |some v=>K v
           |none=>False
         |none=>False
       |none=>False
     |false=>False
   |_=>False
 |none=>False
theorem Co (off:Nat)(l:List Value)(cs:Array Value)(h:off+l.length≤cs.size) :
  ((l.zipIdx 0).foldl (fun cs (x:Value×Nat)=>cs.setIfInBounds (off+x.2) x.1) cs).toList=cs.toList.take off++l++cs.toList.drop (off+l.length):=by
 obtain⟨S,J⟩:=Great.foldl_set off l 0 cs;apply List.ext_getElem?;intro k;rw[Array.getElem?_toList,J k];simp only[Nat.add_zero,List.append_assoc,List.getElem?_append,List.length_take,Array.length_toList,List.getElem?_take,List.getElem?_drop,Array.getElem?_toList];have Q:min off cs.size=off:=by omega
 rw[Q];by_cases G:k<off
 ·rw[if_neg (by omega),if_pos G,if_pos G]
 rw[if_neg G];by_cases K:k<off+l.length
 ·rw[if_pos ⟨by omega,K,by omega⟩,if_pos (by omega)]
 rw[if_neg (by omega),if_neg (by omega)];congr 1
 omega
theorem EB {N:Nat→Prop}{hp:List (Nat×aI)}(hT:dB P T){t:TypeId}{fs:Array Field}(ht:P.underlying t=some (.struct fs)){place:Nat→Option (Nat×Nat)}
  (V:∀(f:Nat) (J:Field) (j:TI),fs[f]? = some J→og P J.type j→place f=some (J.offset,j.size)) :
  ∀(ks:List Nat) (vs cells G:List AV) (us:List Value) (zs:Array Value),Pd T t ks vs cells=some G→FL (au N w hp R) vs us→FC (au N w hp R) cells zs.toList →
   ∃aa,Instr.fill place zs (ks.zip us)=some aa∧FC (au N w hp R) G aa.toList
 | [],[],cells,G,us,zs,h,K,hz=>by
   simp only[Pd,Option.some.injEq] at h;subst h;simp only[FL] at K;subst K;exact⟨zs,rfl,hz⟩
 |[],v::vs,cells,G,us,zs,h,K,hz=>by simp[Pd] at h
 |f::ks,[],cells,G,us,zs,h,K,hz=>by simp[Pd] at h
 | f::ks,v::vs,cells,G,us,zs,h,K,hz=>by
   obtain⟨u,r,rfl,hu,K⟩:=K;simp only[Pd] at h;split at h
   ·rename_i off j hf;split at h
    ·rename_i cs ae;split at h
     ·rename_i hl;have hl:=Nat.eq_of_beq_eq_true hl;split at h
      ·rename_i c2 ad;obtain⟨ag,J,h1,h2,rfl,h4⟩:=qX hT hf;rw[ht] at h1;simp only[Option.some.injEq,TypeDesc.struct.injEq] at h1;subst h1;have Q:=kW ae hu;obtain⟨S,X⟩:=FC.oh hz Q ad;have uN:u.cells.size=j.size:=by rw[←hl,←Q.length];simp
       simp only[List.zip_cons_cons,Instr.fill,V f J j h2 h4];have af:J.offset+j.size≤zs.size:=by simp only[Array.length_toList] at S;omega
       rw[if_neg (by simp[uN];omega)];have LA:(u.cells.zipIdx.foldl (fun cs (x:Value×Nat)=>cs.setIfInBounds (J.offset+x.2) x.1) zs).toList=zs.toList.take J.offset++u.cells.toList++zs.toList.drop (J.offset+u.cells.toList.length):=by
        rw[←Co J.offset u.cells.toList zs (by simpa using S)];rw[←Array.foldl_toList,Array.toList_zipIdx]
       exact EB hT ht V ks vs c2 G r _ h K (by rw[LA];exact X)
      cases h
     cases h
    cases h
   cases h
theorem DJ {fs:List Field}{g:Field→Nat×Nat}(h:∀f∈fs,(sizeOf f.type).run P w=.ok (g f).2 w)(J:∀f∈fs,(g f).1=f.offset) :
  (fs.mapM fun f=>(do pure (f.offset,←sizeOf f.type):Sem (Nat×Nat))).run P w=.ok (fs.map g) w:=by
 induction fs with
 |nil=>simp
 | cons f fs ih=>
   have:=ih (fun f G=>h f (List.mem_cons_of_mem _ G)) (fun f G=>J f (List.mem_cons_of_mem _ G));simp only[List.mapM_cons,Sem.run_bind,h f List.mem_cons_self,Result.andThen_ok,Sem.run_pure,this,List.map_cons];rw[←J f List.mem_cons_self]
theorem xX {N:Nat→Prop}{hp:List (Nat×aI)}:∀{vs:List Value},vs.all (·.oneCell')=true→FC (au N w hp R) (vs.map fun v=>.pv (.sc v)) vs
 |[],_=>rfl
 | v::vs,h=>by
   simp only[List.all_cons,Bool.and_eq_true] at h;exact⟨v,vs,rfl,h.1,by simp only[au,bL],xX h.2⟩
theorem J2 (hT:dB P T){N:Nat→Prop}{hp:List (Nat×aI)}{t:TypeId}{ks:List Nat}{vs:List AV}{us:List Value}{K:AV→Prop}(h:Ba T t ks vs K)
  (hv:FL (au N w hp R) vs us):∃y z,(Instr.build t (ks.zip us).toArray).run P w=.ok y w∧K z∧au N w hp R z y:=by
 unfold Ba at h;split at h;rotate_left;cases h
 rename_i i hi;have V:=hT _ _ hi;obtain⟨d,hd,jb⟩:=V.jr;obtain⟨zv,ao,ap,aq⟩:=V.zx w;split at h;rotate_left;cases h
 rename_i fl ah;rw[ah] at jb;cases d<;>simp[di] at jb
 rename_i fs;subst jb;split at h;rotate_left;cases h
 rename_i ag;split at h;rotate_left;cases h
 rename_i z hz;have:=Pe hz;subst this;split at h;rotate_left;cases h
 rename_i Q J;split at h;rotate_left;cases h
 rename_i v G;have aa:∀f∈fs.toList,∃j,og P f.type j:=by
  have key:∀l:List Field,zu T (l.map fun f=>(f.offset,f.type))=true→∀f∈l,∃j,og P f.type j:=by
   intro l;induction l with
   |nil=>intro _ f S;cases S
   | cons x l ih=>
     intro h f S;simp only[List.map_cons,zu] at h;split at h
     ·rename_i j hj;rcases List.mem_cons.1 S with rfl|S
      ·exact⟨j,hT _ _ hj⟩
      exact ih h f S
     cases h
  exact key _ ag
 have am:∀f∈fs.toList,(sizeOf f.type).run P w=.ok (P.cellsOf f.type) w:=by
  intro f S;obtain⟨j,hj⟩:=aa f S;obtain⟨x,_,h1,_⟩:=hj.Ey;simp[sizeOf,typeInfo,h1,Program.cellsOf]
 have ae:=DJ (g:=fun f=>(f.offset,P.cellsOf f.type)) am (fun _ _=>rfl);have ak:∀(f:Nat) (fd:Field) (j:TI),fs[f]? = some fd→og P fd.type j→((fs.map fun f=>(f.offset,P.cellsOf f.type))[f]? : Option (Nat×Nat))=some (fd.offset,j.size):=by
  intro f fd j h1 h2;obtain⟨x,_,h3,h4,_⟩:=h2.Ey;simp[h1,Program.cellsOf,h3,h4]
 obtain⟨X,af,ad⟩:=EB hT hd ak ks vs _ Q us zv.cells J hv (by rw[ap];exact xX V.XB);refine⟨.agg X,v,?_,h,?_⟩
 ·have ai:(fs.mapM fun f=>(do pure (f.offset,←sizeOf f.type):Sem (Nat×Nat))).run P w=.ok (fs.map fun f=>(f.offset,P.cellsOf f.type)) w:=by
   rw[Array.mapM_eq_mapM_toList,Sem.run_map,ae];simp only[Result.andThen_ok];rw[←Array.toList_map,Array.toArray_toList]
  simp only[Instr.build,Sem.run_bind,ao,Result.andThen_ok,run_underlying hd,ai,af,Sem.run_pure]
 unfold EA at G;split at G
 ·rename_i ps al;simp only[Option.some.injEq] at G;subst G;simp only[au,bL];exact⟨X,rfl,by rw[iH];exact wG al ad⟩
 simp only[Option.some.injEq] at G;subst G;simp only[au];exact⟨X,rfl,by rw[bR];exact ad⟩
end
theorem Sw {H:List (Nat×aI)}:∀(bs:List Nat) (fs:List (Nat×aI)),JZ H bs=some fs→∀b,(lk fs b).isSome=true→(lk H b).isSome=true
 |[],fs,h=>by simp only[JZ,Option.some.injEq] at h;subst h;intro b G;simp[lk] at G
 | b0::bs,fs,h=>by
   simp only[JZ] at h;split at h
   ·rename_i t Q;have ih:=Sw bs t Q;split at h
    ·simp only[Option.some.injEq] at h;subst h;exact ih
    have cons:∀(J:aI),(lk H b0).isSome=true→∀b,(lk ((b0,J)::t) b).isSome=true→(lk H b).isSome=true:=by
     intro J K b G;rw[aG] at G;split at G
     ·rename_i e;rw[←e];exact K
     exact ih b G
    split at h
    ·rename_i G;simp only[Option.some.injEq] at h;subst h;exact cons _ (by rw[G];rfl)
    ·rename_i G;split at h
     ·simp only[Option.some.injEq] at h;subst h;exact cons _ (by rw[G];rfl)
     cases h
    ·simp only[Option.some.injEq] at h;subst h;exact ih
    ·simp only[Option.some.injEq] at h;subst h;exact ih
    ·cases h
    ·cases h
    cases h
   cases h
def XC:Nat→List Nat→Bool
 |_,[]=>true
 | i,k::r=>match Nat.beq k i with
   |true=>XC (i+1) r
   |false=>false
theorem Sy:∀{i:Nat} {ks:List Nat},XC i ks=true→ks=List.range' i ks.length
 |i,[],_=>rfl
 | i,k::r,h=>by
   simp only[XC] at h;split at h
   ·rename_i G;have G:=Nat.eq_of_beq_eq_true G;subst G;have:=Sy h;rw[List.length_cons,List.range'_succ,←this]
   cases h
def Ig (i:TI):List PV→Option (List (List PV))
 |[]=>some []
 | p::r=>match mE i p with
   | some cs=>match Nat.beq cs.length i.size with
     | true=>match Ig i r with
       |some t=>some (cs::t)
       |none=>none
     |false=>none
   |none=>none
def mF (T:Tab)(H:List (Nat×aI))(t:TypeId)(len:Nat)(ks:List Nat)(vs:List AV)(id:Nat)(K:AV→List (Nat×aI)→Prop):Prop:=
 match lk T t with
 | some i=>match i.d with
   | .slt e=>match lk T e with
     | some Q=>tiF Q fun J X=>match Nat.beq J 0,XC 0 ks,Nat.beq ks.length len,Nat.ble (len*J) 16777216 with
       | false,true,true,true=>match Ie H vs with
         | some V=>match Ig Q V,JZ H (fH vs) with
           | some G,some S=>match Nat.beq G.length len with
             |true=>K (.aO id 0) ((id,.arr e 0 J G)::S)
             |false=>False
           |_,_=>False
         |none=>False
       |_,_,_,_=>False
     |none=>False
   |_=>False
 |none=>False
section
variable {P:Program}{T:Tab}{c:Ctx}{R:Real}{s:AS}{a:Act}{w:World}
theorem aeY {st:Nat}:∀(vs:List Value) (G:Nat) (cells:Array Value),(∀v∈vs,v.cells.size=st)→(G+vs.length)*st≤cells.size →
  ∃r,Instr.fill (fun i=>some (i*st,st)) cells ((List.range' G vs.length).zip vs)=some r ∧
   r.toList=cells.toList.take (G*st)++(vs.map (·.cells.toList)).flatten++cells.toList.drop ((G+vs.length)*st)
 |[],G,cells,_,_=>⟨cells,rfl,by simp⟩
 | v::vs,G,cells,hv,K=>by
   have J:v.cells.size=st:=hv v List.mem_cons_self;have X:(G+(v::vs).length)*st=G*st+st+vs.length*st:=by simp only[List.length_cons,Nat.add_mul,Nat.one_mul];omega
   have e2:(G+1+vs.length)*st=G*st+st+vs.length*st:=by simp only[Nat.add_mul,Nat.one_mul]
   have e3:(G+1)*st=G*st+st:=by simp only[Nat.add_mul,Nat.one_mul]
   rw[X] at K;have hl:v.cells.toList.length=st:=by simpa using J
   have Q:(v.cells.zipIdx.foldl (fun cs (x:Value×Nat)=>cs.setIfInBounds (G*st+x.2) x.1) cells).toList=cells.toList.take (G*st)++v.cells.toList++cells.toList.drop (G*st+v.cells.toList.length):=by
    rw[←Co (G*st) v.cells.toList cells (by omega)];rw[←Array.foldl_toList,Array.toList_zipIdx]
   generalize S:v.cells.zipIdx.foldl (fun cs (x:Value×Nat)=>cs.setIfInBounds (G*st+x.2) x.1) cells=cs1 at Q;have V:cs1.size=cells.size:=by
    rw[←Array.length_toList,Q];simp only[List.length_append,List.length_take,List.length_drop,Array.length_toList,J];omega
   obtain⟨r,hr,hk⟩:=aeY vs (G+1) cs1 (fun u hu=>hv u (List.mem_cons_of_mem _ hu)) (by rw[V,e2];exact K);refine⟨r,?_,?_⟩
   ·simp only[List.length_cons,List.range'_succ,List.zip_cons_cons,Instr.fill,J];rw[if_neg (by simp;omega),←hr,S]
   have h0:(cells.toList.take (G*st)).length=G*st:=by simp;omega
   have h1:(cells.toList.take (G*st)++v.cells.toList).length=G*st+st:=by rw[List.length_append,h0,hl]
   rw[hk,X,e2,e3,Q];have t1:List.take (G*st+st) (cells.toList.take (G*st)++v.cells.toList++cells.toList.drop (G*st+v.cells.toList.length))=cells.toList.take (G*st)++v.cells.toList:=by
    rw[List.take_left' h1]
   have t2:List.drop (G*st+st+vs.length*st) (cells.toList.take (G*st)++v.cells.toList++cells.toList.drop (G*st+v.cells.toList.length))=cells.toList.drop (G*st+st+vs.length*st):=by
    rw[←List.drop_drop,List.drop_left' h1,List.drop_drop,hl]
   rw[t1,t2];simp
theorem Cq {N:Nat→Prop}{i:TI}:∀{ps:List PV} {rows:List (List PV)} {us:List Value},Ig i ps=some rows→FL (bL N w) ps us →
  rows.length=ps.length∧(∀v∈us,v.cells.size=i.size)∧dI N w i.size rows (us.map (·.cells.toList)).flatten
 | [],rows,us,h,G=>by
   simp only[Ig,Option.some.injEq] at h;subst h;simp only[FL] at G;subst G;exact⟨rfl,by simp,by simp[dI]⟩
 | p::ps,rows,us,h,G=>by
   obtain⟨v,r,rfl,hv,G⟩:=G;simp only[Ig] at h;split at h
   ·rename_i cs Q;split at h
    ·rename_i K;have K:=Nat.eq_of_beq_eq_true K;split at h
     ·rename_i t ht;simp only[Option.some.injEq] at h;subst h;obtain⟨S,V,X⟩:=Cq ht G;have hc:=uW Q hv;have J:v.cells.size=i.size:=by rw[←K,←hc.length];simp
      refine⟨by simp[S],fun u G=>?_,?_⟩
      ·rcases List.mem_cons.1 G with rfl|G
       ·exact J
       exact V u G
      simp only[List.map_cons,List.flatten_cons];refine⟨K,by rw[fA];exact hc.fp.app _,?_⟩;rw[List.drop_left' (by simpa using J)];exact X
     cases h
    cases h
   cases h
theorem pF (g:bN c R s a w)(hT:dB P T){H:List (Nat×aI)}(hH:∀b box,lk H b=some box→lk s.hp b=some box){id:Nat}(hf:lk s.hp id=none)
  {t:TypeId} {len:Nat} {ks:List Nat} {vs:List AV} {us:List Value} {K:AV→List (Nat×aI)→Prop} (h:mF T H t len ks vs id K) (hv:FL (au (bA c R s.hp) w s.hp R) vs us) :
  ∃y w' R' z ws,(Instr.buildSlice t len (ks.zip us).toArray).run P w=.ok y w'∧K z ws∧bN c R' (s.app ws) a w'∧au (bA c R' (ws++s.hp)) w' (ws++s.hp) R' z y:=by
 unfold mF at h;simp only[fF] at h;split at h;rotate_left;cases h
 rename_i i hi;obtain⟨d,hd,jb⟩:=(hT t i hi).jr;split at h;rotate_left;cases h
 rename_i e ao;have ht:P.underlying t=some (.slice e):=by
  rw[ao] at jb;cases d<;>simp[di] at jb
  subst jb;exact hd
 split at h;rotate_left;cases h
 rename_i G rD;have jl:=hT _ _ rD;obtain⟨zv,ap,aq,ar⟩:=jl.zx w;split at h;rotate_left;cases h
 rename_i aa V Q ad;have aa:=Nat.ne_of_beq_eq_false aa;have V:=Sy V;have Q:=Nat.eq_of_beq_eq_true Q;have ad:=Nat.le_of_ble_eq_true ad;split at h;rotate_left;cases h
 rename_i ps al;split at h;rotate_left;cases h
 rename_i rows fs X ae;split at h;rotate_left;cases h
 rename_i S;have S:=Nat.eq_of_beq_eq_true S;obtain⟨g1,m1,n1,o1⟩:=kE g hH _ _ ae;have uX:=iQ g hH n1 vs ps us (fun b hb=>o1 b (.inr hb)) al (by rw[eZ];exact hv);rw[jF] at uX;obtain⟨q1,q2,q3⟩:=Cq X uX;have XD:us.length=len:=by rw[uX.length,←q1,S]
 have ai:((Array.range (len*G.size)).map fun x=>(if len*G.size=0 then (#[]:Array Value) else zv.cells)[x%(if len*G.size=0 then (#[]:Array Value) else zv.cells).size]!).size=len*G.size:=by simp
 obtain⟨r,J,am⟩:=aeY us 0 ((Array.range (len*G.size)).map fun x=>(if len*G.size=0 then (#[]:Array Value) else zv.cells)[x%(if len*G.size=0 then (#[]:Array Value) else zv.cells).size]!) q2 (by rw[ai,XD];simp);have ag:r.toList=(us.map (·.cells.toList)).flatten:=by
  rw[am,XD];simp only[Nat.zero_mul,List.take_zero,List.nil_append,Nat.zero_add];rw[List.drop_eq_nil_of_le (by simp),List.append_nil]
 have fq:lk (s.app fs).hp id=none:=by
  show lk (fs++s.hp) id=none
  rw[A9];cases hx:lk fs id with
  |none=>exact hf
  | some b=>
    have:=Sw _ _ ae id (by rw[hx];rfl);cases hy:lk H id with
    |none=>rw[hy] at this;cases this
    |some box=>rw[hH _ _ hy] at hf;cases hf
 have af:dI (bA c R (s.app fs).hp) w G.size rows r.toList:=by rw[ag];exact q3
 obtain⟨t1,t2,t3⟩:=gH af;have ah:r.toList.length=len*G.size:=by
  rw[ag];have:∀us:List Value,(∀v∈us,v.cells.size=G.size)→(us.map (·.cells.toList)).flatten.length=us.length*G.size:=by
   intro us;induction us with
   |nil=>intro _;simp
   | cons v us ih=>
     intro h;have:=ih fun u hu=>h u (List.mem_cons_of_mem _ hu)
     simp only[List.map_cons,List.flatten_cons,List.length_append,this,Array.length_toList,h v List.mem_cons_self,List.length_cons,Nat.add_mul];omega
  rw[this us q2,XD]
 have ak:len≤maxLen:=by
  have:len≤len*G.size:=Nat.le_mul_of_pos_right _ (Nat.pos_of_ne_zero aa);unfold maxLen;omega
 obtain⟨R',g2,r2⟩:=g1.XE (e:=e) (st:=G.size) (rows:=rows) (w':={ w with heap:=w.heap.push (.cells r e) }) (cur:=r) (cap:=len) fq ⟨rfl,rfl,rfl,rfl⟩ (by omega) ak
  (by rw[←Array.length_toList];exact ah) af
 refine⟨.slice (some ⟨w.heap.size,0,none⟩) len len,_,R',_,_,?_,h,g2,by rw[S] at r2;exact r2⟩;rw[XD,←Q,←V,Q] at J;have Pf:¬len*G.size>2 ^ 24:=by omega
 by_cases hz:len*G.size=0
 ·simp only[if_pos hz] at J;simp only[Instr.buildSlice,Sem.run_bind,run_underlying ht,Result.andThen_ok,jl.run_sizeOf,if_neg Pf,if_pos hz,Sem.run_pure,J,newRow,run_newObj]
 simp only[if_neg hz] at J;simp only[Instr.buildSlice,Sem.run_bind,run_underlying ht,Result.andThen_ok,jl.run_sizeOf,if_neg Pf,if_neg hz,ap,Sem.run_pure,J,newRow,run_newObj]
end
def uY (T:Tab)(t:TypeId)(vs:List AV)(id:Nat)(K:AV→List (Nat×aI)→Prop):Prop:=
 match vs with
 | [.pv (.sc (.int _ l)),.pv (.sc (.int _ n))]=>match lk T t with
   | some i=>match i.d with
     | .slt e=>match lk T e with
       | some G=>tiF G fun J Q=>match Nat.beq J 0,zPV G.zero with
         |false,some z=>0≤l∧l≤n∧n≤9223372036854775807∧(Q:Int)*n≤281474976710656∧K (.aO id 0) [(id,.arr e 0 J (List.replicate l.toNat z))]
         |_,_=>False
       |none=>False
     |_=>False
   |none=>False
 |_=>False
def Bb (T:Tab)(t:TypeId)(id:Nat)(K:AV→List (Nat×aI)→Prop):Prop:=
 match lk T t with
 | some i=>match zAV i.zero with
   |some z=>K (.ptr id 0) [(id,.var z)]
   |none=>False
 |none=>False
def Ux (T:Tab)(t:TypeId)(x:AV)(id:Nat)(K:AV→List (Nat×aI)→Prop):Prop:=
 match lk T t with
 | some i=>match cellsOf i x with
   |some cs=>K (.ptr id 0) [(id,.var cs)]
   |none=>False
 |none=>False
def qY (T:Tab)(H:List (Nat×aI))(src G:TypeId)(x:AV)(K:AV→List (Nat×aI)→Prop):Prop:=
 match lk T G with
 | some J=>match J.d with
   | .slt e=>match lk T src,lk T e with
     | some S,some Q=>match S.d,Q.d with
       | .LB,.Bc .u8=>match x with
         |.pv (.sc (.string str))=>str.size≤140737488355328∧K (.pv (.sl false 1 (str.data.toList.map lD))) []
         |_=>False
       |_,_=>False
     |_,_=>False
   |_=>uZ T H src G x fun v=>K v []
 |none=>False
def nL (T:Tab)(H:List (Nat×aI))(t:TypeId)(G hi J:Option Operand)(vs:List AV)(K:AV→List (Nat×aI)→Prop):Prop:=
 match vs with
 | .aO b ver::r=>match uU (lk H b) ver,JZ H [b] with
   |some p,some Q=>pG T t G hi J (.pv p::r) fun v=>K v Q
   |_,_=>False
 |_=>pG T t G hi J vs fun v=>K v []
def cMM (G:Bool)(vs:List AV)(K:AV→Prop):Prop:=
 match vs with
 | [.pv (.sc (.int k a)),.pv (.sc (.int j b))]=>match decide (k=j) with
   | true=>match G with
     |true=>K (.pv (.sc (.int k (if b>a then b else a))))
     |false=>K (.pv (.sc (.int k (if b<a then b else a))))
   |false=>False
 |_=>False
def Ih (P:Program)(H:List (Nat×aI))(vs:List AV)(K:AV→List (Nat×aI)→Prop):Prop:=
 match vs with
 | .pv (.fn (.func f) first bD)::args=>match Ie H args with
   | some J=>∃r,dF P f (first++(J++bD)) r∧match DK r with
     |true=>K (.pv r) []
     | false=>match JZ H (fH args) with
       |some G=>K (.pv r) G
       |none=>False
   |none=>False
 |_=>False
section
variable {P:Program}{T:Tab}{c:Ctx}{R:Real}{s:AS}{a:Act}{w:World}
theorem FL.imp {α:Type}{Q G:α→Value→Prop}:∀{l:List α} {m:List Value},FL Q l m→(∀p v,Q p v→G p v)→FL G l m
 |[],_,h,_=>h
 |p::S,m,h,hi=>by obtain⟨v,r,e,J,K⟩:=h;exact⟨v,r,e,hi _ _ J,K.imp hi⟩
theorem EC {N:Nat→Prop}{st:Nat}{z:List PV}{zs:List Value}(K:FC (bL N w) z zs)(G:z.length=st):∀(n:Nat) (L:List Value),
  n*st≤L.length→(∀j,j<n*st→L[j]? = zs[j%st]?)→dI N w st (List.replicate n z) L
 |0,L,_,_=>by simp[dI]
 | n+1,L,Q,h=>by
   have e:(n+1)*st=st+n*st:=by rw[Nat.add_mul];omega
   rw[e] at Q h;have V:=K.length;have S:L.take st=zs:=by
    apply List.ext_getElem?;intro j;rw[List.getElem?_take];by_cases J:j<st
    ·rw[if_pos J,h j (by omega),Nat.mod_eq_of_lt J]
    rw[if_neg J];exact (List.getElem?_eq_none (by omega)).symm
   rw[List.replicate_succ];refine⟨G,?_,EC K G n (L.drop st) (by simp;omega) fun j J=>?_⟩
   ·rw[fA];have:=K.fp.app (L.drop st);rw[←S,List.take_append_drop] at this;exact this
   rw[List.getElem?_drop,h (st+j) (by omega),Nat.add_mod_left]
theorem ED {N:Nat→Prop}:∀{vs:List Value},vs.all (·.oneCell')=true→FC (bL N w) (vs.map .sc) vs
 |[],_=>rfl
 | v::vs,h=>by
   simp only[List.all_cons,Bool.and_eq_true] at h;exact⟨v,vs,rfl,h.1,by simp only[bL],ED h.2⟩
theorem LC (g:bN c R s a w)(hT:dB P T){id:Nat}(hf:lk s.hp id=none){t:TypeId}{x y:AV}{u v:Value}{K:AV→List (Nat×aI)→Prop}
  (h:uY T t [x,y] id K) (hx:au (bA c R s.hp) w s.hp R x u) (hy:au (bA c R s.hp) w s.hp R y v) :
  ∃z w' R' q ws,(Instr.makeSlice t u v).run P w=.ok z w'∧K q ws∧bN c R' (s.app ws) a w'∧au (bA c R' (ws++s.hp)) w' (ws++s.hp) R' q z:=by
 unfold uY at h;simp only[fF] at h;split at h;rotate_left;cases h
 rename_i _ k l j n aa;simp only[List.cons.injEq,and_true] at aa;obtain⟨rfl,rfl⟩:=aa;simp only[au,bL] at hx hy;subst hx;subst hy;split at h;rotate_left;cases h
 rename_i i hi;obtain⟨d,hd,jb⟩:=(hT t i hi).jr;split at h;rotate_left;cases h
 rename_i e ao;have ht:P.underlying t=some (.slice e):=by
  rw[ao] at jb;cases d<;>simp[di] at jb
  subst jb;exact hd
 split at h;rotate_left;cases h
 rename_i J rD;have jl:=hT _ _ rD;obtain⟨ti,G,Q,V,ah,X,af⟩:=jl.Ey;have Xy:G.cells.size=J.size:=by have:=jl.Xz;rw[←af] at this;simpa using this
 split at h;rotate_left;cases h
 rename_i z S hz;have S:=Nat.ne_of_beq_eq_false S;have:=Pg hz;subst this;obtain⟨h0,h1,ag,hb,hK⟩:=h;have ae:=run_make (P:=P) w t e ti G ht Q X k j l n h0 h1 (by rw[ah];exact hb) ag;have ak:(List.replicate l.toNat (J.zero.map PV.sc)).length≤n.toNat:=by simp;omega
 have am:dI (bA c R s.hp) w J.size (List.replicate l.toNat (J.zero.map PV.sc)) (madeCells G.cells (n.toNat*ti.size)).toList:=by
  refine EC (ED jl.XB) (by simpa using jl.Xz) _ _ ?_ fun j hj=>?_
  ·rw[Array.length_toList,size_madeCells,V];exact Nat.mul_le_mul_right _ (by omega)
  have ai:j<n.toNat*J.size:=Nat.lt_of_lt_of_le hj (Nat.mul_le_mul_right _ (by omega));rw[V];have ad:j%G.cells.size<G.cells.size:=Nat.mod_lt _ (by rw[Xy];exact Nat.pos_of_ne_zero S);have al:(madeCells G.cells (n.toNat*J.size))[j]? = some (G.cells[j%G.cells.size]!):=by
   simp[madeCells,ai]
  rw[Array.getElem?_toList,al,getElem!_pos G.cells _ ad,←af,Array.getElem?_toList,←Xy];exact (Array.getElem?_eq_getElem ad).symm
 obtain⟨R',g2,r2⟩:=g.XE (e:=e) (st:=J.size) (w':=w.alloc (.cells (madeCells G.cells (n.toNat*ti.size)) e)) (cap:=n.toNat) hf ⟨rfl,rfl,rfl,rfl⟩ ak (by unfold maxLen;omega)
  (by rw[size_madeCells,V]) am
 rw[List.length_replicate] at r2;exact⟨_,_,R',_,_,ae,hK,g2,r2⟩
theorem J3 (g:bN c R s a w)(hT:dB P T){id:Nat}(hf:lk s.hp id=none){t:TypeId}{K:AV→List (Nat×aI)→Prop}(h:Bb T t id K) :
  ∃z V G q ws,(Instr.alloc t true (.tuple #[])).run P w=.ok z V∧K q ws∧bN c G (s.app ws) a V∧au (bA c G (ws++s.hp)) V (ws++s.hp) G q z:=by
 unfold Bb at h;split at h;rotate_left;cases h
 rename_i i hi;have J:=hT _ _ hi;obtain⟨zv,Q,S,aa⟩:=J.zx w;split at h;rotate_left;cases h
 rename_i z hz;have:=Pe hz;subst this;obtain⟨G,X,r2⟩:=g.newVar hf (cells:=i.zero.map fun v=>.pv (.sc v)) (vs:=zv.cells) (t:=t) (by rw[S];exact xX J.XB);refine⟨_,_,G,_,_,?_,h,X,r2⟩;simp[Instr.alloc,Q,newVar,newRow]
theorem Ph (g:bN c R s a w)(hT:dB P T){id:Nat}(V:lk s.hp id=none){t:TypeId}{x:AV}{u:Value}{K:AV→List (Nat×aI)→Prop}(h:Ux T t x id K)
  (X:au (bA c R s.hp) w s.hp R x u) :
  ∃z Q G q ws,(Instr.box t u).run P w=.ok z Q∧K q ws∧bN c G (s.app ws) a Q∧au (bA c G (ws++s.hp)) Q (ws++s.hp) G q z:=by
 unfold Ux at h;split at h;rotate_left;cases h
 split at h;rotate_left;cases h
 rename_i cs J;obtain⟨G,S,r2⟩:=g.newVar V (vs:=u.cells) (t:=t) (kW J X);refine⟨_,_,G,_,_,?_,h,S,r2⟩;simp[Instr.box,newVar,newRow]
theorem Ii {N:Nat→Prop}{hp:List (Nat×aI)}{V:Bool}{x y:AV}{u v:Value}{K:AV→Prop}(h:cMM V [x,y] K)(Q:au N w hp R x u)(S:au N w hp R y v)(X:Array TypeId)(ty:TypeId) :
  ∃z q,(if V then Builtin.max_ X ty #[u,v] else Builtin.min_ X ty #[u,v]).run P w=.ok z w∧K q∧au N w hp R q z:=by
 unfold cMM at h;split at h;rotate_left;cases h
 rename_i _ k a j b G;simp only[List.cons.injEq,and_true] at G;obtain⟨rfl,rfl⟩:=G;simp only[au,bL] at Q S;subst Q;subst S;split at h;rotate_left;cases h
 rename_i J;have J:=of_decide_eq_true J;subst J;split at h
 ·exact⟨.int k (if b>a then b else a),_,by simp[Builtin.max_,Builtin.max2],h,by simp only[au,bL]⟩
 exact⟨.int k (if b<a then b else a),_,by simp[Builtin.min_,Builtin.min2],h,by simp only[au,bL]⟩
theorem LD {α:Type}(a:Array α)(x:α)(f:α→α):(a.push x).modify a.size f=a.push (f x):=by
 apply Array.ext_getElem?;intro i;simp only[Array.getElem?_modify,Array.getElem?_push];by_cases h:a.size=i
 ·subst h;simp
 rw[if_neg h,if_neg (fun e=>h e.symm),if_neg (fun e=>h e.symm)]
theorem zy (e:TypeId)(str:ByteArray):∃G K,(str.size≤G∧(str.size≤140737488355328→G≤9223372036854775807))∧(Conv.stringToBytes e str).run P w=.ok (.slice (some ⟨w.heap.size,0,none⟩) str.size G) K ∧
  ∃J V,K.heap=w.heap.push (.cells J e V)∧J.toList.take str.size=(str.data.toList.map fun b=>Value.int .u8 b.toNat)∧K.os=w.os∧K.tape=w.tape∧K.output=w.output:=by
 generalize Q:(str.data.map (fun b=>Value.int .u8 b.toNat)++Array.replicate (grownCap w str.size 0 e-str.size) (Value.int .u8 0))=X;refine⟨grownCap w str.size 0 e,(w.drew.alloc (.cells X e)).freeze ⟨w.heap.size,X.size,none⟩ 1,⟨grownCap_ge w str.size 0 e,fun hb=>by have:=grownCap_le_maxLen w str.size 0 e (by unfold maxLen;omega);unfold maxLen at this;omega⟩,?_,X,(X.size,X.size+1),?_,?_,?_,?_,?_⟩
 ·simp only[Conv.stringToBytes,Sem.run_bind,run_choose,Question.forced,Bool.false_eq_true,if_false,Result.andThen_ok,newRow,run_newObj,Sem.run_pure,markStringish,run_shape];simp only[World.shape?,Array.getElem?_push_size,Result.andThen_ok,run_freeze,Sem.run_pure];rw[←Q];rfl
 ·unfold World.freeze;rw[if_neg (by decide)];have S:(w.drew.alloc (Obj.cells X e)).heap=w.heap.push (Obj.cells X e):=rfl;simp only[S];rw[LD];simp
 ·rw[←Q];simp only[Array.toList_append,Array.toList_map];exact List.take_left' (by simp)
 ·rfl
 ·rfl
 rfl
theorem EF {N:Nat→Prop}:∀(bs:List UInt8) (r:List Value),dI N w 1 (bs.map lD) (bs.map (fun b=>Value.int .u8 b.toNat)++r)
 |[],r=>trivial
 |b::bs,r=>⟨rfl,⟨_,_,rfl,rfl,rfl,trivial⟩,by simpa using EF bs r⟩
theorem sV (g:bN c R s a w)(hT:dB P T){H:List (Nat×aI)}(hH:∀b box,lk H b=some box→lk s.hp b=some box){src G:TypeId}{x:AV}{K:AV→List (Nat×aI)→Prop}
  (h:qY T H src G x K) {u:Value} (hx:au (bA c R s.hp) w s.hp R x u) :
  ∃z Q R' q ws,(convert src G u).run P w=.ok z Q∧K q ws∧bN c R' (s.app ws) a Q∧au (bA c R' (ws++s.hp)) Q (ws++s.hp) R' q z:=by
 unfold qY at h;split at h;rotate_left;cases h
 rename_i dt ai;split at h
 ·rename_i e ah;split at h;rotate_left;cases h
  rename_i si ei ao rD;split at h;rotate_left;cases h
  rename_i ap ak;split at h;rotate_left;cases h
  rename_i str;simp only[au,bL] at hx;subst hx;obtain⟨am,h⟩:=h;obtain⟨d1,ae,e1⟩:=(hT _ _ ao).jr;obtain⟨d2,af,e2⟩:=(hT _ _ ai).jr;obtain⟨d3,ag,e3⟩:=(hT _ _ rD).jr;have q1:P.underlying src=some .string:=by rw[ap] at e1;cases d1<;>simp[di] at e1;exact ae
  have q2:P.underlying G=some (.slice e):=by rw[ah] at e2;cases d2<;>simp[di] at e2;subst e2;exact af
  have q3:P.underlying e=some (.int .u8):=by rw[ak] at e3;cases d3<;>simp[di] at e3;subst e3;exact ag
  obtain⟨S,Q,⟨aq,J⟩,X,V,fr,EG,aa,ho,ht,hu⟩:=zy (P:=P) (w:=w) e str;have J:=J am;have al:mV (fun _=>False) w Q:=by
   refine⟨by rw[EG];simp,fun r hr _=>?_,ho,ht,hu⟩;rw[EG,Array.getElem?_push];simp[Nat.ne_of_lt hr]
  refine⟨.slice (some ⟨w.heap.size,0,none⟩) str.size S,Q,R,_,[],?_,h,g.grow al,?_⟩
  ·simp only[convert,Sem.run_bind,run_underlying q1,run_underlying q2,run_underlying q3,Result.andThen_ok];exact X
  simp only[au,bL];refine⟨_,_,S,rfl,by simp,⟨by omega,J⟩,fun e=>(by cases e),fun ad ha=>?_⟩;simp only[Option.some.injEq] at ha;subst ha;refine .inr ⟨rfl,fun hn=>?_,V,e,fr,by rw[EG];simp,?_⟩
  ·have:=g.Nlt hn;simp at this
  have:=EF (w:=Q) (N:=bA c R s.hp) str.data.toList (V.toList.drop str.size);rw[←aa,List.take_append_drop] at this;simpa using this
 obtain⟨y,z,h1,h2,h3⟩:=LF g hT hH h hx;exact⟨y,w,R,z,[],h1,h2,g,h3⟩
theorem G9 (g:bN c R s a w)(hT:dB P T){H:List (Nat×aI)}(hH:∀b box,lk H b=some box→lk s.hp b=some box){t:TypeId}{x0:Operand}{Q hi S:Option Operand}{vs:List AV}
  {K:AV→List (Nat×aI)→Prop} (h:nL T H t Q hi S vs K)
  (G:FL (au (bA c R s.hp) w s.hp R) vs ((x0::(Q.toList++(hi.toList++S.toList))).map a.eval)) :
  ∃y z ws,(Instr.sliceAt t (a.eval x0) (Q.map a.eval) (hi.map a.eval) (S.map a.eval)).run P w=.ok y w∧K z ws∧bN c R (s.app ws) a w∧au (bA c R (ws++s.hp)) w (ws++s.hp) R z y:=by
 unfold nL at h;split at h
 ·rename_i b ver r;split at h;rotate_left;cases h
  rename_i p J ae ad;obtain⟨g1,m1,n1,o1⟩:=kE g hH _ _ ad;simp only[List.map_cons] at G;obtain⟨u,r',e1,hx,G⟩:=G;have af:bL (bA c R (J++s.hp)) w p u:=by
   refine rE g hH n1 (.aO b ver) p u (fun b' aa=>o1 b' (.inr (by simpa[refs] using aa))) ?_ hx;simpa[vw] using ae
  have ag:FL (au (bA c R (s.app J).hp) w (s.app J).hp R) (.pv p::r) ((x0::(Q.toList++(hi.toList++S.toList))).map a.eval):=by
   simp only[List.map_cons,e1];exact⟨u,r',rfl,(by simp only[au];exact af),G.imp m1⟩
  obtain⟨y,z,V,X,h3⟩:=zA g1 hT h ag;exact⟨y,z,J,V,X,g1,h3⟩
 obtain⟨y,z,V,X,h3⟩:=zA g hT h G;exact⟨y,z,[],V,X,g,h3⟩
mutual
theorem zB {N N':Nat→Prop}{w w':World}:∀(p:PV) (v:Value),DK p=true→bL N w p v→bL N' w' p v
 |.sc x,v,_,h=>by simpa only[bL] using h
 | .agg cs,v,hs,h=>by
   simp only[bL] at h ⊢;obtain⟨vs,e,h⟩:=h;exact⟨vs,e,EH cs _ (by simpa[DK] using hs) h⟩
 | .cK cs,v,hs,h=>by
   simp only[bL] at h ⊢;obtain⟨vs,e,h⟩:=h;exact⟨vs,e,EJ cs _ (by simpa[DK] using hs) h⟩
 |.sl _ _ _,v,hs,h=>by simp[DK] at hs
 |.dU _ _,v,hs,h=>by simp[DK] at hs
 |.fn _ _ _,v,hs,h=>by simp[DK] at hs
 |.junk,v,hs,h=>by simp only[bL]
 |.O8 _ _,v,hs,h=>by simp[DK] at hs
theorem EH {N N':Nat→Prop}{w w':World}:∀(ps:List PV) (vs:List Value),EL ps=true→jk N w ps vs→jk N' w' ps vs
 |[],vs,_,h=>by simpa only[jk] using h
 | p::ps,vs,hs,h=>by
   simp only[EL] at hs;split at hs
   ·rename_i Q;simp only[jk] at h ⊢;obtain⟨v,r,e,G,J,K⟩:=h;exact⟨v,r,e,G,zB p v Q J,EH ps r hs K⟩
   cases hs
theorem EJ {N N':Nat→Prop}{w w':World}:∀(ps:List PV) (vs:List Value),EL ps=true→fE N w ps vs→fE N' w' ps vs
 |[],vs,_,h=>by simpa only[fE] using h
 | p::ps,vs,hs,h=>by
   simp only[EL] at hs;split at hs
   ·rename_i K;simp only[fE] at h ⊢;obtain⟨v,r,e,G,J⟩:=h;exact⟨v,r,e,zB p v K G,EJ ps r hs J⟩
   cases hs
end
theorem LG (g:bN c R s a w){H:List (Nat×aI)}(hH:∀b box,lk H b=some box→lk s.hp b=some box){fv:AV}{args:List AV}{K:AV→List (Nat×aI)→Prop}(h:Ih P H (fv::args) K)
  {u:Value} {us:List Value} (hf:au (bA c R s.hp) w s.hp R fv u) (hv:FL (au (bA c R s.hp) w s.hp R) args us) :
  ∃f first bD,u=.func (.func f) first bD∧Enters P f∧Calls P f (first++us.toArray++bD) w fun e w'=>∃v z ws,e=.returned v∧K z ws∧bN c R (s.app ws) a w'∧au (bA c R (ws++s.hp)) w' (ws++s.hp) R z v:=by
 unfold Ih at h;split at h;rotate_left;cases h
 rename_i f first bD af S
 simp only[List.cons.injEq] at S;obtain⟨rfl,rfl⟩:=S;split at h;rotate_left;cases h
 rename_i ps ae;obtain⟨r,aa,h⟩:=h;simp only[au,bL] at hf;obtain⟨fs,cs,rfl,V,X⟩:=hf;refine⟨f,fs,cs,rfl,aa.1,?_⟩;let F:Nat→Prop:=fun r=>bA c R s.hp r∧¬∃b,b∈fH args∧aQ R b r (lk s.hp b)
 have Q:∀r,F r→bA c R s.hp r:=fun r h=>h.1
 have uX:fE F w ps us:=by
  refine iQ g hH Q args ps us (fun b hb r ho hF=>hF.2 ⟨b,hb,ho⟩) ae ?_;rw[eZ];exact hv
 have G:fE F w (first++(ps++bD)) (fs++us.toArray++cs).toList:=by
  rw[jF] at uX V X ⊢;have mono:∀{l:List PV} {m:List Value},FL (bL (bA c R s.hp) w) l m→FL (bL F w) l m:=by
   intro l;induction l with
   |nil=>intro m h;exact h
   |cons x l ih=>intro m h;obtain⟨v,r,e,h1,h2⟩:=h;exact⟨v,r,e,dV (fun r _ h=>Q r h) (fun _ _ _=>rfl) _ _ h1,ih h2⟩
  have e:(fs++us.toArray++cs).toList=fs.toList++(us++cs.toList):=by simp
  rw[e];exact (mono V).app (uX.app (mono X))
 refine (aa.2 F w _ (fun r h=>g.Nlt h.1) G).mono ?_;rintro e w' ⟨v,r',rfl,rfl,hr,J⟩
 have g2:=g.grow J;split at h
 ·rename_i hs;refine⟨v,_,[],rfl,h,g2,?_⟩;simp only[au];exact zB _ _ hs hr
 split at h
 ·rename_i fz ad;obtain⟨g3,m1,n1,o1⟩:=kE g2 hH _ _ ad;refine⟨v,_,fz,rfl,h,g3,?_⟩;simp only[au];refine dV ?_ (fun _ _ _=>rfl) _ _ hr;intro r _ hN;exact⟨n1 r hN,fun⟨b,hb,ho⟩=>o1 b (.inr hb) r ho hN⟩
 exact h.elim
end
abbrev Ren:=List (Nat×(Nat×Nat))
def jG (ρ:Ren)(b:Nat):Nat:=
 match lk ρ b with
 | some p=>match p with
   |(x,_)=>x
 |none=>b+2000000000
def Eb (ρ:Ren)(b:Nat):Nat:=
 match lk ρ b with
 | some p=>match p with
   |(_,d)=>d
 |none=>0
section
variable (ρ:Ren)
mutual
def mH:AV→AV
 |.pv p=>.pv p
 |.agg cs=>.agg (jS cs)
 |.cK cs=>.cK (jS cs)
 |.ptr b off=>.ptr (jG ρ b) off
 |.eY b ver i off=>.eY (jG ρ b) (ver+Eb ρ b) i off
 |.aO b ver=>.aO (jG ρ b) (ver+Eb ρ b)
 |.sub b ver J G hi=>.sub (jG ρ b) (ver+Eb ρ b) J G hi
 |.fn f first bD=>.fn f (jS first) (jS bD)
def jS:List AV→List AV
 |[]=>[]
 |v::r=>mH v::jS r
end
def ig (b:Nat):aI→aI
 |.var G=>.var (jS ρ G)
 |.oN G=>.oN G
 |.arr e ver K J=>.arr e (ver+Eb ρ b) K J
 |.d9 ver K J=>.d9 (ver+Eb ρ b) K J
 |.tr y ver rest K=>.tr y (ver+Eb ρ b) rest K
 |.iP e ver K pre Q post=>.iP e (ver+Eb ρ b) K pre (jS ρ Q) post
end
theorem Ir (ρ:Ren):∀(vs:List AV),(jS ρ vs).length=vs.length
 |[]=>rfl
 |v::r=>by simp[jS,Ir ρ r]
theorem Bl {R R':Real}{b G n:Nat}(J:R'.blk G=R.blk b)(K:R'.nil G=R.nil b)(Q:R'.cap G=R.cap b):dW R' G n=dW R b n:=by
 simp only[dW,J,K,Q]
section
variable {ρ:Ren}{N:Nat→Prop}{w:World}{mR hp:List (Nat×aI)}{R0 R:Real}
variable (h:∀b box,lk mR b=some box→lk hp (jG ρ b)=some (ig ρ b box)∧R.blk (jG ρ b)=R0.blk b∧R.nil (jG ρ b)=R0.nil b∧R.cap (jG ρ b)=R0.cap b)
include h
theorem Qb {b off:Nat}{x:Value}(G:bf R0 b off x (lk mR b)):bf R (jG ρ b) off x (lk hp (jG ρ b)):=by
 cases J:lk mR b with
 |none=>rw[J] at G;exact G.elim
 | some box=>
   obtain⟨e,K,Q,S⟩:=h b box J;rw[J] at G;rw[e];cases box<;>simp only[bf,ig,K] at G ⊢ <;> exact G
theorem Iu {b ver:Nat}{x:Value}(G:aX R0 b ver x (lk mR b)):aX R (jG ρ b) (ver+Eb ρ b) x (lk hp (jG ρ b)):=by
 cases J:lk mR b with
 |none=>rw[J] at G;exact G.elim
 | some box=>
   obtain⟨e,K,Q,S⟩:=h b box J;rw[J] at G;rw[e];cases box<;>simp only[aX,ig,Bl K Q S] at G ⊢ <;> first
    |exact G
    |exact⟨Nat.zero_le _,G.2.1,G.2.2⟩
    |exact⟨by omega,G.2.1,fun V=>G.2.2 (by omega)⟩
theorem U1 {b ver i off:Nat}{x:Value}(G:bC R0 b ver i off x (lk mR b)):bC R (jG ρ b) (ver+Eb ρ b) i off x (lk hp (jG ρ b)):=by
 cases J:lk mR b with
 |none=>rw[J] at G;exact G.elim
 | some box=>
   obtain⟨e,K,Q,S⟩:=h b box J;rw[J] at G;rw[e];cases box<;>simp only[bC,ig,K,Q,S] at G ⊢ <;> first
    |exact G
    |exact⟨Nat.zero_le _,G.2.1,G.2.2⟩
    |exact⟨by omega,G.2.1,fun V=>G.2.2 (by omega)⟩
mutual
theorem Km:∀(v:AV) (x:Value),au N w mR R0 v x→au N w hp R (mH ρ v) x
 |.pv p,x=>by simp only[au,mH];exact id
 |.agg cs,x=>by simp only[au,mH];rintro⟨vs,a,b⟩;exact⟨vs,a,zP cs _ b⟩
 |.cK cs,x=>by simp only[au,mH];rintro⟨vs,a,b⟩;exact⟨vs,a,zQ cs _ b⟩
 |.ptr b off,x=>by simp only[au,mH];exact Qb h
 |.aO b ver,x=>by simp only[au,mH];exact Iu h
 |.sub b ver K J hi,x=>by simp only[au,mH];rintro⟨u,a,c⟩;exact⟨u,Iu h a,c⟩
 |.eY b ver i off,x=>by simp only[au,mH];exact U1 h
 | .fn f first bD,x=>by
   simp only[au,mH];rintro⟨G,cs,a,b,c⟩;exact⟨G,cs,a,zQ _ _ b,zQ _ _ c⟩
theorem zQ:∀(vs:List AV) (xs:List Value),dw N w mR R0 vs xs→dw N w hp R (jS ρ vs) xs
 |[],xs=>by simp only[dw,jS];exact id
 |p::G,xs=>by simp only[dw,jS];rintro⟨v,r,a,b,c⟩;exact⟨v,r,a,Km p v b,zQ G r c⟩
theorem zP:∀(vs:List AV) (xs:List Value),dZ N w mR R0 vs xs→dZ N w hp R (jS ρ vs) xs
 |[],xs=>by simp only[dZ,jS];exact id
 |p::G,xs=>by simp only[dZ,jS];rintro⟨v,r,a,d,b,c⟩;exact⟨v,r,a,d,Km p v b,zP G r c⟩
end
end
section
variable {ρ:Ren}{N:Nat→Prop}{w:World}{mR hp:List (Nat×aI)}{R0 R:Real}
variable (h:∀b box,lk hp (jG ρ b)=some box→∃box0,lk mR b=some box0∧box=ig ρ b box0∧R.blk (jG ρ b)=R0.blk b∧R.nil (jG ρ b)=R0.nil b∧R.cap (jG ρ b)=R0.cap b)
include h
theorem Qc {b off:Nat}{x:Value}(G:bf R (jG ρ b) off x (lk hp (jG ρ b))):bf R0 b off x (lk mR b):=by
 cases J:lk hp (jG ρ b) with
 |none=>rw[J] at G;exact G.elim
 | some box=>
   obtain⟨box0,e,rfl,K,Q,S⟩:=h b box J;rw[J] at G;rw[e];cases box0<;>simp only[bf,ig,K] at G ⊢ <;> exact G
theorem Iw {b ver:Nat}{x:Value}(G:aX R (jG ρ b) (ver+Eb ρ b) x (lk hp (jG ρ b))):aX R0 b ver x (lk mR b):=by
 cases J:lk hp (jG ρ b) with
 |none=>rw[J] at G;exact G.elim
 | some box=>
   obtain⟨box0,e,rfl,K,Q,S⟩:=h b box J;rw[J] at G;rw[e];cases box0<;>simp only[aX,ig,Bl K Q S] at G ⊢ <;> first
    |exact G
    |exact⟨Nat.zero_le _,G.2.1,G.2.2⟩
    |exact⟨by omega,G.2.1,fun V=>G.2.2 (by omega)⟩
theorem U2 {b ver i off:Nat}{x:Value}(G:bC R (jG ρ b) (ver+Eb ρ b) i off x (lk hp (jG ρ b))):bC R0 b ver i off x (lk mR b):=by
 cases J:lk hp (jG ρ b) with
 |none=>rw[J] at G;exact G.elim
 | some box=>
   obtain⟨box0,e,rfl,K,Q,S⟩:=h b box J;rw[J] at G;rw[e];cases box0<;>simp only[bC,ig,K,Q,S] at G ⊢ <;> first
    |exact G
    |exact⟨Nat.zero_le _,G.2.1,G.2.2⟩
    |exact⟨by omega,G.2.1,fun V=>G.2.2 (by omega)⟩
mutual
theorem SV:∀(v:AV) (x:Value),au N w hp R (mH ρ v) x→au N w mR R0 v x
 |.pv p,x=>by simp only[au,mH];exact id
 |.agg cs,x=>by simp only[au,mH];rintro⟨vs,a,b⟩;exact⟨vs,a,Mq cs _ b⟩
 |.cK cs,x=>by simp only[au,mH];rintro⟨vs,a,b⟩;exact⟨vs,a,zR cs _ b⟩
 |.ptr b off,x=>by simp only[au,mH];exact Qc h
 |.aO b ver,x=>by simp only[au,mH];exact Iw h
 |.sub b ver K J hi,x=>by simp only[au,mH];rintro⟨u,a,c⟩;exact⟨u,Iw h a,c⟩
 |.eY b ver i off,x=>by simp only[au,mH];exact U2 h
 | .fn f first bD,x=>by
   simp only[au,mH];rintro⟨G,cs,a,b,c⟩;exact⟨G,cs,a,zR _ _ b,zR _ _ c⟩
theorem zR:∀(vs:List AV) (xs:List Value),dw N w hp R (jS ρ vs) xs→dw N w mR R0 vs xs
 |[],xs=>by simp only[dw,jS];exact id
 |p::G,xs=>by simp only[dw,jS];rintro⟨v,r,a,b,c⟩;exact⟨v,r,a,SV p v b,zR G r c⟩
theorem Mq:∀(vs:List AV) (xs:List Value),dZ N w hp R (jS ρ vs) xs→dZ N w mR R0 vs xs
 |[],xs=>by simp only[dZ,jS];exact id
 |p::G,xs=>by simp only[dZ,jS];rintro⟨v,r,a,d,b,c⟩;exact⟨v,r,a,d,SV p v b,Mq G r c⟩
end
end
structure zH (c:Ctx)(R:Real)(hp:List (Nat×aI))(w:World):Prop where
 boxes:∀b box,lk hp b=some box→fK (bA c R hp) w hp R b box
 inj:∀b b' r,aQ R b r (lk hp b)→aQ R b' r (lk hp b')→b=b'
 free:∀r,owned R hp r→¬c.F r
 jV:mV c.O c.w w
 jy:∀r,owned R hp r→c.O r∨c.w.heap.size≤r
 kept:∀v x,c.K v x→au (bA c R hp) w hp R v x
 fixed:uF c.fix (owned R hp) w
 lo:R.Y.n0=c.n0∧c.n0.1≤c.lo∧c.lo≤w.heap.size
theorem bN.hap {c:Ctx}{R:Real}{s:AS}{a:Act}{w:World}(g:bN c R s a w):zH c R s.hp w:=
 ⟨g.boxes,g.inj,g.free,g.jV,g.jy,g.kept,g.fixed,g.lo⟩
theorem zH.X3 {c:Ctx}{R:Real}{hp:List (Nat×aI)}{w:World}(h:zH c R hp w){tm:List (Nat×AV)}{nx:Nat}{a:Act}
  (hs:∀t v,lk tm t=some v→∃x,a.tmps[t]? = some x∧au (bA c R hp) w hp R v x) (K:a.tmps.size=c.n) (J:∃G,Marks c.lo (owned R hp) w a.defers G):bN c R ⟨tm,nx,hp⟩ a w:=
 ⟨hs,K,h.lo,J,h.fixed,h.boxes,h.inj,h.free,h.jV,h.jy,h.kept⟩
inductive Src where
 |old (b d:Nat)
 |nil
abbrev ze:=List (Nat×Src)
def Yn (v:AV):Option (List AV):=
 match v with
 |.agg cs=>some cs
 |.pv (.agg G)=>some (G.map .pv)
 |_=>none
def Yo (v:AV):Option (List AV):=
 match v with
 |.cK cs=>some cs
 |.pv (.cK G)=>some (G.map .pv)
 |_=>none
def Qd (v:AV):Option (Fn×List AV×List AV):=
 match v with
 |.fn f a c=>some (f,a,c)
 |.pv (.fn f a c)=>some (f,a.map .pv,c.map .pv)
 |_=>none
mutual
def tH:PV→PV→Prop
 |.junk,_=>True
 | .sc v,q=>match v with
   | .int k b=>match q with
     |.sc (.int j a)=>j=k∧a=b
     |_=>False
   | .bool b=>match q with
     |.sc (.bool a)=>a=b
     |_=>False
   |v=>q=.sc v
 | .sl nn V G,q=>match q with
   |.sl J X aR=>(nn=true→J=true)∧X=V∧jc G aR
   |.sc (.slice none 0 0)=>nn=false∧G=[]
   |_=>False
 | .agg K,q=>match q with
   |.agg Q=>kL K Q
   |_=>False
 | .cK K,q=>match q with
   |.cK Q=>kL K Q
   |_=>False
 |.dU S off,q=>q=.dU S off
 |.fn f a b,q=>q=.fn f a b
 |.O8 V G,q=>q=.O8 V G
def kL:List PV→List PV→Prop
 | [],G=>match G with
   |[]=>True
   |_=>False
 | p::J,G=>match G with
   |q::G=>tH p q∧kL J G
   |[]=>False
def jc:List (List PV)→List (List PV)→Prop
 | [],G=>match G with
   |[]=>True
   |_=>False
 | p::J,G=>match G with
   |q::G=>kL p q∧jc J G
   |[]=>False
end
abbrev Yp (q p:PV):Prop:=tH p q
abbrev zS (q p:List PV):Prop:=kL p q
def leP (v:AV)(p:PV):Prop:=
 match p with
 |.junk=>True
 | p=>match v with
   |.pv q=>Yp q p
   |_=>False
section
variable (ρ:ze)
mutual
def le:AV→AV→Prop
 |v,.pv p=>leP v p
 | v,.ptr b off=>match lk ρ b with
   |some (.old x _)=>v=.ptr x off
   |_=>False
 | v,.aO b ver=>match lk ρ b with
   |some (.old x d)=>v=.aO x (ver+d)
   |some .nil=>ver=0∧v=.pv (.sc (.slice none 0 0))
   |none=>False
 | v,.sub b ver K J hi=>match lk ρ b with
   |some (.old x d)=>v=.sub x (ver+d) K J hi
   |_=>False
 | v,.eY b ver i off=>match Nat.beq b 999 with
   |true=>False
   | false=>match lk ρ b with
     |some (.old x d)=>v=.eY x (ver+d) i off
     |_=>False
 | v,.agg cs=>match Yn v with
   |some us=>Iy us cs
   |none=>False
 | v,.cK cs=>match Yo v with
   |some us=>Iy us cs
   |none=>False
 | v,.fn f a c=>match Qd v with
   |some (g,G,c')=>g=f∧Iy G a∧Iy c' c
   |none=>False
def Iy:List AV→List AV→Prop
 |[],[]=>True
 |u::us,v::vs=>le u v∧Iy us vs
 |_,_=>False
end
end
def xJ (ρ:ze)(d:Nat)(o:Option aI)(box:aI):Prop:=
 match box with
 | .var J=>match o with
   |some (.var cs)=>Iy ρ cs J
   |_=>False
 | .oN J=>match o with
   |some (.oN cs)=>cs=J
   |_=>False
 | .arr e ver V K=>match o with
   |some (.arr e' X G aR)=>e'=e∧X=ver+d∧G=V∧jc K aR
   |_=>False
 | .d9 ver V K=>match o with
   |some (.d9 X G aR)=>X=ver+d∧G=V∧jc K aR
   |some (.arr _ X G aR)=>False
   |_=>False
 | .tr y _ rest V=>match o with
   |some (.tr y' _ S G)=>y'=y∧S=rest∧G=V
   |_=>False
 | .iP e ver V pre ad post=>match o with
   |some (.iP e' X G aa vB Q)=>e'=e∧X=ver+d∧G=V∧jc pre aa∧Iy ρ vB ad∧jc post Q
   |_=>False
def rJ (box:aI):Prop:=
 match box with
 |.arr _ _ _ G=>G=[]
 |_=>False
structure Yq (ρ:ze)(hp hp':List (Nat×aI)):Prop where
 box:∀b box,lk hp' b=some box→match lk ρ b with
  |some (.old x d)=>xJ ρ d (lk hp x) box
  |some .nil=>rJ box
  |none=>False
 dom:∀b,(∃s,lk ρ b=some s)→∃box,lk hp' b=some box
 inj:∀b b' x d d',lk ρ b=some (.old x d)→lk ρ b'=some (.old x d')→b=b'
 low:∀b,b<1000→(∃box,lk hp b=some box)→lk ρ b=some (.old b 0)
 aiF:∀b a0 a1 a2 a3,lk hp' b=some (.tr a0 a1 a2 a3)→b=999
def qx (ρ:ze)(R:Real):Real where
 blk b:=match lk ρ b with
  |some (.old x _)=>R.blk x
  |_=>0
 nil b:=match lk ρ b with
  |some (.old x _)=>R.nil x
  |_=>true
 cap b:=match lk ρ b with
  |some (.old x _)=>R.cap x
  |_=>(0,[],0)
 Y:=R.Y
theorem vF {ρ:ze}{R:Real}{b x d:Nat}(h:lk ρ b=some (.old x d)):(qx ρ R).blk b=R.blk x∧(qx ρ R).nil b=R.nil x∧(qx ρ R).cap b=R.cap x:=by
 simp[qx,h]
theorem Fe {ρ:ze}{R:Real}{b:Nat}(h:lk ρ b=some .nil):(qx ρ R).nil b=true:=by
 simp[qx,h]
theorem SX {ρ:ze}:∀(us vs:List AV),Iy ρ us vs→us.length=vs.length
 |[],[],_=>rfl
 |[],_::_,h=>by simp only[Iy] at h
 |_::_,[],h=>by simp only[Iy] at h
 |u::us,v::vs,h=>by simp only[Iy] at h;simp[SX us vs h.2]
theorem wO {ρ:ze}{R:Real}{b x d n:Nat}(h:lk ρ b=some (.old x d)):dW (qx ρ R) b n=dW R x n:=by
 obtain⟨G,J,K⟩:=vF (R:=R) h;simp only[dW,G,J,K]
theorem oW {N:Nat→Prop}{w:World}{hp:List (Nat×aI)}{R:Real}:∀(ps:List PV) (xs:List Value),fE N w ps xs→dw N w hp R (ps.map .pv) xs
 |[],xs,h=>by simpa only[List.map,dw,fE] using h
 | p::ps,xs,h=>by
   simp only[fE] at h;obtain⟨v,r,e,G,J⟩:=h;simp only[List.map_cons,dw,au];exact⟨v,r,e,G,oW ps r J⟩
theorem Iz {N:Nat→Prop}{w:World}{hp:List (Nat×aI)}{R:Real}:∀(ps:List PV) (xs:List Value),jk N w ps xs→dZ N w hp R (ps.map .pv) xs
 |[],xs,h=>by simpa only[List.map,dZ,jk] using h
 | p::ps,xs,h=>by
   simp only[jk] at h;obtain⟨v,r,e,G,J,K⟩:=h;simp only[List.map_cons,dZ,au];exact⟨v,r,e,G,J,Iz ps r K⟩
section
mutual
theorem Yr:∀(p:PV),tH p p
 |.junk=>by unfold tH;trivial
 |.sc v=>by unfold tH;cases v<;>simp
 |.sl K Q G=>by unfold tH;exact⟨id,rfl,ay G⟩
 |.agg J=>by unfold tH;exact rM J
 |.cK J=>by unfold tH;exact rM J
 |.dU _ _=>by unfold tH;rfl
 |.fn _ _ _=>by unfold tH;rfl
 |.O8 _ _=>by unfold tH;rfl
theorem rM:∀(ps:List PV),kL ps ps
 |[]=>by unfold kL;trivial
 |p::ps=>by unfold kL;exact⟨Yr p,rM ps⟩
theorem ay:∀(ps:List (List PV)),jc ps ps
 |[]=>by unfold jc;trivial
 |p::ps=>by unfold jc;exact⟨rM p,ay ps⟩
end
theorem gJ {a b:List (List PV)}(h:b=a):jc a b:=h▸ay _
theorem Mr:∀(ps G:List PV),kL ps G→G.length=ps.length
 |[],[],_=>rfl
 |[],_::_,h=>by unfold kL at h;exact h.elim
 |_::_,[],h=>by unfold kL at h;exact h.elim
 | p::ps,q::G,h=>by
   unfold kL at h;simp[Mr ps G h.2]
theorem jH:∀(ps G:List (List PV)),jc ps G→G.length=ps.length
 |[],[],_=>rfl
 |[],_::_,h=>by unfold jc at h;exact h.elim
 |_::_,[],h=>by unfold jc at h;exact h.elim
 | p::ps,q::G,h=>by
   unfold jc at h;simp[jH ps G h.2]
theorem bW {a b c d:List (List PV)}(h:jc a b)(G:jc c d):jc (a++c) (b++d):=by
 induction a generalizing b with
 | nil=>
   cases b with
   |nil=>exact G
   |cons _ _=>unfold jc at h;exact h.elim
 | cons x a ih=>
   cases b with
   |nil=>unfold jc at h;exact h.elim
   | cons y b=>
     rw[List.cons_append,List.cons_append];unfold jc at h ⊢;exact⟨h.1,ih h.2⟩
end
section
variable {N N':Nat→Prop}{w:World}(hN:∀r,N' r→N r)
include hN
mutual
theorem oZ:∀(p q:PV) (x:Value),Yp q p→bL N w q x→bL N' w p x
 |.junk,q,x,h,G=>by simp only[bL]
 | .sc v,q,x,h,G=>by
   unfold Yp tH at h;split at h
   ·split at h
    ·obtain⟨rfl,rfl⟩:=h;simpa only[bL] using G
    exact h.elim
   ·split at h
    ·subst h;simpa only[bL] using G
    exact h.elim
   subst h;simpa only[bL] using G
 | .sl nn st J,q,x,h,G=>by
   unfold Yp tH at h;split at h
   ·obtain⟨K,rfl,h2⟩:=h;simp only[bL] at G ⊢;obtain⟨p,ad,S,a1,a2,a3,a4,a5⟩:=G;have hl:=jH _ _ h2;refine⟨p,ad,S,a1,by omega,a3,fun hp=>⟨Bool.eq_false_iff.2 fun aa=>?_,(a4 hp).2⟩,fun a X=>?_⟩
    ·have:=(a4 hp).1;rw[K aa] at this;cases this
    rcases a5 a X with Q|⟨b1,Q,V,e,fr,b3,b4⟩
    ·subst Q;exact .inl (List.eq_nil_of_length_eq_zero hl.symm)
    exact .inr ⟨b1,fun h=>Q (hN _ h),V,e,fr,b3,pQ J _ _ _ h2 b4⟩
   ·obtain⟨rfl,rfl⟩:=h;simp only[bL] at G ⊢;subst G;exact⟨none,0,0,rfl,rfl,⟨Nat.le_refl _,by omega⟩,by simp,fun a X=>(by cases X)⟩
   exact h.elim
 | .agg ps,q,x,h,G=>by
   unfold Yp tH at h;split at h
   ·simp only[bL] at G ⊢;obtain⟨vs,e,K⟩:=G;exact⟨vs,e,Cz ps _ _ h K⟩
   exact h.elim
 | .cK ps,q,x,h,G=>by
   unfold Yp tH at h;split at h
   ·simp only[bL] at G ⊢;obtain⟨vs,e,K⟩:=G;exact⟨vs,e,qE ps _ _ h K⟩
   exact h.elim
 | .O8 st J,q,x,h,G=>by
   unfold Yp tH at h;subst h;exact dV (fun r _ h=>hN r h) (fun _ _ _=>rfl) _ _ G
 | .dU ae off,q,x,h,G=>by
   unfold Yp tH at h;subst h;exact dV (fun r _ h=>hN r h) (fun _ _ _=>rfl) _ _ G
 | .fn f a b,q,x,h,G=>by
   unfold Yp tH at h;subst h;exact dV (fun r _ h=>hN r h) (fun _ _ _=>rfl) _ _ G
theorem qE:∀(ps J:List PV) (xs:List Value),zS J ps→fE N w J xs→fE N' w ps xs
 |[],[],xs,h,G=>by simpa only[fE] using G
 |[],_::_,xs,h,G=>by unfold zS kL at h;exact h.elim
 |_::_,[],xs,h,G=>by unfold zS kL at h;exact h.elim
 | p::ps,q::J,xs,h,G=>by
   unfold zS kL at h;simp only[fE] at G ⊢;obtain⟨x,r,e,K,Q⟩:=G;exact⟨x,r,e,oZ p q x h.1 K,qE ps J r h.2 Q⟩
theorem Cz:∀(ps J:List PV) (xs:List Value),zS J ps→jk N w J xs→jk N' w ps xs
 |[],[],xs,h,G=>by simpa only[jk] using G
 |[],_::_,xs,h,G=>by unfold zS kL at h;exact h.elim
 |_::_,[],xs,h,G=>by unfold zS kL at h;exact h.elim
 | p::ps,q::J,xs,h,G=>by
   unfold zS kL at h;simp only[jk] at G ⊢;obtain⟨x,r,e,K,Q,S⟩:=G;exact⟨x,r,e,K,oZ p q x h.1 Q,Cz ps J r h.2 S⟩
theorem CB:∀(ps J:List PV) (xs:List Value),zS J ps→jD N w J xs→jD N' w ps xs
 |[],[],xs,h,G=>by simp only[jD]
 |[],_::_,xs,h,G=>by unfold zS kL at h;exact h.elim
 |_::_,[],xs,h,G=>by unfold zS kL at h;exact h.elim
 | p::ps,q::J,xs,h,G=>by
   unfold zS kL at h;simp only[jD] at G ⊢;obtain⟨x,r,e,K,Q,S⟩:=G;exact⟨x,r,e,K,oZ p q x h.1 Q,CB ps J r h.2 S⟩
theorem pQ:∀(ps J:List (List PV)) (st:Nat) (xs:List Value),jc ps J→dI N w st J xs→dI N' w st ps xs
 |[],[],st,xs,h,G=>by simp only[dI]
 |[],_::_,st,xs,h,G=>by unfold jc at h;exact h.elim
 |_::_,[],st,xs,h,G=>by unfold jc at h;exact h.elim
 | p::ps,q::J,st,xs,h,G=>by
   unfold jc at h;simp only[dI] at G ⊢;obtain⟨K,Q,S⟩:=G;exact⟨by rw[←Mr _ _ h.1];exact K,CB p q xs h.1 Q,pQ ps J st _ h.2 S⟩
end
end
theorem U3 {N N':Nat→Prop}{w:World}{hp hp':List (Nat×aI)}{R R':Real}(hN:∀r,N' r→N r){v:AV}{p:PV}(h:leP v p){x:Value}(G:au N w hp R v x):bL N' w p x:=by
 unfold leP at h;split at h
 ·simp only[bL]
 split at h
 ·simp only[au] at G;exact oZ hN _ _ _ h G
 exact h.elim
section
variable {ρ:ze}{c:Ctx}{R:Real}{hp hp':List (Nat×aI)}{w:World}
theorem ae6 (H:Yq ρ hp hp'){b x d off:Nat}(J:lk ρ b=some (.old x d)){v:Value}(h:bf R x off v (lk hp x)):bf (qx ρ R) b off v (lk hp' b):=by
 obtain⟨box,Q⟩:=H.dom b ⟨_,J⟩;have G:=H.box b box Q;rw[J] at G;simp only at G;rw[Q];obtain⟨S,V,X⟩:=vF (R:=R) J;cases K:lk hp x with
 |none=>rw[K] at h;exact h.elim
 | some o=>
   rw[K] at h G;cases o<;>simp only[bf] at h<;>cases box<;>simp only[xJ] at G<;>simp only[bf,S]<;>exact h
theorem agd (H:Yq ρ hp hp'){b x d ver:Nat}(K:lk ρ b=some (.old x d)){v:Value}(h:aX R x (ver+d) v (lk hp x)):aX (qx ρ R) b ver v (lk hp' b):=by
 obtain⟨box,X⟩:=H.dom b ⟨_,K⟩;have G:=H.box b box X;rw[K] at G;simp only at G;rw[X];cases V:lk hp x with
 |none=>rw[V] at h;exact h.elim
 | some o=>
   rw[V] at h G;cases o<;>simp only[aX] at h<;>cases box<;>simp only[xJ] at G
   ·obtain⟨_,Q,S,J⟩:=G;simp only[aX,wO K,←jH _ _ J];exact⟨by omega,h.2.1,fun e=>h.2.2 (by omega)⟩
   ·obtain⟨Q,S,J⟩:=G;simp only[aX,wO K,←jH _ _ J];exact⟨by omega,h.2.1,fun e=>h.2.2 (by omega)⟩
   obtain⟨_,Q,S,J,_,e5⟩:=G;simp only[aX,wO K,←jH _ _ J,←jH _ _ e5];exact⟨by omega,h.2.1,fun e=>h.2.2 (by omega)⟩
theorem aiG (H:Yq ρ hp hp'){b x d ver i off:Nat}(Yt:Nat.beq b 999=false)(V:lk ρ b=some (.old x d)){v:Value}(h:bC R x (ver+d) i off v (lk hp x)):bC (qx ρ R) b ver i off v (lk hp' b):=by
 obtain⟨box,X⟩:=H.dom b ⟨_,V⟩;have G:=H.box b box X;rw[V] at G;simp only at G;rw[X];obtain⟨K,Q,S⟩:=vF (R:=R) V;cases ho:lk hp x with
 |none=>rw[ho] at h;exact h.elim
 | some o=>
   rw[ho] at h G;cases o<;>simp only[bC] at h<;>cases box<;>simp only[xJ] at G
   ·obtain⟨_,f2,J,f4⟩:=G;subst J;simp only[bC,K,Q,S];exact⟨by omega,h.2.1,fun e=>h.2.2 (by omega)⟩
   ·obtain⟨f2,J,f4⟩:=G;subst J;simp only[bC,K,Q,S];exact⟨by omega,h.2.1,fun e=>h.2.2 (by omega)⟩
   ·exfalso;have:=H.aiF b _ _ _ _ X;subst this;cases Yt
   obtain⟨_,f2,J,f4⟩:=G;subst J;simp only[bC,K,Q,S];exact⟨by omega,h.2.1,fun e=>h.2.2 (by omega)⟩
theorem Ff (H:Yq ρ hp hp'){b r:Nat}(h:aQ (qx ρ R) b r (lk hp' b)):∃x d,lk ρ b=some (.old x d)∧aQ R x r (lk hp x):=by
 cases K:lk hp' b with
 |none=>rw[K] at h;exact h.elim
 | some box=>
   have G:=H.box b box K;rw[K] at h;cases J:lk ρ b with
   |none=>rw[J] at G;exact G.elim
   | some s=>
     cases s with
     | nil=>
       rw[J] at G;cases box<;>simp only[rJ] at G
       simp only[aQ,Fe J] at h;simp at h
     | old x d=>
       rw[J] at G;simp only at G;refine⟨x,d,rfl,?_⟩;obtain⟨S,V,X⟩:=vF (R:=R) J;cases Q:lk hp x with
       |none=>rw[Q] at G;cases box<;>simp only[xJ] at G
       | some o=>
         rw[Q] at G;cases o<;>cases box<;>simp only[xJ] at G<;>simp only[aQ,S,V,X] at h ⊢ <;> exact h
theorem leN (H:Yq ρ hp hp'){r:Nat}(h:bA c (qx ρ R) hp' r):bA c R hp r:=by
 rcases h with h|⟨b,h⟩
 ·exact .inl h
 obtain⟨x,d,_,h⟩:=Ff H h;exact .inr ⟨x,h⟩
mutual
theorem zT (H:Yq ρ hp hp'):∀(v':AV) (v:AV) (x:Value),le ρ v v'→au (bA c R hp) w hp R v x→au (bA c (qx ρ R) hp') w hp' (qx ρ R) v' x
 | .pv p,v,x,h,G=>by
   simp only[au];simp only[le] at h;exact U3 (fun r h=>leN H h) (hp':=hp') (R':=R) h G
 | .ptr b off,v,x,h,G=>by
   simp only[le] at h;split at h;rotate_left;cases h
   rename_i y d K;subst h;simp only[au] at G ⊢;exact ae6 H K G
 | .aO b ver,v,x,h,G=>by
   simp only[le] at h;split at h
   ·rename_i y d K;subst h;simp only[au] at G ⊢;exact agd H K G
   ·rename_i K;obtain⟨rfl,rfl⟩:=h;simp only[au,bL] at G ⊢;subst G;obtain⟨box,uP⟩:=H.dom b ⟨_,K⟩;have hl:=H.box b box uP;rw[K] at hl;rw[uP];cases box<;>simp only[rJ] at hl
    subst hl;rename_i e gG st;simp only[aX,dW,Fe K];exact⟨Nat.zero_le _,rfl,fun _=>rfl⟩
   exact h.elim
 | .sub b ver st lo hi,v,x,h,G=>by
   simp only[le] at h;split at h;rotate_left;cases h
   rename_i y d K;subst h;simp only[au] at G ⊢;obtain⟨u,a,V⟩:=G;exact⟨u,agd H K a,V⟩
 | .eY b ver i off,v,x,h,G=>by
   simp only[le] at h;split at h
   ·exact h.elim
   rename_i Yt;split at h;rotate_left;cases h
   rename_i y d K;subst h;simp only[au] at G ⊢;exact aiG H Yt K G
 | .agg cs,v,x,h,G=>by
   simp only[le] at h;split at h;rotate_left;cases h
   rename_i us J;have:∃vs:Array Value,x=.agg vs∧dZ (bA c R hp) w hp R us vs.toList:=by
    unfold Yn at J;split at J
    ·simp only[Option.some.injEq] at J;subst J;simpa only[au] using G
    ·simp only[Option.some.injEq] at J;subst J;simp only[au,bL] at G;obtain⟨vs,e,Q⟩:=G;exact⟨vs,e,Iz _ _ Q⟩
    cases J
   obtain⟨vs,e,Q⟩:=this;simp only[au];exact⟨vs,e,tJ H cs us _ h Q⟩
 | .cK cs,v,x,h,G=>by
   simp only[le] at h;split at h;rotate_left;cases h
   rename_i us J;have:∃vs:Array Value,x=.tuple vs∧dw (bA c R hp) w hp R us vs.toList:=by
    unfold Yo at J;split at J
    ·simp only[Option.some.injEq] at J;subst J;simpa only[au] using G
    ·simp only[Option.some.injEq] at J;subst J;simp only[au,bL] at G;obtain⟨vs,e,Q⟩:=G;exact⟨vs,e,oW _ _ Q⟩
    cases J
   obtain⟨vs,e,Q⟩:=this;simp only[au];exact⟨vs,e,pR H cs us _ h Q⟩
 | .fn f a V,v,x,h,G=>by
   simp only[le] at h;split at h;rotate_left;cases h
   rename_i g a' c' J;obtain⟨rfl,Q,h2⟩:=h;have:∃S cs:Array Value,x=.func g S cs∧dw (bA c R hp) w hp R a' S.toList∧dw (bA c R hp) w hp R c' cs.toList:=by
    unfold Qd at J;split at J
    ·simp only[Option.some.injEq,Prod.mk.injEq] at J;obtain⟨rfl,rfl,rfl⟩:=J;simpa only[au] using G
    ·simp only[Option.some.injEq,Prod.mk.injEq] at J;obtain⟨rfl,rfl,rfl⟩:=J;simp only[au,bL] at G;obtain⟨S,cs,e,X,h4⟩:=G;exact⟨S,cs,e,oW _ _ X,oW _ _ h4⟩
    cases J
   obtain⟨S,cs,e,X,h4⟩:=this;simp only[au];exact⟨S,cs,e,pR H a a' _ Q X,pR H V c' _ h2 h4⟩
theorem pR (H:Yq ρ hp hp'):∀(J:List AV) (vs:List AV) (xs:List Value),Iy ρ vs J→dw (bA c R hp) w hp R vs xs→dw (bA c (qx ρ R) hp') w hp' (qx ρ R) J xs
 |[],[],xs,h,G=>by simpa only[dw] using G
 |[],_::_,xs,h,G=>by simp only[Iy] at h
 |_::_,[],xs,h,G=>by simp only[Iy] at h
 | v'::J,v::vs,xs,h,G=>by
   simp only[Iy] at h;simp only[dw] at G ⊢;obtain⟨x,r,e,K,Q⟩:=G;exact⟨x,r,e,zT H v' v x h.1 K,pR H J vs r h.2 Q⟩
theorem tJ (H:Yq ρ hp hp'):∀(J:List AV) (vs:List AV) (xs:List Value),Iy ρ vs J→dZ (bA c R hp) w hp R vs xs→dZ (bA c (qx ρ R) hp') w hp' (qx ρ R) J xs
 |[],[],xs,h,G=>by simpa only[dZ] using G
 |[],_::_,xs,h,G=>by simp only[Iy] at h
 |_::_,[],xs,h,G=>by simp only[Iy] at h
 | v'::J,v::vs,xs,h,G=>by
   simp only[Iy] at h;simp only[dZ] at G ⊢;obtain⟨x,r,e,K,Q,S⟩:=G;exact⟨x,r,e,K,zT H v' v x h.1 Q,tJ H J vs r h.2 S⟩
end
theorem zH.weaken (h:zH c R hp w)(H:Yq ρ hp hp'):zH c (qx ρ R) hp' w:=by
 refine⟨fun b box X=>?_,fun b b' r h1 h2=>?_,fun r ⟨b,S⟩=>?_,h.jV,fun r ⟨b,S⟩=>?_,fun v x hv=>?_,?_,h.lo⟩
 ·have J:=H.box b box X;cases hs:lk ρ b with
  |none=>rw[hs] at J;exact J.elim
  | some s=>
    rw[hs] at J;cases s with
    | nil=>
      cases box<;>simp only[rJ] at J
      subst J;refine⟨[],⟨?_,.inl ⟨?_,rfl⟩⟩,by simp only[dI]⟩
      ·simp
      simp[dW,Fe hs]
    | old x d=>
      simp only at J;obtain⟨e1,e2,e3⟩:=vF (R:=R) hs;cases ho:lk hp x with
      |none=>rw[ho] at J;cases box<;>simp only[xJ] at J
      | some o=>
        have S:=h.boxes x o ho;rw[ho] at J;cases o<;>cases box<;>simp only[xJ] at J
        ·obtain⟨aa,e,V,K⟩:=S;exact⟨aa,e,by rw[e1];exact V,tJ H _ _ _ J K⟩
        ·subst J;obtain⟨aa,e,fr,V,K,a3⟩:=S;refine⟨aa,e,fr,by rw[e1];exact V,by rw[e1];exact fun hn=>K (leN H hn),fJ (fun r _ h=>leN H h) (fun _ _ _=>rfl) _ _ a3⟩
        ·obtain⟨rfl,_,rfl,J⟩:=J;obtain⟨xs,V,K⟩:=S;refine⟨xs,?_,pQ (fun r h=>leN H h) _ _ _ _ J K⟩;rw[wO hs,←jH _ _ J];exact V
        ·obtain⟨_,rfl,J⟩:=J;simp only[fK,wO hs,←jH _ _ J] at S ⊢;exact oZ (fun r h=>leN H h) (.sl false _ _) (.sl false _ _) _ (by unfold Yp tH;exact⟨id,rfl,J⟩) S
        ·obtain⟨rfl,rfl,rfl⟩:=J;obtain⟨k0,kh,k1,k2,k3,k4⟩:=S;refine⟨H.aiF _ _ _ _ _ X,kh,by rw[e2];exact k1,k2,k3,fun r hn=>k4 r (leN H hn)⟩
        obtain⟨rfl,_,rfl,J,ad,ae⟩:=J;obtain⟨xs,V,K,a3,a4,a5⟩:=S;refine⟨xs,?_,pQ (fun r h=>leN H h) _ _ _ _ J K,by rw[←SX _ _ ad];exact a3,?_,?_⟩
        ·rw[wO hs,←jH _ _ J,←jH _ _ ae];exact V
        ·rw[←jH _ _ J];exact tJ H _ _ _ ad a4
        rw[←jH _ _ J];exact pQ (fun r h=>leN H h) _ _ _ _ ae a5
 ·obtain⟨x,d,V,K⟩:=Ff H h1;obtain⟨y,d',b1,b2⟩:=Ff H h2;have:=h.inj x y r K b2;subst this;exact H.inj _ _ _ _ _ V b1
 ·obtain⟨x,d,_,K⟩:=Ff H S;exact h.free r ⟨x,K⟩
 ·obtain⟨x,d,_,K⟩:=Ff H S;exact h.jy r ⟨x,K⟩
 ·have Q:=h.kept v x hv;have G:=c.hK v x hv;cases v with
  | ptr b off=>
    simp only[jP,Nat.blt_eq] at G;simp only[au] at Q ⊢;have he:∃box,lk hp b=some box:=by
     cases X:lk hp b with
     |none=>rw[X] at Q;exact Q.elim
     |some box=>exact⟨box,rfl⟩
    exact ae6 H (H.low b G he) Q
  | aO b ver=>
    simp only[jP,Nat.blt_eq] at G;simp only[au] at Q ⊢;have he:∃box,lk hp b=some box:=by
     cases X:lk hp b with
     |none=>rw[X] at Q;exact Q.elim
     |some box=>exact⟨box,rfl⟩
    exact agd H (d:=0) (H.low b G he) Q
  | eY b ver i off=>
    simp only[jP,Bool.and_eq_true,Nat.blt_eq,Bool.not_eq_true'] at G;obtain⟨G,Yt⟩:=G;simp only[au] at Q ⊢;have he:∃box,lk hp b=some box:=by
     cases X:lk hp b with
     |none=>rw[X] at Q;exact Q.elim
     |some box=>exact⟨box,rfl⟩
    exact aiG H (d:=0) Yt (H.low b G he) Q
  |_=>simp[jP] at G
 exact h.fixed.kept (fun _ _ _=>rfl) fun r _ ⟨b,ho⟩=>let ⟨x,_,_,h2⟩:=Ff H ho;⟨x,h2⟩
end
def pairs:List AV→List AV→List (AV×AV)→List (AV×AV)
 |u::us,v::vs,l=>(u,v)::pairs us vs l
 |_,_,l=>l
def mt (hp hp':List (Nat×aI)):Nat→ze→List (AV×AV)→Option ze
 |_,ρ,[]=>some ρ
 |0,_,_::_=>none
 | n+1,ρ,(v,Q)::l=>match Q with
   |.pv _=>mt hp hp' n ρ l
   | .ptr b _=>match lk ρ b with
     |some _=>mt hp hp' n ρ l
     | none=>match v with
       | .ptr x _=>match lk hp' b with
         | some (.var J)=>match lk hp x with
           |some (.var cs)=>mt hp hp' n ((b,.old x 0)::ρ) (pairs cs J l)
           |_=>none
         |some (.oN _)=>mt hp hp' n ((b,.old x 0)::ρ) l
         |_=>none
       |_=>none
   | .aO b ver=>match lk ρ b with
     |some _=>mt hp hp' n ρ l
     | none=>match v with
       | .aO x G=>match lk hp' b with
         | some (.iP _ _ _ _ J _)=>match lk hp x with
           |some (.iP _ _ _ _ cs _)=>mt hp hp' n ((b,.old x (G-ver))::ρ) (pairs cs J l)
           |_=>none
         |_=>mt hp hp' n ((b,.old x (G-ver))::ρ) l
       |.pv (.sc (.slice none 0 0))=>mt hp hp' n ((b,.nil)::ρ) l
       |_=>none
   | .sub b ver _ _ _=>match lk ρ b with
     |some _=>mt hp hp' n ρ l
     | none=>match v with
       |.sub x G _ _ _=>mt hp hp' n ((b,.old x (G-ver))::ρ) l
       |_=>none
   | .eY b ver _ _=>match lk ρ b with
     |some _=>mt hp hp' n ρ l
     | none=>match v with
       |.eY x G _ _=>mt hp hp' n ((b,.old x (G-ver))::ρ) l
       |_=>none
   | .agg cs=>match Yn v with
     |some us=>mt hp hp' n ρ (pairs us cs l)
     |none=>none
   | .cK cs=>match Yo v with
     |some us=>mt hp hp' n ρ (pairs us cs l)
     |none=>none
   | .fn _ a c=>match Qd v with
     |some (_,K,c')=>mt hp hp' n ρ (pairs K a (pairs c' c l))
     |none=>none
def SY:ze→List (Nat×aI)→ze
 |acc,[]=>acc
 | acc,(b,_)::r=>match Nat.blt b 1000 with
   | true=>match lk acc b with
     |some _=>SY acc r
     |none=>SY ((b,.old b 0)::acc) r
   |false=>SY acc r
def Qe (hp:List (Nat×aI)):ze:=SY [] hp
def nR (hp hp':List (Nat×aI)):ze→List (AV×AV)→List (AV×AV)
 |[],l=>l
 | (b,_)::r,l=>match lk hp' b with
   | some (.var G)=>match lk hp b with
     |some (.var cs)=>pairs cs G (nR hp hp' r l)
     |_=>nR hp hp' r l
   | some (.iP _ _ _ _ G _)=>match lk hp b with
     |some (.iP _ _ _ _ cs _)=>pairs cs G (nR hp hp' r l)
     |_=>nR hp hp' r l
   |_=>nR hp hp' r l
def Ko (tm:List (Nat×AV)):List (Nat×AV)→List (AV×AV)
 |[]=>[]
 | (t,G)::r=>match lk tm t with
   |some v=>(v,G)::Ko tm r
   |none=>Ko tm r
def isSome {α:Type}:Option α→Bool
 |some _=>true
 |none=>false
def ae8 (ρ:ze)(b:Nat):Bool:=
 match lk ρ b with
 |some (.old x d)=>Nat.beq x b&&Nat.beq d 0
 |_=>false
def Ms (ρ:ze):List (Nat×aI)→Bool
 |[]=>true
 | (b,_)::r=>match Nat.blt b 1000 with
   |true=>ae8 ρ b&&Ms ρ r
   |false=>Ms ρ r
def yx (x:Nat):ze→Bool
 |[]=>false
 | (_,.old y _)::r=>match Nat.beq x y with
   |true=>true
   |false=>yx x r
 |(_,.nil)::r=>yx x r
def IC (hp':List (Nat×aI)):ze→Bool
 |[]=>true
 | (b,s)::r=>isSome (lk hp' b)&&(match lk r b with
   |some _=>false
   |none=>true)&&(match s with
   |.old x _=>!yx x r
   |.nil=>true)&&IC hp' r
def yA:List (Nat×aI)→Bool
 |[]=>true
 | (b,_)::r=>(match lk r b with
   |some _=>false
   |none=>true)&&yA r
def HV (ρ:ze)(hp:List (Nat×aI)):List (Nat×aI)→Prop→Prop
 |[],X=>X
 | (b,box)::r,X=>match lk ρ b with
   |some (.old x d)=>xJ ρ d (lk hp x) box∧HV ρ hp r X
   |some .nil=>rJ box∧HV ρ hp r X
   |none=>False
def ac9 (ρ:ze)(tm:List (Nat×AV)):List (Nat×AV)→Prop→Prop
 |[],X=>X
 | (t,G)::r,X=>match lk tm t with
   |some v=>le ρ v G∧ac9 ρ tm r X
   |none=>False
theorem vG {ρ:ze}{hp:List (Nat×aI)}:∀{l:List (Nat×aI)} {X:Prop},HV ρ hp l X→X
 |[],X,h=>h
 | (b,box)::r,X,h=>by
   simp only[HV] at h;split at h
   ·exact vG h.2
   ·exact vG h.2
   exact h.elim
theorem Fg {ρ:ze}{hp:List (Nat×aI)}:∀{l:List (Nat×aI)} {X:Prop},HV ρ hp l X→∀b box,lk l b=some box→match lk ρ b with
  |some (.old x d)=>xJ ρ d (lk hp x) box
  |some .nil=>rJ box
  |none=>False
 |[],X,h,b,box,G=>by simp[lk] at G
 | (J,K)::r,X,h,b,box,G=>by
   simp only[HV] at h;rw[aG] at G;split at G
   ·rename_i e;subst e;simp only[Option.some.injEq] at G;subst G;split at h
    ·exact h.1
    ·exact h.1
    exact h.elim
   split at h
   ·exact Fg h.2 b box G
   ·exact Fg h.2 b box G
   exact h.elim
theorem IE {ρ:ze}{tm:List (Nat×AV)}:∀{l:List (Nat×AV)} {X:Prop},ac9 ρ tm l X→∀t J,lk l t=some J→∃v,lk tm t=some v∧le ρ v J
 |[],X,h,t,J,G=>by simp[lk] at G
 | (Q,S)::r,X,h,t,J,G=>by
   simp only[ac9] at h;rw[aG] at G;split at h;rotate_left;cases h
   rename_i u K;split at G
   ·rename_i e;subst e;simp only[Option.some.injEq] at G;subst G;exact⟨u,K,h.1⟩
   exact IE h.2 t J G
theorem IG {hp':List (Nat×aI)}:∀{ρ:ze},IC hp' ρ=true→∀b,(∃s,lk ρ b=some s)→∃box,lk hp' b=some box
 |[],_,b,⟨s,hs⟩=>by simp[lk] at hs
 | (G,K)::r,h,b,⟨s,hs⟩=>by
   simp only[IC,Bool.and_eq_true] at h;rw[aG] at hs;split at hs
   ·rename_i e;subst e;have:=h.1.1.1;cases J:lk hp' G with
    |none=>rw[J] at this;cases this
    |some box=>exact⟨box,rfl⟩
   exact IG h.2 b ⟨s,hs⟩
theorem II {ρ:ze}{b x d:Nat}:lk ρ b=some (.old x d)→yx x ρ=true:=by
 induction ρ with
 |nil=>intro h;simp[lk] at h
 | cons y r ih=>
   obtain⟨G,s⟩:=y;intro h;rw[aG] at h;split at h
   ·simp only[Option.some.injEq] at h;subst h;simp[yx]
   have:=ih h;cases s with
   |nil=>simpa only[yx] using this
   | old y J=>
     simp only[yx];split
     ·rfl
     exact this
theorem IJ {hp':List (Nat×aI)}:∀{ρ:ze},IC hp' ρ=true→∀b K x d S,lk ρ b=some (.old x d)→lk ρ K=some (.old x S)→b=K
 |[],_,b,K,x,d,S,G,J=>by simp[lk] at G
 | (y,s)::r,h,b,K,x,d,S,G,J=>by
   simp only[IC,Bool.and_eq_true] at h;rw[aG] at G J;split at G
   ·rename_i V;simp only[Option.some.injEq] at G;subst G;split at J
    ·rename_i X;rw[←V,←X]
    have:=II J;have Q:=h.1.2;simp only[this] at Q;cases Q
   split at J
   ·simp only[Option.some.injEq] at J;subst J;have:=II G;have Q:=h.1.2;simp only[this] at Q;cases Q
   exact IJ h.2 b K x d S G J
theorem Bn {ρ:ze}:∀{hp:List (Nat×aI)},Ms ρ hp=true→∀b,b<1000→(∃box,lk hp b=some box)→lk ρ b=some (.old b 0)
 |[],_,b,_,⟨box,K⟩=>by simp[lk] at K
 | (S,X)::r,h,b,G,⟨box,K⟩=>by
   simp only[Ms] at h;rw[aG] at K;split at K
   ·rename_i e;subst e;split at h
    ·simp only[Bool.and_eq_true] at h;have J:=h.1;unfold ae8 at J;split at J
     ·rename_i x d V;simp only[Bool.and_eq_true] at J;rw[V,Nat.eq_of_beq_eq_true J.1,Nat.eq_of_beq_eq_true J.2]
     cases J
    rename_i Q;have:Nat.blt S 1000=true:=by rw[Nat.blt_eq];exact G
    rw[this] at Q;cases Q
   split at h
   ·simp only[Bool.and_eq_true] at h;exact Bn h.2 b G ⟨box,K⟩
   exact Bn h b G ⟨box,K⟩
def U4:List (Nat×aI)→Bool
 |[]=>true
 | (b,box)::r=>match box with
   |.tr _ _ _ _=>Nat.beq b 999&&U4 r
   |_=>U4 r
theorem IK:∀{h:List (Nat×aI)},U4 h=true→∀b J K Q S,lk h b=some (.tr J K Q S)→b=999
 |[],_,b,J,K,Q,S,G=>by simp[lk] at G
 | (k',box)::r,h,b,J,K,Q,S,G=>by
   rw[aG] at G;split at G
   ·rename_i e;simp only[Option.some.injEq] at G;subst G;simp only[U4,Bool.and_eq_true] at h;rw[←e,Nat.eq_of_beq_eq_true h.1]
   refine IK (h:=r) ?_ b J K Q S G;cases box<;>simp only[U4,Bool.and_eq_true] at h<;>first|exact h|exact h.2
def Fh (ρ:ze)(hp hp':List (Nat×aI)):Bool:=IC hp' ρ&&(Ms ρ hp&&U4 hp')
theorem Kq {ρ:ze}{hp hp':List (Nat×aI)}{X:Prop}(h:Fh ρ hp hp'=true)(G:HV ρ hp hp' X):Yq ρ hp hp':=by
 simp only[Fh,Bool.and_eq_true] at h;exact⟨Fg G,IG h.1,IJ h.1,Bn h.2.1,IK h.2.2⟩
def ada (s S:AS):Prop:=
 match s with
 | ⟨Q,_,J⟩=>match S with
   | ⟨K,_,G⟩=>match Qe J with
     | ρ0=>match mt J G 1000 ρ0 (nR J G ρ0 (Ko Q K)) with
       | some ρ=>match Fh ρ J G with
         |true=>HV ρ J G (ac9 ρ Q K True)
         |false=>False
       |none=>False
theorem aD {s K:AS}(h:ada s K)(c:Ctx)(R:Real)(a:Act)(w:World)(g:bN c R s a w):∃S,bN c S K a w:=by
 obtain⟨tm,nx,hp⟩:=s;obtain⟨ae,ad,aa⟩:=K;simp only[ada] at h;split at h;rotate_left;cases h
 rename_i ρ _;split at h;rotate_left;cases h
 rename_i V;have H:=Kq V h;refine⟨qx ρ R,(g.hap.weaken H).X3 (fun t Q J=>?_) g.size (g.marks.imp fun Ds X=>X.kept (fun _ _ _=>rfl) fun r _ ⟨b,ho⟩=>let ⟨x,_,_,h2⟩:=Ff H ho;⟨x,h2⟩)⟩;obtain⟨v,hv,G⟩:=IE (vG h) t Q J;obtain⟨x,hx,hr⟩:=g.slots t v hv;exact⟨x,hx,zT H Q v x G hr⟩
def ac1 (hp:List (Nat×aI))(r:AV)(Q:AV→List (Nat×aI)→Prop):Prop:=
 ∃J G,Q J G∧match Qe hp with
  | ρ0=>match mt hp G 1000 ρ0 (nR hp G ρ0 [(r,J)]) with
    | some ρ=>match Fh ρ hp G with
      |true=>HV ρ hp G (le ρ r J)
      |false=>False
    |none=>False
theorem yj {hp:List (Nat×aI)}{r:AV}{Q:AV→List (Nat×aI)→Prop}(h:ac1 hp r Q){c:Ctx}{R:Real}{w:World}(g:zH c R hp w){v:Value}(X:au (bA c R hp) w hp R r v) :
  ∃J G K,Q J G∧zH c K G w∧au (bA c K G) w G K J v:=by
 obtain⟨J,G,S,h⟩:=h;simp only at h;split at h;rotate_left;cases h
 rename_i ρ _;split at h
 ·rename_i V;have H:=Kq V h;exact⟨J,G,qx ρ R,S,g.weaken H,zT H J r v (vG h) X⟩
 exact h.elim
def GC (P:Program)(f:FuncId)(args:List AV)(hp:List (Nat×aI))(Q:AV→List (Nat×aI)→Prop):Prop:=
 Enters P f∧∀(c:Ctx) (R:Real) (w:World) (K:Array Value),zH c R hp w→dw (bA c R hp) w hp R args K.toList →
  Calls P f K w fun e S=>∃v r G J,e=.returned v∧Q r G∧zH c J G S∧au (bA c J G) S G J r v
def dX (P:Program)(f:FuncId)(args:List AV)(hp:List (Nat×aI))(r:AV)(hp':List (Nat×aI)):Prop:=GC P f args hp fun x h=>x=r∧h=hp'
def EQ (x:Nat):List Nat→Bool
 |[]=>false
 | y::r=>match Nat.beq x y with
   |true=>true
   |false=>EQ x r
def keys {α:Type}:List (Nat×α)→List Nat
 |[]=>[]
 |(k,_)::r=>k::keys r
def kK (hp:List (Nat×aI)):List Nat→Option (List (Nat×aI))
 |[]=>some []
 | b::r=>match lk hp b with
   | some box=>match kK hp r with
     |some t=>some ((b,box)::t)
     |none=>none
   |none=>none
def snoc:List Nat→Nat→List Nat
 |[],x=>[x]
 |y::r,x=>y::snoc r x
def Bh (hp:List (Nat×aI)):Nat→List Nat→List Nat→List Nat
 |0,_,G=>G
 |_+1,[],G=>G
 | n+1,b::J,G=>match EQ b G with
   |true=>Bh hp n J G
   | false=>match lk hp b with
     |some (.var K)=>Bh hp n (fH K++J) (snoc G b)
     |some (.iP _ _ _ _ Q _)=>Bh hp n (fH Q++J) (snoc G b)
     |_=>Bh hp n J (snoc G b)
abbrev Inv:=List (Nat×(Nat×Nat))
def qy:aI→Nat
 |.arr _ v _ _=>v
 |.d9 v _ _=>v
 |.tr _ v _ _=>v
 |.iP _ v _ _ _ _=>v
 |_=>0
def lT:Nat→List (Nat×aI)→Inv
 |_,[]=>[]
 |k,(b,box)::r=>(b,(k,qy box))::lT (k+1) r
def jZ:Nat→List (Nat×aI)→Ren
 |_,[]=>[]
 |k,(b,box)::r=>(k,(b,qy box))::jZ (k+1) r
section
variable (inv:Inv)
mutual
def HY:AV→AV
 |.pv p=>.pv p
 |.agg cs=>.agg (nS cs)
 |.cK cs=>.cK (nS cs)
 | .ptr b off=>match lk inv b with
   |some (k,_)=>.ptr k off
   |none=>.pv .junk
 | .eY b ver i off=>match lk inv b with
   | some (k,d)=>match Nat.ble d ver with
     |true=>.eY k (ver-d) i off
     |false=>.pv .junk
   |none=>.pv .junk
 | .aO b ver=>match lk inv b with
   | some (k,d)=>match Nat.ble d ver with
     |true=>.aO k (ver-d)
     |false=>.pv .junk
   |none=>.pv .junk
 | .sub b ver J G hi=>match lk inv b with
   | some (k,d)=>match Nat.ble d ver with
     |true=>.sub k (ver-d) J G hi
     |false=>.pv .junk
   |none=>.pv .junk
 |.fn f first bD=>.fn f (nS first) (nS bD)
def nS:List AV→List AV
 |[]=>[]
 |v::r=>HY v::nS r
end
def lH:aI→aI
 |.var G=>.var (nS inv G)
 |.oN G=>.oN G
 |.arr e ver K J=>.arr e 0 K J
 |.d9 ver K J=>.d9 0 K J
 |.tr y _ rest K=>.tr y 0 rest K
 |.iP e ver K pre Q post=>.iP e 0 K pre (nS inv Q) post
def uQ:Nat→List (Nat×aI)→List (Nat×aI)
 |_,[]=>[]
 |k,(_,box)::r=>(k,lH inv box)::uQ (k+1) r
end
def Fj (G:Ren)(id k:Nat):Nat×Nat:=
 match lk G k with
 |some p=>p
 |none=>(id+1000000*k,0)
def Bo (G:Ren)(id:Nat):List (Nat×aI)→Ren
 |[]=>[]
 |(k,_)::r=>(k,Fj G id k)::Bo G id r
def jd (ρ:Ren):List (Nat×aI)→List (Nat×aI)
 |[]=>[]
 |(k,box)::r=>(jG ρ k,ig ρ k box)::jd ρ r
def vH (G:Ren)(id:Nat):List (Nat×aI)→List Nat
 |[]=>[]
 | (k,_)::r=>match lk G k with
   |some _=>vH G id r
   |none=>(id+1000000*k)::vH G id r
def tq (hp:List (Nat×aI)):List Nat→Bool
 |[]=>true
 | b::r=>(match lk hp b with
   |some _=>false
   |none=>true)&&tq hp r
def passed (hp':List (Nat×aI)):Ren→Bool
 |[]=>true
 |(k,_)::r=>(isSome (lk hp' k)&&Nat.blt k 999)&&passed hp' r
def Mt (inv:Inv):Ren→Bool
 |[]=>true
 | (k,(b,d))::r=>(match lk inv b with
   |some (k',G)=>Nat.beq k' k&&Nat.beq G d
   |none=>false)&&Mt inv r
def Mv:List (Nat×aI)→Bool
 |[]=>true
 | (_,box)::r=>match box with
   |.tr _ _ _ _=>false
   |_=>Mv r
def gOk (inv:Inv)(G:Ren)(id:Nat)(hp hp' J:List (Nat×aI)):Bool:=passed hp' G&&(tq hp (vH G id hp')&&(yA hp'&&(Mt inv G&&Mv J)))
def U5 (G:Ren)(id:Nat):List (Nat×aI)→(Ren→Prop)→Prop
 |[],K=>K []
 | (k,_)::r,K=>match lk G k with
   |some p=>U5 G id r fun t=>K ((k,p)::t)
   |none=>U5 G id r fun t=>K ((k,(id+1000000*k,0))::t)
section
variable (ρ:Ren)
mutual
def DT:AV→(AV→Prop)→Prop
 |.pv p,K=>K (.pv p)
 |.agg cs,K=>xK cs fun cs=>K (.agg cs)
 |.cK cs,K=>xK cs fun cs=>K (.cK cs)
 | .ptr b off,K=>match lk ρ b with
   | some p=>match p with
     |(x,_)=>K (.ptr x off)
   |none=>K (.ptr (b+2000000000) off)
 | .eY b ver i off,K=>match lk ρ b with
   | some p=>match p with
     |(x,d)=>K (.eY x (ver+d) i off)
   |none=>K (.eY (b+2000000000) (ver+0) i off)
 | .aO b ver,K=>match lk ρ b with
   | some p=>match p with
     |(x,d)=>K (.aO x (ver+d))
   |none=>K (.aO (b+2000000000) (ver+0))
 | .sub b ver Q J hi,K=>match lk ρ b with
   | some p=>match p with
     |(x,d)=>K (.sub x (ver+d) Q J hi)
   |none=>K (.sub (b+2000000000) (ver+0) Q J hi)
 |.fn f first G,K=>xK first fun first=>xK G fun G=>K (.fn f first G)
def xK:List AV→(List AV→Prop)→Prop
 |[],K=>K []
 |v::r,K=>DT v fun v=>xK r fun r=>K (v::r)
end
def oD:List (Nat×aI)→(List (Nat×aI)→Prop)→Prop
 |[],K=>K []
 | (k,box)::r,K=>match lk ρ k with
   | some p=>match p with
     | (x,d)=>match box with
       |.var G=>xK ρ G fun G=>oD r fun t=>K ((x,.var G)::t)
       |.oN G=>oD r fun t=>K ((x,.oN G)::t)
       |.arr e ver S J=>oD r fun t=>K ((x,.arr e (ver+d) S J)::t)
       |.d9 ver S J=>oD r fun t=>K ((x,.d9 (ver+d) S J)::t)
       |.tr _ _ _ _=>False
       |.iP e ver S pre Q post=>xK ρ Q fun Q=>oD r fun t=>K ((x,.iP e (ver+d) S pre Q post)::t)
   |none=>False
mutual
theorem zM:∀(v:AV) (K:AV→Prop),DT ρ v K=K (mH ρ v)
 | .sub b ver J G hi,K=>by
   simp only[DT,mH,jG,Eb];cases lk ρ b with
   |none=>rfl
   |some p=>rfl
 |.pv p,K=>by simp only[DT,mH]
 |.agg cs,K=>by simp only[DT,mH,j4 cs]
 |.cK cs,K=>by simp only[DT,mH,j4 cs]
 | .ptr b off,K=>by
   simp only[DT,mH,jG];cases lk ρ b with
   |none=>rfl
   |some p=>rfl
 | .eY b ver i off,K=>by
   simp only[DT,mH,jG,Eb];cases lk ρ b with
   |none=>rfl
   |some p=>rfl
 | .aO b ver,K=>by
   simp only[DT,mH,jG,Eb];cases lk ρ b with
   |none=>rfl
   |some p=>rfl
 |.fn f first bD,K=>by simp only[DT,mH,j4 first,j4 bD]
theorem j4:∀(vs:List AV) (K:List AV→Prop),xK ρ vs K=K (jS ρ vs)
 |[],K=>by simp only[xK,jS]
 |v::r,K=>by simp only[xK,jS,zM v,j4 r]
end
theorem nQ:∀(h:List (Nat×aI)) (K:List (Nat×aI)→Prop),oD ρ h K→K (jd ρ h)
 |[],K,G=>by simpa only[oD,jd] using G
 | (k,box)::r,K,G=>by
   simp only[oD] at G;split at G
   ·rename_i p hp;obtain⟨x,d⟩:=p;have Q:jG ρ k=x:=by simp[jG,hp]
    have V:Eb ρ k=d:=by simp[Eb,hp]
    simp only at G;cases box with
    | var J=>
      simp only[j4] at G;have:=nQ r _ G;simpa only[jd,ig,Q] using this
    |oN J=>have:=nQ r _ G;simpa only[jd,ig,Q] using this
    |arr e ver X S=>have:=nQ r _ G;simpa only[jd,ig,Q,V] using this
    |d9 ver X S=>have:=nQ r _ G;simpa only[jd,ig,Q,V] using this
    |tr y ver rest X=>exact G.elim
    | iP e ver X pre aa post=>
      simp only[j4] at G;have:=nQ r _ G;simpa only[jd,ig,Q,V] using this
   exact G.elim
end
theorem lU {ρ:Ren}:∀(h:List (Nat×aI)) (K V:List (Nat×aI)→Prop),oD ρ h K→V (jd ρ h)→oD ρ h V
 |[],K,V,G,J=>by simpa only[oD,jd] using J
 | (k,box)::r,K,V,G,J=>by
   simp only[oD] at G ⊢;split at G
   ·rename_i p hp;obtain⟨x,d⟩:=p;have e1:jG ρ k=x:=by simp[jG,hp]
    have X:Eb ρ k=d:=by simp[Eb,hp]
    simp only at G ⊢;simp only[jd,e1] at J;cases box with
    | var Q=>
      simp only[j4] at G ⊢;exact lU r _ _ G J
    |oN Q=>exact lU r _ _ G J
    |arr e ver st S=>simp only[ig,X] at J;exact lU r _ _ G J
    |d9 ver st S=>simp only[ig,X] at J;exact lU r _ _ G J
    |tr y ver rest st=>exact G.elim
    | iP e ver st pre aa post=>
      simp only[j4] at G ⊢;simp only[ig,X] at J;exact lU r _ _ G J
   exact G.elim
theorem zL (G:Ren)(id:Nat):∀(h:List (Nat×aI)) (K:Ren→Prop),U5 G id h K=K (Bo G id h)
 |[],K=>rfl
 | (k,box)::r,K=>by
   simp only[U5,Bo,Fj,zL G id r];cases lk G k<;>rfl
theorem ni:∀{h:List (Nat×aI)},Mv h=true→∀k x y z u,lk h k≠some (.tr x y z u)
 |[],_,k,x,y,z,u,G=>by simp[lk] at G
 | (k',box)::r,h,k,x,y,z,u,G=>by
   rw[aG] at G;split at G
   ·simp only[Option.some.injEq] at G;subst G;simp[Mv] at h
   refine ni (h:=r) ?_ k x y z u G;cases box<;>simp only[Mv] at h<;>first|exact h|cases h
theorem lI {ρ:Ren}:∀(h:List (Nat×aI)) (K:List (Nat×aI)→Prop),oD ρ h K→Mv h=true
 |[],K,G=>rfl
 | (k,box)::r,K,G=>by
   simp only[oD] at G;split at G
   ·simp only[Mv];cases box with
    |var J=>simp only[j4] at G;exact lI r _ G
    |oN J=>exact lI r _ G
    |arr e ver S Q=>exact lI r _ G
    |d9 ver S Q=>exact lI r _ G
    |tr y ver rest S=>exact G.elim
    |iP e ver S pre V post=>simp only[j4] at G;exact lI r _ G
   exact G.elim
def gC (P:Program)(hp:List (Nat×aI))(id:Nat)(vs:List AV)(K:AV→List (Nat×aI)→List Nat→Prop):Prop:=
 match vs with
 | fv::args=>match Qd fv with
   | some (.func f,first,bD)=>match Bh hp 100 (fH (first++(args++bD))) [] with
     | ids=>match kK hp ids with
       | some H=>match lT 1 H with
         | inv=>match jZ 1 H with
           | gW=>∃r G,dX P f (nS inv (first++(args++bD))) (uQ inv 1 H) r G∧match gOk inv gW id hp G (uQ inv 1 H) with
             |true=>U5 gW id G fun ρ=>DT ρ r fun r=>oD ρ G fun ws=>K r ws (ids++vH gW id G)
             |false=>False
       |none=>False
   |_=>False
 |_=>False
def gI (P:Program)(hp:List (Nat×aI))(id:Nat)(vs:List AV)(K:AV→List (Nat×aI)→List Nat→Prop):Prop:=
 match vs with
 | fv::args=>match Qd fv with
   | some (.func f,first,bD)=>match Bh hp 100 (fH (first++(args++bD))) [] with
     | ids=>match kK hp ids with
       | some H=>match lT 1 H with
         | inv=>match jZ 1 H with
           | gW=>match Mt inv gW&&Mv (uQ inv 1 H) with
             | true=>∃Q:AV→List (Nat×aI)→Prop,GC P f (nS inv (first++(args++bD))) (uQ inv 1 H) Q∧∀r G,Q r G→match gOk inv gW id hp G (uQ inv 1 H) with
               |true=>U5 gW id G fun ρ=>DT ρ r fun r=>oD ρ G fun ws=>K r ws (ids++vH gW id G)
               |false=>False
             |false=>False
       |none=>False
   |_=>False
 |_=>False
theorem rO {hp:List (Nat×aI)}:∀{K:List Nat} {H:List (Nat×aI)},kK hp K=some H→∀x∈H,lk hp x.1=some x.2
 |[],H,h,x,G=>by simp only[kK,Option.some.injEq] at h;subst h;simp at G
 | i::r,H,h,x,G=>by
   simp only[kK] at h;split at h
   ·rename_i S J;split at h
    ·rename_i t Q;simp only[Option.some.injEq] at h;subst h;rcases List.mem_cons.1 G with rfl|G
     ·exact J
     exact rO Q x G
    cases h
   cases h
theorem Bp:∀{H:List (Nat×aI)} {G b k d:Nat},lk (lT G H) b=some (k,d)→G≤k∧lk (jZ G H) k=some (b,d)
 |[],G,b,k,d,h=>by simp[lT,lk] at h
 | (J,box)::r,G,b,k,d,h=>by
   simp only[lT,aG] at h;simp only[jZ,aG];split at h
   ·rename_i e;simp only[Option.some.injEq,Prod.mk.injEq] at h;obtain⟨rfl,rfl⟩:=h;subst e;exact⟨Nat.le_refl _,by rw[if_pos rfl]⟩
   obtain⟨h1,h2⟩:=Bp h;exact⟨by omega,by rw[if_neg (by omega)];exact h2⟩
theorem Mw:∀{H:List (Nat×aI)} {G k:Nat} {p:Nat×Nat},lk (jZ G H) k=some p→G≤k
 |[],G,k,p,h=>by simp[jZ,lk] at h
 | (J,box)::r,G,k,p,h=>by
   simp only[jZ,aG] at h;split at h
   ·omega
   have:=Mw h;omega
theorem S9 {inv:Inv}:∀{H:List (Nat×aI)} {G k:Nat} {p:aI},lk (uQ inv G H) k=some p→G≤k
 |[],G,k,p,h=>by simp[uQ,lk] at h
 | (J,box)::r,G,k,p,h=>by
   simp only[uQ,aG] at h;split at h
   ·omega
   have:=S9 h;omega
theorem Bq {inv:Inv}{hp:List (Nat×aI)}:∀{H:List (Nat×aI)} {G b k d:Nat},(∀x∈H,lk hp x.1=some x.2)→lk (jZ G H) k=some (b,d) →
  ∃box,lk hp b=some box∧d=qy box∧lk (uQ inv G H) k=some (lH inv box)
 |[],G,b,k,d,_,h=>by simp[jZ,lk] at h
 | (K,box)::r,G,b,k,d,J,h=>by
   simp only[jZ,aG] at h;simp only[uQ,aG];split at h
   ·rename_i e;simp only[Option.some.injEq,Prod.mk.injEq] at h;obtain⟨rfl,rfl⟩:=h;exact⟨box,J (K,box) (by simp),rfl,by rw[if_pos e]⟩
   have V:=Mw h;obtain⟨Q,h1,h2,S⟩:=Bq (inv:=inv) (fun x X=>J x (by simp[X])) h;exact⟨Q,h1,h2,by rw[if_neg (by omega)];exact S⟩
theorem Fp {inv:Inv}{hp:List (Nat×aI)}:∀{H:List (Nat×aI)} {G k:Nat} {box0:aI},(∀x∈H,lk hp x.1=some x.2)→lk (uQ inv G H) k=some box0 →
  ∃b box,lk (jZ G H) k=some (b,qy box)∧lk hp b=some box∧box0=lH inv box
 |[],G,k,box0,_,h=>by simp[uQ,lk] at h
 | (J,box)::r,G,k,box0,K,h=>by
   simp only[uQ,aG] at h;simp only[jZ,aG];split at h
   ·rename_i e;simp only[Option.some.injEq] at h;exact⟨J,box,by rw[if_pos e],K (J,box) (by simp),h.symm⟩
   have V:=S9 h;obtain⟨b,Q,h1,h2,S⟩:=Fp (fun x X=>K x (by simp[X])) h;exact⟨b,Q,by rw[if_neg (by omega)];exact h1,h2,S⟩
theorem yB {inv:Inv}:∀{gW:Ren} {k b d:Nat},Mt inv gW=true→lk gW k=some (b,d)→lk inv b=some (k,d)
 |[],k,b,d,_,h=>by simp[lk] at h
 | (k',(J,K))::r,k,b,d,G,h=>by
   simp only[Mt,Bool.and_eq_true] at G;rw[aG] at h;split at h
   ·rename_i e;simp only[Option.some.injEq,Prod.mk.injEq] at h;obtain⟨rfl,rfl⟩:=h;have h1:=G.1;split at h1
    ·rename_i S Q h2;simp only[Bool.and_eq_true] at h1;rw[h2,Nat.eq_of_beq_eq_true h1.1,Nat.eq_of_beq_eq_true h1.2,e]
    cases h1
   exact yB G.2 h
theorem vJ {hp':List (Nat×aI)}:∀{gW:Ren} {k:Nat} {p:Nat×Nat},passed hp' gW=true→lk gW k=some p→k<999∧∃box,lk hp' k=some box
 |[],k,p,_,h=>by simp[lk] at h
 | (k',p')::r,k,p,G,h=>by
   simp only[passed,Bool.and_eq_true] at G;rw[aG] at h;split at h
   ·rename_i e;subst e;have h1:=G.1;rw[Nat.blt_eq] at h1;refine⟨h1.2,?_⟩;cases J:lk hp' k' with
    |none=>rw[J] at h1;cases h1.1
    |some box=>exact⟨box,rfl⟩
   exact vJ G.2 h
theorem tK {hp:List (Nat×aI)}:∀{l:List Nat},tq hp l=true→∀b∈l,lk hp b=none
 |[],_,b,G=>by simp at G
 | x::r,h,b,G=>by
   simp only[tq,Bool.and_eq_true] at h;rcases List.mem_cons.1 G with rfl|G
   ·have h1:=h.1;cases J:lk hp b with
    |none=>rfl
    |some y=>rw[J] at h1;cases h1
   exact tK h.2 b G
theorem Fq {gW:Ren}{id:Nat}:∀{hp':List (Nat×aI)} {k:Nat} {box:aI},lk hp' k=some box→lk gW k=none→id+1000000*k∈vH gW id hp'
 |[],k,box,h,_=>by simp[lk] at h
 | (k',J)::r,k,box,h,G=>by
   rw[aG] at h;simp only[vH];split at h
   ·rename_i e;subst e;rw[G];simp
   have:=Fq (id:=id) h G;split
   ·exact this
   exact List.mem_cons_of_mem _ this
theorem IL {gW:Ren}{id:Nat}:∀{hp':List (Nat×aI)} {k:Nat},lk (Bo gW id hp') k=(lk hp' k).map fun _=>Fj gW id k
 |[],k=>rfl
 | (k',G)::r,k=>by
   simp only[Bo,aG];split
   ·rename_i e;subst e;rfl
   exact IL
theorem IQ (inv:Inv):∀(vs:List AV),(nS inv vs).length=vs.length
 |[]=>rfl
 |v::r=>by simp[nS,IQ inv r]
def O5 (gW:Ren)(R:Real):Real where
 blk k:=match lk gW k with
  |some (b,_)=>R.blk b
  |none=>0
 nil k:=match lk gW k with
  |some (b,_)=>R.nil b
  |none=>true
 cap k:=match lk gW k with
  |some (b,_)=>R.cap b
  |none=>(0,[],0)
 Y:=R.Y
theorem Fs {gW:Ren}{R:Real}{k b d:Nat}(h:lk gW k=some (b,d)):(O5 gW R).blk k=R.blk b∧(O5 gW R).nil k=R.nil b∧(O5 gW R).cap k=R.cap b:=by
 simp[O5,h]
theorem Kr {gW:Ren}{R:Real}{k b d n:Nat}(h:lk gW k=some (b,d)):dW (O5 gW R) k n=dW R b n:=by
 obtain⟨h1,h2,G⟩:=Fs (R:=R) h;simp only[dW,h1,h2,G]
section
variable {inv:Inv}{gW:Ren}{hp mR:List (Nat×aI)}{R:Real}{N N0:Nat→Prop}{w:World}
variable (h1:∀b k d,lk inv b=some (k,d)→lk gW k=some (b,d))(h2:∀k b d,lk gW k=some (b,d)→∃box,lk hp b=some box∧d=qy box∧lk mR k=some (lH inv box))(hN:∀r,N0 r→N r)
include h1 h2
theorem Fu {b k d off:Nat}(G:lk inv b=some (k,d)){v:Value}(h:bf R b off v (lk hp b)):bf (O5 gW R) k off v (lk mR k):=by
 obtain⟨box,J,S,K⟩:=h2 k b d (h1 b k d G);obtain⟨Q,V,X⟩:=Fs (R:=R) (h1 b k d G);rw[J] at h;rw[K];cases box<;>simp only[bf,lH,Q] at h ⊢ <;> exact h
theorem Br {b k d ver:Nat}(G:lk inv b=some (k,d))(S:d≤ver){v:Value}(h:aX R b ver v (lk hp b)):aX (O5 gW R) k (ver-d) v (lk mR k):=by
 obtain⟨box,J,K,Q⟩:=h2 k b d (h1 b k d G);rw[J] at h;rw[Q];cases box<;>simp only[aX,lH,Kr (h1 b k d G)] at h ⊢ <;> first
  |exact h
  |(simp only[qy] at K;exact⟨by omega,h.2.1,fun e=>h.2.2 (by omega)⟩)
theorem IU {b k d ver i off:Nat}(G:lk inv b=some (k,d))(hd:d≤ver){v:Value}(h:bC R b ver i off v (lk hp b)):bC (O5 gW R) k (ver-d) i off v (lk mR k):=by
 obtain⟨box,J,K,Q⟩:=h2 k b d (h1 b k d G);obtain⟨S,V,X⟩:=Fs (R:=R) (h1 b k d G);rw[J] at h;rw[Q];cases box<;>simp only[bC,lH,S,V,X] at h ⊢ <;> first
  |exact h
  |exact⟨Nat.zero_le _,h.2.1,h.2.2⟩
  |(simp only[qy] at K;exact⟨by omega,h.2.1,fun e=>h.2.2 (by omega)⟩)
include hN
mutual
theorem Mx:∀(v:AV) (x:Value),au N w hp R v x→au N0 w mR (O5 gW R) (HY inv v) x
 |.pv p,x=>by simp only[HY,au];exact dV (fun r _ h=>hN r h) (fun _ _ _=>rfl) p x
 |.agg cs,x=>by simp only[HY,au];rintro⟨vs,a,b⟩;exact⟨vs,a,wP cs _ b⟩
 |.cK cs,x=>by simp only[HY,au];rintro⟨vs,a,b⟩;exact⟨vs,a,o6 cs _ b⟩
 | .ptr b off,x=>by
   intro h;simp only[HY];split
   ·rename_i k d G;simp only[au] at h ⊢;exact Fu h1 h2 G h
   simp only[au,bL]
 | .eY b ver i off,x=>by
   intro h;simp only[HY];split
   ·rename_i k d G;split
    ·rename_i J;simp only[au] at h ⊢;exact IU h1 h2 G (Nat.le_of_ble_eq_true J) h
    simp only[au,bL]
   simp only[au,bL]
 | .aO b ver,x=>by
   intro h;simp only[HY];split
   ·rename_i k d G;split
    ·rename_i J;simp only[au] at h ⊢;exact Br h1 h2 G (Nat.le_of_ble_eq_true J) h
    simp only[au,bL]
   simp only[au,bL]
 | .sub b ver S Q hi,x=>by
   intro h;simp only[HY];split
   ·rename_i k d G;split
    ·rename_i J;simp only[au] at h ⊢;obtain⟨u,a,c⟩:=h;exact⟨u,Br h1 h2 G (Nat.le_of_ble_eq_true J) a,c⟩
    simp only[au,bL]
   simp only[au,bL]
 | .fn f first bD,x=>by
   simp only[HY,au];rintro⟨K,cs,a,b,c⟩;exact⟨K,cs,a,o6 _ _ b,o6 _ _ c⟩
theorem o6:∀(vs:List AV) (xs:List Value),dw N w hp R vs xs→dw N0 w mR (O5 gW R) (nS inv vs) xs
 |[],xs=>by simp only[nS,dw];exact id
 |p::G,xs=>by simp only[nS,dw];rintro⟨v,r,a,b,c⟩;exact⟨v,r,a,Mx p v b,o6 G r c⟩
theorem wP:∀(vs:List AV) (xs:List Value),dZ N w hp R vs xs→dZ N0 w mR (O5 gW R) (nS inv vs) xs
 |[],xs=>by simp only[nS,dZ];exact id
 |p::G,xs=>by simp only[nS,dZ];rintro⟨v,r,a,d,b,c⟩;exact⟨v,r,a,d,Mx p v b,wP G r c⟩
end
end
def upR (ρ:Ren)(R R2:Real)(hp':List (Nat×aI)):Real where
 blk b:=match lk (hp'.map fun x=>(jG ρ x.1,x.1)) b with
  |some k=>R2.blk k
  |none=>R.blk b
 nil b:=match lk (hp'.map fun x=>(jG ρ x.1,x.1)) b with
  |some k=>R2.nil k
  |none=>R.nil b
 cap b:=match lk (hp'.map fun x=>(jG ρ x.1,x.1)) b with
  |some k=>R2.cap k
  |none=>R.cap b
 Y:=R.Y
theorem IV {ρ:Ren}{b:Nat}:∀{hp':List (Nat×aI)},lk (hp'.map fun x=>(jG ρ x.1,x.1)) b=none→lk (jd ρ hp') b=none
 |[],_=>rfl
 | (k,box)::r,h=>by
   simp only[List.map_cons,aG] at h;simp only[jd,aG];split at h
   ·cases h
   rename_i e;rw[if_neg e];exact IV h
theorem Bt {ρ:Ren}{b k:Nat}:∀{hp':List (Nat×aI)},yA hp'=true→lk (hp'.map fun x=>(jG ρ x.1,x.1)) b=some k →
  b=jG ρ k∧∃box,lk hp' k=some box∧lk (jd ρ hp') b=some (ig ρ k box)
 |[],_,h=>by simp[lk] at h
 | (k',box)::r,G,h=>by
   simp only[yA,Bool.and_eq_true] at G;simp only[List.map_cons,aG] at h;simp only[jd,aG];split at h
   ·rename_i e;simp only[Option.some.injEq] at h;subst h;exact⟨e.symm,box,by rw[if_pos rfl],by rw[if_pos e]⟩
   rename_i e;obtain⟨h1,J,h2,K⟩:=Bt G.2 h;refine⟨h1,J,?_,by rw[if_neg e];exact K⟩;rw[if_neg]
   ·exact h2
   rintro rfl
   have:=G.1;rw[h2] at this;cases this
theorem MB {ρ:Ren}{k:Nat}:∀{hp':List (Nat×aI)} {box:aI},(∀k' cZ,lk hp' k'=some cZ→jG ρ k'=jG ρ k→k'=k)→yA hp'=true→lk hp' k=some box →
  lk (hp'.map fun x=>(jG ρ x.1,x.1)) (jG ρ k)=some k
 |[],box,_,_,h=>by simp[lk] at h
 | (k',K)::r,box,hinj,G,h=>by
   simp only[yA,Bool.and_eq_true] at G;simp only[List.map_cons,aG];split
   ·rename_i e;rw[hinj k' K (by simp[aG]) e]
   rename_i e;rw[aG] at h;rw[if_neg (fun e'=>e (by rw[e']))] at h;refine MB (fun S J h2 Q=>hinj S J ?_ Q) G.2 h;rw[aG,if_neg]
   ·exact h2
   rintro rfl
   have:=G.1;rw[h2] at this;cases this
theorem Fv {N:Nat→Prop}{w:World}{hp:List (Nat×aI)}{R:Real}{v:AV}{g:Fn}{Q c':List AV}{x:Value}(G:Qd v=some (g,Q,c'))(K:au N w hp R v x) :
  ∃J cs:Array Value,x=.func g J cs∧dw N w hp R Q J.toList∧dw N w hp R c' cs.toList:=by
 unfold Qd at G;split at G
 ·simp only[Option.some.injEq,Prod.mk.injEq] at G;obtain⟨rfl,rfl,rfl⟩:=G;simpa only[au] using K
 ·simp only[Option.some.injEq,Prod.mk.injEq] at G;obtain⟨rfl,rfl,rfl⟩:=G;simp only[au,bL] at K;obtain⟨J,cs,e,S,V⟩:=K;exact⟨J,cs,e,oW _ _ S,oW _ _ V⟩
 cases G
theorem wQ {N:Nat→Prop}{w:World}{hp:List (Nat×aI)}{R:Real}{vs us:List AV}{xs ys:List Value}(h:dw N w hp R vs xs)(G:dw N w hp R us ys):dw N w hp R (vs++us) (xs++ys):=by
 rw[eZ] at h G ⊢;exact h.app G
def K2 (R:Real)(G:Ren)(hp:List (Nat×aI))(v:AV)(x:Value):Prop:=
 match v with
 |.ptr k off=>k<999∧∃b d,lk G k=some (b,d)∧bf R b off x (lk hp b)
 |.aO k ver=>k<999∧∃b d,lk G k=some (b,d)∧aX R b (ver+d) x (lk hp b)
 |.eY k ver i off=>k<999∧∃b d,lk G k=some (b,d)∧bC R b (ver+d) i off x (lk hp b)
 |_=>False
section
variable {P:Program}{c:Ctx}{R:Real}{s:AS}{a:Act}{w:World}
def DD (R:Real)(inv:Inv)(hp:List (Nat×aI))(r:Nat):Prop:=∃b k d,lk inv b=some (k,d)∧aQ R b r (lk hp b)
def Fw (g:bN c R s a w)(inv:Inv)(G:Ren):Ctx where
 F r:=bA c R s.hp r∧¬DD R inv s.hp r
 O:=DD R inv s.hp
 w:=w
 n:=0
 hF r h:=g.Nlt h.1
 K:=K2 R G s.hp
 hK v x h:=by
  cases v<;>simp only[K2] at h<;>have h:=h.1<;>simp only[jP,Bool.and_eq_true,Nat.blt_eq,Bool.not_eq_true']<;>first
   |omega
   |exact⟨by omega,by cases J:Nat.beq _ 999 with|false=>rfl|true=>(have:=Nat.eq_of_beq_eq_true J;omega)⟩
 fix _:=none
 n0:=R.Y.n0
 lo:=w.heap.size
theorem Yu (g:bN c R s a w){inv:Inv}{K:Ren}{mR:List (Nat×aI)}(h1:∀b k d,lk inv b=some (k,d)→lk K k=some (b,d))(Q:∀b k d,lk K k=some (b,d)→lk inv b=some (k,d))
  (h2:∀k b d,lk K k=some (b,d)→∃box,lk s.hp b=some box∧d=qy box∧lk mR k=some (lH inv box))
  (h3:∀k box0,lk mR k=some box0→∃b box,lk K k=some (b,qy box)∧lk s.hp b=some box∧box0=lH inv box) (h4:∀k x y z u,lk mR k≠some (.tr x y z u)) :
  zH (Fw g inv K) (O5 K R) mR w∧(∀r,bA (Fw g inv K) (O5 K R) mR r→bA c R s.hp r):=by
 have ho:∀k r,aQ (O5 K R) k r (lk mR k)→∃b d,lk K k=some (b,d)∧aQ R b r (lk s.hp b):=by
  intro k r h;cases hk:lk mR k with
  |none=>rw[hk] at h;exact h.elim
  | some box0=>
    obtain⟨b,box,G,J,rfl⟩:=h3 k box0 hk;obtain⟨e1,e2,e3⟩:=Fs (R:=R) G;refine⟨b,_,G,?_⟩;rw[hk] at h;rw[J];cases box<;>simp only[aQ,lH,e1,e2,e3] at h ⊢ <;> exact h
 have ae:∀r,owned (O5 K R) mR r→DD R inv s.hp r:=by
  rintro r ⟨k,h⟩
  obtain⟨b,d,G,J⟩:=ho k r h;exact⟨b,k,d,Q b k d G,J⟩
 have hN:∀r,bA (Fw g inv K) (O5 K R) mR r→bA c R s.hp r:=by
  rintro r (h|h)
  ·exact h.1
  obtain⟨b,k,d,_,h⟩:=ae r h;exact .inr ⟨b,h⟩
 refine⟨⟨fun k box0 hk=>?_,fun k k' r ha hb=>?_,fun r S hF=>hF.2 (ae r S),mV.refl _ _,fun r S=>.inl (ae r S),fun v x hK=>?_,uF.none,⟨rfl,by show R.Y.n0.1≤w.heap.size;rw[g.lo.1];exact Nat.le_trans g.lo.2.1 g.lo.2.2,Nat.le_refl _⟩⟩,hN⟩
 ·obtain⟨b,box,G,J,rfl⟩:=h3 k box0 hk;obtain⟨e1,e2,e3⟩:=Fs (R:=R) G;have S:=g.boxes b box J;cases box with
  | var aa=>
    obtain⟨ad,e,V,X⟩:=S;exact⟨ad,e,by rw[e1];exact V,wP h1 h2 hN _ _ X⟩
  | oN aa=>
    obtain⟨ad,e,fr,V,X,b3⟩:=S;exact⟨ad,e,fr,by rw[e1];exact V,by rw[e1];exact fun h=>X (hN _ h),fJ (fun r _ h=>hN r h) (fun _ _ _=>rfl) _ _ b3⟩
  | arr e ver st af=>
    obtain⟨xs,V,X⟩:=S;exact⟨xs,by rw[Kr G];exact V,bg (fun r _ h=>hN r h) (fun _ _ _=>rfl) _ _ _ X⟩
  | d9 ver st af=>
    simp only[lH,fK,Kr G] at S ⊢;exact dV (fun r _ h=>hN r h) (fun _ _ _=>rfl) _ _ S
  |tr y ver rest st=>exact absurd hk (h4 _ _ _ _ _)
  | iP e ver st pre ag post=>
    obtain⟨xs,V,X,b3,b4,b5⟩:=S;refine⟨xs,by rw[Kr G];exact V,bg (fun r _ h=>hN r h) (fun _ _ _=>rfl) _ _ _ X,by rw[IQ];exact b3,wP h1 h2 hN _ _ b4,bg (fun r _ h=>hN r h) (fun _ _ _=>rfl) _ _ _ b5⟩
 ·obtain⟨b,d,G,J⟩:=ho k r ha;obtain⟨b',d',V,X⟩:=ho k' r hb;have:=g.inj b b' r J X;subst this;have e1:=Q b k d G;have e2:=Q b k' d' V;rw[e1] at e2;simp only[Option.some.injEq,Prod.mk.injEq] at e2;exact e2.1
 cases v<;>simp only[Fw,K2] at hK
 ·obtain⟨_,b,d,G,J⟩:=hK;simp only[au];exact Fu h1 h2 (Q b _ d G) J
 ·obtain⟨_,b,d,G,J⟩:=hK;simp only[au];have:=IU h1 h2 (Q b _ d G) (Nat.le_add_left _ _) J;rwa [Nat.add_sub_cancel] at this
 obtain⟨_,b,d,G,J⟩:=hK;simp only[au];have:=Br h1 h2 (Q b _ d G) (Nat.le_add_left _ _) J;rwa [Nat.add_sub_cancel] at this
theorem Ta (g:bN c R s a w){inv:Inv}{gW ρ:Ren}{hp':List (Nat×aI)}{R2:Real}{w':World}{id:Nat}
  (h1:∀b k d,lk inv b=some (k,d)→lk gW k=some (b,d)) (bm:∀b k d,lk gW k=some (b,d)→lk inv b=some (k,d))
  (h2:∀k b d,lk gW k=some (b,d)→∃box,lk s.hp b=some box∧d=qy box) (h4:∀k b d,lk gW k=some (b,d)→∀x y z u,lk s.hp b≠some (.tr x y z u))
  (IW:∀k p,lk gW k=some p→k<999∧∃box,lk hp' k=some box) (bp:∀b∈vH gW id hp',lk s.hp b=none) (al:yA hp'=true)
  (hρ:ρ=Bo gW id hp') (Yv:∀k x y z u,lk hp' k≠some (.tr x y z u)) (h:zH (Fw g inv gW) R2 hp' w') :
  bN c (upR ρ R R2 hp') (s.app (jd ρ hp')) a w' ∧
   ∀v x,au (bA (Fw g inv gW) R2 hp') w' hp' R2 v x→au (bA c (upR ρ R R2 hp') (jd ρ hp'++s.hp)) w' (jd ρ hp'++s.hp) (upR ρ R R2 hp') (mH ρ v) x:=by
 have U6:∀k box,lk hp' k=some box→(∃b d,lk gW k=some (b,d)∧jG ρ k=b∧Eb ρ k=d)∨(lk gW k=none∧jG ρ k=id+1000000*k∧Eb ρ k=0∧lk s.hp (jG ρ k)=none):=by
  intro k box J;have e:lk ρ k=some (Fj gW id k):=by rw[hρ,IL,J];rfl
  cases hf:lk gW k with
  | some p=>
    obtain⟨b,d⟩:=p;refine .inl ⟨b,d,rfl,?_,?_⟩<;>simp[jG,Eb,e,Fj,hf]
  | none=>
    have e1:jG ρ k=id+1000000*k:=by simp[jG,e,Fj,hf]
    refine .inr ⟨rfl,e1,by simp[Eb,e,Fj,hf],?_⟩;rw[e1];exact bp _ (Fq J hf)
 have hinj:∀k k' box cZ,lk hp' k=some box→lk hp' k'=some cZ→jG ρ k'=jG ρ k→k'=k:=by
  intro k k' box cZ J ao e;rcases U6 k box J with ⟨b,d,a1,a2,a3⟩|⟨a1,a2,a3,a4⟩<;>rcases U6 k' cZ ao with ⟨b',d',b1,b2,b3⟩|⟨b1,b2,b3,b4⟩
  ·rw[a2,b2] at e;subst e;have e1:=bm _ k d a1;have e2:=bm _ k' d' b1;rw[e1] at e2;simp only[Option.some.injEq,Prod.mk.injEq] at e2;exact e2.1.symm
  ·obtain⟨V,c1,_⟩:=h2 k b d a1;rw[e,a2,c1] at b4;cases b4
  ·obtain⟨V,c1,_⟩:=h2 k' b' d' b1;rw[←e,b2,c1] at a4;cases a4
  rw[a2,b2] at e;omega
 have hit:∀k box,lk hp' k=some box→lk (hp'.map fun x=>(jG ρ x.1,x.1)) (jG ρ k)=some k:=fun k box J=>
  MB (fun k' cZ ao e=>hinj k k' box cZ J ao e) al J
 generalize hX:(hp'.map fun x=>(jG ρ x.1,x.1))=X at hit;let R':=upR ρ R R2 hp'
 have am:∀k box,lk hp' k=some box→R'.blk (jG ρ k)=R2.blk k∧R'.nil (jG ρ k)=R2.nil k∧R'.cap (jG ρ k)=R2.cap k:=by
  intro k box J;have:=hit k box J;rw[←hX] at this;simp only[R',upR,this];exact⟨trivial,trivial,trivial⟩
 have aq:∀b,lk X b=none→R'.blk b=R.blk b∧R'.nil b=R.nil b∧R'.cap b=R.cap b:=by
  intro b K;rw[←hX] at K;simp only[R',upR,K];exact⟨trivial,trivial,trivial⟩
 have ap:∀k box,lk hp' k=some box→lk (jd ρ hp'++s.hp) (jG ρ k)=some (ig ρ k box):=by
  intro k box J;have:=hit k box J;rw[←hX] at this;obtain⟨_,V,c1,c2⟩:=Bt al this;rw[J] at c1;cases c1;have az:∀{l l':List (Nat×aI)} {b:Nat} {y:aI},lk l b=some y→lk (l++l') b=some y:=by
   intro l l' b y;induction l with
   |nil=>intro h;simp[lk] at h
   | cons z l ih=>
     obtain⟨zk,zv⟩:=z;intro h;rw[List.cons_append,aG];rw[aG] at h;split at h
     ·rename_i e;rw[if_pos e];exact h
     rename_i e;rw[if_neg e];exact ih h
  exact az c2
 have ax:∀b,lk X b=none→lk (jd ρ hp'++s.hp) b=lk s.hp b:=by
  intro b K;rw[←hX] at K;have:=IV K;have az:∀{l l':List (Nat×aI)} {b:Nat},lk l b=none→lk (l++l') b=lk l' b:=by
   intro l l' b;induction l with
   |nil=>intro _;rfl
   | cons z l ih=>
     obtain⟨zk,zv⟩:=z;intro h;rw[List.cons_append,aG];rw[aG] at h;split at h
     ·cases h
     rename_i e;rw[if_neg e];exact ih h
  exact az this
 have Q:∀b,lk X b=none∨∃k box,b=jG ρ k∧lk hp' k=some box:=by
  intro b;cases K:lk X b with
  |none=>exact .inl rfl
  | some k=>
    rw[←hX] at K;obtain⟨e,V,c1,_⟩:=Bt al K;exact .inr ⟨k,V,e,c1⟩
 have bo:∀b k d,lk inv b=some (k,d)→lk X b≠none:=by
  intro b k d K hn;have hf:=h1 b k d K;obtain⟨_,V,J⟩:=IW k _ hf;have:=hit k V J;rcases U6 k V J with ⟨b',d',a1,a2,a3⟩|⟨a1,_⟩
  ·rw[hf] at a1;simp only[Option.some.injEq,Prod.mk.injEq] at a1;rw[a2,←a1.1,hn] at this;cases this
  rw[hf] at a1;cases a1
 have CF:∀b r,lk X b=none→aQ R' b r (lk (jd ρ hp'++s.hp) b)→aQ R b r (lk s.hp b):=by
  intro b r K S;rw[ax b K] at S;exact iI (aq b K) rfl S
 have CG:∀k box r,lk hp' k=some box→aQ R' (jG ρ k) r (lk (jd ρ hp'++s.hp) (jG ρ k))→aQ R2 k r (lk hp' k):=by
  intro k box r J S;rw[ap k box J] at S;rw[J];obtain⟨e1,e2,e3⟩:=am k box J;cases box<;>simp only[aQ,ig,e1,e2,e3] at S ⊢ <;> first
   |exact S
   |exact absurd J (Yv _ _ _ _ _)
 have bh:∀b r,lk X b=none→aQ R b r (lk s.hp b)→¬DD R inv s.hp r:=by
  rintro b r K ho ⟨b',k,d,hi,bt⟩
  have:=g.inj b b' r ho bt;subst this;exact bo b k d hi K
 have Yw:∀b r,lk X b=none→aQ R b r (lk s.hp b)→(Fw g inv gW).F r:=fun b r K ho=>⟨.inr ⟨b,ho⟩,bh b r K ho⟩
 have bj:∀r,c.F r→(Fw g inv gW).F r:=fun r G=>⟨.inl G,fun⟨b,k,d,_,ho⟩=>g.free r ⟨b,ho⟩ G⟩
 have DN:∀r,DD R inv s.hp r→owned R s.hp r:=fun r ⟨b,k,d,_,ho⟩=>⟨b,ho⟩
 have N2:∀r,bA c R' (jd ρ hp'++s.hp) r→bA (Fw g inv gW) R2 hp' r:=by
  rintro r (S|⟨b,S⟩)
  ·exact .inl (bj r S)
  rcases Q b with K|⟨k,box,rfl,J⟩
  ·exact .inl (Yw b r K (CF b r K S))
  exact .inr ⟨k,CG k box r J S⟩
 have NN:∀r,r<w.heap.size→bA c R' (jd ρ hp'++s.hp) r→bA c R s.hp r:=by
  intro r G S;rcases N2 r S with S|S
  ·exact S.1
  rcases h.jy r S with S|S
  ·exact .inr (DN r S)
  exact absurd G (Nat.not_lt.2 S)
 have WW:∀r,r<w.heap.size→¬bA c R s.hp r→w'.heap[r]? = w.heap[r]? :=fun r G hn=>h.jV.keep r G fun hd=>hn (.inr (DN r hd))
 have P1:∀k box,lk hp' k=some box→∀off v,bf R2 k off v (lk hp' k)→bf R' (jG ρ k) off v (lk (jd ρ hp'++s.hp) (jG ρ k)):=by
  intro k box J off v G;rw[ap k box J];rw[J] at G;obtain⟨e1,e2,e3⟩:=am k box J;cases box<;>simp only[bf,ig,e1] at G ⊢ <;> exact G
 have P2:∀k box,lk hp' k=some box→∀ver v,aX R2 k ver v (lk hp' k)→aX R' (jG ρ k) (ver+Eb ρ k) v (lk (jd ρ hp'++s.hp) (jG ρ k)):=by
  intro k box J ver v G;rw[ap k box J];rw[J] at G;obtain⟨e1,e2,e3⟩:=am k box J;cases box<;>simp only[aX,ig,Bl e1 e2 e3] at G ⊢ <;> first
   |exact G
   |exact⟨Nat.zero_le _,G.2.1,G.2.2⟩
   |exact⟨by omega,G.2.1,fun he=>G.2.2 (by omega)⟩
 have P3:∀k box,lk hp' k=some box→∀ver i off v,bC R2 k ver i off v (lk hp' k)→bC R' (jG ρ k) (ver+Eb ρ k) i off v (lk (jd ρ hp'++s.hp) (jG ρ k)):=by
  intro k box J ver i off v G;rw[ap k box J];rw[J] at G;obtain⟨e1,e2,e3⟩:=am k box J;cases box<;>simp only[bC,ig,e1,e2,e3] at G ⊢ <;> first
   |exact G
   |exact absurd J (Yv _ _ _ _ _)
   |exact⟨Nat.zero_le _,G.2.1,G.2.2⟩
   |exact⟨by omega,G.2.1,fun he=>G.2.2 (by omega)⟩
 have Q1:∀b off v,bf R b off v (lk s.hp b)→bf R' b off v (lk (jd ρ hp'++s.hp) b):=by
  intro b off v G;rcases Q b with K|⟨k,box,rfl,J⟩
  ·rw[ax b K];exact oL (aq b K) G
  rcases U6 k box J with ⟨b,d,a1,a2,a3⟩|⟨a1,a2,a3,a4⟩
  ·rw[a2] at G;have:=h.kept (.ptr k off) v ⟨(IW k _ a1).1,b,d,a1,G⟩;simp only[au] at this;exact P1 k box J off v this
  rw[a4] at G;exact G.elim
 have af:∀k b d,lk gW k=some (b,d)→∀box,lk hp' k=some box→(∃ver v,aX R b ver v (lk s.hp b))→∃v',aX R b (0+d) v' (lk s.hp b):=by
  rintro k b d J box K ⟨ver,v,G⟩
  obtain⟨V,c1,c2⟩:=h2 k b d J;rw[c1] at G ⊢;cases V<;>simp only[aX] at G
  ·simp only[qy] at c2;subst c2;exact⟨dW R b _,by omega,by unfold dW;split<;>rfl,fun _=>rfl⟩
  ·simp only[qy] at c2;subst c2;exact⟨dW R b _,by omega,by unfold dW;split<;>rfl,fun _=>rfl⟩
  simp only[qy] at c2;subst c2;exact⟨dW R b _,by omega,by unfold dW;split<;>rfl,fun _=>rfl⟩
 have Q2:∀b ver v,aX R b ver v (lk s.hp b)→aX R' b ver v (lk (jd ρ hp'++s.hp) b):=by
  intro b ver v G;rcases Q b with K|⟨k,box,rfl,J⟩
  ·rw[ax b K];exact qG (aq b K) G
  rcases U6 k box J with ⟨b,d,a1,a2,a3⟩|⟨a1,a2,a3,a4⟩
  ·rw[a2] at G;by_cases hd:d≤ver
   ·have:=h.kept (.aO k (ver-d)) v ⟨(IW k _ a1).1,b,d,a1,by rw[Nat.sub_add_cancel hd];exact G⟩;simp only[au] at this;have:=P2 k box J _ v this;rwa [a3,Nat.sub_add_cancel hd] at this
   obtain⟨v',bd⟩:=af k b d a1 box J ⟨ver,v,G⟩;have:=h.kept (.aO k 0) v' ⟨(IW k _ a1).1,b,d,a1,bd⟩;simp only[au] at this;have:=P2 k box J _ v' this;rw[a3] at this;have a0:v.oneCell'=true:=by
    cases ar:lk s.hp b with
    |none=>rw[ar] at G;exact G.elim
    |some V=>rw[ar] at G;cases V<;>simp only[aX] at G<;>first|exact G.2.1|exact G.elim
   cases aw:lk (jd ρ hp'++s.hp) (jG ρ k) with
   |none=>rw[aw] at this;exact this.elim
   | some V=>
     rw[aw] at this;cases V<;>simp only[aX] at this ⊢ <;> exact⟨by omega,a0,fun e=>by omega⟩
  rw[a4] at G;exact G.elim
 have bq:∀k b d,lk gW k=some (b,d)→∀box,lk hp' k=some box→d≠0→(∃ver i off v,bC R b ver i off v (lk s.hp b))→∃v',aX R b (0+d) v' (lk s.hp b):=by
  rintro k b d J box K bw ⟨ver,i,off,v,G⟩
  obtain⟨V,c1,c2⟩:=h2 k b d J;rw[c1] at G ⊢;cases V<;>simp only[bC] at G
  ·simp only[qy] at c2;subst c2;exact⟨dW R b _,by omega,by unfold dW;split<;>rfl,fun _=>rfl⟩
  ·simp only[qy] at c2;subst c2;exact⟨dW R b _,by omega,by unfold dW;split<;>rfl,fun _=>rfl⟩
  ·exact absurd c1 (h4 k b d J _ _ _ _)
  simp only[qy] at c2;subst c2;exact⟨dW R b _,by omega,by unfold dW;split<;>rfl,fun _=>rfl⟩
 have Q3:∀b ver i off v,bC R b ver i off v (lk s.hp b)→bC R' b ver i off v (lk (jd ρ hp'++s.hp) b):=by
  intro b ver i off v G;rcases Q b with K|⟨k,box,rfl,J⟩
  ·rw[ax b K];exact qH (aq b K) G
  rcases U6 k box J with ⟨b,d,a1,a2,a3⟩|⟨a1,a2,a3,a4⟩
  ·rw[a2] at G;by_cases hd:d≤ver
   ·have:=h.kept (.eY k (ver-d) i off) v ⟨(IW k _ a1).1,b,d,a1,by rw[Nat.sub_add_cancel hd];exact G⟩;simp only[au] at this;have:=P3 k box J _ i off v this;rwa [a3,Nat.sub_add_cancel hd] at this
   obtain⟨v',bd⟩:=bq k b d a1 box J (by omega) ⟨ver,i,off,v,G⟩;have:=h.kept (.aO k 0) v' ⟨(IW k _ a1).1,b,d,a1,bd⟩;simp only[au] at this;have:=P2 k box J _ v' this;rw[a3] at this;have a0:v.oneCell'=true:=by
    cases ar:lk s.hp b with
    |none=>rw[ar] at G;exact G.elim
    |some V=>rw[ar] at G;cases V<;>simp only[bC] at G<;>first|exact G.2.1|exact G.elim
   cases aw:lk (jd ρ hp'++s.hp) (jG ρ k) with
   |none=>rw[aw] at this;exact this.elim
   | some V=>
     rw[aw] at this;cases V<;>simp only[aX] at this<;>simp only[bC]<;>exact⟨by omega,a0,fun e=>by omega⟩
  rw[a4] at G;exact G.elim
 have Yx:∀k box,lk hp' k=some box→lk (jd ρ hp'++s.hp) (jG ρ k)=some (ig ρ k box)∧R'.blk (jG ρ k)=R2.blk k∧R'.nil (jG ρ k)=R2.nil k∧R'.cap (jG ρ k)=R2.cap k:=
  fun k box J=>⟨ap k box J,am k box J⟩
 have a5:∀b off v,bf R' b off v (lk (jd ρ hp'++s.hp) b)→bf R' b off v (lk (jd ρ hp'++s.hp) b):=fun _ _ _ h=>h
 have a6:∀b ver v,aX R' b ver v (lk (jd ρ hp'++s.hp) b)→aX R' b ver v (lk (jd ρ hp'++s.hp) b):=fun _ _ _ h=>h
 have a7:∀b ver i off v,bC R' b ver i off v (lk (jd ρ hp'++s.hp) b)→bC R' b ver i off v (lk (jd ρ hp'++s.hp) b):=fun _ _ _ _ _ h=>h
 have ah:∀r,r<w'.heap.size→bA c R' (jd ρ hp'++s.hp) r→bA (Fw g inv gW) R2 hp' r:=fun r _=>N2 r
 have W2:∀r,r<w'.heap.size→¬bA (Fw g inv gW) R2 hp' r→w'.heap[r]? = w'.heap[r]? :=fun _ _ _=>rfl
 have WO:∀r,r<w.heap.size→¬owned R s.hp r→w'.heap[r]? = w.heap[r]? :=fun r G hn=>h.jV.keep r G fun hd=>hn (DN r hd)
 have OO:∀r,r<w.heap.size→owned R' (jd ρ hp'++s.hp) r→owned R s.hp r:=by
  rintro r G ⟨b,S⟩
  rcases Q b with K|⟨k,box,rfl,J⟩
  ·exact⟨b,CF b r K S⟩
  rcases h.jy r ⟨k,CG k box r J S⟩ with S|S
  ·exact DN r S
  exact absurd G (Nat.not_lt.2 S)
 refine⟨⟨fun t v hv=>?_,g.size,⟨g.lo.1,g.lo.2.1,Nat.le_trans g.lo.2.2 h.jV.size⟩,g.marks.imp fun Ds hm=>hm.kept WO OO,g.fixed.kept WO OO,fun b box K=>?_,fun b b' r ha K=>?_,fun r ⟨b,G⟩ hF=>?_,?_,fun r ⟨b,G⟩=>?_,fun v x hK=>dM NN WW Q1 Q2 Q3 v x (g.kept v x hK)⟩,fun v x hv=>?_⟩
 ·obtain⟨x,hx,G⟩:=g.slots t v hv;exact⟨x,hx,dM NN WW Q1 Q2 Q3 v x G⟩
 ·simp only[AS.app] at K ⊢;rcases Q b with aa|⟨k,V,rfl,J⟩
  ·have bv:=K;rw[ax b aa] at K;have G:=g.boxes b box K;have ak:=aq b aa;have ag:∀r,aQ R b r (lk s.hp b)→w'.heap[r]? = w.heap[r]? :=fun r ho=>h.jV.keep r (g.mG ho) (bh b r aa ho)
   rw[K] at ag;cases box with
   | var ai=>
     obtain⟨af,e',h8,h9⟩:=G;refine⟨af,e',?_,dK NN WW Q1 Q2 Q3 _ _ h9⟩;rw[ak.1,ag _ rfl];exact h8
   | oN ai=>
     obtain⟨af,e',fr,h8,h7,h9⟩:=G;have hs:=size_of_getElem? h8;refine⟨af,e',fr,?_,?_,fJ NN WW _ _ h9⟩
     ·rw[ak.1,WW _ hs h7];exact h8
     rw[ak.1];exact fun x=>h7 (NN _ hs x)
   | arr e' ver st ae=>
     obtain⟨xs,h8,h9⟩:=G;refine⟨xs,?_,bg NN WW _ _ _ h9⟩;rw[jL ak];refine kZ h8 fun k J=>ag k ?_
     simp only[dW] at J;cases ad:R.nil b with
     |true=>simp[ad,Value.ownBlock] at J
     |false=>simp[ad,Value.ownBlock] at J;exact⟨ad,J⟩
   | d9 ver st ae=>
     simp only[fK] at G ⊢;rw[show dW (upR ρ R R2 hp') b ae.length=dW R b ae.length from jL ak];exact dV NN WW _ _ G
   | tr y ver rest st=>
     obtain⟨k0,kh,k1,k2,k3,k4⟩:=G;simp only[fK,show (upR ρ R R2 hp').nil b=R.nil b from ak.2.1];refine⟨k0,kh,k1,k2.step h.jV fun r G ⟨b2,k,d,hi,ho⟩=>?_,k3,fun r hn=>?_⟩
     ·rcases k4 r (.inr ⟨b2,ho⟩) with hd|hz|hs
      ·exact absurd (g.inj b2 b r ho (by rw[K];exact hd)) fun e=>bo b2 k d hi (e▸aa)
      ·exact hz
      omega
     by_cases br:r<w.heap.size
     ·exact k4 r (NN r br hn)
     exact .inr (.inr (by have:=k2.size;show R.Y.wy.heap.size≤r;omega))
   | iP e' ver st pre bu post=>
     obtain⟨xs,h8,h9,a9,ba,bb⟩:=G;refine⟨xs,?_,bg NN WW _ _ _ h9,a9,dK NN WW Q1 Q2 Q3 _ _ ba,bg NN WW _ _ _ bb⟩;rw[jL ak];refine kZ h8 fun k J=>ag k ?_
     simp only[dW] at J;cases ad:R.nil b with
     |true=>simp[ad,Value.ownBlock] at J
     |false=>simp[ad,Value.ownBlock] at J;exact⟨ad,J⟩
  rw[ap k V J] at K;cases K;have G:=h.boxes k V J;obtain⟨e1,e2,e3⟩:=am k V J;cases V with
  | var ai=>
    obtain⟨af,e',h8,h9⟩:=G;exact⟨af,e',by rw[e1];exact h8,dK ah W2 a5 a6 a7 _ _ (zP Yx _ _ h9)⟩
  | oN ai=>
    obtain⟨af,e',fr,h8,h7,h9⟩:=G;exact⟨af,e',fr,by rw[e1];exact h8,by rw[e1];exact fun x=>h7 (N2 _ x),fJ ah W2 _ _ h9⟩
  | arr e' ver st ae=>
    obtain⟨xs,h8,h9⟩:=G;exact⟨xs,by rw[Bl e1 e2 e3];exact h8,bg ah W2 _ _ _ h9⟩
  | d9 ver st ae=>
    simp only[ig,fK] at G ⊢;rw[show dW (upR ρ R R2 hp') (jG ρ k) ae.length=dW R2 k ae.length from Bl e1 e2 e3];exact dV ah W2 _ _ G
  |tr y ver rest st=>exact absurd J (Yv _ _ _ _ _)
  | iP e' ver st pre bu post=>
    obtain⟨xs,h8,h9,a9,ba,bb⟩:=G;exact⟨xs,by rw[Bl e1 e2 e3];exact h8,bg ah W2 _ _ _ h9,by rw[Ir];exact a9,dK ah W2 a5 a6 a7 _ _ (zP Yx _ _ ba),bg ah W2 _ _ _ bb⟩
 ·simp only[AS.app] at ha K;rcases Q b with aa|⟨k,V,rfl,J⟩<;>rcases Q b' with a8|⟨k',bk,rfl,ao⟩
  ·exact g.inj b b' r (CF b r aa ha) (CF b' r a8 K)
  ·exact absurd (Yw b r aa (CF b r aa ha)) (h.free r ⟨k',CG k' bk r ao K⟩)
  ·exact absurd (Yw b' r a8 (CF b' r a8 K)) (h.free r ⟨k,CG k V r J ha⟩)
  rw[h.inj k k' r (CG k V r J ha) (CG k' bk r ao K)]
 ·simp only[AS.app] at G;rcases Q b with aa|⟨k,V,rfl,J⟩
  ·exact g.free r ⟨b,CF b r aa G⟩ hF
  exact h.free r ⟨k,CG k V r J G⟩ (bj r hF)
 ·exact g.jV.trans h.jV fun r G hd=>(g.jy r (DN r hd)).resolve_right (by omega)
 ·simp only[AS.app] at G;rcases Q b with aa|⟨k,V,rfl,J⟩
  ·exact g.jy r ⟨b,CF b r aa G⟩
  rcases h.jy r ⟨k,CG k V r J G⟩ with S|S
  ·exact g.jy r (DN r S)
  exact .inr (Nat.le_trans g.jV.size S)
 exact dM ah W2 a5 a6 a7 _ _ (Km Yx v x hv)
theorem XM (g:bN c R s a w){fv:AV}{args:List AV}{id:Nat}{K:AV→List (Nat×aI)→List Nat→Prop}(h:gC P s.hp id (fv::args) K)
  {u:Value} {us:List Value} (hf:au (bA c R s.hp) w s.hp R fv u) (hv:FL (au (bA c R s.hp) w s.hp R) args us) :
  ∃f first X,u=.func (.func f) first X∧Enters P f∧Calls P f (first++us.toArray++X) w fun e w'=>∃v z ws ag R',e=.returned v∧K z ws ag∧bN c R' (s.app ws) a w' ∧
   au (bA c R' (ws++s.hp)) w' (ws++s.hp) R' z v:=by
 unfold gC at h;simp only at h;split at h;rotate_left;cases h
 rename_i f first X ad
 split at h;rotate_left;cases h
 rename_i H hH;obtain⟨r,ai,Pb,h⟩:=h;split at h;rotate_left;cases h
 rename_i V;rw[zL,zM] at h;have af:=lI _ _ h;have h:=nQ _ _ _ h;simp only[gOk,Bool.and_eq_true] at V;obtain⟨o1,o2,o3,o4,o5⟩:=V;obtain⟨fs,cs,rfl,f1,f2⟩:=Fv ad hf;refine⟨f,fs,cs,rfl,Pb.1,?_⟩;have h1:∀b k d,lk (lT 1 H) b=some (k,d)→lk (jZ 1 H) k=some (b,d):=fun b k d G=>(Bp G).2
 have Q:∀b k d,lk (jZ 1 H) k=some (b,d)→lk (lT 1 H) b=some (k,d):=fun b k d G=>yB o4 G
 have h2:∀k b d,lk (jZ 1 H) k=some (b,d)→∃box,lk s.hp b=some box∧d=qy box∧lk (uQ (lT 1 H) 1 H) k=some (lH (lT 1 H) box):=
  fun k b d G=>Bq (rO hH) G
 have h3:∀k box0,lk (uQ (lT 1 H) 1 H) k=some box0→∃b box,lk (jZ 1 H) k=some (b,qy box)∧lk s.hp b=some box∧box0=lH (lT 1 H) box:=
  fun k box0 G=>Fp (rO hH) G
 obtain⟨ae,aa⟩:=Yu g h1 Q h2 h3 (ni o5);have J:dw (bA c R s.hp) w s.hp R (first++(args++X)) (fs.toList++(us++cs.toList)):=
  wQ f1 (wQ ((eZ _ _ _ _ _ _).2 hv) f2)
 have Qf:=o6 h1 h2 aa _ _ J;refine (Pb.2 _ _ w (fs++us.toArray++cs) ae (by simpa using Qf)).mono ?_;rintro e w' ⟨v,r',ah,R2,rfl,⟨rfl,rfl⟩,hh,hr⟩
 obtain⟨g',S⟩:=Ta (id:=id) g h1 Q (fun k b d G=>let ⟨bx,c1,c2,_⟩:=h2 k b d G;⟨bx,c1,c2⟩) (fun k b d G x y z u e=>by
  obtain⟨bx,c1,_,c3⟩:=h2 k b d G;rw[c1] at e;cases e;exact ni o5 k _ _ _ _ c3) (fun k p hk=>vJ o1 hk) (fun b G=>tK o2 b G) o3 rfl (ni af) hh
 exact⟨v,_,_,_,_,rfl,h,g',S r' v hr⟩
theorem XO (g:bN c R s a w){fv:AV}{args:List AV}{id:Nat}{K:AV→List (Nat×aI)→List Nat→Prop}(h:gI P s.hp id (fv::args) K)
  {u:Value} {us:List Value} (hf:au (bA c R s.hp) w s.hp R fv u) (hv:FL (au (bA c R s.hp) w s.hp R) args us) :
  ∃f first bD,u=.func (.func f) first bD∧Enters P f∧Calls P f (first++us.toArray++bD) w fun e w'=>∃v z ws ai R',e=.returned v∧K z ws ai∧bN c R' (s.app ws) a w' ∧
   au (bA c R' (ws++s.hp)) w' (ws++s.hp) R' z v:=by
 unfold gI at h;simp only at h;split at h;rotate_left;cases h
 rename_i f first bD af
 split at h;rotate_left;cases h
 rename_i H hH;split at h;rotate_left;cases h
 rename_i J;obtain⟨Q,Pb,h⟩:=h;obtain⟨fs,cs,rfl,f1,f2⟩:=Fv af hf;refine⟨f,fs,cs,rfl,Pb.1,?_⟩;simp only[Bool.and_eq_true] at J;obtain⟨o4,o5⟩:=J;have h1:∀b k d,lk (lT 1 H) b=some (k,d)→lk (jZ 1 H) k=some (b,d):=fun b k d G=>(Bp G).2
 have V:∀b k d,lk (jZ 1 H) k=some (b,d)→lk (lT 1 H) b=some (k,d):=fun b k d G=>yB o4 G
 have h2:∀k b d,lk (jZ 1 H) k=some (b,d)→∃box,lk s.hp b=some box∧d=qy box∧lk (uQ (lT 1 H) 1 H) k=some (lH (lT 1 H) box):=
  fun k b d G=>Bq (rO hH) G
 have h3:∀k box0,lk (uQ (lT 1 H) 1 H) k=some box0→∃b box,lk (jZ 1 H) k=some (b,qy box)∧lk s.hp b=some box∧box0=lH (lT 1 H) box:=
  fun k box0 G=>Fp (rO hH) G
 obtain⟨ag,ae⟩:=Yu g h1 V h2 h3 (ni o5);have S:dw (bA c R s.hp) w s.hp R (first++(args++bD)) (fs.toList++(us++cs.toList)):=
  wQ f1 (wQ ((eZ _ _ _ _ _ _).2 hv) f2)
 have Qf:=o6 h1 h2 ae _ _ S;refine (Pb.2 _ _ w (fs++us.toArray++cs) ag (by simpa using Qf)).mono ?_;rintro e w' ⟨v,r',ad,R2,rfl,hQ,hh,hr⟩
 have h:=h r' ad hQ;split at h;rotate_left;cases h
 rename_i aa;rw[zL,zM] at h;have ah:=lI _ _ h;have h:=nQ _ _ _ h;simp only[gOk,Bool.and_eq_true] at aa;obtain⟨o1,o2,o3,-,-⟩:=aa;obtain⟨g',X⟩:=Ta (id:=id) g h1 V (fun k b d G=>let ⟨bx,c1,c2,_⟩:=h2 k b d G;⟨bx,c1,c2⟩) (fun k b d G x y z u e=>by
  obtain⟨bx,c1,_,c3⟩:=h2 k b d G;rw[c1] at e;cases e;exact ni o5 k _ _ _ _ c3) (fun k p hk=>vJ o1 hk) (fun b G=>tK o2 b G) o3 rfl (ni ah) hh
 exact⟨v,_,_,_,_,rfl,h,g',X r' v hr⟩
end
end Go.AX
end
