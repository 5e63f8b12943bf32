/-
  Conditions: none. A framework for walks: abstract values, memory, and conditions that suffice; the chapters in plain terms.
-/
import Derived.Test.YtfoiekbkkbnpkaaGreatAb
import Derived.TacticsIn
set_option linter.unusedSectionVars false
set_option linter.unusedVariables false
set_option linter.unusedSimpArgs false
section
namespace Go.AX
def isNone {α:Type}:Option α→Bool
 |none=>true
 |some _=>false
def aiV (T:Tab):Bool:=
 match T with
 |(a,_)::(b,_)::_=>Nat.beq a b
 |_=>false
def ajN (a:Nat):Tab→Bool
 | (b,_)::r=>match Nat.beq a b with
   |true=>ajN a r
   | false=>match r with
     |(c,_)::(d,_)::_=>Nat.beq c d
     |_=>false
 |[]=>false
def fro (T:Tab):Bool:=
 match T with
 |(a,_)::r=>ajN a r
 |[]=>false
def PZ (J G:Bool)(rows:List (List PV))(b ver:Nat)(e:TypeId)(st:Nat)(l h:Option Int)(K:AV→List (Nat×aI)→Prop):Prop:=
 match l with
 | none=>match h with
   |none=>K (.aO b ver) []
   | some h=>match J with
     |true=>0≤h∧h≤rows.length∧K (.sub b ver st 0 h.toNat) []
     |false=>0≤h∧h≤rows.length∧K (.aO b (ver+1)) [(b,.arr e (ver+1) st (rows.take h.toNat))]
 | some l=>match h with
   | none=>match G with
     |true=>0≤l∧l≤rows.length∧K (.aO b (ver+1)) [(b,.arr e (ver+1) st (rows.drop l.toNat))]
     |false=>0≤l∧l≤rows.length∧K (.sub b ver st l.toNat rows.length) []
   |some h=>0≤h∧h≤rows.length∧0≤l∧l≤h∧K (.sub b ver st l.toNat h.toNat) []
def oK (T:Tab)(H:List (Nat×aI))(t:TypeId)(J hi Q:Option Operand)(vs:List AV)(K:AV→List (Nat×aI)→Prop):Prop:=
 match vs with
 | .aO b ver::r=>match lk H b with
   | some (.arr e v S G)=>match Nat.beq ver v with
     | true=>match isNone Q with
       | true=>match lk T t with
         | some i=>match i.d with
           | .slt X=>match lk T X with
             | some V=>match Nat.beq S V.size with
               | true=>match DW J r with
                 | some (l,r1)=>match DW hi r1 with
                   |some (h,_)=>PZ (aiV T) (fro T) G b ver e S l h K
                   |none=>False
                 |none=>False
               |false=>False
             |none=>False
           |_=>False
         |none=>False
       |false=>nL T H t J hi Q vs K
     |false=>False
   |_=>nL T H t J hi Q vs K
 |_=>nL T H t J hi Q vs K
def Bd (T:Tab)(H:List (Nat×aI))(t:TypeId)(x:AV)(K:AV→List (Nat×aI)→Prop):Prop:=
 match x with
 | .sub b ver V S hi=>match lk H b with
   | some (.arr e v J G)=>match Nat.beq ver v with
     | true=>match Nat.beq V J with
       | true=>match lk T t with
         | some i=>match i.d with
           | .slt X=>match lk T X with
             | some Q=>match Nat.beq V Q.size,zPV Q.zero with
               |true,some z=>K (.pv (.cK [])) [(b,.arr e v J (G.take S++(List.replicate (hi-S) z++G.drop hi)))]
               |_,_=>False
             |none=>False
           |_=>False
         |none=>False
       |false=>False
     |false=>False
   |_=>False
 |_=>False
section
variable {P:Program}{T:Tab}{c:Ctx}{R:Real}{s:AS}{a:Act}{w:World}
theorem oM {N:Nat→Prop}{hp:List (Nat×aI)}{b:Nat}{e:TypeId}{ver st:Nat}{rows:List (List PV)}(h:fK N w hp R b (.arr e ver st rows))(S:R.nil b=true):rows=[]:=by
 obtain⟨xs,⟨_,G⟩,_⟩:=h;rcases G with ⟨_,G⟩|⟨V,J,K,X,Q,_⟩
 ·exact List.eq_nil_of_length_eq_zero G
 simp[dW,S] at Q
theorem bN.front (g:bN c R s a w){b X:Nat}{e:TypeId}{ver st:Nat}{rows:List (List PV)}(V:lk s.hp b=some (.arr e ver st rows))(gu:X=ver){k:Nat}(hk:k≤rows.length) :
  ∃R',bN c R' (s.app [(b,.arr e (X+1) st (rows.drop k))]) a w∧au (bA c R' ([(b,.arr e (X+1) st (rows.drop k))]++s.hp)) w ([(b,.arr e (X+1) st (rows.drop k))]++s.hp) R' (.aO b (X+1)) (iZ st k rows.length (dW R b rows.length)):=by
 subst gu;have af:=g.boxes b _ V;have J:(rows.drop k).length=rows.length-k:=by simp
 obtain⟨R',S⟩:∃R',R'=R.at b (R.blk b) (R.nil b) ((R.cap b).1-k) (if (R.cap b).1=k then (R.cap b).2.2 else (R.cap b).2.2+k*st):=⟨_,rfl⟩;have G:R'.blk b=R.blk b∧R'.nil b=R.nil b∧R'.cap b=((R.cap b).1-k,[],if (R.cap b).1=k then (R.cap b).2.2 else (R.cap b).2.2+k*st):=by subst S;simp[Real.at]
 have ah:iZ st k rows.length (dW R b rows.length)=dW R' b (rows.drop k).length:=by
  rw[J];simp only[dW,G.1,G.2.1,G.2.2];cases R.nil b with
  |true=>rfl
  | false=>
    simp only[Bool.false_eq_true,if_false,iZ];by_cases hc:(R.cap b).1=k
    ·simp only[hc,if_true]
    simp only[hc,if_false,addr_add]
 have ae:∃ys,O1 w e st (dW R' b (rows.drop k).length) (rows.drop k).length ys∧dI (bA c R s.hp) w st (rows.drop k) ys:=by
  cases Q:R.nil b with
  | true=>
    have:=oM af Q;subst this;refine⟨[],⟨by simp,.inl ⟨by simp only[dW,G.2.1,Q,if_true],by simp⟩⟩,by simp[dI]⟩
  | false=>
    obtain⟨aa,hg,hs,ag,hm,hr,_⟩:=gY af Q;have K:=lN k hr;rw[List.drop_drop] at K;have ai:=Nat.mul_le_mul_right st ag;have am:=Nat.mul_le_mul_right st hk;have ak:(rows.length-k)*st=rows.length*st-k*st:=Nat.sub_mul _ _ _;have al:((R.cap b).1-k)*st=(R.cap b).1*st-k*st:=Nat.sub_mul _ _ _;by_cases hc:(R.cap b).1=k
    ·have h0:rows.length-k=0:=by omega
     have ad:rows.drop k=[]:=List.eq_nil_of_length_eq_zero (by rw[J];exact h0);rw[ad];refine⟨[],⟨by simp,.inr ⟨R.blk b,(R.cap b).1-k,aa,(R.cap b).2.2,?_,hg,by simp,by omega,by omega,by simp⟩⟩,by simp[dI]⟩;simp only[dW,G.1,G.2.1,G.2.2,Q,Bool.false_eq_true,if_false,hc,if_true]
    obtain⟨t1,t2,t3⟩:=gH K;refine⟨_,⟨?_,.inr ⟨R.blk b,(R.cap b).1-k,aa,(R.cap b).2.2+k*st,?_,hg,by rw[J];omega,by omega,by omega,rfl⟩⟩,t2⟩
    ·rw[List.length_take];omega
    simp only[dW,G.1,G.2.1,G.2.2,Q,Bool.false_eq_true,if_false,hc]
 obtain⟨ys,ho,hr⟩:=ae;obtain⟨g2,K⟩:=g.qW (b:=b) (e:=e) (ver:=X+1) (st:=st) (rows:=rows.drop k) (R':=R') (.inr ⟨_,_,_,_,V,by omega⟩) (by subst S;exact Real.zo R b _ _ _ _) (mV.refl _ w)
  (fun Q=>.inl (by rw[V];rw[G.1];rw[G.2.1] at Q;exact⟨Q,rfl⟩)) ho hr (by subst S;rfl)
 exact⟨R',g2,by rw[ah];exact K⟩
theorem q8 (g:bN c R s a w)(hT:dB P T){H:List (Nat×aI)}(hH:∀b box,lk H b=some box→lk s.hp b=some box){t:TypeId}{x0:Operand}{lo hi mx:Option Operand}{vs:List AV}
  {K:AV→List (Nat×aI)→Prop} (h:oK T H t lo hi mx vs K)
  (hv:FL (au (bA c R s.hp) w s.hp R) vs ((x0::(lo.toList++(hi.toList++mx.toList))).map a.eval)) :
  ∃y z ws R',(Instr.sliceAt t (a.eval x0) (lo.map a.eval) (hi.map a.eval) (mx.map a.eval)).run P w=.ok y w∧K z ws∧bN c R' (s.app ws) a w∧au (bA c R' (ws++s.hp)) w (ws++s.hp) R' z y:=by
 have old:nL T H t lo hi mx vs K→∃y z ws R',(Instr.sliceAt t (a.eval x0) (lo.map a.eval) (hi.map a.eval) (mx.map a.eval)).run P w=.ok y w∧K z ws∧bN c R' (s.app ws) a w∧au (bA c R' (ws++s.hp)) w (ws++s.hp) R' z y:=fun h=>by
  obtain⟨y,z,ws,h1,h2,h3,h4⟩:=G9 g hT hH h hv;exact⟨y,z,ws,R,h1,h2,h3,h4⟩
 unfold oK at h;split at h
 ·rename_i b ver r;split at h
  ·rename_i e v st rows hb;split at h;rotate_left;cases h
   rename_i gu;have gu:=Nat.eq_of_beq_eq_true gu;split at h
   ·rename_i am;have am:mx=none:=by cases mx<;>simp_all [isNone]
    subst am;split at h;rotate_left;cases h
    rename_i i X;obtain⟨d,hd,jb⟩:=(hT t i X).jr;split at h;rotate_left;cases h
    rename_i et ar;have ak:P.underlying t=some (.slice et):=by
     rw[ar] at jb;cases d<;>simp[di] at jb
     subst jb;exact hd
    split at h;rotate_left;cases h
    rename_i ei rD;have jl:=hT _ _ rD;split at h;rotate_left;cases h
    rename_i ai;have ai:=Nat.eq_of_beq_eq_true ai;split at h;rotate_left;cases h
    rename_i l r1 hl;split at h;rotate_left;cases h
    rename_i hh r2 ap;simp only[List.map_cons] at hv;obtain⟨u,r',e1,hx,hv⟩:=hv;simp only[List.cons.injEq] at e1;obtain⟨e1,rfl⟩:=e1;obtain⟨v1,hv⟩:=iR hv hl;obtain⟨v2,hv⟩:=iR (rest:=[]) (by simpa using hv) ap;have V:=hH _ _ hb;have ad:=g.boxes b _ V;have ao:=hx;simp only[au,V,aX] at hx;have hu:=hx.2.2 gu;have G:∀(k2:∀i,hh=some i→0≤i∧i≤rows.length) (k3:∀i,l=some i→0≤i∧i≤fV rows.length hh),
      (Instr.sliceAt t (a.eval x0) (lo.map a.eval) (hi.map a.eval) (Option.map a.eval none)).run P w=.ok (iZ st ((l.map Int.toNat).getD 0) (fV rows.length hh).toNat u) w ∧
       ((l.map Int.toNat).getD 0)≤(fV rows.length hh).toNat∧(fV rows.length hh).toNat≤rows.length:=by
     intro k2 k3;rw[e1,hu];cases hn:R.nil b with
     | true=>
       have aq:=oM ad hn;subst aq;obtain⟨G,J,S,q3⟩:=jA (P:=P) (w:=w) (Va:=true) (len:=0) (cap:=0) (m:=none) v1 v2 (show vI none none from trivial) (Nat.le_refl _) (fun i e=>by cases e) (by simpa[fV] using k2) (by simpa using k3);refine⟨?_,J,S⟩;have hz:(fV 0 hh).toNat=0:=by omega
       have lz:(l.map Int.toNat).getD 0=0:=by omega
       simp only[Option.map_none,Option.getD_none,hz,lz] at G;simp only[Instr.sliceAt,Instr.slice,Sem.run_bind,run_underlying ak,Result.andThen_ok,dW,hn,if_true,Option.map_none,G,jl.run_sizeOf,Sem.run_pure];simp[iZ]
     | false=>
       obtain⟨ag,hg,hs,al,hm,hr,_⟩:=gY ad hn;obtain⟨G,J,S,q3⟩:=jA (P:=P) (w:=w) (Va:=true) (len:=rows.length) (cap:=(R.cap b).1) (m:=none) v1 v2 (show vI none none from trivial) al (fun i e=>by cases e) (by
        intro i hi;exact k2 i hi) (by simpa using k3)
       refine⟨?_,J,S⟩;simp only[Option.map_none,Option.getD_none] at G;simp only[Instr.sliceAt,Instr.slice,Sem.run_bind,run_underlying ak,Result.andThen_ok,dW,hn,Bool.false_eq_true,if_false,Option.map_none,G,jl.run_sizeOf,Sem.run_pure];simp only[iZ,ai];congr 2
       split<;>rfl
    have af:∀(ae X:Nat),ae≤X→X≤rows.length→au (bA c R s.hp) w s.hp R (.sub b ver st ae X) (iZ st ae X u):=by
     intro ae X J S;simp only[au];refine⟨u,by simpa only[au] using ao,?_,rfl⟩;rw[hu];unfold dW;split
     ·rename_i hn;have:=oM ad hn;subst this;simp at S;exact⟨by omega,by omega⟩
     exact⟨J,S⟩
    unfold PZ at h;cases l with
    | none=>
      cases hh with
      | none=>
        obtain⟨h1,J,S⟩:=G (fun i e=>by cases e) (fun i e=>by cases e);refine⟨_,_,[],R,h1,h,g,?_⟩;have:iZ st 0 rows.length u=u:=by
         rw[hu];unfold dW;split
         ·rfl
         simp only[iZ,Nat.sub_zero,Nat.zero_mul];split<;>rfl
        simp only[Option.map_none,Option.getD_none,fV,Int.toNat_natCast];rw[this];exact ao
      | some j=>
        simp only at h;split at h
        ·obtain⟨j0,j1,hK⟩:=h;obtain⟨h1,J,S⟩:=G (fun i e=>by cases e;exact⟨j0,j1⟩) (fun i e=>by cases e);refine⟨_,_,[],R,h1,hK,g,?_⟩;simp only[Option.map_none,Option.getD_none,fV] at J S ⊢;exact af _ _ J S
        obtain⟨j0,j1,hK⟩:=h;obtain⟨h1,J,S⟩:=G (fun i e=>by cases e;exact⟨j0,j1⟩) (fun i e=>by cases e);have hR:∀b',b'≠b→R.blk b'=R.blk b'∧R.nil b'=R.nil b'∧R.cap b'=R.cap b':=fun _ _=>⟨rfl,rfl,rfl⟩
        have Q:(rows.take j.toNat).length=j.toNat:=by simp;omega
        obtain⟨xs,ax,aw⟩:=ad;have ah:∃ys,O1 w e st (dW R b (rows.take j.toNat).length) (rows.take j.toNat).length ys∧dI (bA c R s.hp) w st (rows.take j.toNat) ys:=by
         cases hn:R.nil b with
         | true=>
           have:=oM (g.boxes b _ V) hn;subst this;exact⟨[],⟨by simp,.inl ⟨by simp[dW,hn],by simp⟩⟩,by simp[dI]⟩
         | false=>
           obtain⟨ag,hg,hs,al,hm,hr,_⟩:=gY (g.boxes b _ V) hn;have aa:=mD (i:=j.toNat) hr;obtain⟨t1,t2,t3⟩:=gH aa;rw[Q] at t1 t2;refine⟨(ag.toList.drop (R.cap b).2.2).take (j.toNat*st),⟨?_,.inr ⟨R.blk b,(R.cap b).1,ag,(R.cap b).2.2,by simp[dW,hn],hg,?_,hm,hs,by rw[Q]⟩⟩,t2⟩
           ·rw[List.length_take,Q];omega
           rw[Q];omega
        obtain⟨ys,ho,hr⟩:=ah;obtain⟨g2,aa⟩:=g.qW (b:=b) (e:=e) (ver:=ver+1) (st:=st) (rows:=rows.take j.toNat) (R':=R) (.inr ⟨_,_,_,_,V,by omega⟩) hR (mV.refl _ w)
         (fun hn=>.inl (by rw[V];exact⟨hn,rfl⟩)) ho hr
        refine⟨_,_,_,R,h1,hK,g2,?_⟩;have:iZ st 0 j.toNat u=dW R b (rows.take j.toNat).length:=by
         rw[hu,Q];unfold dW;split
         ·rfl
         simp only[iZ,Nat.sub_zero,Nat.zero_mul];split<;>rfl
        simp only[Option.map_none,Option.getD_none,fV];rw[this];exact aa
    | some l=>
      cases hh with
      | none=>
        simp only at h;split at h
        ·obtain⟨l0,l1,hK⟩:=h;obtain⟨h1,J,S⟩:=G (fun i e=>by cases e) (fun i e=>by cases e;exact⟨l0,by simpa[fV] using l1⟩);simp only[Option.map_some,Option.getD_some,fV,Int.toNat_natCast] at h1 J;obtain⟨R',g2,aa⟩:=g.front V gu (k:=l.toNat) (by omega);refine⟨_,_,_,R',h1,hK,g2,?_⟩;rw[hu];exact aa
        obtain⟨l0,l1,hK⟩:=h;obtain⟨h1,J,S⟩:=G (fun i e=>by cases e) (fun i e=>by cases e;exact⟨l0,by simpa[fV] using l1⟩);refine⟨_,_,[],R,h1,hK,g,?_⟩;simp only[Option.map_some,Option.getD_some,fV,Int.toNat_natCast] at J ⊢;exact af _ _ J (Nat.le_refl _)
      | some j=>
        simp only at h;obtain⟨j0,j1,l0,l1,hK⟩:=h;obtain⟨h1,J,S⟩:=G (fun i e=>by cases e;exact⟨j0,j1⟩) (fun i e=>by cases e;exact⟨l0,by simpa[fV] using l1⟩);refine⟨_,_,[],R,h1,hK,g,?_⟩;simp only[Option.map_some,Option.getD_some,fV] at J S ⊢;exact af _ _ J S
   exact old h
  exact old h
 exact old h
theorem xC {b:Nat}{e:TypeId}{cur:Array Value}(vs:List Value)(off:Nat)(J:w.heap[b]? = some (.cells cur e (0,0)))(K:off+vs.length≤cur.size)(G:∀u∈vs,u.oneCell'=true) :
  (storeCells ⟨b,off,none⟩ vs).run P w=.ok () (w.setRow b (cur.toList.take off++vs++cur.toList.drop (off+vs.length)).toArray):=by
 have:=run_storeCells_at P b off e vs 0 cur w J (by simpa using K) G;simp only[Nat.add_zero] at this;simp[storeCells,this]
theorem bN.sameBox (g:bN c R s a w){b:Nat}{e:TypeId}{ver st:Nat}{rows:List (List PV)}(Q:lk s.hp b=some (.arr e ver st rows)):bN c R (s.app [(b,.arr e ver st rows)]) a w:=by
 have V:∀J,J≠b→R.blk J=R.blk J∧R.nil J=R.nil J∧R.cap J=R.cap J:=fun _ _=>⟨rfl,rfl,rfl⟩
 have X:∀off v,bf R b off v (lk s.hp b)→bf R b off v (some (.arr e ver st rows)):=fun off v h=>by rw[Q] at h;exact h
 have r2:∀K v,aX R b K v (lk s.hp b)→aX R b K v (some (.arr e ver st rows)):=fun _ v h=>by rw[Q] at h;exact h
 have r3:∀K i off v,bC R b K i off v (lk s.hp b)→bC R b K i off v (some (.arr e ver st rows)):=fun _ _ _ v h=>by rw[Q] at h;exact h
 have G:∀r,aQ R b r (some (.arr e ver st rows))→aQ R b r (lk s.hp b)∨w.heap.size≤r:=fun r h=>by rw[Q];exact .inl h
 obtain⟨m1,m2,m3,m4,m5⟩:=g.G8 V X r2 r3 G (mV.refl _ w);refine g.upd V X r2 r3 G (mV.refl _ w) ?_;obtain⟨xs,S,hr⟩:=g.boxes b _ Q;exact⟨xs,S,bg m1 m2 _ _ _ hr⟩
theorem Kc (g:bN c R s a w)(hT:dB P T){H:List (Nat×aI)}(hH:∀b box,lk H b=some box→lk s.hp b=some box){t ty:TypeId}{x:AV}{u:Value}
  {K:AV→List (Nat×aI)→Prop} (h:Bd T H t x K) (hx:au (bA c R s.hp) w s.hp R x u) :
  ∃z w' q ws,(Builtin.clear_ #[t] ty #[u]).run P w=.ok z w'∧K q ws∧bN c R (s.app ws) a w'∧au (bA c R (ws++s.hp)) w' (ws++s.hp) R q z:=by
 unfold Bd at h;split at h;rotate_left;cases h
 rename_i b ver J G hi;split at h;rotate_left;cases h
 rename_i e v bq Q hb;split at h;rotate_left;cases h
 rename_i gu;have gu:=Nat.eq_of_beq_eq_true gu;split at h;rotate_left;cases h
 rename_i al;have al:=Nat.eq_of_beq_eq_true al;subst al;split at h;rotate_left;cases h
 rename_i i a5;obtain⟨d,hd,jb⟩:=(hT t i a5).jr;split at h;rotate_left;cases h
 rename_i et bb;have ar:P.underlying t=some (.slice et):=by
  rw[bb] at jb;cases d<;>simp[di] at jb
  subst jb;exact hd
 split at h;rotate_left;cases h
 rename_i ei rD;have jl:=hT _ _ rD;split at h;rotate_left;cases h
 rename_i z ah hz;have ah:=Nat.eq_of_beq_eq_true ah;have hz:=Pg hz;subst hz;have V:=hH _ _ hb;have a1:=g.boxes b _ V;simp only[au,V,aX] at hx;obtain⟨u0,hx,az,rfl⟩:=hx;have hu:=hx.2.2 gu;subst hu;have ae:hi-G=0→(Q.take G++(List.replicate (hi-G) (ei.zero.map PV.sc)++Q.drop hi))=Q→G≤hi →
   (∃p ao,iZ J G hi (dW R b Q.length)=.slice p 0 ao)→∃z w' q ws,(Builtin.clear_ #[t] ty #[iZ J G hi (dW R b Q.length)]).run P w=.ok z w'∧K q ws∧bN c R (s.app ws) a w'∧au (bA c R (ws++s.hp)) w' (ws++s.hp) R q z:=by
  intro h0 S aw ⟨p,ao,hs⟩;rw[S] at h;refine⟨.tuple #[],w,_,_,?_,h,g.sameBox V,?_⟩
  ·rw[hs];cases p<;>simp[Builtin.clear_,run_underlying ar]
  simp[au,bL,fE]
 cases hn:R.nil b with
 | true=>
   have a9:=oM a1 hn;subst a9;simp only[dW,hn,if_true,pz,List.length_nil] at az;have h1:G=0:=by omega
   have h2:hi=0:=by omega
   subst h1;subst h2;refine ae rfl (by simp) (Nat.le_refl _) ⟨none,0,by simp[dW,hn,iZ]⟩
 | false=>
   obtain⟨cur,hg,hs,aw,hm,hr,_⟩:=gY a1 hn;simp only[dW,hn,Bool.false_eq_true,if_false,pz] at az;by_cases a6:hi=G
   ·subst a6;refine ae (by omega) (by simp) (Nat.le_refl _) ⟨some (if (R.cap b).1=hi then ⟨R.blk b,(R.cap b).2.2,none⟩ else (⟨R.blk b,(R.cap b).2.2,none⟩:Addr).add (hi*J)),(R.cap b).1-hi,by simp[dW,hn,iZ]⟩
   have bm:G<hi:=by omega
   obtain⟨zv,bd,a3,bp⟩:=jl.zx w;have Xy:zv.cells.size=J:=by have:=jl.Xz;rw[←a3] at this;rw[ah];simpa using this
   have aq:¬(R.cap b).1=G:=by omega
   have a2:iZ J G hi (dW R b Q.length)=.slice (some ⟨R.blk b,(R.cap b).2.2+G*J,none⟩) (hi-G) ((R.cap b).1-G):=by
    have ap:(⟨R.blk b,(R.cap b).2.2,none⟩:Addr).add (G*J)=⟨R.blk b,(R.cap b).2.2+G*J,none⟩:=by by_cases h0:G*J=0<;>simp[Addr.add,h0]
    simp only[dW,hn,iZ,aq,Bool.false_eq_true,if_false,ap]
   have X:(Builtin.zeroCells zv.cells (hi-G)).toList.length=(hi-G)*J:=by simp[Builtin.zeroCells,Xy]
   have ad:G*J+(hi-G)*J=hi*J:=by rw[←Nat.add_mul];congr 1;omega
   have a4:(R.cap b).2.2+hi*J≤cur.size:=Nat.le_trans (Nat.add_le_add_left (Nat.mul_le_mul_right _ (by omega)) _) hs;obtain⟨D,hD⟩:∃D,D=cur.toList.drop (R.cap b).2.2:=⟨_,rfl⟩;have bk:D.length=cur.size-(R.cap b).2.2:=by rw[hD];simp
   rw[←hD] at hr;have am:∀j,j<(hi-G)*J→(Builtin.zeroCells zv.cells (hi-G)).toList[j]? = (ei.zero)[j%J]? :=by
    intro j hj;have bj:0<J:=by
     rcases Nat.eq_zero_or_pos J with h0|h0
     ·rw[h0] at hj;simp at hj
     exact h0
    have ai:j%zv.cells.size<zv.cells.size:=Nat.mod_lt _ (by omega);have a8:(Builtin.zeroCells zv.cells (hi-G))[j]? = some (zv.cells[j%zv.cells.size]!):=by
     simp[Builtin.zeroCells,Xy,hj]
    rw[Array.getElem?_toList,a8,getElem!_pos zv.cells _ ai,←a3,Array.getElem?_toList,←Xy];exact (Array.getElem?_eq_getElem ai).symm
   have a0:∀u∈(Builtin.zeroCells zv.cells (hi-G)).toList,u.oneCell'=true:=by
    intro u hu;obtain⟨j,hj,rfl⟩:=List.getElem_of_mem hu;have h1:=am j (by rw[←X];exact hj);rw[List.getElem?_eq_getElem hj] at h1;have h2:=List.mem_of_getElem? h1.symm;exact List.all_eq_true.1 jl.XB _ h2
   have af:=xC (P:=P) (w:=w) (e:=e) (cur:=cur) (Builtin.zeroCells zv.cells (hi-G)).toList ((R.cap b).2.2+G*J) hg (by rw[X,Nat.add_assoc,ad];exact a4) a0;rw[X,Nat.add_assoc _ (G*J),ad] at af;refine⟨.tuple #[],w.setRow (R.blk b) (cur.toList.take ((R.cap b).2.2+G*J)++(Builtin.zeroCells zv.cells (hi-G)).toList++cur.toList.drop ((R.cap b).2.2+hi*J)).toArray,_,_,?_,h,?_,by simp[au,bL,fE]⟩
   ·rw[a2];have bo:hi-G≠0:=by omega
    obtain⟨k,hk⟩:∃k,hi-G=k+1:=⟨hi-G-1,by omega⟩;rw[hk] at af ⊢;simp only[Builtin.clear_,List.getElem?_toArray,List.getElem?_cons_zero,run_underlying ar,Sem.run_bind,Result.andThen_ok,bd,af,Sem.run_pure]
   have hR:∀b',b'≠b→R.blk b'=R.blk b'∧R.nil b'=R.nil b'∧R.cap b'=R.cap b':=fun _ _=>⟨rfl,rfl,rfl⟩
   generalize S:(Q.take G++(List.replicate (hi-G) (ei.zero.map PV.sc)++Q.drop hi))=aR;have ag:aR.length=Q.length:=by rw[←S];simp;omega
   have r1:∀off v',bf R b off v' (lk s.hp b)→bf R b off v' (some (.arr e v J aR)):=fun off v h=>by rw[V] at h;exact h
   have r2:∀ver v',aX R b ver v' (lk s.hp b)→aX R b ver v' (some (.arr e v J aR)):=fun _ v h=>by rw[V] at h;simp only[aX,ag] at h ⊢;exact h
   have r3:∀ver i off v',bC R b ver i off v' (lk s.hp b)→bC R b ver i off v' (some (.arr e v J aR)):=fun _ _ _ v h=>by rw[V] at h;exact h
   have ak:∀r,aQ R b r (some (.arr e v J aR))→aQ R b r (lk s.hp b)∨w.heap.size≤r:=fun r h=>by rw[V];exact .inl h
   have aa:mV (fun r=>aQ R b r (lk s.hp b)) w (w.setRow (R.blk b) (cur.toList.take ((R.cap b).2.2+G*J)++(Builtin.zeroCells zv.cells (hi-G)).toList++cur.toList.drop ((R.cap b).2.2+hi*J)).toArray):=by
    refine (pE w _ _).mono ?_;rintro r rfl
    rw[V];exact⟨hn,rfl⟩
   obtain⟨m1,m2,m3,m4,m5⟩:=g.G8 hR r1 r2 r3 ak aa;refine g.upd hR r1 r2 r3 ak aa ?_;have ax:dI (bA c R s.hp) w J aR (D.take (G*J)++(Builtin.zeroCells zv.cells (hi-G)).toList++D.drop (hi*J)):=by
    rw[←S,List.append_assoc];have p1:dI (bA c R s.hp) w J (Q.take G) (D.take (G*J)):=by
     obtain⟨_,t2,_⟩:=gH (mD (i:=G) hr);rw[List.length_take,Nat.min_eq_left (by omega)] at t2;exact t2
    have p2:dI (bA c R s.hp) w J (List.replicate (hi-G) (ei.zero.map PV.sc)) (Builtin.zeroCells zv.cells (hi-G)).toList:=
     EC (zs:=ei.zero) (ED jl.XB) (by rw[List.length_map,jl.Xz,ah]) _ _ (by rw[X];exact Nat.le_refl _) am
    have a7:G*J≤D.length:=by have:=Nat.mul_le_mul_right J (show G≤hi by omega);omega
    refine jW p1 (by rw[List.length_take,List.length_take,Nat.min_eq_left a7,Nat.min_eq_left (by omega)]) (jW p2 (by rw[X];simp) (lN hi hr))
   have bh:(D.take (G*J)++(Builtin.zeroCells zv.cells (hi-G)).toList++D.drop (hi*J)).length=D.length:=by
    simp only[List.length_append,X,List.length_take,List.length_drop];omega
   obtain⟨t1,t2,t3⟩:=gH (bg m1 m2 _ _ _ ax);refine⟨_,?_,t2⟩;have ba:dW R b aR.length=.slice (some ⟨R.blk b,(R.cap b).2.2,none⟩) Q.length ((R.cap b).1):=by simp[dW,hn,ag]
   rw[ba,ag];rw[ag] at t1;refine⟨?_,.inr ⟨R.blk b,(R.cap b).1,_,_,rfl,setRow_heap w _ cur _ e _ hg,aw,hm,?_,?_⟩⟩
   ·simp only[List.length_take];omega
   ·simp only[List.size_toArray,List.length_append,X,List.length_take,List.length_drop,Array.length_toList];omega
   have hw:=zq (L:=cur.toList) (vs:=(Builtin.zeroCells zv.cells (hi-G)).toList) (o:=(R.cap b).2.2) (a:=G*J) (by simp only[Array.length_toList];omega);rw[X,Nat.add_assoc _ (G*J),ad] at hw;rw[List.toList_toArray,hw,←hD]
end
def xw (f:AV→Option PV):List AV→Option (List PV)
 |[]=>some []
 | x::r=>match f x with
   | some p=>match xw f r with
     |some t=>some (p::t)
     |none=>none
   |none=>none
def vwR (H:List (Nat×aI)):Nat→AV→Option PV
 |0,_=>none
 | n+1,x=>match x with
   |.pv p=>some p
   | .aO b ver=>match lk H b with
     | some (.iP e v Q pre K post)=>match Nat.beq ver v with
       | true=>match xw (vwR H n) K with
         |some J=>some (.sl false Q (pre++J::post))
         |none=>none
       |false=>none
     |o=>uU o ver
   |.sub _ _ _ _ _=>some .junk
   |.eY _ _ _ _=>some .junk
   | .ptr b off=>match lk H b with
     | some (.var G)=>match xw (vwR H n) G with
       |some J=>some (.dU J off)
       |none=>none
     |some (.oN G)=>some (.dU G off)
     |_=>none
   | .agg cs=>match xw (vwR H n) cs with
     |some J=>some (.agg J)
     |none=>none
   | .cK cs=>match xw (vwR H n) cs with
     |some J=>some (.cK J)
     |none=>none
   | .fn f a c=>match xw (vwR H n) a,xw (vwR H n) c with
     |some x,some y=>some (.fn f x y)
     |_,_=>none
section
variable {P:Program}{T:Tab}{c:Ctx}{R:Real}{s:AS}{a:Act}{w:World}
def Vm:Nat→Prop:=fun _=>False
theorem Ab {f:AV→Option PV}{N:Nat→Prop}{hp:List (Nat×aI)}(J:∀x p u,f x=some p→au N w hp R x u→bL Vm w p u) :
  ∀{xs:List AV} {ps:List PV} {us:List Value},xw f xs=some ps→FL (au N w hp R) xs us→FL (bL Vm w) ps us
 |[],ps,us,h,G=>by simp only[xw,Option.some.injEq] at h;subst h;exact G
 | x::xs,ps,us,h,G=>by
   simp only[xw] at h;split at h
   ·rename_i p hp;split at h
    ·rename_i t S;simp only[Option.some.injEq] at h;subst h;obtain⟨v,r,rfl,K,Q⟩:=G;exact⟨v,r,rfl,J _ _ _ hp K,Ab J S Q⟩
    cases h
   cases h
theorem En {f:AV→Option PV}{N:Nat→Prop}{hp:List (Nat×aI)}(J:∀x p u,f x=some p→au N w hp R x u→bL Vm w p u) :
  ∀{xs:List AV} {ps:List PV} {us:List Value},xw f xs=some ps→FC (au N w hp R) xs us→FC (bL Vm w) ps us
 |[],ps,us,h,G=>by simp only[xw,Option.some.injEq] at h;subst h;exact G
 | x::xs,ps,us,h,G=>by
   simp only[xw] at h;split at h
   ·rename_i p hp;split at h
    ·rename_i t V;simp only[Option.some.injEq] at h;subst h;obtain⟨v,r,rfl,K,Q,S⟩:=G;exact⟨v,r,rfl,K,J _ _ _ hp Q,En J V S⟩
    cases h
   cases h
theorem BF (g:bN c R s a w){H:List (Nat×aI)}(hH:∀b box,lk H b=some box→lk s.hp b=some box) :
  ∀(n:Nat) (x:AV) (p:PV) (u:Value),vwR H n x=some p→au (bA c R s.hp) w s.hp R x u→bL Vm w p u
 |0,x,p,u,h,_=>by simp[vwR] at h
 | n+1,x,p,u,h,G=>by
   have ih:=fun x p u=>BF g hH n x p u
   simp only[vwR] at h;split at h
   ·simp only[Option.some.injEq] at h;subst h;simp only[au] at G;exact dV (fun r _ h=>h.elim) (fun _ _ _=>rfl) _ _ G
   ·rename_i b ver;simp only[au] at G;split at h
    ·rename_i e v K pre S post X;have J:=hH _ _ X;split at h
     ·rename_i gu;split at h
      ·rename_i ps Q;simp only[Option.some.injEq] at h;subst h;rw[J] at G;have hu:=G.2.2 (Nat.eq_of_beq_eq_true gu);subst hu;obtain⟨xs,k1,k2,k3,k4,k5⟩:=g.boxes b _ J;have af:=(bR _ _ _ _ _ _).1 k4;have uX:=En ih Q af;have hl:(pre++ps::post).length=pre.length+(1+post.length):=by simp[Nat.add_comm]
       have ae:dI Vm w K (pre++ps::post) xs:=by
        have mid:∀{pre:List (List PV)} {S:List PV} {post:List (List PV)} {xs:List Value},dI Vm w K pre xs→S.length=K→jD Vm w S (xs.drop (pre.length*K)) →
          dI Vm w K post ((xs.drop (pre.length*K)).drop K)→dI Vm w K (pre++S::post) xs:=by
         intro pre;induction pre with
         |nil=>intro S post xs h h1 h2 h3;simp only[List.nil_append,dI];exact⟨h1,by simpa using h2,by simpa using h3⟩
         | cons p pre ih=>
           intro S post xs h h1 h2 h3;simp only[dI] at h;obtain⟨a1,a2,a3⟩:=h;have e:xs.drop ((p::pre).length*K)=(xs.drop K).drop (pre.length*K):=by
            rw[List.drop_drop,show (p::pre).length*K=K+pre.length*K by rw[List.length_cons,Nat.add_mul];omega]
           rw[e] at h2 h3;simp only[List.cons_append,dI];exact⟨a1,a2,ih a3 h1 h2 h3⟩
        refine mid (bg (fun r _ h=>h.elim) (fun _ _ _=>rfl) _ _ _ k2) (by rw[←uX.length,af.length];exact k3) ?_ (bg (fun r _ h=>h.elim) (fun _ _ _=>rfl) _ _ _ k5);have:=(uX.fp).app ((xs.drop (pre.length*K)).drop K);rw[List.take_append_drop] at this;rw[fA];exact this
       obtain⟨q1,q2⟩:=k1;simp only[bL];rcases q2 with ⟨q2,q3⟩|⟨g',al,V,o',e1,hg,ah,hm,hs,ht⟩
       ·omega
       refine⟨_,_,_,e1,hl.symm,⟨ah,by unfold maxLen at hm;omega⟩,fun hp=>(by cases hp),fun ad ha=>?_⟩;cases ha;refine .inr ⟨rfl,fun h=>h.elim,V,_,_,hg,?_⟩;have:=uV ((V.toList.drop o').drop ((pre.length+(1+post.length))*K)) ae;rw[←ht,List.take_append_drop] at this;simpa using this
      cases h
     cases h
    rename_i o _;cases X:lk H b with
    |none=>rw[X] at h;cases h
    | some box=>
      rw[X,←hH _ _ X] at h;exact pV g h (fun r h=>h.elim) (fun r _ h=>h.elim) G
   ·simp only[Option.some.injEq] at h;subst h;simp only[bL]
   ·simp only[Option.some.injEq] at h;subst h;simp only[bL]
   ·rename_i b off;simp only[au] at G;split at h
    ·rename_i aa X;split at h
     ·rename_i ps Q;simp only[Option.some.injEq] at h;subst h;have J:=hH _ _ X;rw[J] at G;simp only[bf] at G;subst G;obtain⟨V,e,hg,hc⟩:=g.boxes b _ J;rw[bR] at hc;have ag:=En ih Q hc;simp only[bL];refine⟨R.blk b,0,V,e,(0,0),by simp,fun h=>h.elim,hg,?_⟩;rw[fA];simpa using ag.fp
     cases h
    ·rename_i aa X;simp only[Option.some.injEq] at h;subst h;have J:=hH _ _ X;rw[J] at G;exact CO (N':=Vm) g (b:=b) (off:=off) (by rw[J];rfl) (fun r h=>h.elim) (fun r _ h=>h.elim) (by rw[J];exact G)
    cases h
   ·split at h
    ·rename_i ps Q;simp only[Option.some.injEq] at h;subst h;simp only[au] at G;obtain⟨vs,rfl,G⟩:=G;rw[bR] at G;simp only[bL];refine⟨vs,rfl,?_⟩;rw[iH];exact En ih Q G
    cases h
   ·split at h
    ·rename_i ps Q;simp only[Option.some.injEq] at h;subst h;simp only[au] at G;obtain⟨vs,rfl,G⟩:=G;rw[eZ] at G;simp only[bL];refine⟨vs,rfl,?_⟩;rw[jF];exact Ab ih Q G
    cases h
   split at h
   ·rename_i x y ai ak;simp only[Option.some.injEq] at h;subst h;simp only[au] at G;obtain⟨fs,cs,rfl,h1,h2⟩:=G;rw[eZ] at h1 h2;simp only[bL];refine⟨fs,cs,rfl,?_,?_⟩
    ·rw[jF];exact Ab ih ai h1
    rw[jF];exact Ab ih ak h2
   cases h
def SC (hp:List (Nat×aI))(vs:List AV):Bool:=
 match vs with
 | .pv _::args=>match kK hp (fH args) with
   | some H=>match Ie H args with
     |some _=>false
     |none=>true
   |none=>true
 |_=>true
def dC (P:Program)(hp:List (Nat×aI))(vs:List AV)(K:AV→List (Nat×aI)→List Nat→Prop):Prop:=
 match Bh hp 100 (fH vs) [] with
 | ids=>match kK hp ids with
   | some H=>match xw (vwR H 9) vs with
     | some (.fn (.func f) first bD::ps)=>∃r,dF P f (first++(ps++bD)) r∧match DK r with
       |true=>K (.pv r) [] (fH vs++ids)
       |false=>False
     |_=>False
   |none=>False
theorem Ac {hp:List (Nat×aI)}:∀{K:List Nat} {H:List (Nat×aI)},kK hp K=some H→∀b box,lk H b=some box→lk hp b=some box
 |[],H,h=>by simp only[kK,Option.some.injEq] at h;subst h;intro b box G;simp[lk] at G
 | i::r,H,h=>by
   simp only[kK] at h;split at h
   ·rename_i S J;split at h
    ·rename_i t Q;simp only[Option.some.injEq] at h;subst h;intro b box G;rw[aG] at G;split at G
     ·rename_i e;simp only[Option.some.injEq] at G;subst G;first|(rw[←e];exact J)|(subst e;exact J)|simp_all
     exact Ac Q b box G
    cases h
   cases h
theorem XP (g:bN c R s a w){fv:AV}{args:List AV}{K:AV→List (Nat×aI)→List Nat→Prop}(h:dC P s.hp (fv::args) K)
  {u:Value} {us:List Value} (hf:au (bA c R s.hp) w s.hp R fv u) (hv:FL (au (bA c R s.hp) w s.hp R) args us) :
  ∃f first bD,u=.func (.func f) first bD∧Enters P f∧Calls P f (first++us.toArray++bD) w fun e w'=>∃v z ws aa R',e=.returned v∧K z ws aa∧bN c R' (s.app ws) a w' ∧
   au (bA c R' (ws++s.hp)) w' (ws++s.hp) R' z v:=by
 unfold dC at h;simp only at h;split at h;rotate_left;cases h
 rename_i H hH;have hH:=Ac hH;split at h;rotate_left;cases h
 rename_i f first bD ps J
 obtain⟨r,X,h⟩:=h;simp only[xw] at J;split at J
 ·rename_i p hp;split at J
  ·rename_i t ht;simp only[Option.some.injEq,List.cons.injEq] at J;obtain⟨rfl,rfl⟩:=J;have h1:=BF g hH 9 _ _ _ hp hf;simp only[bL] at h1;obtain⟨fs,cs,rfl,S,V⟩:=h1;have h2:=Ab (BF g hH 9) ht hv;refine⟨f,fs,cs,rfl,X.1,?_⟩;have G:fE Vm w (first++(t++bD)) (fs++us.toArray++cs).toList:=by
    rw[jF] at S V ⊢;have e:(fs++us.toArray++cs).toList=fs.toList++(us++cs.toList):=by simp
    rw[e];exact S.app (h2.app V)
   refine (X.2 Vm w _ (fun r h=>h.elim) G).mono ?_;rintro e w' ⟨v,r',rfl,rfl,hr,Q⟩
   have g2:=g.grow Q;split at h;rotate_left;cases h
   rename_i hs;refine⟨v,_,[],_,R,rfl,h,g2,?_⟩;simp only[au];exact zB _ _ hs hr
  cases J
 cases J
end
def W1 (ro:Option Nat):Fence:={ Fence.wide with round:=ro }
theorem Gp {ro:Option Nat}{n:Nat}{P:Program}{f:FuncId}{args:Array Value}{w:World}{R:Ending→World→Prop}(h:Calls P f args w R):CallsIn (W1 ro) n P f args w R:=
 (callsIn_wide (n:=n)).2 h
theorem VN {n:Nat}{P:Program}{row:String}{args:Array Value}{w:World}{R:Value→World→Prop}(h:Rows P row args w R):RowsIn Fence.wide n P row args w R:=
 fun c cs _=>let ⟨v,w',r,s⟩:=h c cs;⟨v,w',r,stepsIn_wide.2 s⟩
theorem VO {ro:Option Nat}{n:Nat}{P:Program}{row:String}{args:Array Value}{w:World}{R:Value→World→Prop}(h:Rows P row args w R):RowsIn (W1 ro) n P row args w R:=
 VN (n:=n) h
theorem mZ {P:Program}{o:Oper}{a:Act}{w:World}{next:Act→World→Prop}{Q:Exit→Act→World→Prop}(ro:Option Nat)(G:∀c,o.op ≠ .defer c)(h:o.wp P a w next Q) :
  o.wpIn (W1 ro) 0 P a w next Q:=by
 have J:Oper.semAt ro a.eval o=execOp a.eval o:=by
  cases ro with
  |none=>rfl
  |some l=>exact Oper.semAt_some l _ _ G
 refine⟨fun _ _=>trivial,?_⟩;show o.uponIn (W1 ro) 0 P a next Q ((Oper.semAt ro a.eval o).run P w)
 rw[J];unfold Oper.wp at h;generalize (execOp a.eval o).run P w=res at h;cases res with
 | ok x K=>
   cases x<;>simp only[Oper.upon] at h<;>simp only[Oper.uponIn]<;>first
    |exact h
    |exact⟨fun e=>(by cases e),Gp h⟩
    |exact⟨fun e=>(by cases e),VO h⟩
    |exact h.elim
 |halt x K=>cases x<;>simp only[Oper.upon] at h<;>simp only[Oper.uponIn]<;>exact h
theorem wK:∀{vs:List AV} {ps:List PV},jE vs=some ps→vs=ps.map .pv
 |[],ps,h=>by simp only[jE,Option.some.injEq] at h;subst h;rfl
 | v::r,ps,h=>by
   cases v<;>simp only[jE] at h<;>try (cases h;done)
   split at h
   ·rename_i t G;simp only[Option.some.injEq] at h;subst h;rw[wK G];rfl
   cases h
theorem qD {N:Nat→Prop}{w:World}{hp:List (Nat×aI)}{R:Real}:∀(ps:List PV) (xs:List Value),dw N w hp R (ps.map .pv) xs→fE N w ps xs
 |[],xs,h=>by simpa only[List.map,dw,fE] using h
 | p::ps,xs,h=>by
   simp only[List.map_cons,dw,au] at h;simp only[fE];obtain⟨v,r,e,G,J⟩:=h;exact⟨v,r,e,G,qD ps r J⟩
def isY (vs:List AV):Bool:=
 match vs with
 | v::_=>match v with
   | .pv p=>match p with
     | .fn f _ _=>match f with
       |.yield _=>true
       |_=>false
     |_=>false
   |_=>false
 |[]=>false
def yC (P:Program)(hp:List (Nat×aI))(vs:List AV)(K:AV→List (Nat×aI)→List Nat→Prop):Prop:=
 match vs with
 | .pv (.fn (.yield l) [] [])::args=>match lk hp 999 with
   | some (.tr y ver rest J)=>match J with
     | some b=>match b with
       | false=>match jE args with
         |some G=>y=(P,l)∧∃x r,rest=x::r∧kL x G∧K (.eY 999 (ver+1) 0 0) [(999,.tr y (ver+1) r none)] [999]
         |none=>False
       |true=>False
     |none=>False
   |_=>False
 |_=>False
section
variable {P:Program}{c:Ctx}{R:Real}{s:AS}{a:Act}{w:World}
def lS (c:Ctx)(R:Real)(hp:List (Nat×aI))(r:Nat):Prop:=bA c R hp r∧¬R.Y.D r
def yR (R:Real)(b:Bool)(Z D:Nat→Prop)(w:World):Real:=
 { R with nil:=fun G=>if G=999 then b else R.nil G,Y:={ R.Y with Z:=Z,D:=D,wy:=w } }
theorem bN.yielded (g:bN c R s a w){y:Program×Nat}{ver:Nat}{rest r:List (List PV)}{w':World}{D':Nat→Prop}{b:Bool}
  (X:lk s.hp 999=some (.tr y ver rest (some false))) (hE:mV R.Y.D w w') (a3:∀r,D' r→R.Y.D r∨w.heap.size≤r) (a4:∀r,D' r→r<w'.heap.size)
  (hJ:R.Y.n0.2 r (!b) (lS c R s.hp) D' w') :
  bN c (yR R b (lS c R s.hp) D' w') (s.app [(999,.tr y (ver+1) r none)]) a w' ∧
   au (bA c (yR R b (lS c R s.hp) D' w') ((999,.tr y (ver+1) r none)::s.hp)) w' ((999,.tr y (ver+1) r none)::s.hp) (yR R b (lS c R s.hp) D' w') (.eY 999 (ver+1) 0 0) (.bool b):=by
 generalize ag:aI.tr y (ver+1) r none=cZ;obtain⟨S,ae⟩:∃S,S=yR R b (lS c R s.hp) D' w':=⟨_,rfl⟩;rw[←ae];have k:=g.boxes 999 _ X;obtain⟨-,kh,k1,k2,k3,k4⟩:=k;have DL:lk ((999,cZ)::s.hp) 999=some cZ:=by rw[aG,if_pos rfl]
 have DR:∀G,G≠999→lk ((999,cZ)::s.hp) G=lk s.hp G:=fun G h=>by rw[aG,if_neg (fun e=>h e.symm)]
 have hR:∀G,G≠999→S.blk G=R.blk G∧S.nil G=R.nil G∧S.cap G=R.cap G:=fun G h=>by subst ae;simp[yR,h]
 have ak:S.Y={ R.Y with Z:=lS c R s.hp,D:=D',wy:=w' }:=by subst ae;rfl
 have ao:∀r,aQ R 999 r (lk s.hp 999)=R.Y.D r:=fun r=>by rw[X];rfl
 have am:∀r,aQ S 999 r (some cZ)=D' r:=fun r=>by subst ag;simp only[aQ,ak]
 have al:∀G box,G≠999→lk s.hp G=some box→∀x1 x2 x3 x4,box ≠ .tr x1 x2 x3 x4:=by
  rintro G box aa hb x1 x2 x3 x4 rfl
  exact aa (g.boxes G _ hb).1
 have VP:∀G r,G≠999→aQ S G r (lk s.hp G)→aQ R G r (lk s.hp G):=by
  intro G q aa h;cases hb:lk s.hp G with
  |none=>rw[hb] at h;exact h.elim
  | some box=>
    rw[hb] at h;have hn:=al G box aa hb;obtain⟨e1,V,e3⟩:=hR G aa;cases box<;>simp only[aQ,e1,V,e3] at h ⊢ <;> first
     |exact h
     |exact absurd rfl (hn _ _ _ _)
 have a6:∀G r,G≠999→aQ R G r (lk s.hp G)→aQ S G r (lk s.hp G):=by
  intro G q aa h;cases hb:lk s.hp G with
  |none=>rw[hb] at h;exact h.elim
  | some box=>
    rw[hb] at h;have hn:=al G box aa hb;obtain⟨e1,V,e3⟩:=hR G aa;cases box<;>simp only[aQ,e1,V,e3] at h ⊢ <;> first
     |exact h
     |exact absurd rfl (hn _ _ _ _)
 have J:mV (fun r=>aQ R 999 r (lk s.hp 999)) w w':=hE.mono fun r h=>by rw[ao];exact h
 have af:∀r,aQ S 999 r (some cZ)→aQ R 999 r (lk s.hp 999)∨w.heap.size≤r:=fun r h=>by rw[am] at h;rw[ao];exact a3 r h
 have Kl:∀r,owned S ((999,cZ)::s.hp) r→owned R s.hp r∨w.heap.size≤r:=by
  rintro r ⟨G,h⟩
  by_cases e:G=999
  ·subst e;rw[DL] at h;exact (af r h).imp (fun x=>⟨999,x⟩) id
  rw[DR G e] at h;exact .inl ⟨G,VP G r e h⟩
 have hN:∀r,r<w.heap.size→bA c S ((999,cZ)::s.hp) r→bA c R s.hp r:=by
  rintro r hr (h|h)
  ·exact .inl h
  exact .inr ((Kl r h).resolve_right (by omega))
 have hw:∀r,r<w.heap.size→¬bA c R s.hp r→w'.heap[r]? = w.heap[r]? :=fun r hr hn=>J.keep r hr fun x=>hn (.inr ⟨999,x⟩)
 have p1:∀G off v,bf R G off v (lk s.hp G)→bf S G off v (lk ((999,cZ)::s.hp) G):=fun G off v h=>by
  by_cases e:G=999
  ·subst e;rw[X] at h;exact h.elim
  rw[DR G e];exact oL (hR G e) h
 have p2:∀G ver v,aX R G ver v (lk s.hp G)→aX S G ver v (lk ((999,cZ)::s.hp) G):=fun G ver v h=>by
  by_cases e:G=999
  ·subst e;rw[X] at h;exact h.elim
  rw[DR G e];exact qG (hR G e) h
 have p3:∀G ver i off v,bC R G ver i off v (lk s.hp G)→bC S G ver i off v (lk ((999,cZ)::s.hp) G):=fun G ver i off v h=>by
  by_cases e:G=999
  ·subst e;rw[X] at h;rw[DL];subst ag;simp only[bC] at h ⊢;exact⟨by omega,h.2.1,fun e=>by omega⟩
  rw[DR G e];exact qH (hR G e) h
 have ax:∀r,r<w.heap.size→¬owned R s.hp r→w'.heap[r]? = w.heap[r]? :=fun r hr hn=>J.keep r hr fun x=>hn ⟨999,x⟩
 have aw:∀r,r<w.heap.size→owned S ((999,cZ)::s.hp) r→owned R s.hp r:=fun r hr h=>(Kl r h).resolve_right (by omega)
 refine⟨⟨?_,g.size,⟨by rw[ak];exact g.lo.1,g.lo.2.1,Nat.le_trans g.lo.2.2 hE.size⟩,g.marks.imp fun Ds h=>h.kept ax aw,g.fixed.kept ax aw,?_,?_,?_,?_,?_,fun v x h=>dM hN hw p1 p2 p3 v x (g.kept v x h)⟩,?_⟩
 ·intro t v h;obtain⟨x,hx,hv⟩:=g.slots t v h;exact⟨x,hx,dM hN hw p1 p2 p3 v x hv⟩
 ·intro G box h;by_cases e:G=999
  ·subst e;simp only[AS.app,List.singleton_append,DL,Option.some.injEq] at h;subst h;subst ag;simp only[fK,ak];refine⟨trivial,kh,?_,DF.refl _ _ _ _,a4,fun q hn=>?_⟩
   ·have:S.nil 999=b:=by subst ae;simp[yR]
    rw[this];exact hJ
   rcases hn with hn|⟨b2,ho⟩
   ·refine .inr (.inl ⟨.inl hn,fun hd=>?_⟩);exact g.free q ⟨999,by rw[X];exact hd⟩ hn
   simp only[AS.app,List.singleton_append] at ho;by_cases V:b2=999
   ·subst V;rw[DL,am] at ho;exact .inl ho
   rw[DR b2 V] at ho;have ar:=VP b2 q V ho;exact .inr (.inl ⟨.inr ⟨b2,ar⟩,fun hd=>V (g.inj b2 999 q ar (by rw[X];exact hd))⟩)
  simp only[AS.app,List.singleton_append,DR G e] at h;have hr:=g.boxes G box h;have ad:=hR G e;have Q:∀r,aQ R G r (lk s.hp G)→w'.heap[r]? = w.heap[r]? :=fun r ho=>
   J.keep r (g.mG ho) fun x=>e (g.inj G 999 r ho x)
  rw[h] at Q;cases box with
  | var ah=>
    obtain⟨ai,e',h8,X⟩:=hr;refine⟨ai,e',?_,dK hN hw p1 p2 p3 _ _ X⟩;rw[ad.1,Q _ rfl];exact h8
  | oN ah=>
    obtain⟨ai,e',fr,h8,h7,X⟩:=hr;have hs:=size_of_getElem? h8;refine⟨ai,e',fr,?_,?_,fJ hN hw _ _ X⟩
    ·rw[ad.1,hw _ hs h7];exact h8
    rw[ad.1];exact fun x=>h7 (hN _ hs x)
  | arr e' ver st az=>
    obtain⟨xs,h8,X⟩:=hr;refine⟨xs,?_,bg hN hw _ _ _ X⟩;rw[jL ad];refine kZ h8 fun k hk=>Q k ?_
    simp only[dW] at hk;cases K:R.nil G with
    |true=>simp[K,Value.ownBlock] at hk
    |false=>simp[K,Value.ownBlock] at hk;exact⟨K,hk⟩
  | d9 ver st az=>
    simp only[fK,jL ad] at hr ⊢;exact dV hN hw _ _ hr
  |tr _ _ _ _=>exact absurd rfl (al G _ e h _ _ _ _)
  | iP e' ver st pre a7 post=>
    obtain⟨xs,h8,X,a0,a1,a2⟩:=hr;refine⟨xs,?_,bg hN hw _ _ _ X,a0,dK hN hw p1 p2 p3 _ _ a1,bg hN hw _ _ _ a2⟩;rw[jL ad];refine kZ h8 fun k hk=>Q k ?_
    simp only[dW] at hk;cases K:R.nil G with
    |true=>simp[K,Value.ownBlock] at hk
    |false=>simp[K,Value.ownBlock] at hk;exact⟨K,hk⟩
 ·intro b1 b2 q h1 h2;simp only[AS.app,List.singleton_append] at h1 h2;by_cases e1:b1=999
  ·by_cases V:b2=999
   ·rw[e1,V]
   subst e1;simp only[DL,DR b2 V] at h1 h2;have aq:=VP b2 q V h2;have a5:=g.mG aq;exact g.inj _ _ q ((af q h1).resolve_right (by omega)) aq
  by_cases V:b2=999
  ·subst V;simp only[DL,DR b1 e1] at h1 h2;have ap:=VP b1 q e1 h1;have a5:=g.mG ap;exact g.inj _ _ q ap ((af q h2).resolve_right (by omega))
  simp only[DR b1 e1,DR b2 V] at h1 h2;exact g.inj _ _ q (VP b1 q e1 h1) (VP b2 q V h2)
 ·intro q h hF;rcases Kl q h with h|h
  ·exact g.free q h hF
  have:=c.hF q hF;have:=g.jV.size;omega
 ·refine g.jV.trans J fun q hr ho=>?_
  exact (g.jy q ⟨999,ho⟩).resolve_right (by omega)
 ·intro q h;rcases Kl q h with h|h
  ·exact g.jy q h
  exact .inr (Nat.le_trans g.jV.size h)
 simp only[au,DL];subst ag;simp only[bC];have:S.nil 999=b:=by subst ae;simp[yR]
 exact⟨Nat.le_refl _,rfl,fun _ _=>by rw[this];cases b<;>rfl⟩
end
section
variable {P:Program}{T:Tab}{c:Ctx}
theorem bN.congr {R:Real}{tm tm':List (Nat×AV)}{nx:Nat}{hp hp':List (Nat×aI)}{a:Act}{w:World}(g:bN c R ⟨tm,nx,hp⟩ a w)
  (ht:∀t,lk tm' t=lk tm t) (hh:∀b,lk hp' b=lk hp b):bN c R ⟨tm',nx,hp'⟩ a w:=by
 have ho:∀r,owned R hp' r↔owned R hp r:=fun r=>by simp only[owned,hh]
 have Q:∀r,r<w.heap.size→bA c R hp' r→bA c R hp r:=fun r _ h=>h.imp id (ho r).1
 have ag:∀r,¬bA c R hp r→¬bA c R hp' r:=fun r h h'=>h (h'.imp id (ho r).1)
 have S:∀r,r<w.heap.size→¬bA c R hp r→w.heap[r]? = w.heap[r]? :=fun _ _ _=>rfl
 have h1:∀b off v,bf R b off v (lk hp b)→bf R b off v (lk hp' b):=fun b off v h=>by rw[hh];exact h
 have h2:∀b ver v,aX R b ver v (lk hp b)→aX R b ver v (lk hp' b):=fun b ver v h=>by rw[hh];exact h
 have h3:∀b ver i off v,bC R b ver i off v (lk hp b)→bC R b ver i off v (lk hp' b):=fun b ver i off v h=>by rw[hh];exact h
 refine⟨fun t v hv=>?_,g.size,g.lo,g.marks.imp fun Ds hm=>hm.kept (fun _ _ _=>rfl) (fun r _ h=>(ho r).1 h),g.fixed.kept (fun _ _ _=>rfl) (fun r _ h=>(ho r).1 h),fun b box K=>?_,fun b b' r K aa=>?_,fun r G=>g.free r ((ho r).1 G),g.jV,fun r G=>g.jy r ((ho r).1 G),fun v x h=>dM Q S h1 h2 h3 v x (g.kept v x h)⟩
 ·obtain⟨x,hx,G⟩:=g.slots t v (by rw[←ht];exact hv);exact⟨x,hx,dM Q S h1 h2 h3 v x G⟩
 ·have G:=g.boxes b box (by rw[←hh];exact K);cases box with
  | var J=>
    simp only[fK] at G ⊢;obtain⟨X,e,ha,K⟩:=G;exact⟨X,e,ha,dK Q S h1 h2 h3 J _ K⟩
  | oN J=>
    simp only[fK] at G ⊢;obtain⟨X,e,fr,ha,hn,K⟩:=G;exact⟨X,e,fr,ha,ag _ hn,fJ Q S J _ K⟩
  | arr e ver st V=>
    simp only[fK] at G ⊢;obtain⟨xs,ha,K⟩:=G;exact⟨xs,ha,bg Q S st V xs K⟩
  | d9 ver st V=>
    simp only[fK] at G ⊢;exact dV Q S _ _ G
  | tr y ver rest st=>
    obtain⟨k0,kh,k1,k2,k3,k4⟩:=G;exact⟨k0,kh,k1,k2,k3,fun r hn=>k4 r (hn.imp id (ho r).1)⟩
  | iP e' ver st pre ah post=>
    obtain⟨xs,h8,h9,ad,ae,af⟩:=G;exact⟨xs,h8,bg Q S _ _ _ h9,ad,dK Q S h1 h2 h3 _ _ ae,bg Q S _ _ _ af⟩
 simp only[hh] at K aa;exact g.inj b b' r K aa
end
def NH (G:List Nat)(hp:List (Nat×aI)):List (Nat×aI)→Prop→Prop
 |[],X=>X
 |(b,box)::r,X=>EQ b G=true∧(lk hp b=some box∧NH G hp r X)
theorem yc {G:List Nat}{hp:List (Nat×aI)}:∀{ws:List (Nat×aI)} {X:Prop},NH G hp ws X→X∧∀b,lk (ws++hp) b=lk hp b
 |[],X,h=>⟨h,fun _=>rfl⟩
 | (b,box)::r,X,h=>by
   obtain⟨V,J,K⟩:=h;obtain⟨Q,S⟩:=yc K;refine⟨Q,fun k=>?_⟩;rw[List.cons_append,aG];split
   ·rename_i e;rw[←e];exact J.symm
   exact S k
theorem NI {x:Nat}:∀{l:List Nat},EQ x l=true→x∈l
 |[],h=>by simp[EQ] at h
 | y::r,h=>by
   unfold EQ at h;split at h
   ·rename_i e;have e:=Nat.eq_of_beq_eq_true e;simp[e]
   exact List.mem_cons_of_mem _ (NI h)
theorem Cx {G:List Nat}{hp hp':List (Nat×aI)}(K:∀b∈G,lk hp' b=lk hp b):∀{ws:List (Nat×aI)} {X Y:Prop},NH G hp ws X→Y→NH G hp' ws Y
 |[],X,Y,h,J=>J
 |(b,box)::r,X,Y,h,J=>⟨h.1,(K b (NI h.1)).trans h.2.1,Cx K h.2.2 J⟩
def gV (P:Program)(hp:List (Nat×aI))(id:Nat)(vs:List AV)(K:AV→List (Nat×aI)→List Nat→Prop):Prop:=
 gC P hp id vs fun r ws G=>NH G hp ws (K r [] G)
def uG (T:Tab)(H:List (Nat×aI))(t:TypeId)(vs:List AV)(id:Nat)(K:AV→List (Nat×aI)→Prop):Prop:=
 match vs with
 | [.sub b ver S X hi,x]=>match lk T t with
   | some i=>match i.d with
     | .slt e=>match lk T e with
       | some V=>match mr H S x with
         | some Q=>match lk H b with
           | some (.arr e' v J G)=>match Nat.beq ver v,Nat.beq S J,Nat.beq S V.size,Nat.beq e' e,Nat.beq X 0 with
             |true,true,true,true,true=>hi+Q.length≤G.length∧K (.sub b ver S 0 (hi+Q.length)) [(b,.arr e' v J (G.take hi++(Q++G.drop (hi+Q.length))))]
             |_,_,_,_,_=>False
           |_=>False
         |none=>False
       |none=>False
     |_=>False
   |none=>False
 |_=>uM T H t vs id K
section
variable {P:Program}{T:Tab}{c:Ctx}{R:Real}{s:AS}{a:Act}{w:World}
theorem qJ (g:bN c R s a w)(hT:dB P T){H:List (Nat×aI)}(hH:∀b box,lk H b=some box→lk s.hp b=some box){id:Nat}(hf:lk s.hp id=none)
  {t ty:TypeId} {d x:AV} {K:AV→List (Nat×aI)→Prop} (h:uG T H t [d,x] id K) {u v:Value} (hd:au (bA c R s.hp) w s.hp R d u) (hx:au (bA c R s.hp) w s.hp R x v) :
  ∃y w' R' z ws,(Builtin.append_ #[t,t] ty #[u,v]).run P w=.ok y w'∧K z ws∧bN c R' (s.app ws) a w'∧au (bA c R' (ws++s.hp)) w' (ws++s.hp) R' z y:=by
 unfold uG at h;split at h
 ·rename_i b ver Q lo hi x' a1;simp only[List.cons.injEq,and_true] at a1;obtain⟨rfl,rfl⟩:=a1;split at h;rotate_left;cases h
  rename_i i a9;obtain⟨dd,a8,jb⟩:=(hT t i a9).jr;split at h;rotate_left;cases h
  rename_i e bj;have ht:P.underlying t=some (.slice e):=by
   rw[bj] at jb;cases dd<;>simp[di] at jb
   subst jb;exact a8
  split at h;rotate_left;cases h
  rename_i ei rD;have jl:=hT _ _ rD;obtain⟨ti,zv,al,aw,bp,bk,br⟩:=jl.Ey;split at h;rotate_left;cases h
  rename_i aR a4;obtain⟨p,bt,az,rfl,rfl,bq,ba,bb⟩:=Ia g hH a4 hx;split at h;rotate_left;cases h
  rename_i e' vr bu G hb;have V:=hH _ _ hb;split at h;rotate_left;cases h
  rename_i gu ar Bv he ao;have gu:=Nat.eq_of_beq_eq_true gu;have ar:=Nat.eq_of_beq_eq_true ar;have Bv:=Nat.eq_of_beq_eq_true Bv;have he:=Nat.eq_of_beq_eq_true he;have ao:=Nat.eq_of_beq_eq_true ao;subst gu;subst ar;subst he;subst ao;obtain⟨a6,hK⟩:=h;have aq:=g.boxes b _ V;simp only[au,V,aX] at hd;obtain⟨u0,ax,ap,rfl⟩:=hd;have hu:=ax.2.2 (by trivial);subst hu;by_cases hz:aR.length=0
  ·have he:aR=[]:=List.eq_nil_of_length_eq_zero hz;subst he;have a5:∃p0 l0 c0,iZ Q 0 hi (dW R b G.length)=.slice p0 l0 c0∧l0≤c0:=by
    cases hn:R.nil b with
    |true=>exact⟨none,0,0,by simp[dW,hn,iZ],Nat.le_refl _⟩
    | false=>
      obtain⟨S,hg,hs,am,hm,hr,_⟩:=gY aq hn;simp only[dW,hn,Bool.false_eq_true,if_false,pz] at ap;have bh:iZ Q 0 hi (dW R b G.length)=.slice (some (if (R.cap b).1=0 then ⟨R.blk b,(R.cap b).2.2,none⟩ else (⟨R.blk b,(R.cap b).2.2,none⟩:Addr).add (0*Q))) (hi-0) ((R.cap b).1-0):=by simp only[dW,hn,Bool.false_eq_true,if_false,iZ]
      exact⟨_,_,_,bh,by omega⟩
   obtain⟨p0,l0,c0,e1,e2⟩:=a5;have X:=mW (P:=P) (w:=w) (ty:=ty) ht jl p0 p l0 c0 az e2;rw[←e1] at X;simp only[List.length_nil,Nat.add_zero,List.nil_append,List.take_append_drop] at hK;refine⟨_,w,R,_,_,X,hK,g.sameBox V,?_⟩;simp only[au,List.cons_append,List.nil_append,aG,if_true,aX];exact⟨_,ax,ap,rfl⟩
  cases p with
  |none=>exact absurd (by rw[ba rfl];rfl) hz
  | some ad=>
    obtain⟨J,n1,n2,n3,n4⟩:=bb ad rfl;have hn:R.nil b=false:=by
     cases hn:R.nil b with
     |false=>rfl
     | true=>
       have:=oM aq hn;subst this;simp only[List.length_nil] at a6;omega
    obtain⟨S,hg,hs,am,hm,hr,_⟩:=gY aq hn;simp only[dW,hn,Bool.false_eq_true,if_false,pz] at ap;have a0:(⟨R.blk b,(R.cap b).2.2,none⟩:Addr).add (0*Q)=⟨R.blk b,(R.cap b).2.2,none⟩:=by simp[Addr.add]
    have ak:∀k,iZ Q 0 k (dW R b G.length)=.slice (some ⟨R.blk b,(R.cap b).2.2,none⟩) k ((R.cap b).1):=by
     intro k;simp only[dW,hn,iZ,Bool.false_eq_true,if_false,a0,Nat.sub_zero];split<;>rfl
    have af:hi+aR.length≤(R.cap b).1:=by omega
    have ah:hi*Q+aR.length*Q=(hi+aR.length)*Q:=by rw[Nat.add_mul]
    have a7:(R.cap b).2.2+(hi+aR.length)*Q≤S.size:=Nat.le_trans (Nat.add_le_add_left (Nat.mul_le_mul_right _ af) _) hs;have a2:(R.cap b).2.2+hi*Q+J.length≤S.size:=by rw[n1,Nat.add_assoc,ah];exact a7
    obtain⟨D,hD⟩:∃D,D=S.toList.drop (R.cap b).2.2:=⟨_,rfl⟩;have bo:D.length=S.size-(R.cap b).2.2:=by rw[hD];simp
    rw[←hD] at hr;have X:=rC (P:=P) w t ty e' ti ht al (R.blk b) (R.cap b).2.2 hi ((R.cap b).1) S hg ad aR.length az J (by rw[aw,n1,Bv]) n2 n3 af (by rw[aw,←Bv];exact a2);rw[aw,←Bv] at X;have hR:∀b',b'≠b→R.blk b'=R.blk b'∧R.nil b'=R.nil b'∧R.cap b'=R.cap b':=fun _ _=>⟨rfl,rfl,rfl⟩
    generalize ag:(G.take hi++(aR++G.drop (hi+aR.length)))=Fz at hK;have ae:Fz.length=G.length:=by rw[←ag];simp;omega
    have r1:∀off v',bf R b off v' (lk s.hp b)→bf R b off v' (some (.arr e' ver Q Fz)):=fun off v h=>by rw[V] at h;exact h
    have r2:∀YQ v',aX R b YQ v' (lk s.hp b)→aX R b YQ v' (some (.arr e' ver Q Fz)):=fun _ v h=>by rw[V] at h;simp only[aX,ae] at h ⊢;exact h
    have r3:∀YQ i off v',bC R b YQ i off v' (lk s.hp b)→bC R b YQ i off v' (some (.arr e' ver Q Fz)):=fun _ _ _ v h=>by rw[V] at h;exact h
    have ai:∀r,aQ R b r (some (.arr e' ver Q Fz))→aQ R b r (lk s.hp b)∨w.heap.size≤r:=fun r h=>by rw[V];exact .inl h
    have aa:mV (fun r=>aQ R b r (lk s.hp b)) w (w.setRow (R.blk b) (S.toList.take ((R.cap b).2.2+hi*Q)++J++S.toList.drop ((R.cap b).2.2+hi*Q+J.length)).toArray):=by
     refine (pE w _ _).mono ?_;rintro r rfl
     rw[V];exact⟨hn,rfl⟩
    obtain⟨m1,m2,m3,m4,m5⟩:=g.G8 hR r1 r2 r3 ai aa;refine⟨_,_,R,_,_,by rw[ak];exact X,hK,g.upd hR r1 r2 r3 ai aa ?_,?_⟩
    ·have a3:dI (bA c R s.hp) w Q Fz (D.take (hi*Q)++J++D.drop (hi*Q+J.length)):=by
      rw[←ag,List.append_assoc];have p1:dI (bA c R s.hp) w Q (G.take hi) (D.take (hi*Q)):=by
       obtain⟨_,t2,_⟩:=gH (mD (i:=hi) hr);rw[List.length_take,Nat.min_eq_left (by omega)] at t2;exact t2
      refine jW p1 (by rw[List.length_take,List.length_take,Nat.min_eq_left (by omega),Nat.min_eq_left (by omega)]) (jW n4 n1 ?_);rw[n1,ah];exact lN (hi+aR.length) hr
     have bm:(D.take (hi*Q)++J++D.drop (hi*Q+J.length)).length=D.length:=by
      simp only[List.length_append,List.length_take,List.length_drop];omega
     obtain⟨t1,t2,t3⟩:=gH (bg m1 m2 _ _ _ a3);refine⟨_,?_,t2⟩;have bd:dW R b Fz.length=.slice (some ⟨R.blk b,(R.cap b).2.2,none⟩) G.length ((R.cap b).1):=by simp[dW,hn,ae]
     rw[bd,ae];rw[ae] at t1;refine⟨?_,.inr ⟨R.blk b,(R.cap b).1,_,_,rfl,setRow_heap w _ S _ e' _ hg,am,hm,?_,?_⟩⟩
     ·have:=Nat.mul_le_mul_right Q am;simp only[List.length_take];omega
     ·simp only[List.size_toArray,List.length_append,List.length_take,List.length_drop,Array.length_toList];omega
     rw[List.toList_toArray,zq (by simp only[Array.length_toList];omega),←hD]
    simp only[au,List.cons_append,List.nil_append,aG,if_true,aX];refine⟨dW R b G.length,⟨Nat.le_refl _,ax.2.1,fun _=>by rw[ae]⟩,?_,by rw[ak]⟩;simp only[dW,hn,Bool.false_eq_true,if_false,pz];omega
 exact sU g hT hH hf h hd hx
def Il (T:Tab)(H:List (Nat×aI))(t:TypeId)(X hi mx:Option Operand)(b ver st V:Nat)(r:List AV)(K:AV→List (Nat×aI)→Prop):Prop:=
 match lk H b with
 | some (.arr e v J G)=>match Nat.beq ver v,Nat.beq V 0,isNone mx with
   | true,true,true=>match lk T t with
     | some i=>match i.d with
       | .slt S=>match lk T S with
         | some Q=>match Nat.beq st Q.size,Nat.beq st J with
           | true,true=>match DW X r with
             | some (some l,r1)=>match DW hi r1 with
               |some (some h,_)=>0≤h∧h≤G.length∧0≤l∧l≤h∧K (.sub b ver st l.toNat h.toNat) []
               |_=>False
             |_=>False
           |_,_=>False
         |none=>False
       |_=>False
     |none=>False
   |_,_,_=>False
 |_=>False
def Im (T:Tab)(H:List (Nat×aI))(t:TypeId)(Q hi S:Option Operand)(b ver:Nat)(r:List AV)(K:AV→List (Nat×aI)→Prop):Prop:=
 match lk H b with
 | some (.arr e v st G)=>match Nat.beq ver v with
   | true=>match lk T t with
     | some i=>match i.d with
       | .slt J=>match lk T J with
         | some ei=>match DW Q r with
           | some (some l,V)=>match DW hi V with
             | some (some h,X)=>match DW S X with
               |some (some m,_)=>0≤m∧m≤G.length∧0≤h∧h≤m∧0≤l∧l≤h∧K (.pv .junk) []
               |_=>False
             |_=>False
           |_=>False
         |none=>False
       |_=>False
     |none=>False
   |false=>False
 |_=>False
def qC (T:Tab)(H:List (Nat×aI))(t:TypeId)(J hi G:Option Operand)(vs:List AV)(K:AV→List (Nat×aI)→Prop):Prop:=
 match aiV T with
 |false=>oK T H t J hi G vs K
 | true=>match vs with
   |.sub b ver S Q _::r=>Il T H t J hi G b ver S Q r K
   | .aO b ver::r=>match isNone G with
     |true=>oK T H t J hi G vs K
     |false=>Im T H t J hi G b ver r K
   |_=>oK T H t J hi G vs K
theorem Qm {P:Program}{w:World}{len len' cap:Nat}{J hi G:Option Value}(h:hi.isSome=true):(Instr.sliceBounds true len cap J hi G).run P w=(Instr.sliceBounds true len' cap J hi G).run P w:=by
 cases hi with
 |none=>cases h
 |some v=>cases G<;>simp[Instr.sliceBounds]
theorem ado {o:Option Value}{j:Int}(h:vI o (some j)):o.isSome=true:=by
 cases o with
 |none=>exact h.elim
 |some v=>rfl
theorem MK (g:bN c R s a w)(hT:dB P T){H:List (Nat×aI)}(hH:∀b box,lk H b=some box→lk s.hp b=some box){t:TypeId}{x0:Operand}{lo hi mx:Option Operand}{b ver st l0 h0:Nat}{r:List AV}
  {K:AV→List (Nat×aI)→Prop} (h:Il T H t lo hi mx b ver st l0 r K)
  (hv:FL (au (bA c R s.hp) w s.hp R) (.sub b ver st l0 h0::r) ((x0::(lo.toList++(hi.toList++mx.toList))).map a.eval)) :
  ∃y z,(Instr.sliceAt t (a.eval x0) (lo.map a.eval) (hi.map a.eval) (mx.map a.eval)).run P w=.ok y w∧K z []∧au (bA c R s.hp) w s.hp R z y:=by
 unfold Il at h;split at h;rotate_left;cases h
 rename_i e v ar J hb;split at h;rotate_left;cases h
 rename_i gu V af;have gu:=Nat.eq_of_beq_eq_true gu;have V:=Nat.eq_of_beq_eq_true V;have af:mx=none:=by cases mx<;>simp_all [isNone]
 subst af;subst V;split at h;rotate_left;cases h
 rename_i i ak;obtain⟨d,hd,jb⟩:=(hT t i ak).jr;split at h;rotate_left;cases h
 rename_i et ap;have ae:P.underlying t=some (.slice et):=by
  rw[ap] at jb;cases d<;>simp[di] at jb
  subst jb;exact hd
 split at h;rotate_left;cases h
 rename_i ei rD;have jl:=hT _ _ rD;split at h;rotate_left;cases h
 rename_i X Bv;have X:=Nat.eq_of_beq_eq_true X;have Bv:=Nat.eq_of_beq_eq_true Bv;subst Bv;split at h;rotate_left;cases h
 rename_i l r1 hl;split at h;rotate_left;cases h
 rename_i hh r2 ai;obtain⟨k1,k2,k3,k4,hK⟩:=h;simp only[List.map_cons] at hv;obtain⟨u,r',e1,hx,hv⟩:=hv;simp only[List.cons.injEq] at e1;obtain⟨e1,rfl⟩:=e1;obtain⟨v1,hv⟩:=iR hv hl;obtain⟨v2,hv⟩:=iR (rest:=[]) (by simpa using hv) ai;have Q:=hH _ _ hb;have ag:=g.boxes b _ Q;simp only[au,Q,aX] at hx;obtain⟨u0,aa,am,rfl⟩:=hx;have hu:=aa.2.2 gu;subst hu;have Ed:=ado v2;cases S:R.nil b with
 | true=>
   have ao:=oM ag S;subst ao;simp only[dW,S,if_true,pz,List.length_nil] at am;obtain⟨G,q1,q2,q3⟩:=jA (P:=P) (w:=w) (Va:=true) (len:=0) (cap:=0) (m:=none) v1 v2 (show vI none none from trivial) (Nat.le_refl _) (fun i e=>by cases e) (by simpa[fV] using ⟨k1,k2⟩) (by simpa[fV] using ⟨k3,k4⟩);have hz:hh.toNat=0:=by simp at k2;omega
   have lz:l.toNat=0:=by omega
   refine⟨.slice none 0 0,_,?_,hK,?_⟩
   ·rw[e1];simp only[Option.map_none,Option.map_some,Option.getD_none,Option.getD_some,fV,hz,lz] at G;simp only[Instr.sliceAt,Instr.slice,Sem.run_bind,run_underlying ae,Result.andThen_ok,dW,S,if_true,iZ,Option.map_none,G,jl.run_sizeOf,Sem.run_pure]
   simp only[au,Q,aX];refine⟨_,aa,?_,by simp[dW,S,iZ]⟩;simp only[dW,S,if_true,pz];omega
 | false=>
   obtain⟨aq,hg,hs,al,hm,hr,_⟩:=gY ag S;obtain⟨G,q1,q2,q3⟩:=jA (P:=P) (w:=w) (Va:=true) (len:=J.length) (cap:=(R.cap b).1) (m:=none) v1 v2 (show vI none none from trivial) al (fun i e=>by cases e) (by
    intro i hi;cases hi;exact⟨k1,k2⟩) (by intro i hi;cases hi;exact⟨k3,k4⟩)
   rw[Qm (len':=h0) Ed] at G;simp only[Option.map_none,Option.map_some,Option.getD_none,Option.getD_some,fV] at G;have ad:(⟨R.blk b,(R.cap b).2.2,none⟩:Addr).add (0*st)=⟨R.blk b,(R.cap b).2.2,none⟩:=by simp[Addr.add]
   have ah:iZ st 0 h0 (dW R b J.length)=.slice (some ⟨R.blk b,(R.cap b).2.2,none⟩) h0 ((R.cap b).1):=by
    simp only[dW,S,iZ,Bool.false_eq_true,if_false,ad,Nat.sub_zero];split<;>rfl
   refine⟨iZ st l.toNat hh.toNat (dW R b J.length),_,?_,hK,?_⟩
   ·rw[e1,ah];simp only[Instr.sliceAt,Instr.slice,Sem.run_bind,run_underlying ae,Result.andThen_ok,Option.map_none,G,jl.run_sizeOf,Sem.run_pure];simp only[dW,S,Bool.false_eq_true,if_false,iZ,X];congr 2
    split<;>rfl
   simp only[au,Q,aX];refine⟨_,aa,?_,rfl⟩;simp only[dW,S,Bool.false_eq_true,if_false,pz];omega
theorem ML (g:bN c R s a w)(hT:dB P T){H:List (Nat×aI)}(hH:∀b box,lk H b=some box→lk s.hp b=some box){t:TypeId}{x0:Operand}{lo hi mx:Option Operand}{b ver:Nat}{r:List AV}
  {K:AV→List (Nat×aI)→Prop} (h:Im T H t lo hi mx b ver r K)
  (J:FL (au (bA c R s.hp) w s.hp R) (.aO b ver::r) ((x0::(lo.toList++(hi.toList++mx.toList))).map a.eval)) :
  ∃y z,(Instr.sliceAt t (a.eval x0) (lo.map a.eval) (hi.map a.eval) (mx.map a.eval)).run P w=.ok y w∧K z []∧au (bA c R s.hp) w s.hp R z y:=by
 unfold Im at h;split at h;rotate_left;cases h
 rename_i e v st G hb;split at h;rotate_left;cases h
 rename_i gu;have gu:=Nat.eq_of_beq_eq_true gu;split at h;rotate_left;cases h
 rename_i i ae;obtain⟨d,hd,jb⟩:=(hT t i ae).jr;split at h;rotate_left;cases h
 rename_i et am;have aa:P.underlying t=some (.slice et):=by
  rw[am] at jb;cases d<;>simp[di] at jb
  subst jb;exact hd
 split at h;rotate_left;cases h
 rename_i ei rD;have jl:=hT _ _ rD;split at h;rotate_left;cases h
 rename_i l r1 hl;split at h;rotate_left;cases h
 rename_i hh r2 ad;split at h;rotate_left;cases h
 rename_i m r3 ai;obtain⟨k5,k6,k1,k2,k3,k4,hK⟩:=h;simp only[List.map_cons] at J;obtain⟨u,r',Q,hx,J⟩:=J;simp only[List.cons.injEq] at Q;obtain⟨Q,rfl⟩:=Q;obtain⟨v1,J⟩:=iR J hl;obtain⟨v2,J⟩:=iR J ad;obtain⟨v3,J⟩:=iR (rest:=[]) (by simpa using J) ai;have S:=hH _ _ hb;have V:=g.boxes b _ S;simp only[au,S,aX] at hx;have hu:=hx.2.2 gu;subst hu;obtain⟨p0,l0,c0,al,ag,af⟩:∃p0 l0 c0,dW R b G.length=.slice p0 l0 c0∧l0≤c0∧l0=G.length:=by
  cases hn:R.nil b with
  | true=>
    have ak:=oM V hn;subst ak;exact⟨none,0,0,by simp[dW,hn],Nat.le_refl _,rfl⟩
  | false=>
    obtain⟨ao,hg,hs,ah,hm,hr,_⟩:=gY V hn;exact⟨some ⟨R.blk b,(R.cap b).2.2,none⟩,G.length,(R.cap b).1,by simp only[dW,hn,Bool.false_eq_true,if_false],ah,rfl⟩
 subst af;obtain⟨X,q1,q2,q3⟩:=jA (P:=P) (w:=w) (Va:=true) v1 v2 v3 ag (fun i e=>by cases e;exact⟨k5,k6,rfl⟩) (by
  intro i hi;cases hi;exact⟨k1,by simpa[fV] using k2⟩) (by intro i hi;cases hi;exact⟨k3,by simpa[fV] using k4⟩)
 rw[al] at Q;obtain⟨y,hy⟩:∃y,(Instr.sliceAt t (a.eval x0) (lo.map a.eval) (hi.map a.eval) (mx.map a.eval)).run P w=.ok y w:=by
  rw[Q];simp only[Instr.sliceAt,Instr.slice,Sem.run_bind,run_underlying aa,Result.andThen_ok,X,jl.run_sizeOf,Sem.run_pure];exact⟨_,rfl⟩
 exact⟨y,_,hy,hK,by simp only[au,bL]⟩
theorem Hr (g:bN c R s a w)(J:dB P T){H:List (Nat×aI)}(G:∀b box,lk H b=some box→lk s.hp b=some box){t:TypeId}{x0:Operand}{lo hi mx:Option Operand}{vs:List AV}
  {K:AV→List (Nat×aI)→Prop} (h:qC T H t lo hi mx vs K)
  (Q:FL (au (bA c R s.hp) w s.hp R) vs ((x0::(lo.toList++(hi.toList++mx.toList))).map a.eval)) :
  ∃y z ws S,(Instr.sliceAt t (a.eval x0) (lo.map a.eval) (hi.map a.eval) (mx.map a.eval)).run P w=.ok y w∧K z ws∧bN c S (s.app ws) a w∧au (bA c S (ws++s.hp)) w (ws++s.hp) S z y:=by
 unfold qC at h;split at h
 ·exact q8 g J G h Q
 split at h
 ·obtain⟨y,z,V,X,h3⟩:=MK g J G h Q;exact⟨y,z,[],R,V,X,g,h3⟩
 ·split at h
  ·exact q8 g J G h Q
  obtain⟨y,z,V,X,h3⟩:=ML g J G h Q;exact⟨y,z,[],R,V,X,g,h3⟩
 exact q8 g J G h Q
end
def gP (vs:List Value):List PV:=vs.map .sc
theorem Nt {N:Nat→Prop}{w:World}:∀(vs xs:List Value),(∀v∈vs,v.oneCell'=true)→(jD N w (gP vs) (vs++xs))
 |[],_,_=>by simp[gP,jD]
 | v::vs,xs,h=>by
   simp only[gP,List.map_cons,jD,List.cons_append];refine⟨v,vs++xs,rfl,h v (by simp),by simp only[bL],Nt vs xs fun u G=>h u (by simp[G])⟩
theorem QX {N:Nat→Prop}{w:World}:∀(vs xs:List Value),jD N w (gP vs) xs→∃r,xs=vs++r
 |[],xs,_=>⟨xs,rfl⟩
 | v::vs,xs,h=>by
   simp only[gP,List.map_cons,jD] at h;obtain⟨x,r,rfl,_,G,J⟩:=h;simp only[bL] at G;subst G;obtain⟨K,rfl⟩:=QX vs r J;exact⟨K,rfl⟩
theorem uh (vs:List Value):(gP vs).length=vs.length:=by simp[gP]
section
variable {c:Ctx}{R:Real}{s:AS}{a:Act}{w:World}
theorem bN.Z7 (g:bN c R s a w){b:Nat}{box cZ:aI}(K:lk s.hp b=some box)
  (r1:∀off v,bf R b off v (some box)→bf R b off v (some cZ))
  (r2:∀ver v,aX R b ver v (some box)→aX R b ver v (some cZ))
  (r3:∀ver i off v,bC R b ver i off v (some box)→bC R b ver i off v (some cZ))
  (J:∀r,aQ R b r (some cZ)→aQ R b r (some box))
  (Me:(∀v x,au (bA c R s.hp) w s.hp R v x→au (bA c R ((b,cZ)::s.hp)) w ((b,cZ)::s.hp) R v x) →
   (∀r,bA c R ((b,cZ)::s.hp) r→bA c R s.hp r)→fK (bA c R ((b,cZ)::s.hp)) w ((b,cZ)::s.hp) R b cZ) :
  bN c R (s.app [(b,cZ)]) a w∧(∀v x,au (bA c R s.hp) w s.hp R v x→au (bA c R ((b,cZ)::s.hp)) w ((b,cZ)::s.hp) R v x):=by
 have X:∀off v,bf R b off v (lk s.hp b)→bf R b off v (some cZ):=fun off v h=>r1 off v (by rw[K] at h;exact h)
 have q2:∀ver v,aX R b ver v (lk s.hp b)→aX R b ver v (some cZ):=fun ver v h=>r2 ver v (by rw[K] at h;exact h)
 have q3:∀ver i off v,bC R b ver i off v (lk s.hp b)→bC R b ver i off v (some cZ):=fun ver i off v h=>r3 ver i off v (by rw[K] at h;exact h)
 have V:∀r,aQ R b r (some cZ)→aQ R b r (lk s.hp b)∨w.heap.size≤r:=fun r h=>.inl (by rw[K];exact J r h)
 have Q:∀G,G≠b→R.blk G=R.blk G∧R.nil G=R.nil G∧R.cap G=R.cap G:=fun _ _=>⟨rfl,rfl,rfl⟩
 obtain⟨m1,m2,m3,m4,m5⟩:=g.G8 (b:=b) (cZ:=cZ) Q X q2 q3 V (mV.refl _ w) rfl;have S:=fun v x h=>dM (p:=v) m1 m2 m3 m4 m5 x h
 refine⟨g.upd (nx':=s.nx) Q X q2 q3 V (mV.refl _ w) (Me S fun r hr=>?_) rfl,S⟩;rcases hr with h|⟨G,h⟩
 ·exact .inl h
 refine .inr ⟨G,?_⟩;rw[aG] at h;split at h
 ·rename_i e;subst e;rw[K];exact J r h
 exact h
theorem Gh {N:Nat→Prop}{w:World}{st:Nat}:∀{pre:List (List PV)} {row:List PV} {post:List (List PV)} {xs:List Value},dI N w st (pre++row::post) xs→dI N w st pre xs∧row.length=st∧jD N w row (xs.drop (pre.length*st))∧dI N w st post ((xs.drop (pre.length*st)).drop st)
 | [],row,post,xs,h=>by
   simp only[List.nil_append,dI] at h;exact⟨trivial,h.1,by simpa using h.2.1,by simpa using h.2.2⟩
 | p::pre,row,post,xs,h=>by
   simp only[List.cons_append,dI] at h;obtain⟨S,V,X⟩:=h;obtain⟨G,J,K,Q⟩:=Gh X;have e:xs.drop ((p::pre).length*st)=(xs.drop st).drop (pre.length*st):=by
    rw[List.drop_drop,show (p::pre).length*st=st+pre.length*st by rw[List.length_cons,Nat.add_mul];omega]
   rw[e];exact⟨⟨S,V,G⟩,J,K,Q⟩
theorem BR {N:Nat→Prop}{w:World}{st:Nat}:∀{pre:List (List PV)} {row:List PV} {post:List (List PV)} {xs:List Value},dI N w st pre xs→row.length=st→jD N w row (xs.drop (pre.length*st)) →
  dI N w st post ((xs.drop (pre.length*st)).drop st)→dI N w st (pre++row::post) xs
 | [],row,post,xs,h,K,G,J=>by
   simp only[List.nil_append,dI];exact⟨K,by simpa using G,by simpa using J⟩
 | p::pre,row,post,xs,h,K,G,J=>by
   simp only[dI] at h;obtain⟨Q,S,V⟩:=h;simp only[List.cons_append,dI];have e:xs.drop ((p::pre).length*st)=(xs.drop st).drop (pre.length*st):=by
    rw[List.drop_drop,show (p::pre).length*st=st+pre.length*st by rw[List.length_cons,Nat.add_mul];omega]
   rw[e] at G J;exact⟨Q,S,BR V K G J⟩
theorem bN.Nu (g:bN c R s a w){b:Nat}{e:TypeId}{v st:Nat}{pre post:List (List PV)}{vs:List Value}{row:List AV}(S:lk s.hp b=some (.arr e v st (pre++gP vs::post)))
  (G:dZ (bA c R s.hp) w s.hp R row vs) :
  bN c R (s.app [(b,.iP e v st pre row post)]) a w∧(∀u x,au (bA c R s.hp) w s.hp R u x→au (bA c R ((b,.iP e v st pre row post)::s.hp)) w ((b,.iP e v st pre row post)::s.hp) R u x):=by
 have V:(pre++gP vs::post).length=pre.length+(1+post.length):=by simp[Nat.add_comm]
 refine g.Z7 S (fun off v h=>h.elim) (fun ver u h=>?_) (fun ver i off u h=>h) (fun r h=>h) (fun hm Q=>?_)
 ·simpa only[aX,V] using h
 obtain⟨xs,h1,h2⟩:=g.boxes b _ S;obtain⟨X,J,a3,a4⟩:=Gh h2;obtain⟨r,hr⟩:=QX _ _ a3;rw[uh] at J;have K:row.length=vs.length:=by
  have:=(bR _ _ _ _ _ _).1 G;exact this.length.symm
 refine⟨xs,by rw[←V];exact h1,bg (fun r _ h=>Q r h) (fun _ _ _=>rfl) _ _ _ X,by rw[K];exact J,?_,bg (fun r _ h=>Q r h) (fun _ _ _=>rfl) _ _ _ a4⟩;rw[hr,show (vs++r).take st=vs by rw[←J];exact List.take_left];rw[bR] at G ⊢;exact G.imp hm
theorem bN.w9 (g:bN c R s a w){b:Nat}{e:TypeId}{v st:Nat}{pre post:List (List PV)}{row:List AV}(V:lk s.hp b=some (.iP e v st pre row post)) :
  ∃vs:List Value,dZ (bA c R s.hp) w s.hp R row vs∧vs.length=st∧bN c R (s.app [(b,.arr e v st (pre++gP vs::post))]) a w ∧
   (∀u x,au (bA c R s.hp) w s.hp R u x→au (bA c R ((b,.arr e v st (pre++gP vs::post))::s.hp)) w ((b,.arr e v st (pre++gP vs::post))::s.hp) R u x):=by
 obtain⟨xs,X,h2,K,Q,h5⟩:=g.boxes b _ V;have G:=(bR _ _ _ _ _ _).1 Q;refine⟨(xs.drop (pre.length*st)).take st,Q,G.length.trans K,g.Z7 V (fun off v h=>h.elim) (fun ver u h=>?_) (fun ver i off u h=>h) (fun r h=>h) (fun hm S=>?_)⟩
 ·have J:(pre++gP ((xs.drop (pre.length*st)).take st)::post).length=pre.length+(1+post.length):=by simp[Nat.add_comm]
  simpa only[aX,J] using h
 have J:(pre++gP ((xs.drop (pre.length*st)).take st)::post).length=pre.length+(1+post.length):=by simp[Nat.add_comm]
 refine⟨xs,by rw[J];exact X,?_⟩;refine BR (bg (fun r _ h=>S r h) (fun _ _ _=>rfl) _ _ _ h2) (by rw[uh,G.length];exact K) ?_ (bg (fun r _ h=>S r h) (fun _ _ _=>rfl) _ _ _ h5);have:=Nt (N:=bA c R ((b,aI.arr e v st (pre++gP ((xs.drop (pre.length*st)).take st)::post))::s.hp)) (w:=w) ((xs.drop (pre.length*st)).take st) ((xs.drop (pre.length*st)).drop st) (fun u hu=>G.one u hu);rwa [List.take_append_drop] at this
def KQ (c:Ctx):Ctx:={ c with n:=c.n+1 }
theorem bN.Nv (g:bN c R s a w){v:AV}{x:Value}(Q:au (bA c R s.hp) w s.hp R v x) :
  bN (KQ c) R ⟨(c.n,v)::s.tm,s.nx,s.hp⟩ { a with tmps:=a.tmps.push x } w:=by
 refine⟨fun t u G=>?_,by simp[KQ,g.size],g.lo,g.marks,g.fixed,g.boxes,g.inj,g.free,g.jV,g.jy,g.kept⟩;rw[aG] at G;split at G
 ·rename_i e;simp only[Option.some.injEq] at G;subst e;subst G;refine⟨x,?_,Q⟩;show (a.tmps.push x)[c.n]? = some x
  rw[←g.size];exact Array.getElem?_push_size
 obtain⟨y,J,K⟩:=g.slots t u G;refine⟨y,?_,K⟩;rw[Array.getElem?_push];have:=size_of_getElem? J;rw[if_neg (by omega)];exact J
theorem bN.Am {v:AV}{x:Value}{tm:List (Nat×AV)}{nx:Nat}{hp:List (Nat×aI)}(Q:a.tmps.size=c.n)(V:∀t u,lk tm t=some u→t≠c.n)(g:bN (KQ c) R ⟨(c.n,v)::tm,nx,hp⟩ { a with tmps:=a.tmps.push x } w) :
  bN c R ⟨tm,nx,hp⟩ a w∧au (bA c R hp) w hp R v x:=by
 refine⟨⟨fun t u S=>?_,Q,g.lo,g.marks,g.fixed,g.boxes,g.inj,g.free,g.jV,g.jy,g.kept⟩,?_⟩
 ·have J:=V t u S;obtain⟨y,G,K⟩:=g.slots t u (by rw[aG,if_neg (fun e=>J e.symm)];exact S);refine⟨y,?_,K⟩;rw[Array.getElem?_push] at G;split at G
  ·rename_i e;omega
  exact G
 obtain⟨y,G,K⟩:=g.slots c.n v (by rw[aG,if_pos rfl]);rw[Array.getElem?_push,if_pos Q.symm] at G;simp only[Option.some.injEq] at G;subst G;exact K
end
def afx (a:Nat):Tab→Bool
 | (b,_)::r=>match Nat.beq a b with
   |true=>afx a r
   | false=>match r with
     |(c,_)::_=>Nat.beq b c
     |[]=>false
 |[]=>false
def alC (T:Tab):Bool:=
 match T with
 |(a,_)::r=>afx a r
 |[]=>false
def xY (T:Tab)(H:List (Nat×aI))(t:TypeId)(x:AV)(K:AV→Prop):Prop:=
 match x with
 | .eY b ver k off=>match lk H b with
   | some (.iP e v J pre G post)=>match lk T t with
     | some i=>match Nat.beq ver v,Nat.beq i.size 0 with
       | true,false=>match part off i.size G with
         |some cs=>k=pre.length∧vz i cs K
         |none=>False
       |_,_=>False
     |none=>False
   |_=>vk T H t (.eY b ver k off) K
 |x=>vk T H t x K
def sW (T:Tab)(H:List (Nat×aI))(t:TypeId)(x y:AV)(K:AV→List (Nat×aI)→Prop):Prop:=
 match x with
 | .eY b ver k off=>match lk H b with
   | some (.iP e v J pre G post)=>match lk T t with
     | some i=>match Nat.beq ver v with
       | true=>match cellsOf i y with
         | some cs=>match Nat.beq cs.length i.size with
           | true=>match oh off G cs with
             |some Q=>k=pre.length∧K (.pv (.sc undef)) [(b,.iP e v J pre Q post)]
             |none=>False
           |false=>False
         |none=>False
       |false=>False
     |none=>False
   |_=>qZ T H t (.eY b ver k off) y K
 |x=>qZ T H t x y K
def P7 (T:Tab)(H:List (Nat×aI))(t:TypeId)(x G:AV)(K:AV→Prop):Prop:=
 match x with
 | .aO b ver=>match lk H b with
   | some (.iP e v S pre Q post)=>match G with
     | .pv (.sc (.int _ i))=>match lk T t with
       | some V=>match V.d with
         | .slt e=>match lk T e with
           | some J=>match Nat.beq ver v,Nat.beq S J.size with
             |true,true=>0≤i∧i.toNat<pre.length+(1+post.length)∧K (.eY b ver i.toNat 0)
             |_,_=>False
           |none=>False
         |_=>False
       |none=>False
     |_=>False
   |_=>fP T H t (.aO b ver) G K
 |x=>fP T H t x G K
def EN (T:Tab)(H:List (Nat×aI))(t:TypeId)(x:AV)(K:AV→Prop):Prop:=
 match x with
 | .aO b ver=>match lk H b with
   | some (.iP e v J pre G post)=>match lk T t with
     | some i=>match i.d with
       | .slt _=>match Nat.beq ver v with
         |true=>K (.pv (.sc (.int .i64 (pre.length+(1+post.length):Nat))))
         |false=>False
       |_=>False
     |none=>False
   |_=>Kk T H t (.aO b ver) K
 |x=>Kk T H t x K
section
variable {P:Program}{T:Tab}{N:Nat→Prop}{w:World}{hp:List (Nat×aI)}{R:Real}
theorem Nw (i:TI){t:TypeId}(hi:og P t i){g off:Nat}{cur:Array Value}{e:TypeId}{fr:Nat×Nat}{cs:List AV}{K:AV→Prop}
  (hg:w.heap[g]? = some (.cells cur e fr)) (hl:off+i.size≤cur.size) (J:FC (au N w hp R) cs ((cur.toList.drop off).take i.size))
  (h:vz i cs K) :
  ∃x v,(loadVar t ⟨g,off,none⟩).run P w=.ok x w∧K v∧au N w hp R v x:=by
 have G:=mI (w:=w) hi hg hl;cases S:i.d.isAgg with
 | true=>
   simp only[vz,S] at h;simp only[S] at G;unfold EA at h;split at h;rotate_left;cases h
   rename_i v X;refine⟨_,v,G,h,?_⟩;split at X
   ·rename_i Q aa;simp only[Option.some.injEq] at X;subst X;simp only[au,bL,if_true];refine⟨_,rfl,?_⟩;rw[iH];have:∀(cs:List AV) (Q:List PV) (vs:List Value),jE cs=some Q→FC (au N w hp R) cs vs→FC (bL N w) Q vs:=by
     intro cs;induction cs with
     |nil=>intro Q vs h h';simp only[jE,Option.some.injEq] at h;subst h;exact h'
     | cons c cs ih=>
       intro Q vs h h';obtain⟨v,r,rfl,h1,h2,h3⟩:=h';cases c<;>simp only[jE] at h<;>try (cases h;done)
       split at h
       ·rename_i ad uX;simp only[Option.some.injEq] at h;subst h;exact⟨v,r,rfl,h1,by simpa only[au] using h2,ih _ _ uX h3⟩
       cases h
    exact this cs Q _ aa (by simpa using J)
   simp only[Option.some.injEq] at X;subst X;simp only[au,if_true];refine⟨_,rfl,?_⟩;rw[bR];simpa using J
 | false=>
   have h1:=hi.agg S;simp only[vz,S] at h;simp only[S,Bool.false_eq_true,if_false] at G;split at h;rotate_left;cases h
   rename_i v;obtain⟨u,r,e1,e2,e3,e4⟩:=J;refine⟨_,_,G,h,?_⟩;have:cur[off]! = u:=by
    have V:off<cur.size:=by omega
    rw[getElem!_pos cur off V];have hh:((cur.toList.drop off).take i.size)[0]? = some u:=by rw[e1];rfl
    rw[h1] at hh;simp only[List.getElem?_take,Nat.zero_lt_one,if_true,List.getElem?_drop,Nat.add_zero] at hh;have h3:cur[off]? = some u:=by simpa using hh
    rw[Array.getElem?_eq_getElem V] at h3;exact Option.some.inj h3
   rw[this];exact e3
end
section
variable {P:Program}{T:Tab}{c:Ctx}{R:Real}{s:AS}{a:Act}{w:World}
theorem VD (g:bN c R s a w){b:Nat}{e:TypeId}{v st:Nat}{pre post:List (List PV)}{row:List AV}(X:lk s.hp b=some (.iP e v st pre row post))(hn:R.nil b=false) :
  ∃(cur:Array Value) (vs r:List Value),w.heap[R.blk b]? = some (.cells cur e (0,0))∧cur.toList.drop ((R.cap b).2.2+pre.length*st)=vs++r∧vs.length=st∧FC (au (bA c R s.hp) w s.hp R) row vs:=by
 obtain⟨vs,J,Q,V,m1⟩:=g.w9 X;have K:lk (s.app [(b,.arr e v st (pre++gP vs::post))]).hp b=some (.arr e v st (pre++gP vs::post)):=by
  simp only[AS.app,List.singleton_append,aG,if_true]
 obtain⟨cur,hg,hs,aa,hm,hr,_⟩:=gY (V.boxes b _ K) hn;obtain⟨a1,a2,S,a4⟩:=Gh hr;obtain⟨r,G⟩:=QX _ _ S;rw[List.drop_drop] at G;exact⟨cur,vs,r,hg,G,Q,(bR _ _ _ _ _ _).1 J⟩
theorem J5 (g:bN c R s a w)(hT:dB P T){H:List (Nat×aI)}(hH:∀b box,lk H b=some box→lk s.hp b=some box){t:TypeId}{x:AV}{K:AV→Prop}
  (h:xY T H t x K) {u:Value} (hx:au (bA c R s.hp) w s.hp R x u) :
  ∃y v,(Instr.loadAt t u).run P w=.ok y w∧K v∧au (bA c R s.hp) w s.hp R v y:=by
 unfold xY at h;split at h
 ·rename_i b ver k off;split at h
  ·rename_i e v st pre ag post hb;have Q:=hH _ _ hb;split at h;rotate_left;cases h
   rename_i i hi;have ae:=hT t i hi;split at h;rotate_left;cases h
   rename_i gu X;split at h;rotate_left;cases h
   rename_i cs aa;obtain⟨rfl,h⟩:=h;simp only[au,Q,bC] at hx;obtain⟨hn,rfl⟩:=hx.2.2 (Nat.eq_of_beq_eq_true gu);obtain⟨G,vs,r,hg,hd,af,V⟩:=VD g Q hn;obtain⟨h1,h2⟩:=V.fp.part aa;have J:G.size=(R.cap b).2.2+pre.length*st+(vs.length+r.length)∨(vs++r=[]∧G.size≤(R.cap b).2.2+pre.length*st):=by
    have:=congrArg List.length hd;simp only[List.length_drop,Array.length_toList,List.length_append] at this;by_cases hz:G.size≤(R.cap b).2.2+pre.length*st
    ·refine .inr ⟨List.eq_nil_of_length_eq_zero (by simp only[List.length_append];omega),hz⟩
    left;omega
   have ad:(G.toList.drop ((R.cap b).2.2+pre.length*st+off)).take i.size=(vs.drop off).take i.size:=by
    rw[←List.drop_drop,hd,List.drop_append_of_le_length (by omega),List.take_append_of_le_length (by simp only[List.length_drop];omega)]
   by_cases hz:(R.cap b).2.2+pre.length*st+off+i.size≤G.size
   ·obtain⟨y,z,k1,k2,k3⟩:=Nw i ae hg hz (by rw[ad];exact h2) h;exact⟨y,z,by simpa[Instr.loadAt,Instr.sureAddr] using k1,k2,k3⟩
   exfalso;rcases J with J|⟨S,J⟩
   ·omega
   have:vs=[]:=(List.append_eq_nil_iff.1 S).1;subst this;simp only[List.length_nil] at h1 af;exact Nat.ne_of_beq_eq_false X (by omega)
  exact vo g hT hH h hx
 exact vo g hT hH h hx
theorem Ny {α:Type}:∀{off:Nat} {vs xs:List α},off+xs.length≤vs.length→oh off vs xs=some (vs.take off++xs++vs.drop (off+xs.length))
 | 0,vs,xs,h=>by
   simp only[oh,List.take_zero,List.nil_append,Nat.zero_add];have:∀(xs vs:List α),xs.length≤vs.length→oH vs xs=some (xs++vs.drop xs.length):=by
    intro xs;induction xs with
    |nil=>intro vs _;cases vs<;>simp[oH]
    | cons x xs ih=>
      intro vs h;cases vs with
      |nil=>simp at h
      |cons v vs=>simp only[oH,ih vs (by simpa using h)];simp
   exact this xs vs (by simpa using h)
 |off+1,[],xs,h=>by simp at h
 | off+1,v::vs,xs,h=>by
   have G:off+xs.length≤vs.length:=by simp only[List.length_cons] at h;omega
   simp only[oh,Ny G];rw[show off+1+xs.length=(off+xs.length)+1 by omega];simp
theorem adY (a b:List Value):gP (a++b)=gP a++gP b:=by simp[gP]
theorem adZ {off:Nat}{vs xs:List Value}(h:off+xs.length≤vs.length):oh off (gP vs) (gP xs)=some (gP (vs.take off++xs++vs.drop (off+xs.length))):=by
 rw[Ny (by rw[uh,uh];exact h)];simp only[adY,uh];simp[gP,List.map_take,List.map_drop]
def exV (i:TI)(v:Value):PV:=match i.d.isAgg with
 |true=>.agg (gP v.cells.toList)
 |false=>.sc v
theorem Gi {N:Nat→Prop}:∀(vs:List Value),(∀v∈vs,v.oneCell'=true)→jk N w (gP vs) vs
 |[],_=>by simp[gP,jk]
 | v::vs,h=>by
   simp only[gP,List.map_cons,jk];exact⟨v,vs,rfl,h v (by simp),by simp only[bL],Gi vs fun u G=>h u (by simp[G])⟩
theorem ag5 {N N':Nat→Prop}{w w':World}{hp:List (Nat×aI)}{i:TI}{y:AV}{cs:List AV}(h:cellsOf i y=some cs){v:Value}(J:au N w hp R y v):bL N' w' (exV i v) v∧mE i (exV i v)=some (gP v.cells.toList):=by
 have hc:=kW h J;unfold exV;cases K:i.d.isAgg with
 | true=>
   simp only[cellsOf,K] at h;have:∃us:Array Value,v=.agg us:=by
    split at h
    ·simp only[au,bL] at J;obtain⟨us,e,_⟩:=J;exact⟨us,e⟩
    ·simp only[au] at J;obtain⟨us,e,_⟩:=J;exact⟨us,e⟩
    cases h
   obtain⟨us,rfl⟩:=this;refine⟨?_,by simp[mE,K]⟩;simp only[bL];exact⟨us,rfl,Gi us.toList hc.one⟩
 | false=>
   simp only[cellsOf,K] at h;split at h
   ·rename_i G;have Q:=Ja G J;have e:=Bu Q;refine⟨by simp only[bL],?_⟩;simp only[mE,K,cellP,Q];have:v.cells.toList=[v]:=by rw[e]
    rw[this];rfl
   cases h
theorem Nz (g:bN c R s a w):∀t u,lk s.tm t=some u→t≠c.n:=by
 intro t u h e;obtain⟨x,G,_⟩:=g.slots t u h;have:=size_of_getElem? G;rw[g.size] at this;omega
theorem KR {hp hp':List (Nat×aI)}(h:∀b,lk hp' b=lk hp b){v:AV}{x:Value}(K:au (bA c R hp) w hp R v x):au (bA c R hp') w hp' R v x:=by
 refine dM (fun r _ G=>?_) (fun _ _ _=>rfl) (fun b off u J=>by rw[h];exact J) (fun b ver u J=>by rw[h];exact J) (fun b ver i off u J=>by rw[h];exact J) v x K;rcases G with G|⟨b,G⟩
 ·exact .inl G
 exact .inr ⟨b,by rw[←h];exact G⟩
theorem Hq (g:bN c R s a w)(hT:dB P T){H:List (Nat×aI)}(hH:∀b box,lk H b=some box→lk s.hp b=some box){t:TypeId}{x y:AV}
  {K:AV→List (Nat×aI)→Prop} (h:sW T H t x y K) {u v:Value} (hx:au (bA c R s.hp) w s.hp R x u) (hy:au (bA c R s.hp) w s.hp R y v) :
  ∃w' ws,(Instr.storeAt t u v).run P w=.ok () w'∧K (.pv (.sc undef)) ws∧bN c R (s.app ws) a w':=by
 unfold sW at h;split at h
 ·rename_i b ver k off;split at h
  ·rename_i e J G pre row post hb;have al:=hH _ _ hb;split at h;rotate_left;cases h
   rename_i i hi;split at h;rotate_left;cases h
   rename_i gu;split at h;rotate_left;cases h
   rename_i cs ae;split at h;rotate_left;cases h
   rename_i af;split at h;rotate_left;cases h
   rename_i vB X;obtain⟨rfl,hK⟩:=h;obtain⟨vs,V,ar,g1,m1⟩:=g.w9 al;have aa:=kW ae hy;have ad:=(bR _ _ _ _ _ _).1 V;obtain⟨ap,_⟩:=FC.oh ad aa X;have hA:au (bA c R (s.app [(b,.arr e J G (pre++gP vs::post))]).hp) w (s.app [(b,.arr e J G (pre++gP vs::post))]).hp R (.agg row) (.agg vs.toArray):=
    m1 _ _ (by simp only[au];exact⟨_,rfl,by simpa using V⟩)
   have hB:au (bA c R (s.app [(b,.arr e J G (pre++gP vs::post))]).hp) w (s.app [(b,.arr e J G (pre++gP vs::post))]).hp R (.agg cs) (.agg v.cells):=
    m1 _ _ (by simp only[au];exact⟨_,rfl,by rw[bR];exact aa⟩)
   have g2:=g1.Nv hA;have g3:=g2.Nv hB;have wJ:lk (s.app [(b,.arr e J G (pre++gP vs::post))]).hp b=some (.arr e J G (pre++gP vs::post)):=by
    simp only[AS.app,List.singleton_append,aG,if_true]
   obtain⟨ah,ao⟩:=ag5 (N':=bA c R (s.app [(b,.arr e J G (pre++gP vs::post))]).hp) (w':=w) ae hy;have aq:qZ T (s.app [(b,.arr e J G (pre++gP vs::post))]).hp t (.eY b ver pre.length off) (.pv (exV i v))
     (fun z ws=>ws=[(b,.arr e J G (pre++gP (vs.take off++v.cells.toList++vs.drop (off+v.cells.toList.length))::post))]):=by
    have e1:Nat.beq (gP v.cells.toList).length i.size=true:=by rw[uh,aa.length];exact af
    unfold qZ;simp only[hi,wJ,gu,ao,e1];refine⟨gP vs,by simp,?_⟩;rw[adZ ap];simp
   obtain⟨w',ws,ai,rfl,g4⟩:=tL g3 hT (fun _ _ h=>h) aq (u:=u) (v:=v) (m1 _ _ hx) (by simp only[au];exact ah);have ak:({ a with tmps:=a.tmps.push (.agg vs.toArray) }:Act).tmps.size=(KQ c).n:=by simp[KQ,g.size]
   obtain⟨g5,S⟩:=bN.Am (c:=KQ c) (a:={ a with tmps:=a.tmps.push (.agg vs.toArray) }) ak (Nz g2) g4;obtain⟨g6,Q⟩:=bN.Am (c:=c) g.size (Nz g) g5;simp only[au] at Q S;obtain⟨us,e1,Q⟩:=Q;cases e1;obtain⟨us,e1,S⟩:=S;cases e1;rw[bR] at Q S;obtain⟨_,ag⟩:=FC.oh Q S X;have am:lk ([(b,aI.arr e J G (pre++gP (vs.take off++v.cells.toList++vs.drop (off+v.cells.toList.length))::post))]++(s.app [(b,.arr e J G (pre++gP vs::post))]).hp) b =
     some (.arr e J G (pre++gP (vs.take off++v.cells.toList++vs.drop (off+v.cells.toList.length))::post)):=by
    rw[List.singleton_append,aG,if_pos rfl]
   obtain⟨g7,m7⟩:=bN.Nu (row:=vB) g6 am (by rw[bR];exact ag);refine⟨w',_,ai,hK,bN.congr g7 (fun _=>rfl) fun j=>?_⟩;simp only[AS.app,List.singleton_append,aG];split<;>rfl
  exact tL g hT hH h hx hy
 exact tL g hT hH h hx hy
theorem QM (g:bN c R s a w)(S:dB P T){H:List (Nat×aI)}(Q:∀b box,lk H b=some box→lk s.hp b=some box){t:TypeId}{x ix:AV}{K:AV→Prop}
  (h:P7 T H t x ix K) {u v:Value} (hx:au (bA c R s.hp) w s.hp R x u) (hv:au (bA c R s.hp) w s.hp R ix v) :
  ∃y z,(Instr.indexAt t u v).run P w=.ok y w∧K z∧au (bA c R s.hp) w s.hp R z y:=by
 unfold P7 at h;split at h
 ·rename_i b ver;split at h
  ·rename_i e vr st pre ae post hb;have G:=Q _ _ hb;split at h;rotate_left;cases h
   rename_i kk i;split at h;rotate_left;cases h
   rename_i ti YJ;split at h;rotate_left;cases h
   rename_i e2 X;split at h;rotate_left;cases h
   rename_i ei rD;split at h;rotate_left;cases h
   rename_i h1 h2;obtain⟨h0,V,hK⟩:=h;obtain⟨vs,aa,ad,g1,m1⟩:=g.w9 G;have wJ:lk (s.app [(b,.arr e vr st (pre++gP vs::post))]).hp b=some (.arr e vr st (pre++gP vs::post)):=by
    simp only[AS.app,List.singleton_append,aG,if_true]
   have hl:(pre++gP vs::post).length=pre.length+(1+post.length):=by simp[Nat.add_comm]
   have hi:fP T (s.app [(b,.arr e vr st (pre++gP vs::post))]).hp t (.aO b ver) (.pv (.sc (.int kk i))) (fun z=>z=.eY b ver i.toNat 0):=by
    unfold fP;simp only[YJ,X,rD,wJ,h1,h2];exact⟨h0,by rw[hl];exact V,trivial⟩
   obtain⟨y,z,J,rfl,hz⟩:=nk g1 S (fun _ _ h=>h) hi (m1 _ _ hx) (m1 _ _ hv);refine⟨y,_,J,hK,?_⟩;simp only[au,wJ,bC] at hz;simp only[au,G,bC];exact hz
  exact nk g S Q h hx hv
 exact nk g S Q h hx hv
theorem LQ (g:bN c R s a w)(Q:dB P T){H:List (Nat×aI)}(J:∀b box,lk H b=some box→lk s.hp b=some box){t ty:TypeId}{x:AV}{K:AV→Prop}
  (h:EN T H t x K) {u:Value} (X:au (bA c R s.hp) w s.hp R x u) :
  ∃y z,(Builtin.len_ #[t] ty #[u]).run P w=.ok y w∧K z∧au (bA c R s.hp) w s.hp R z y:=by
 unfold EN at h;split at h
 ·rename_i b ver;split at h
  ·rename_i e vr st pre ae post hb;have S:=J _ _ hb;split at h;rotate_left;cases h
   rename_i i hi;split at h;rotate_left;cases h
   rename_i e2 V;split at h;rotate_left;cases h
   rename_i h1;obtain⟨vs,aa,ad,g1,m1⟩:=g.w9 S;have wJ:lk (s.app [(b,.arr e vr st (pre++gP vs::post))]).hp b=some (.arr e vr st (pre++gP vs::post)):=by
    simp only[AS.app,List.singleton_append,aG,if_true]
   have hl:(pre++gP vs::post).length=pre.length+(1+post.length):=by simp[Nat.add_comm]
   have hi:Kk T (s.app [(b,.arr e vr st (pre++gP vs::post))]).hp t (.aO b ver) (fun z=>z=.pv (.sc (.int .i64 (pre.length+(1+post.length):Nat)))):=by
    unfold Kk;simp only[hi,V,vw,wJ,uU,h1,hl]
   obtain⟨y,z,G,rfl,hz⟩:=yE (ty:=ty) g1 Q (fun _ _ h=>h) hi (m1 _ _ X);refine⟨y,_,G,h,?_⟩;simp only[au,bL] at hz ⊢;exact hz
  exact yE g Q J h X
 exact yE g Q J h X
end
def wN (T:Tab)(t:TypeId)(len:Nat)(ks:List Nat)(cs:List AV)(id:Nat)(K:AV→List (Nat×aI)→Prop):Prop:=
 match lk T t with
 | some i=>match i.d with
   | .slt e=>match lk T e with
     | some J=>match J.d.isAgg with
       | true=>tiF J fun G Q=>match Nat.beq G 0,XC 0 ks,Nat.beq ks.length len,Nat.beq len 1,Nat.beq cs.length G,Nat.ble G 16777216 with
         |false,true,true,true,true,true=>K (.aO id 0) [(id,.iP e 0 G [] cs [])]
         |_,_,_,_,_,_=>False
       |false=>False
     |none=>False
   |_=>False
 |none=>False
def qB (T:Tab)(H:List (Nat×aI))(t:TypeId)(len:Nat)(ks:List Nat)(vs:List AV)(id:Nat)(K:AV→List (Nat×aI)→Prop):Prop:=
 match alC T with
 | true=>match vs with
   |[.agg cs]=>wN T t len ks cs id K
   |vs=>mF T H t len ks vs id K
 |false=>mF T H t len ks vs id K
def Io (T:Tab)(H:List (Nat×aI))(t:TypeId)(d:AV)(k kv id:Nat)(K:AV→List (Nat×aI)→Prop):Prop:=
 match lk H k with
 | some (.iP e0 v0 V [] J [])=>match Nat.beq kv v0 with
   | true=>match lk T t with
     | some i=>match i.d with
       | .slt e=>match lk T e with
         | some X=>tiF X fun Q S=>match Nat.beq S 0,Nat.beq Q 0,Nat.beq V Q with
           | false,false,true=>match d with
             |.pv (.sc (.slice none 0 0))=>1*S≤140737488355328∧K (.aO id 0) [(id,.iP e 0 Q [] J [])]
             | .aO b ver=>match Nat.beq b k with
               |true=>False
               | false=>match lk H b with
                 | some (.arr e' v st G)=>match Nat.beq ver v,Nat.beq st Q,Nat.beq e' e with
                   |true,true,true=>(G.length+1)*S≤140737488355328∧K (.aO b (v+1)) [(b,.iP e (v+1) Q G J [])]
                   |_,_,_=>False
                 |_=>False
             |_=>False
           |_,_,_=>False
         |none=>False
       |_=>False
     |none=>False
   |false=>False
 |_=>False
def yw (T:Tab)(t:TypeId)(ver:Nat)(o:Option aI)(src:Nat→Option (List (List PV)))(b:Nat)(K:AV→List (Nat×aI)→Prop):Prop:=
 match o with
 | some (.iP e' v X pre J post)=>match lk T t with
   | some i=>match i.d with
     | .slt e=>match lk T e with
       | some V=>tiF V fun G Q=>match Nat.beq Q 0,Nat.beq G 0 with
         | false,false=>match src G with
           | some S=>match Nat.beq ver v,Nat.beq X G,Nat.beq e' e with
             |true,true,true=>(pre.length+(1+post.length)+S.length)*Q≤140737488355328∧K (.aO b (v+1)) [(b,.iP e (v+1) G pre J (post++S))]
             |_,_,_=>False
           |none=>False
         |_,_=>False
       |none=>False
     |_=>False
   |none=>False
 |_=>False
def Cw (T:Tab)(H:List (Nat×aI))(t:TypeId)(b ver:Nat)(x:AV)(K:AV→List (Nat×aI)→Prop):Prop:=
 match x with
 |.pv p=>yw T t ver (lk H b) (fun G=>mr H G (.pv p)) b K
 | .aO k J=>match Nat.beq b k with
   |true=>False
   |false=>yw T t ver (lk H b) (fun G=>mr H G (.aO k J)) b K
 |_=>False
def Z8 (o:Option aI):Bool:=
 match o with
 |some (.iP _ _ _ _ _ _)=>true
 |_=>false
def zC (T:Tab)(H:List (Nat×aI))(t:TypeId)(vs:List AV)(id:Nat)(K:AV→List (Nat×aI)→Prop):Prop:=
 match vs with
 | [d,x]=>match x with
   | .aO k G=>match Z8 (lk H k) with
     |true=>Io T H t d k G id K
     | false=>match d with
       | .aO b ver=>match Z8 (lk H b) with
         |true=>Cw T H t b ver (.aO k G) K
         |false=>uG T H t [.aO b ver,.aO k G] id K
       |d=>uG T H t [d,.aO k G] id K
   | x=>match d with
     | .aO b ver=>match Z8 (lk H b) with
       |true=>Cw T H t b ver x K
       |false=>uG T H t [.aO b ver,x] id K
     |d=>uG T H t [d,x] id K
 |vs=>uG T H t vs id K
section
variable {P:Program}{T:Tab}{c:Ctx}{R:Real}{s:AS}{a:Act}{w:World}
theorem H7 (g:bN c R s a w)(hT:dB P T){id:Nat}(hf:lk s.hp id=none){t:TypeId}{len:Nat}{ks:List Nat}{cs:List AV}{K:AV→List (Nat×aI)→Prop}
  (h:wN T t len ks cs id K) {u:Value} (hv:au (bA c R s.hp) w s.hp R (.agg cs) u) :
  ∃y V J z ws,(Instr.buildSlice t len (ks.zip [u]).toArray).run P w=.ok y V∧K z ws∧bN c J (s.app ws) a V∧au (bA c J (ws++s.hp)) V (ws++s.hp) J z y:=by
 unfold wN at h;simp only[fF] at h;split at h;rotate_left;cases h
 rename_i i hi;split at h;rotate_left;cases h
 rename_i e ad;split at h;rotate_left;cases h
 rename_i G rD;split at h;rotate_left;cases h
 rename_i Q;split at h;rotate_left;cases h
 rename_i h0 h1 h2 h3 h4 h5;have ae:=hv;simp only[au] at hv;obtain⟨us,rfl,uN⟩:=hv;have hl:us.toList.length=cs.length:=by rw[bR] at uN;exact uN.length
 have h3:=Nat.eq_of_beq_eq_true h3;subst h3;have af:=Nat.eq_of_beq_eq_true h4;have g1:=g.Nv ae;have hp:au (bA (KQ c) R s.hp) w s.hp R (.pv (.agg (gP us.toList))) (.agg us):=by
  simp only[au,bL];exact⟨us,rfl,Gi _ ((bR _ _ _ _ _ _).1 uN).one⟩
 have hb:mF T [] t 1 ks [.pv (.agg (gP us.toList))] id (fun z ws=>z=.aO id 0∧ws=[(id,.arr e 0 G.size ([]++gP us.toList::[]))]):=by
  unfold mF;simp only[fF,hi,ad,rD,h0,h1,h2];have e1:Nat.ble (1*G.size) 16777216=true:=by rw[Nat.one_mul];exact h5
  have e2:mE G (.agg (gP us.toList))=some (gP us.toList):=by simp[mE,Q]
  have e3:Nat.beq (gP us.toList).length G.size=true:=by rw[uh,hl];exact h4
  simp only[e1,Ie,vw,Ig,e2,e3,fH,refs,List.append_nil,JZ,List.length_singleton];exact⟨trivial,by simp⟩
 obtain⟨y,V,J,z,ws,S,⟨rfl,rfl⟩,g2,hz⟩:=pF (s:=⟨(c.n,.agg cs)::s.tm,s.nx,s.hp⟩) g1 hT (H:=[]) (fun b box hb=>by simp[lk] at hb) hf hb (us:=[.agg us]) ⟨_,_,rfl,hp,rfl⟩;obtain⟨g3,X⟩:=bN.Am (tm:=s.tm) (nx:=s.nx) g.size (Nz g) g2;simp only[au] at X;obtain⟨ag,e1,X⟩:=X;cases e1;have aa:lk ([(id,aI.arr e 0 G.size ([]++gP us.toList::[]))]++s.hp) id=some (.arr e 0 G.size ([]++gP us.toList::[])):=by
  rw[List.singleton_append,aG,if_pos rfl]
 obtain⟨g4,m4⟩:=g3.Nu aa X;have hc:∀j,lk ([(id,aI.iP e 0 G.size [] cs [])]++s.hp) j=lk ((id,aI.iP e 0 G.size [] cs [])::([(id,aI.arr e 0 G.size ([]++gP us.toList::[]))]++s.hp)) j:=by
  intro j;simp only[List.singleton_append,aG];split<;>rfl
 exact⟨y,V,J,_,_,S,h,bN.congr g4 (fun _=>rfl) hc,KR hc (m4 _ _ hz)⟩
theorem NA (g:bN c R s a w)(hT:dB P T){H:List (Nat×aI)}(hH:∀b box,lk H b=some box→lk s.hp b=some box){id:Nat}(hf:lk s.hp id=none)
  {t ty:TypeId} {d:AV} {k S:Nat} {K:AV→List (Nat×aI)→Prop} (h:Io T H t d k S id K) {u v:Value} (hd:au (bA c R s.hp) w s.hp R d u) (hx:au (bA c R s.hp) w s.hp R (.aO k S) v) :
  ∃y w' X z ws,(Builtin.append_ #[t,t] ty #[u,v]).run P w=.ok y w'∧K z ws∧bN c X (s.app ws) a w'∧au (bA c X (ws++s.hp)) w' (ws++s.hp) X z y:=by
 unfold Io at h;simp only[fF] at h;split at h;rotate_left;cases h
 rename_i V v0 D6 Q hk;have ak:=hH _ _ hk;split at h;rotate_left;cases h
 rename_i al;have al:=Nat.eq_of_beq_eq_true al;subst al;split at h;rotate_left;cases h
 rename_i i hi;split at h;rotate_left;cases h
 rename_i e aq;split at h;rotate_left;cases h
 rename_i J rD;split at h;rotate_left;cases h
 rename_i h1 h2 h3;have ar:=Nat.eq_of_beq_eq_true h3;subst ar;obtain⟨vs,ap,a1,g1,m1⟩:=g.w9 ak;have hg:au (bA c R (s.app [(k,.arr V S J.size ([]++gP vs::[]))]).hp) w (s.app [(k,.arr V S J.size ([]++gP vs::[]))]).hp R (.agg Q) (.agg vs.toArray):=
  m1 _ _ (by simp only[au];exact⟨_,rfl,by simpa using ap⟩)
 have g2:=g1.Nv hg;have ao:lk (s.app [(k,.arr V S J.size ([]++gP vs::[]))]).hp k=some (.arr V S J.size ([]++gP vs::[])):=by
  simp only[AS.app,List.singleton_append,aG,if_true]
 have ae:∀j,j≠k→lk (s.app [(k,.arr V S J.size ([]++gP vs::[]))]).hp j=lk s.hp j:=by
  intro j hj;simp only[AS.app,List.singleton_append,aG,if_neg (show ¬k=j from fun e=>hj e.symm)]
 have ah:id≠k:=fun e=>by rw[e,ak] at hf;cases hf
 have ag:mr (s.app [(k,.arr V S J.size ([]++gP vs::[]))]).hp J.size (.aO k S)=some [gP vs]:=by
  simp only[mr,ao,uU,Nat.beq_refl];simp
 have fin:∀(b:Nat) (nv:Nat) (G:List (List PV)) (y:Value) (w':World) (X:Real),b≠k →
   bN (KQ c) X (AS.app ⟨(c.n,.agg Q)::s.tm,s.nx,(s.app [(k,.arr V S J.size ([]++gP vs::[]))]).hp⟩ [(b,.arr e nv J.size (G++gP vs::[]))]) { a with tmps:=a.tmps.push (.agg vs.toArray) } w' →
   au (bA (KQ c) X ([(b,.arr e nv J.size (G++gP vs::[]))]++(s.app [(k,.arr V S J.size ([]++gP vs::[]))]).hp)) w' ([(b,.arr e nv J.size (G++gP vs::[]))]++(s.app [(k,.arr V S J.size ([]++gP vs::[]))]).hp) X (.aO b nv) y →
   bN c X (s.app [(b,.iP e nv J.size G Q [])]) a w'∧au (bA c X ([(b,.iP e nv J.size G Q [])]++s.hp)) w' ([(b,.iP e nv J.size G Q [])]++s.hp) X (.aO b nv) y:=by
  intro b nv G y w' X aa g3 hz;obtain⟨g4,hr⟩:=bN.Am (tm:=s.tm) (nx:=s.nx) g.size (Nz g) g3;simp only[au] at hr;obtain⟨a2,e1,hr⟩:=hr;cases e1;have hr:dZ (bA c X ([(b,aI.arr e nv J.size (G++gP vs::[]))]++(s.app [(k,.arr V S J.size ([]++gP vs::[]))]).hp)) w' ([(b,aI.arr e nv J.size (G++gP vs::[]))]++(s.app [(k,.arr V S J.size ([]++gP vs::[]))]).hp) X Q vs:=by simpa using hr
  have ax:lk ([(b,aI.arr e nv J.size (G++gP vs::[]))]++(s.app [(k,.arr V S J.size ([]++gP vs::[]))]).hp) b=some (.arr e nv J.size (G++gP vs::[])):=by
   rw[List.singleton_append,aG,if_pos rfl]
  obtain⟨g5,m5⟩:=g4.Nu ax hr;have af:=m5 (.agg Q) (.agg vs.toArray) (by simp only[au];exact⟨_,rfl,by simpa using hr⟩);simp only[au] at af;obtain⟨a3,e5,af⟩:=af;cases e5;have az:lk ((b,aI.iP e nv J.size G Q [])::([(b,aI.arr e nv J.size (G++gP vs::[]))]++(s.app [(k,.arr V S J.size ([]++gP vs::[]))]).hp)) k=some (.arr V S J.size ([]++gP vs::[])):=by
   rw[aG,if_neg aa,List.singleton_append,aG,if_neg aa];exact ao
  obtain⟨g6,m6⟩:=bN.Nu (s:=⟨s.tm,s.nx,(b,aI.iP e nv J.size G Q [])::([(b,aI.arr e nv J.size (G++gP vs::[]))]++(s.app [(k,.arr V S J.size ([]++gP vs::[]))]).hp)⟩) g5 az af;have hc:∀j,lk ([(b,aI.iP e nv J.size G Q [])]++s.hp) j=lk ((k,aI.iP V S J.size [] Q [])::(b,aI.iP e nv J.size G Q [])::([(b,aI.arr e nv J.size (G++gP vs::[]))]++(s.app [(k,.arr V S J.size ([]++gP vs::[]))]).hp)) j:=by
   intro j;simp only[List.singleton_append,aG];by_cases e1:k=j
   ·subst e1;rw[if_neg aa,if_pos rfl];exact ak
   rw[if_neg e1];split
   ·rfl
   exact (ae j (fun e=>e1 e.symm)).symm
  exact⟨bN.congr g6 (fun _=>rfl) hc,KR hc (m6 _ _ (m5 _ _ hz))⟩
 split at h
 ·obtain⟨ai,hK⟩:=h;have Z9:uM T (s.app [(k,.arr V S J.size ([]++gP vs::[]))]).hp t [.pv (.sc (.slice none 0 0)),.aO k S] id (fun z ws=>z=.aO id 0∧ws=[(id,.arr e 0 J.size ([]++gP vs::[]))]):=by
   unfold uM;simp only[fF,hi,aq,rD,h1,h2,ag];exact⟨by simpa using ai,trivial,by simp⟩
  obtain⟨y,w',X,z,ws,ad,⟨rfl,rfl⟩,g3,hz⟩:=sU (s:=⟨(c.n,.agg Q)::s.tm,s.nx,(s.app [(k,.arr V S J.size ([]++gP vs::[]))]).hp⟩) g2 hT (fun _ _ h=>h) (by rw[ae id ah];exact hf) (ty:=ty) Z9 (m1 _ _ hd) (m1 _ _ hx);obtain⟨g4,am⟩:=fin id 0 [] y w' X ah g3 hz;exact⟨y,w',X,_,_,ad,hK,g4,am⟩
 ·rename_i b ver;split at h
  ·exact h.elim
  rename_i aa;have aa:=Nat.ne_of_beq_eq_false aa;split at h;rotate_left;cases h
  rename_i e' vr st G hb;have aw:=hH _ _ hb;split at h;rotate_left;cases h
  rename_i k1 k2 k3;obtain⟨ai,hK⟩:=h;have a0:=Nat.eq_of_beq_eq_true k1;have GZ:=Nat.eq_of_beq_eq_true k2;have QJ:=Nat.eq_of_beq_eq_true k3;subst a0;subst GZ;subst QJ;have wJ:lk (s.app [(k,.arr V S J.size ([]++gP vs::[]))]).hp b=some (.arr e' ver J.size G):=by rw[ae b aa];exact aw
  have Z9:uM T (s.app [(k,.arr V S J.size ([]++gP vs::[]))]).hp t [.aO b ver,.aO k S] id (fun z ws=>z=.aO b (ver+1)∧ws=[(b,.arr e' (ver+1) J.size (G++gP vs::[]))]):=by
   unfold uM;simp only[fF,hi,aq,rD,h1,h2,ag,wJ,Nat.beq_refl];exact⟨by simpa using ai,trivial,by simp⟩
  obtain⟨y,w',X,z,ws,ad,⟨rfl,rfl⟩,g3,hz⟩:=sU (s:=⟨(c.n,.agg Q)::s.tm,s.nx,(s.app [(k,.arr V S J.size ([]++gP vs::[]))]).hp⟩) g2 hT (fun _ _ h=>h) (by rw[ae id ah];exact hf) (ty:=ty) Z9 (m1 _ _ hd) (m1 _ _ hx);obtain⟨g4,am⟩:=fin b (ver+1) G y w' X aa g3 hz;exact⟨y,w',X,_,_,ad,hK,g4,am⟩
 exact h.elim
theorem Ho (g:bN c R s a w)(J:dB P T){H:List (Nat×aI)}(hH:∀b box,lk H b=some box→lk s.hp b=some box){id:Nat}(Q:lk s.hp id=none)
  {t:TypeId} {len:Nat} {ks:List Nat} {vs:List AV} {K:AV→List (Nat×aI)→Prop} (h:qB T H t len ks vs id K) {us:List Value} (S:FL (au (bA c R s.hp) w s.hp R) vs us) :
  ∃y V G z ws,(Instr.buildSlice t len (ks.zip us).toArray).run P w=.ok y V∧K z ws∧bN c G (s.app ws) a V∧au (bA c G (ws++s.hp)) V (ws++s.hp) G z y:=by
 unfold qB at h;split at h
 ·split at h
  ·obtain⟨u,r,rfl,h1,X⟩:=S;simp only[FL] at X;subst X;exact H7 g J Q h h1
  exact pF g J hH Q h S
 exact pF g J hH Q h S
theorem Dn (g:bN c R s a w)(hT:dB P T){H:List (Nat×aI)}(hH:∀b box,lk H b=some box→lk s.hp b=some box){id:Nat}(hf:lk s.hp id=none)
  {t ty:TypeId} {b ver:Nat} {x:AV} {K:AV→List (Nat×aI)→Prop} (h:Cw T H t b ver x K) {u v:Value} (hd:au (bA c R s.hp) w s.hp R (.aO b ver) u) (hx:au (bA c R s.hp) w s.hp R x v) :
  ∃y X S z ws,(Builtin.append_ #[t,t] ty #[u,v]).run P w=.ok y X∧K z ws∧bN c S (s.app ws) a X∧au (bA c S (ws++s.hp)) X (ws++s.hp) S z y:=by
 have key:∀(src:Nat→Option (List (List PV))),yw T t ver (lk H b) src b K →
   (∀(H':List (Nat×aI)) sS Q,(∀j,j≠b→∀box,lk H j=some box→lk H' j=some box)→src sS=some Q→mr H' sS x=some Q) →
   ∃y X S z ws,(Builtin.append_ #[t,t] ty #[u,v]).run P w=.ok y X∧K z ws∧bN c S (s.app ws) a X∧au (bA c S (ws++s.hp)) X (ws++s.hp) S z y:=by
  intro src h ah;unfold yw at h;simp only[fF] at h;split at h;rotate_left;cases h
  rename_i e' vr st pre V post hb;have ae:=hH _ _ hb;split at h;rotate_left;cases h
  rename_i i hi;split at h;rotate_left;cases h
  rename_i e aq;split at h;rotate_left;cases h
  rename_i G rD;split at h;rotate_left;cases h
  rename_i h1 h2;split at h;rotate_left;cases h
  rename_i aR ad;split at h;rotate_left;cases h
  rename_i k1 k2 k3;obtain⟨am,hK⟩:=h;have ar:=Nat.eq_of_beq_eq_true k1;have GZ:=Nat.eq_of_beq_eq_true k2;have QJ:=Nat.eq_of_beq_eq_true k3;subst ar;subst GZ;subst QJ;obtain⟨vs,af,aw,g1,m1⟩:=g.w9 ae;have hA:au (bA c R (s.app [(b,.arr e' ver G.size (pre++gP vs::post))]).hp) w (s.app [(b,.arr e' ver G.size (pre++gP vs::post))]).hp R (.agg V) (.agg vs.toArray):=
   m1 _ _ (by simp only[au];exact⟨_,rfl,by simpa using af⟩)
  have g2:=g1.Nv hA;have wJ:lk (s.app [(b,.arr e' ver G.size (pre++gP vs::post))]).hp b=some (.arr e' ver G.size (pre++gP vs::post)):=by
   simp only[AS.app,List.singleton_append,aG,if_true]
  have ap:=ah (s.app [(b,.arr e' ver G.size (pre++gP vs::post))]).hp G.size aR (fun j hj box ao=>by
   simp only[AS.app,List.singleton_append,aG,if_neg (show ¬b=j from fun e=>hj e.symm)];exact hH _ _ ao) ad
  have hl:(pre++gP vs::post).length=pre.length+(1+post.length):=by simp[Nat.add_comm]
  have ai:id≠b:=fun e=>by rw[e,ae] at hf;cases hf
  have Z9:uM T (s.app [(b,.arr e' ver G.size (pre++gP vs::post))]).hp t [.aO b ver,x] id (fun z ws=>z=.aO b (ver+1)∧ws=[(b,.arr e' (ver+1) G.size ((pre++gP vs::post)++aR))]):=by
   unfold uM;simp only[fF,hi,aq,rD,h1,h2,ap,wJ,Nat.beq_refl];exact⟨by rw[hl];exact am,trivial,trivial⟩
  obtain⟨y,X,S,z,ws,ag,⟨rfl,rfl⟩,g3,hz⟩:=sU (s:=⟨(c.n,.agg V)::s.tm,s.nx,(s.app [(b,.arr e' ver G.size (pre++gP vs::post))]).hp⟩) g2 hT (fun _ _ h=>h) (by
   simp only[AS.app,List.singleton_append,aG,if_neg (show ¬b=id from fun e=>ai e.symm)];exact hf) (ty:=ty) Z9 (m1 _ _ hd) (m1 _ _ hx)
  obtain⟨g4,J⟩:=bN.Am (tm:=s.tm) (nx:=s.nx) g.size (Nz g) g3;simp only[au] at J;obtain⟨ax,e1,J⟩:=J;cases e1;have al:lk ([(b,aI.arr e' (ver+1) G.size ((pre++gP vs::post)++aR))]++(s.app [(b,.arr e' ver G.size (pre++gP vs::post))]).hp) b=some (.arr e' (ver+1) G.size (pre++gP vs::(post++aR))):=by
   rw[List.singleton_append,aG,if_pos rfl,List.append_assoc,List.cons_append]
  obtain⟨g5,m5⟩:=g4.Nu al J;have hc:∀j,lk ([(b,aI.iP e' (ver+1) G.size pre V (post++aR))]++s.hp) j =
    lk ((b,aI.iP e' (ver+1) G.size pre V (post++aR))::([(b,aI.arr e' (ver+1) G.size ((pre++gP vs::post)++aR))]++(s.app [(b,.arr e' ver G.size (pre++gP vs::post))]).hp)) j:=by
   intro j;simp only[AS.app,List.singleton_append,aG];split<;>rfl
  exact⟨y,X,S,_,_,ag,hK,bN.congr g5 (fun _=>rfl) hc,KR hc (m5 _ _ hz)⟩
 unfold Cw at h;split at h
 ·refine key _ h fun H' sS Q _ J=>?_
  unfold mr at J ⊢;split at J
  ·rename_i e;cases e;exact J
  ·rename_i e;cases e;exact J
  ·rename_i e;cases e
  ·rename_i e;cases e
  cases J
 ·rename_i k kv;split at h
  ·exact h.elim
  rename_i aa;have aa:=Nat.ne_of_beq_eq_false aa;refine key _ h fun H' sS Q ak J=>?_
  simp only[mr] at J ⊢;cases hk:lk H k with
  |none=>rw[hk] at J;simp[uU] at J
  |some bx=>rw[ak k (fun e=>aa e.symm) bx hk,←hk];exact J
 exact h.elim
theorem LP (g:bN c R s a w)(J:dB P T){H:List (Nat×aI)}(G:∀b box,lk H b=some box→lk s.hp b=some box){id:Nat}(S:lk s.hp id=none)
  {t ty:TypeId} {d x:AV} {K:AV→List (Nat×aI)→Prop} (h:zC T H t [d,x] id K) {u v:Value} (Q:au (bA c R s.hp) w s.hp R d u) (V:au (bA c R s.hp) w s.hp R x v) :
  ∃y w' X z ws,(Builtin.append_ #[t,t] ty #[u,v]).run P w=.ok y w'∧K z ws∧bN c X (s.app ws) a w'∧au (bA c X (ws++s.hp)) w' (ws++s.hp) X z y:=by
 unfold zC at h;simp only at h;split at h
 ·split at h
  ·exact NA g J G S h Q V
  split at h
  ·split at h
   ·exact Dn g J G S h Q V
   exact qJ g J G S h Q V
  exact qJ g J G S h Q V
 split at h
 ·split at h
  ·exact Dn g J G S h Q V
  exact qJ g J G S h Q V
 exact qJ g J G S h Q V
end
def Pm (T:Tab)(H:List (Nat×aI))(t:TypeId)(x J:AV)(K:AV→Prop):Prop:=
 match x with
 | .sub b ver X Q hi=>match lk H b with
   | some (.arr e v G S)=>match J with
     | .pv (.sc (.int _ i))=>match lk T t with
       | some ti=>match ti.d with
         | .slt e=>match lk T e with
           | some V=>match Nat.beq ver v,Nat.beq G V.size,Nat.beq X G with
             |true,true,true=>0≤i∧Q+i.toNat<hi∧K (.eY b ver (Q+i.toNat) 0)
             |_,_,_=>False
           |none=>False
         |_=>False
       |none=>False
     |_=>False
   |_=>False
 |x=>P7 T H t x J K
section
variable {P:Program}{T:Tab}{c:Ctx}{R:Real}{s:AS}{a:Act}{w:World}
theorem Ps (g:bN c R s a w)(hT:dB P T){H:List (Nat×aI)}(hH:∀b box,lk H b=some box→lk s.hp b=some box){t:TypeId}{x ix:AV}{K:AV→Prop}
  (h:Pm T H t x ix K) {u v:Value} (hx:au (bA c R s.hp) w s.hp R x u) (hv:au (bA c R s.hp) w s.hp R ix v) :
  ∃y z,(Instr.indexAt t u v).run P w=.ok y w∧K z∧au (bA c R s.hp) w s.hp R z y:=by
 unfold Pm at h;split at h
 ·rename_i b ver st lo hi;split at h;rotate_left;cases h
  rename_i e' vr al V hb;have G:=hH _ _ hb;split at h;rotate_left;cases h
  rename_i kk i;simp only[au,bL] at hv;subst hv;split at h;rotate_left;cases h
  rename_i ti YJ;obtain⟨d,hd,jb⟩:=(hT t ti YJ).jr;split at h;rotate_left;cases h
  rename_i e af;have aa:P.underlying t=some (.slice e):=by
   rw[af] at jb;cases d<;>simp[di] at jb
   subst jb;exact hd
  split at h;rotate_left;cases h
  rename_i ei rD;have jl:=hT e ei rD;split at h;rotate_left;cases h
  rename_i gu Q X;obtain⟨h0,ak,hK⟩:=h;have gu:=Nat.eq_of_beq_eq_true gu;have Q:=Nat.eq_of_beq_eq_true Q;have X:=Nat.eq_of_beq_eq_true X;simp only[au,G,aX] at hx;obtain⟨u0,⟨r1,r2,r3⟩,J,rfl⟩:=hx;have r3:=r3 gu;subst r3;cases S:R.nil b with
  | true=>
    simp only[dW,S,if_true,pz] at J;omega
  | false=>
    obtain⟨xs,⟨_,h2⟩,_⟩:=(g.boxes b _ G);have ag:V.length≤(R.cap b).1:=by
     rcases h2 with ⟨_,h2⟩|⟨g',ah,ai,o',e1,e3,e4,_⟩
     ·simp only[dW,S,Bool.false_eq_true,if_false,pz] at J;omega
     simp only[dW,S,Bool.false_eq_true,if_false,Value.slice.injEq] at e1;obtain⟨_,_,e1⟩:=e1;omega
    simp only[dW,S,Bool.false_eq_true,if_false,pz] at J;have ae:(R.cap b).1≠lo:=by omega
    simp only[dW,S,Bool.false_eq_true,if_false,iZ,if_neg ae];have ad:i<((hi-lo:Nat):Int):=by omega
    refine⟨.pointer (some ((Addr.add ⟨R.blk b,(R.cap b).2.2,none⟩ (lo*st)).add (i.toNat*ei.size))),_,?_,hK,?_⟩
    ·simp[Instr.indexAt,asIntOf,run_underlying aa,h0,ad,jl.run_sizeOf]
    simp only[au,G,bC,addr_add];refine⟨r1,rfl,fun _=>⟨S,?_⟩⟩;rw[←Q,X,Nat.add_mul,Nat.add_zero,Nat.add_assoc]
 exact QM g hT hH h hx hv
end
def xZ (T:Tab)(H:List (Nat×aI))(src G:TypeId)(x:AV)(K:AV→List (Nat×aI)→Prop):Prop:=
 match x with
 | .aO b ver=>match lk H b with
   | some (.arr e v S J)=>match lk T G with
     | some V=>match V.d with
       | .slt et=>match lk T et with
         | some X=>match X.d with
           | .Bc .u8=>match Nat.beq src G,Nat.beq ver v,J with
             |true,true,r::Q=>K (.pv (.sl false S (r::Q))) [(b,.d9 v S (r::Q))]
             |_,_,_=>False
           |_=>False
         |none=>False
       |_=>qY T H src G (.aO b ver) K
     |none=>False
   |_=>qY T H src G (.aO b ver) K
 |x=>qY T H src G x K
section
variable {P:Program}{T:Tab}{c:Ctx}{R:Real}{s:AS}{a:Act}{w:World}
theorem MW (w:World)(g n k:Nat)(G:k≠0){cur:Array Value}{e:TypeId}(h:w.heap[g]? = some (.cells cur e (0,0))) :
  (w.freeze ⟨g,n,none⟩ k).heap[g]? = some (.cells cur e (n,n+k))∧mV (fun r=>r=g) w (w.freeze ⟨g,n,none⟩ k):=by
 unfold World.freeze;rw[if_neg G];refine⟨?_,⟨by simp,fun r K J=>?_,rfl,rfl,rfl⟩⟩
 ·simp only[Array.getElem?_modify,if_true,h,Option.map_some];rfl
 simp only[Array.getElem?_modify];rw[if_neg (fun e=>J e.symm)]
theorem J6 (g:bN c R s a w)(hT:dB P T){H:List (Nat×aI)}(hH:∀b box,lk H b=some box→lk s.hp b=some box){src ag:TypeId}{x:AV}{K:AV→List (Nat×aI)→Prop}
  (h:xZ T H src ag x K) {u:Value} (hx:au (bA c R s.hp) w s.hp R x u) :
  ∃z w' R' q ws,(convert src ag u).run P w=.ok z w'∧K q ws∧bN c R' (s.app ws) a w'∧au (bA c R' (ws++s.hp)) w' (ws++s.hp) R' q z:=by
 unfold xZ at h;split at h
 ·rename_i b ver;split at h
  ·rename_i e v V ax hb;have S:=hH _ _ hb;split at h;rotate_left;cases h
   rename_i dt ar;split at h
   ·rename_i et aq;split at h;rotate_left;cases h
    rename_i ei rD;split at h;rotate_left;cases h
    rename_i aw;split at h;rotate_left;cases h
    rename_i r G af gu;have af:=Nat.eq_of_beq_eq_true af;have gu:=Nat.eq_of_beq_eq_true gu;subst af;obtain⟨d2,ao,e2⟩:=(hT _ _ ar).jr;obtain⟨d3,ap,e3⟩:=(hT _ _ rD).jr;have q2:P.underlying src=some (.slice et):=by rw[aq] at e2;cases d2<;>simp[di] at e2;subst e2;exact ao
    have q3:P.underlying et=some (.int .u8):=by rw[aw] at e3;cases d3<;>simp[di] at e3;subst e3;exact ap
    simp only[au,S,aX] at hx;obtain⟨_,_,hu⟩:=hx;have hu:=hu gu;obtain⟨xs,⟨a0,al⟩,ak⟩:=g.boxes b _ S;rcases al with ⟨_,h0⟩|⟨gb,az,Q,o',h1,h3,h4,h5,h6,h7⟩
    ·simp at h0
    have aa:R.nil b=false:=by
     cases hn:R.nil b with
     |false=>rfl
     |true=>simp[dW,hn] at h1
    have hs:dW R b (r::G).length=.slice (some ⟨R.blk b,(R.cap b).2.2,none⟩) (r::G).length (R.cap b).1:=by simp[dW,aa]
    rw[hs] at h1 hu;simp only[Value.slice.injEq,Option.some.injEq,Addr.mk.injEq,and_true,true_and] at h1;obtain⟨⟨h1,h9⟩,h8⟩:=h1;subst h1;subst h9;obtain⟨f1,f2⟩:=MW w (R.blk b) Q.size 1 (by decide) h3;have hR:∀b',b'≠b→R.blk b'=R.blk b'∧R.nil b'=R.nil b'∧R.cap b'=R.cap b':=fun _ _=>⟨rfl,rfl,rfl⟩
    have Zp:∀x,aQ R b x (lk s.hp b)↔x=R.blk b:=fun x=>by rw[S];simp only[aQ,aa,true_and];exact eq_comm
    have r1:∀off X,bf R b off X (lk s.hp b)→bf R b off X (some (.d9 v V (r::G))):=fun off X h=>by rw[S] at h;exact h
    have r2:∀gG X,aX R b gG X (lk s.hp b)→aX R b gG X (some (.d9 v V (r::G))):=fun off X h=>by rw[S] at h;exact h
    have r3:∀gG i off X,bC R b gG i off X (lk s.hp b)→bC R b gG i off X (some (.d9 v V (r::G))):=fun _ _ off X h=>by rw[S] at h;exact h
    have ah:∀x,¬aQ R b x (some (.d9 v V (r::G))):=fun x h=>h
    have J:mV (fun x=>aQ R b x (lk s.hp b)) w (w.freeze ⟨R.blk b,Q.size,none⟩ 1):=f2.mono fun x hx=>(Zp x).2 hx
    have ae:∀x,aQ R b x (some (.d9 v V (r::G)))→aQ R b x (lk s.hp b)∨w.heap.size≤x:=fun x h=>(ah x h).elim
    obtain⟨m1,m2,m3,m4,m5⟩:=g.G8 hR r1 r2 r3 ae J;have DL:lk ((b,aI.d9 v V (r::G))::s.hp) b=some (.d9 v V (r::G)):=by rw[aG,if_pos rfl]
    have ai:¬bA c R ((b,aI.d9 v V (r::G))::s.hp) (R.blk b):=by
     rintro (h|⟨b',h⟩)
     ·exact g.free _ ⟨b,(Zp _).2 rfl⟩ h
     by_cases e:b'=b
     ·subst e;rw[DL] at h;exact ah _ h
     rw[aG,if_neg (fun x=>e x.symm)] at h;exact e (g.inj b' b _ h ((Zp _).2 rfl))
    have am:bL (bA c R ((b,aI.d9 v V (r::G))::s.hp)) (w.freeze ⟨R.blk b,Q.size,none⟩ 1) (.sl false V (r::G)) (.slice (some ⟨R.blk b,(R.cap b).2.2,none⟩) (r::G).length (R.cap b).1):=by
     simp only[bL];refine⟨_,_,_,rfl,rfl,⟨by omega,by unfold maxLen at h5;omega⟩,fun e=>(by cases e),fun ad ha=>?_⟩;simp only[Option.some.injEq] at ha;subst ha;refine .inr ⟨rfl,ai,Q,e,_,f1,?_⟩;have hm:=bg m1 m2 V (r::G) xs ak;rw[←h7] at hm;have hm:=uV ((Q.toList.drop (R.cap b).2.2).drop ((r::G).length*V)) hm;rwa [List.take_append_drop] at hm
    refine⟨u,w.freeze ⟨R.blk b,Q.size,none⟩ 1,R,_,_,?_,h,g.upd hR r1 r2 r3 ae J (by simp only[fK];rw[hs];exact am),?_⟩
    ·rw[hu];simp only[convert,Sem.run_bind,run_underlying q2,run_underlying q3,Result.andThen_ok,markStringish,run_shape,World.shape?,h3,run_freeze,Sem.run_pure,beq_self_eq_true]
    rw[hu];simp only[au];exact am
   exact sV g hT hH h hx
  exact sV g hT hH h hx
 exact sV g hT hH h hx
end
def jV (tm:List (Nat×AV))(x:Operand):Option AV:=
 match x with
 |.tmp t=>lk tm t
 |.const v=>some (.pv (.sc v))
 |.func f=>some (.pv (.fn (.func f) [] []))
 |.global _=>none
def evs (tm:List (Nat×AV)):List Operand→Option (List AV)
 |[]=>some []
 | x::r=>match jV tm x with
   | some v=>match evs tm r with
     |some vs=>some (v::vs)
     |none=>none
   |none=>none
def Uy:List AV→List Nat
 |v::_=>refs v
 |[]=>[]
def Pj:List AV→List Nat
 |[]=>[]
 | v::r=>match v with
   |.eY b _ _ _=>b::Pj r
   |_=>Pj r
def J4 (op:Op)(vs:List AV):List Nat:=
 match op with
 |.load _ _=>fH vs
 |.store _ _ _=>Uy vs
 |.nilCheck _=>fH vs
 |.convert _ _ _=>fH vs
 |.makeFunc _ _ _=>fH vs
 |.slice _ _ _ _ _=>fH vs
 |.fieldAddr _ _ _=>fH vs
 |.indexAddr _ _ _=>fH vs
 |.buildSlice _ _ _=>fH vs
 |.call _=>fH vs
 |.unOp _ _ _=>fH vs
 |.binOp _ _ _ _ _=>Pj vs
 |.lookup _ _ _ _=>fH vs
 |.mapUpdate _ _ _ _=>fH vs
 |_=>[]
def Uz (H:List (Nat×aI))(op:UnOp)(x:AV)(K:AV→Prop):Prop:=
 match x with
 | .eY b ver i off=>match op with
   | .not=>match lk H b with
     | some (.tr _ v _ G)=>match G with
       | none=>match Nat.beq ver v with
         | true=>match off with
           |0=>K (.eY b ver i 1)
           |1=>K (.eY b ver i 0)
           |_=>False
         |false=>False
       |some _=>False
     |_=>False
   |_=>False
 |x=>cUn op x K
theorem Pk {P:Program}{w:World}{R:Real}{N:Nat→Prop}{hp:List (Nat×aI)}{H:List (Nat×aI)}(X:∀b box,lk H b=some box→lk hp b=some box){op:UnOp}{x:AV}{K:AV→Prop}(h:Uz H op x K){u:Value}(S:au N w hp R x u) :
  ∃y v,(Op.unary op u).run P w=.ok y w∧K v∧au N w hp R v y:=by
 unfold Uz at h;split at h
 ·rename_i b ver i off;split at h;rotate_left;cases h
  split at h;rotate_left;cases h
  rename_i y v rest st hb;split at h;rotate_left;cases h
  split at h;rotate_left;cases h
  rename_i hv;have G:=X _ _ hb;simp only[au,G,bC] at S;obtain⟨V,h2,J⟩:=S;have J:=J (Nat.eq_of_beq_eq_true hv) (by trivial);subst J;split at h
  ·refine⟨.bool (!(R.nil b != Nat.beq 0 1)),_,by simp[Op.unary],h,?_⟩;simp only[au,G,bC];exact⟨V,rfl,fun _ _=>by cases R.nil b<;>rfl⟩
  ·refine⟨.bool (!(R.nil b != Nat.beq 1 1)),_,by simp[Op.unary],h,?_⟩;simp only[au,G,bC];exact⟨V,rfl,fun _ _=>by cases R.nil b<;>rfl⟩
  exact h.elim
 exact UA h S
def Sz (H:List (Nat×aI))(v:AV):Bool:=
 match v with
 |.ptr _ _=>true
 |.pv (.dU _ _)=>true
 |.pv (.fn (.func _) _ _)=>true
 | .eY b ver _ _=>match SA (lk H b) with
   |some k=>Nat.beq ver k
   |none=>false
 |_=>false
def akL:AV→Bool
 |.eY _ _ _ _=>true
 |_=>false
def EM (T:Tab)(H:List (Nat×aI))(op:BinOp)(t:TypeId)(x y:AV)(K:AV→Prop):Prop:=
 match akL x with
 | true=>match y with
   | .pv (.sc (.pointer none))=>match Sz H x with
     | true=>match lk T t with
       | some i=>match i.d with
         |.He _=>SB op false K
         |_=>False
       |none=>False
     |false=>False
   |_=>False
 |false=>Hf T op t x y K
def cop (P:Program)(T:Tab)(op:Op)(vs:List AV)(H:List (Nat×aI))(id:Nat)(K:AV→List (Nat×aI)→Prop):Prop:=
 match op with
 | .move _=>match vs with
   |[v]=>K v []
   |_=>False
 | .assign _=>match vs with
   |[v]=>K v []
   |_=>False
 | .pick _ _ _=>match vs with
   | [.pv (.sc (.bool c)),x,y]=>match c with
     |true=>K x []
     |false=>K y []
   |_=>False
 |.alloc t=>Bb T t id K
 | .box t _=>match vs with
   |[x]=>Ux T t x id K
   |_=>False
 |.build t J=>Ba T t (J.toList.map (·.1)) vs fun v=>K v []
 |.buildSlice t n J=>qB T H t n (J.toList.map (·.1)) vs id K
 | .load t _=>match vs with
   |[x]=>xY T H t x fun v=>K v []
   |_=>False
 | .store t _ _=>match vs with
   |[x,y]=>sW T H t x y K
   |_=>False
 | .nilCheck _=>match vs with
   | [x]=>match Sz H x with
     |true=>K x []
     |false=>False
   |_=>False
 | .binOp op t _ _ _=>match vs with
   |[x,y]=>EM T H op t x y fun v=>K v []
   |_=>False
 | .unOp op _ _=>match vs with
   |[x]=>Uz H op x fun v=>K v []
   |_=>False
 | .convert src G _=>match vs with
   |[x]=>xZ T H src G x K
   |_=>False
 |.makeFunc f first _=>Ic H f first.size vs K
 |.makeSlice t _ _=>uY T t vs id K
 |.slice t _ l h m=>qC T H t l h m vs K
 | .fieldAddr t _ f=>match vs with
   |[x]=>mX T H t x f fun v=>K v []
   |_=>False
 | .field t _ f=>match vs with
   |[x]=>LH T t x f fun v=>K v []
   |_=>False
 | .indexAddr t _ _=>match vs with
   |[x,y]=>Pm T H t x y fun v=>K v []
   |_=>False
 | .index t _ _=>match vs with
   |[x,y]=>pI T t x y fun v=>K v []
   |_=>False
 | .extract _ i=>match vs with
   |[x]=>rF x i fun v=>K v []
   |_=>False
 | .call c=>match c.callee with
   |.value _=>Ih P H vs K
   | .builtin b=>match b with
     | .append=>match c.argTypes.toList with
       | [t,S]=>match Nat.beq t S with
         |true=>zC T H t vs id K
         |false=>False
       |_=>False
     | .len=>match c.argTypes.toList with
       | [t]=>match vs with
         |[x]=>EN T H t x fun v=>K v []
         |_=>False
       |_=>False
     | .clear=>match c.argTypes.toList with
       | [t]=>match vs with
         |[x]=>Bd T H t x K
         |_=>False
       |_=>False
     |.max=>cMM true vs fun v=>K v []
     |.min=>cMM false vs fun v=>K v []
     |_=>False
   |.invoke _ _=>False
 |_=>False
def zD (P:Program)(T:Tab)(op:Op)(vs:List AV)(hp:List (Nat×aI))(id:Nat)(K:AV→List (Nat×aI)→List Nat→Prop):Prop:=
 match J4 op vs with
 | ids=>match kK hp ids with
   |some H=>cop P T op vs H id fun v ws=>K v ws ids
   |none=>False
def mY (op:Op):Bool:=
 match op with
 | .call c=>match c.callee with
   |.value _=>true
   |_=>false
 |_=>false
def lC (P:Program)(T:Tab)(op:Op)(vs:List AV)(hp:List (Nat×aI))(id:Nat)(K:AV→List (Nat×aI)→List Nat→Prop):Prop:=
 match SC hp vs with
 |true=>dC P hp vs K
 |false=>zD P T op vs hp id K
def gen (T:Tab):Bool:=
 match T with
 | (a,_)::(b,_)::(c,_)::_=>match Nat.beq a b with
   |true=>Nat.beq b c
   |false=>false
 |_=>false
def mk3 (T:Tab):Tab:=
 match T with
 |x::r=>x::x::x::r
 |[]=>[]
theorem afN (T:Tab)(t:Nat):lk (mk3 T) t=lk T t:=by
 cases T with
 |nil=>rfl
 | cons x r=>
   obtain⟨k,v⟩:=x;simp only[mk3,aG];split<;>rfl
theorem dB.mk3 {P:Program}{T:Tab}(h:dB P T):dB P (mk3 T):=fun t i hi=>h t i (by rw[←afN T t];exact hi)
def XF (P:Program)(T:Tab)(o:Oper)(tm:List (Nat×AV))(hp:List (Nat×aI))(id:Nat)(K:AV→List (Nat×aI)→List Nat→Prop):Prop:=
 match evs tm (kX o.op) with
 | some vs=>match mY o.op with
   | true=>match isY vs with
     |true=>yC P hp vs K
     | false=>(lC P T o.op vs hp id K∨gC P hp id vs K)∨match gen T with
       |true=>gI P hp id vs K
       |false=>gV P hp id vs K
   |false=>zD P T o.op vs hp id K
 |none=>False
theorem Cr {hp:List (Nat×aI)}:∀{K:List Nat} {H:List (Nat×aI)},kK hp K=some H→∀b box,lk H b=some box→lk hp b=some box
 |[],H,h=>by simp only[kK,Option.some.injEq] at h;subst h;intro b box G;simp[lk] at G
 | i::r,H,h=>by
   simp only[kK] at h;split at h
   ·rename_i V J;split at h
    ·rename_i t S;simp only[Option.some.injEq] at h;subst h;intro b box G;rw[aG] at G;split at G
     ·rename_i e;simp only[Option.some.injEq] at G;rw[←e,←G];exact J
     exact Cr S b box G
    cases h
   cases h
section
variable {P:Program}{T:Tab}{c:Ctx}{R:Real}{s:AS}{a:Act}{w:World}
theorem wI (g:bN c R s a w){x:Operand}{v:AV}(h:jV s.tm x=some v):au (bA c R s.hp) w s.hp R v (a.eval x):=by
 unfold jV at h;split at h
 ·rename_i t;obtain⟨y,G,J⟩:=g.slots t v h;have:a.eval (.tmp t)=y:=by simp[Act.eval,G]
  rw[this];exact J
 ·simp only[Option.some.injEq] at h;subst h;simp only[au,bL,Act.eval]
 ·simp only[Option.some.injEq] at h;subst h;simp only[au,bL,Act.eval];exact⟨#[],#[],rfl,rfl,rfl⟩
 cases h
theorem lQ (g:bN c R s a w):∀{xs:List Operand} {vs:List AV},evs s.tm xs=some vs→FL (au (bA c R s.hp) w s.hp R) vs (xs.map a.eval)
 |[],vs,h=>by simp only[evs,Option.some.injEq] at h;subst h;rfl
 | x::xs,vs,h=>by
   simp only[evs] at h;split at h
   ·rename_i v J;split at h
    ·rename_i K G;simp only[Option.some.injEq] at h;subst h;exact⟨_,_,rfl,wI g J,lQ g G⟩
    cases h
   cases h
def Nx (c:Ctx)(s:AS)(o:Oper)(K:AV→List (Nat×aI)→Prop)(a:Act)(w:World):Prop:=
 ∃R v ws,K v ws∧bN c R ((s.app ws).put o.dst v) a w
theorem kY {o:Oper}{K:AV→List (Nat×aI)→Prop}{Q:Exit→Act→World→Prop}(S:∀t,o.dst=some t→t<c.n){y:Value}{w':World}{R':Real}{v:AV}{ws:List (Nat×aI)}
  (G:(execOp a.eval o).run P w=.ok (.value y) w') (J:K v ws) (g:bN c R' (s.app ws) a w') (V:au (bA c R' (ws++s.hp)) w' (ws++s.hp) R' v y) :
  o.wp P a w (Nx c s o K) Q:=by
 unfold Oper.wp;rw[G,Oper.upon_value];exact⟨R',v,ws,J,g.put o.dst S V⟩
theorem kQ {o:Oper}{m:Sem Value}(G:execOp a.eval o=(do pure (.value (←m)))){y:Value}{w':World}(h:m.run P w=.ok y w'):(execOp a.eval o).run P w=.ok (.value y) w':=by
 rw[G];simp[h]
theorem xH (ps:Array (Nat×Operand))(f:Operand→Value):(ps.map fun (i,x)=>(i,f x))=((ps.toList.map (·.1)).zip ((ps.toList.map (·.2)).map f)).toArray:=by
 have:∀l:List (Nat×Operand),(l.map fun (x:Nat×Operand)=>(x.1,f x.2))=(l.map (·.1)).zip ((l.map (·.2)).map f):=by
  intro l;induction l with
  |nil=>rfl
  |cons x l ih=>simp[ih]
 rw[←this];apply Array.ext';simp
def jX (P:Program)(T:Tab)(c:Ctx)(R:Real)(s:AS)(a:Act)(w:World)(id:Nat)(Q:Exit→Act→World→Prop)(op:Op):Prop:=
 ∀(o:Oper),o.op=op→(∀t,o.dst=some t→t<c.n)→∀(vs:List AV) (H:List (Nat×aI)) (K:AV→List (Nat×aI)→Prop),
  (∀b box,lk H b=some box→lk s.hp b=some box)→FL (au (bA c R s.hp) w s.hp R) vs ((kX op).map a.eval)→cop P T op vs H id K→o.wp P a w (Nx c s o K) Q
section
variable (g:bN c R s a w)(hT:dB P T){id:Nat}(hf:lk s.hp id=none)(Q:Exit→Act→World→Prop)
include g hT hf
theorem pure_ok {o:Oper}(S:∀t,o.dst=some t→t<c.n){y:Value}{v:AV}{K:AV→List (Nat×aI)→Prop}(J:K v [])(V:au (bA c R s.hp) w s.hp R v y)
  (G:(execOp a.eval o).run P w=.ok (.value y) w):o.wp P a w (Nx c s o K) Q:=kY (ws:=[]) S G J g V
theorem acN (x:Operand):jX P T c R s a w id Q (.move x):=by
 intro o J G vs H K V S h;unfold cop at h;simp only at h;split at h
 ·exact pure_ok g hT hf Q G h (Xt S) (by simp[execOp,J])
 exact h.elim
theorem UB (x:Operand):jX P T c R s a w id Q (.assign x):=by
 intro o J G vs H K V S h;unfold cop at h;simp only at h;split at h
 ·exact pure_ok g hT hf Q G h (Xt S) (by simp[execOp,J])
 exact h.elim
theorem acO (x y z:Operand):jX P T c R s a w id Q (.pick x y z):=by
 intro o S J vs H K hH hv h;unfold cop at h;simp only at h;split at h;rotate_left;cases h
 obtain⟨G,V,X⟩:=FL3 hv;simp only[au,bL] at G;split at h
 ·exact pure_ok g hT hf Q J h V (by simp[execOp,S,G,asBool])
 exact pure_ok g hT hf Q J h X (by simp[execOp,S,G,asBool])
theorem XG (t:TypeId):jX P T c R s a w id Q (.alloc t):=by
 intro o ho X vs H K hH hv h;unfold cop at h;simp only at h;obtain⟨z,w',R',q,ws,G,J,S,V⟩:=J3 g hT hf h;exact kY X (kQ (m:=Instr.alloc t true (.tuple #[])) (by unfold execOp;rw[ho]) G) J S V
theorem afO (t:TypeId)(x:Operand):jX P T c R s a w id Q (.box t x):=by
 intro o ho X vs H K hH hv h;unfold cop at h;simp only at h;split at h
 ·obtain⟨z,w',R',q,ws,G,J,S,V⟩:=Ph g hT hf h (Xt hv);exact kY X (kQ (m:=Instr.box t (a.eval x)) (by unfold execOp;rw[ho]) G) J S V
 exact h.elim
theorem XH (t:TypeId)(ps:Array (Nat×Operand)):jX P T c R s a w id Q (.build t ps):=by
 intro o X V vs H K hH hv h;unfold cop at h;simp only at h;obtain⟨y,z,G,J,S⟩:=J2 hT h hv;simp only[kX] at G;exact pure_ok g hT hf Q V J S (kQ (m:=Instr.build t (ps.map fun (i,x)=>(i,a.eval x))) (by unfold execOp;rw[X]) (by rw[xH];exact G))
theorem Hg (t:TypeId)(n:Nat)(ps:Array (Nat×Operand)):jX P T c R s a w id Q (.buildSlice t n ps):=by
 intro o ho hd vs H K X hv h;unfold cop at h;simp only at h;obtain⟨z,w',R',q,ws,G,J,S,V⟩:=Ho g hT X hf h hv;simp only[kX] at G;exact kY hd (kQ (m:=Instr.buildSlice t n (ps.map fun (i,x)=>(i,a.eval x))) (by unfold execOp;rw[ho]) (by rw[xH];exact G)) J S V
theorem acP (t:TypeId)(x:Operand):jX P T c R s a w id Q (.load t x):=by
 intro o ho X vs H K V hv h;unfold cop at h;simp only at h;split at h
 ·obtain⟨y,v,G,J,S⟩:=J5 g hT V h (Xt hv);exact pure_ok g hT hf Q X J S (kQ (m:=Instr.loadAt t (a.eval x)) (by unfold execOp;rw[ho]) G)
 exact h.elim
theorem XI (t:TypeId)(x y:Operand):jX P T c R s a w id Q (.store t x y):=by
 intro o ho X vs H K V hv h;unfold cop at h;simp only at h;split at h;rotate_left;cases h
 obtain⟨hx,hy⟩:=FL2 hv;obtain⟨w',ws,G,J,S⟩:=Hq g hT V h hx hy;unfold Oper.wp;have:(execOp a.eval o).run P w=.ok .skip w':=by unfold execOp;rw[ho];simp[G]
 rw[this,Oper.upon_skip];exact⟨R,_,ws,J,S.put o.dst X (by simp only[au,bL])⟩
theorem LJ (x:Operand):jX P T c R s a w id Q (.nilCheck x):=by
 intro o ho hd vs H K hH hv h;unfold cop at h;simp only at h;split at h;rotate_left;cases h
 rename_i v;have J:=Xt hv;split at h;rotate_left;cases h
 rename_i S;have key:(∃X,a.eval x=.pointer (some X))∨(∃f p q,a.eval x=.func (.func f) p q):=by
  unfold Sz at S;split at S
  ·exact .inl (zF (by rfl) J)
  ·exact .inl (zF (by rfl) J)
  ·simp only[au,bL] at J;obtain⟨fs,cs,h1,_⟩:=J;exact .inr ⟨_,_,_,h1⟩
  ·rename_i b ver k off;split at S
   ·rename_i k' G;simp only[au] at J;cases V:lk H b with
    |none=>rw[V] at G;cases G
    | some box=>
      rw[V,←hH _ _ V] at G;obtain⟨st,_,hu,_⟩:=EO J G (Nat.eq_of_beq_eq_true S);exact .inl ⟨_,hu⟩
   cases S
  cases S
 rcases key with ⟨X,G⟩|⟨f,p,q,G⟩
 ·exact pure_ok g hT hf Q hd h J (by simp[execOp,ho,G])
 exact pure_ok g hT hf Q hd h J (by simp[execOp,ho,G])
theorem LK {H:List (Nat×aI)}(hH:∀b box,lk H b=some box→lk s.hp b=some box){t:TypeId}{op:BinOp}{x y:AV}{K:AV→Prop}(h:EM T H op t x y K){u v:Value}
  (hx:au (bA c R s.hp) w s.hp R x u) (hy:au (bA c R s.hp) w s.hp R y v) (xo yo:Operand) :
  ∃r,(do eqGuard op t xo yo u v;binOp op t u v:Sem Value).run P w=.ok r w∧∃p,K (.pv p)∧bL (bA c R s.hp) w p r:=by
 unfold EM at h;split at h
 ·rename_i hap;split at h;rotate_left;cases h
  split at h;rotate_left;cases h
  rename_i J;split at h;rotate_left;cases h
  rename_i i hi;obtain⟨d,hd,jb⟩:=(hT t i hi).jr;split at h;rotate_left;cases h
  rename_i el e;have aa:P.underlying t=some (.pointer el):=by
   rw[e] at jb;cases d<;>simp[di] at jb
   subst jb;exact hd
  have key:∃S,u=.pointer (some S):=by
   cases x with
   | eY b ver k off=>
     simp only[Sz] at J;split at J
     ·rename_i k' G;simp only[au] at hx;cases X:lk H b with
      |none=>rw[X] at G;cases G
      | some box=>
        rw[X,←hH _ _ X] at G;obtain⟨st,_,hu,_⟩:=EO hx G (Nat.eq_of_beq_eq_true J);exact⟨_,hu⟩
     cases J
   |_=>cases hap
  obtain⟨S,rfl⟩:=key;simp only[au,bL] at hy;subst hy;exact fin h (ae0 9999 S aa) ⟨fun e=>by subst e;rfl,fun e=>by subst e;rfl⟩ ⟨fun _ _ V _=>(by cases V),fun V _=>(by cases V)⟩
 exact Po hT h hx hy xo yo
theorem XJ (op:BinOp)(t:TypeId)(x y:Operand)(yt:TypeId):jX P T c R s a w id Q (.binOp op t x y yt):=by
 intro o ho X vs H K V hv h;unfold cop at h;simp only at h;split at h
 ·obtain⟨hx,hy⟩:=FL2 hv;obtain⟨r,G,p,J,S⟩:=LK (xo:=x) (yo:=y) g hT hf V h hx hy;exact pure_ok g hT hf Q X J (by simpa only[au] using S) (kQ (m:=(do eqGuard op t x y (a.eval x) (a.eval y);binOp op t (a.eval x) (a.eval y))) (by unfold execOp;rw[ho]) G)
 exact h.elim
theorem acR (op:UnOp)(t:TypeId)(x:Operand):jX P T c R s a w id Q (.unOp op t x):=by
 intro o ho X vs H K V hv h;unfold cop at h;simp only at h;split at h
 ·obtain⟨y,v,G,J,S⟩:=Pk (P:=P) (w:=w) V h (Xt hv);exact pure_ok g hT hf Q X J S (kQ (m:=Op.unary op (a.eval x)) (by unfold execOp;rw[ho]) G)
 exact h.elim
theorem Pp (src G:TypeId)(x:Operand):jX P T c R s a w id Q (.convert src G x):=by
 intro o ho hd vs H K hH hv h;unfold cop at h;simp only at h;split at h
 ·obtain⟨z,w',R',q,ws,J,S,V,X⟩:=J6 g hT hH h (Xt hv);exact kY hd (kQ (m:=convert src G (a.eval x)) (by unfold execOp;rw[ho]) J) S V X
 exact h.elim
theorem LM (f:Fn)(first G:Array Operand):jX P T c R s a w id Q (.makeFunc f first G):=by
 intro o ho hd vs H K hH J h;unfold cop at h;simp only at h;simp only[kX,List.map_append,←Array.toList_map] at J;rw[show first.size=(first.map a.eval).size from by simp] at h;obtain⟨z,ws,S,V,X,h4⟩:=Lx (P:=P) g hH h J;exact kY hd (kQ (m:=Instr.makeFunc f (first.map a.eval) (G.map a.eval)) (by unfold execOp;rw[ho]) S) V X h4
theorem J7 (t:TypeId)(l n:Operand):jX P T c R s a w id Q (.makeSlice t l n):=by
 intro o ho hd vs H K hH G h;unfold cop at h;simp only at h;simp only[kX] at G;obtain⟨x,y,rfl⟩:∃x y,vs=[x,y]:=by
  have:=G.length;match vs with
  |[x,y]=>exact⟨x,y,rfl⟩
  |[]=>simp at this
  |[_]=>simp at this
  |_::_::_::_=>simp at this
 obtain⟨hx,hy⟩:=FL2 G;obtain⟨z,w',R',q,ws,J,S,V,X⟩:=LC g hT hf h hx hy;exact kY hd (kQ (m:=Instr.makeSlice t (a.eval l) (a.eval n)) (by unfold execOp;rw[ho]) J) S V X
theorem ok_slice (t:TypeId)(x:Operand)(l hi m:Option Operand):jX P T c R s a w id Q (.slice t x l hi m):=by
 intro o ho hd vs H K hH G h;unfold cop at h;simp only at h;simp only[kX] at G;obtain⟨y,z,ws,R',J,S,V,X⟩:=Hr g hT hH h G;exact kY hd (kQ (m:=Instr.sliceAt t (a.eval x) (l.map a.eval) (hi.map a.eval) (m.map a.eval)) (by unfold execOp;rw[ho]) J) S V X
theorem J9 (t:TypeId)(x:Operand)(f:Nat):jX P T c R s a w id Q (.fieldAddr t x f):=by
 intro o ho X vs H K V hv h;unfold cop at h;simp only at h;split at h
 ·obtain⟨y,v,G,J,S⟩:=Be (w:=w) hT V h (Xt hv);exact pure_ok g hT hf Q X J S (kQ (m:=Instr.fieldAt t (a.eval x) f) (by unfold execOp;rw[ho]) G)
 exact h.elim
theorem XK (t:TypeId)(x:Operand)(f:Nat):jX P T c R s a w id Q (.field t x f):=by
 intro o X V vs H K hH hv h;unfold cop at h;simp only at h;split at h
 ·obtain⟨y,v,G,J,S⟩:=Pq hT h (Xt hv);exact pure_ok g hT hf Q V J S (kQ (m:=Instr.field t (a.eval x) f) (by unfold execOp;rw[X]) G)
 exact h.elim
theorem Ka (t:TypeId)(x i:Operand):jX P T c R s a w id Q (.indexAddr t x i):=by
 intro o ho X vs H K V hv h;unfold cop at h;simp only at h;split at h
 ·obtain⟨hx,hy⟩:=FL2 hv;obtain⟨y,v,G,J,S⟩:=Ps g hT V h hx hy;exact pure_ok g hT hf Q X J S (kQ (m:=Instr.indexAt t (a.eval x) (a.eval i)) (by unfold execOp;rw[ho]) G)
 exact h.elim
theorem XL (t:TypeId)(x i:Operand):jX P T c R s a w id Q (.index t x i):=by
 intro o X V vs H K hH hv h;unfold cop at h;simp only at h;split at h
 ·obtain⟨hx,hy⟩:=FL2 hv;obtain⟨y,v,G,J,S⟩:=Kb hT h hx hy;exact pure_ok g hT hf Q V J S (kQ (m:=Instr.index t (a.eval x) (a.eval i)) (by unfold execOp;rw[X]) G)
 exact h.elim
theorem Pt (x:Operand)(i:Nat):jX P T c R s a w id Q (.extract x i):=by
 intro o X V vs H K hH hv h;unfold cop at h;simp only at h;split at h
 ·obtain⟨y,v,G,J,S⟩:=EP (P:=P) h (Xt hv);exact pure_ok g hT hf Q V J S (kQ (m:=Instr.extract (a.eval x) i) (by unfold execOp;rw[X]) G)
 exact h.elim
theorem acS (V:Call):jX P T c R s a w id Q (.call V):=by
 intro o ho hd vs H K hH hv h;unfold cop at h;simp only at h;have hex:execOp a.eval o=(do let d ←resolve a.eval V o.type;invoke d.target d.args):=by unfold execOp;rw[ho]
 split at h
 ·-- of a function
  rename_i f u6;simp only[kX,u6,List.map_cons] at hv;cases vs with
  |nil=>exact h.elim
  | cons fv args=>
    obtain⟨u,us,e1,UC,J⟩:=hv;simp only[List.cons.injEq] at e1;obtain⟨e1,rfl⟩:=e1;obtain⟨ah,first,bD,rfl,⟨fn,ai,ae,af⟩,x9⟩:=LG g hH h UC J;have X:(execOp a.eval o).run P w=.ok (.enter ah (first++(V.args.toList.map a.eval).toArray++bD)) w:=by
     rw[hex];have hb:fn.body.isNone=false:=by cases wJ:fn.body<;>simp[wJ] at ae ⊢
     have e3:(V.args.toList.map a.eval).toArray=V.args.map a.eval:=by rw[←Array.toList_map,Array.toArray_toList]
     simp only[resolve,u6,e1,Deferred.ofValue,Sem.run_bind,Sem.run_pure,Result.andThen_ok,invoke,callFunc,run_program,ai,af,hb,e3];simp
    unfold Oper.wp;rw[X,Oper.upon_enter];refine x9.mono ?_;rintro e w' ⟨v,z,ws,rfl,hK,g2,hr⟩
    exact⟨R,z,ws,hK,g2.put o.dst hd hr⟩
 ·rename_i b u6;simp only[kX,u6] at hv;have X:∀{y:Value} {w':World},(builtin b V.argTypes o.type (V.args.map fun|.const _=>true|_=>false) (V.args.map a.eval)).run P w=.ok (.value y) w'→(execOp a.eval o).run P w=.ok (.value y) w':=by
   intro y w' hy;rw[hex];simp only[resolve,u6,Sem.run_bind,Sem.run_pure,Result.andThen_ok,invoke];exact hy
  have J:∀l:List Operand,V.args.toList=l→V.args.map a.eval=(l.map a.eval).toArray:=by
   intro l G;rw[←G,←Array.toList_map,Array.toArray_toList]
  split at h
  ·-- append
   split at h;rotate_left;cases h
   rename_i t t' ad;split at h;rotate_left;cases h
   rename_i ag;have ag:=Nat.eq_of_beq_eq_true ag;subst ag;have aa:V.argTypes = #[t,t]:=by rw[←Array.toArray_toList (xs:=V.argTypes),ad]
   obtain⟨d,x,rfl⟩:∃x y,vs=[x,y]:=by
    unfold zC at h;split at h
    ·exact⟨_,_,rfl⟩
    unfold uG at h;split at h
    ·exact⟨_,_,rfl⟩
    unfold uM at h;split at h
    ·exact⟨_,_,rfl⟩
    exact h.elim
   have G:=hv.length;obtain⟨x1,x2,S⟩:∃x1 x2,V.args.toList=[x1,x2]:=by
    simp only[List.length_map] at G;match hm:V.args.toList with
    |[x,y]=>exact⟨x,y,rfl⟩
    |[]=>rw[hm] at G;simp at G
    |[_]=>rw[hm] at G;simp at G
    |_::_::_::_=>rw[hm] at G;simp at G
   rw[S] at hv;obtain⟨hx,hy⟩:=FL2 hv;obtain⟨z,w',R',q,ws,h1,h2,h3,h4⟩:=LP (ty:=o.type) g hT hH hf h hx hy;refine kY hd (X ?_) h2 h3 h4;rw[J _ S,aa];simp only[builtin,List.map_cons,List.map_nil,Sem.run_bind,h1,Result.andThen_ok,Sem.run_pure]
  ·-- len
   split at h;rotate_left;cases h
   rename_i t ad;have aa:V.argTypes = #[t]:=by rw[←Array.toArray_toList (xs:=V.argTypes),ad]
   split at h;rotate_left;cases h
   rename_i x;have G:=hv.length;obtain⟨x1,S⟩:∃x1,V.args.toList=[x1]:=by
    simp only[List.length_map] at G;match hm:V.args.toList with
    |[x]=>exact⟨x,rfl⟩
    |[]=>rw[hm] at G;simp at G
    |_::_::_=>rw[hm] at G;simp at G
   rw[S] at hv;obtain⟨y,v,h1,h2,h3⟩:=LQ (ty:=o.type) g hT hH h (Xt hv);refine pure_ok g hT hf Q hd h2 h3 (X ?_);rw[J _ S,aa];simp only[builtin,List.map_cons,List.map_nil,Sem.run_bind,h1,Result.andThen_ok,Sem.run_pure]
  ·-- clear
   split at h;rotate_left;cases h
   rename_i t ad;have aa:V.argTypes = #[t]:=by rw[←Array.toArray_toList (xs:=V.argTypes),ad]
   split at h;rotate_left;cases h
   rename_i x;have G:=hv.length;obtain⟨x1,S⟩:∃x1,V.args.toList=[x1]:=by
    simp only[List.length_map] at G;match hm:V.args.toList with
    |[x]=>exact⟨x,rfl⟩
    |[]=>rw[hm] at G;simp at G
    |_::_::_=>rw[hm] at G;simp at G
   rw[S] at hv;obtain⟨z,w',q,ws,h1,h2,h3,h4⟩:=Kc (ty:=o.type) g hT hH h (Xt hv);refine kY hd (X ?_) h2 h3 h4;rw[J _ S,aa];simp only[builtin,List.map_cons,List.map_nil,Sem.run_bind,h1,Result.andThen_ok,Sem.run_pure]
  ·-- max
   obtain⟨d,x,rfl⟩:∃x y,vs=[x,y]:=by
    unfold cMM at h;split at h
    ·exact⟨_,_,rfl⟩
    exact h.elim
   have G:=hv.length;obtain⟨x1,x2,S⟩:∃x1 x2,V.args.toList=[x1,x2]:=by
    simp only[List.length_map] at G;match hm:V.args.toList with
    |[x,y]=>exact⟨x,y,rfl⟩
    |[]=>rw[hm] at G;simp at G
    |[_]=>rw[hm] at G;simp at G
    |_::_::_::_=>rw[hm] at G;simp at G
   rw[S] at hv;obtain⟨hx,hy⟩:=FL2 hv;obtain⟨z,q,h1,h2,h3⟩:=Ii (P:=P) h hx hy V.argTypes o.type;refine pure_ok g hT hf Q hd h2 h3 (X ?_);rw[J _ S];simp only[if_true] at h1;simp only[builtin,List.map_cons,List.map_nil,Sem.run_bind,h1,Result.andThen_ok,Sem.run_pure]
  ·obtain⟨d,x,rfl⟩:∃x y,vs=[x,y]:=by
    unfold cMM at h;split at h
    ·exact⟨_,_,rfl⟩
    exact h.elim
   have G:=hv.length;obtain⟨x1,x2,S⟩:∃x1 x2,V.args.toList=[x1,x2]:=by
    simp only[List.length_map] at G;match hm:V.args.toList with
    |[x,y]=>exact⟨x,y,rfl⟩
    |[]=>rw[hm] at G;simp at G
    |[_]=>rw[hm] at G;simp at G
    |_::_::_::_=>rw[hm] at G;simp at G
   rw[S] at hv;obtain⟨hx,hy⟩:=FL2 hv;obtain⟨z,q,h1,h2,h3⟩:=Ii (P:=P) h hx hy V.argTypes o.type;refine pure_ok g hT hf Q hd h2 h3 (X ?_);rw[J _ S];simp only[Bool.false_eq_true,if_false] at h1;simp only[builtin,List.map_cons,List.map_nil,Sem.run_bind,h1,Result.andThen_ok,Sem.run_pure]
  exact h.elim
 exact h.elim
theorem afQ (op:Op):jX P T c R s a w id Q op:=by
 cases op with
 |move x=>exact acN g hT hf Q x
 |assign x=>exact UB g hT hf Q x
 |pick x y z=>exact acO g hT hf Q x y z
 |alloc t=>exact XG g hT hf Q t
 |box t x=>exact afO g hT hf Q t x
 |build t J=>exact XH g hT hf Q t J
 |buildSlice t n J=>exact Hg g hT hf Q t n J
 |load t x=>exact acP g hT hf Q t x
 |store t x y=>exact XI g hT hf Q t x y
 |nilCheck x=>exact LJ g hT hf Q x
 |binOp op t x y V=>exact XJ g hT hf Q op t x y V
 |unOp op t x=>exact acR g hT hf Q op t x
 |convert src G x=>exact Pp g hT hf Q src G x
 |makeFunc f first bD=>exact LM g hT hf Q f first bD
 |makeSlice t l n=>exact J7 g hT hf Q t l n
 |slice t x l h m=>exact ok_slice g hT hf Q t x l h m
 |fieldAddr t x f=>exact J9 g hT hf Q t x f
 |field t x f=>exact XK g hT hf Q t x f
 |indexAddr t x i=>exact Ka g hT hf Q t x i
 |index t x i=>exact XL g hT hf Q t x i
 |extract x i=>exact Pt g hT hf Q x i
 |makeMap=>exact fun _ _ _ _ _ _ _ _ h=>h.elim
 |lookup=>exact fun _ _ _ _ _ _ _ _ h=>h.elim
 |mapUpdate=>exact fun _ _ _ _ _ _ _ _ h=>h.elim
 |call S=>exact acS g hT hf Q S
 |_=>intro o ho hd vs H K X hv h;exact h.elim
theorem ae1 {o:Oper}(hd:∀t,o.dst=some t→t<c.n)(hc:mY o.op=true){vs:List AV}{K:AV→List (Nat×aI)→List Nat→Prop}(hv:FL (au (bA c R s.hp) w s.hp R) vs ((kX o.op).map a.eval))
  (h:gC P s.hp id vs K):o.wp P a w (Nx c s o fun v ws=>∃V,K v ws V) Q:=by
 cases ho:o.op<;>rw[ho] at hc<;>simp only[mY] at hc<;>try (cases hc;done)
 rename_i cc;split at hc
 ·rename_i f u6;rw[ho] at hv;simp only[kX,u6,List.map_cons] at hv;cases vs with
  |nil=>exact h.elim
  | cons fv args=>
    obtain⟨u,us,e1,UC,G⟩:=hv;simp only[List.cons.injEq] at e1;obtain⟨e1,rfl⟩:=e1;obtain⟨aa,first,bD,rfl,⟨fn,ad,J,S⟩,x9⟩:=XM g h UC G;have hex:execOp a.eval o=(do let d ←resolve a.eval cc o.type;invoke d.target d.args):=by unfold execOp;rw[ho]
    have X:(execOp a.eval o).run P w=.ok (.enter aa (first++(cc.args.toList.map a.eval).toArray++bD)) w:=by
     rw[hex];have hb:fn.body.isNone=false:=by cases wJ:fn.body<;>simp[wJ] at J ⊢
     have e3:(cc.args.toList.map a.eval).toArray=cc.args.map a.eval:=by rw[←Array.toList_map,Array.toArray_toList]
     simp only[resolve,u6,e1,Deferred.ofValue,Sem.run_bind,Sem.run_pure,Result.andThen_ok,invoke,callFunc,run_program,ad,S,hb,e3];simp
    unfold Oper.wp;rw[X,Oper.upon_enter];refine x9.mono ?_;rintro e w' ⟨v,z,ws,V,R',rfl,hK,g2,hr⟩
    exact⟨R',z,ws,⟨V,hK⟩,g2.put o.dst hd hr⟩
 cases hc
theorem aij {o:Oper}(hd:∀t,o.dst=some t→t<c.n)(hc:mY o.op=true){vs:List AV}{K:AV→List (Nat×aI)→List Nat→Prop}(hv:FL (au (bA c R s.hp) w s.hp R) vs ((kX o.op).map a.eval))
  (h:gV P s.hp id vs K):o.wp P a w (Nx c s o fun v ws=>∃G,K v ws G) Q:=by
 refine Oper.wp_mono ?_ (ae1 g hT hf Q hd hc hv h);rintro a' w' ⟨X,v,ws,⟨G,hK⟩,S⟩
 obtain⟨h1,V⟩:=yc hK;refine⟨X,v,[],⟨G,h1⟩,?_⟩;cases J:o.dst with
 | none=>
   rw[J] at S;exact S.congr (fun _=>rfl) fun b=>(V b).symm
 | some d=>
   rw[J] at S;exact S.congr (fun _=>rfl) fun b=>(V b).symm
theorem ail {o:Oper}(hd:∀t,o.dst=some t→t<c.n)(hc:mY o.op=true){vs:List AV}{K:AV→List (Nat×aI)→List Nat→Prop}(hv:FL (au (bA c R s.hp) w s.hp R) vs ((kX o.op).map a.eval))
  (h:gI P s.hp id vs K):o.wp P a w (Nx c s o fun v ws=>∃V,K v ws V) Q:=by
 cases ho:o.op<;>rw[ho] at hc<;>simp only[mY] at hc<;>try (cases hc;done)
 rename_i cc;split at hc
 ·rename_i f u6;rw[ho] at hv;simp only[kX,u6,List.map_cons] at hv;cases vs with
  |nil=>exact h.elim
  | cons fv args=>
    obtain⟨u,us,e1,UC,G⟩:=hv;simp only[List.cons.injEq] at e1;obtain⟨e1,rfl⟩:=e1;obtain⟨aa,first,bD,rfl,⟨fn,ad,J,S⟩,x9⟩:=XO g h UC G;have hex:execOp a.eval o=(do let d ←resolve a.eval cc o.type;invoke d.target d.args):=by unfold execOp;rw[ho]
    have X:(execOp a.eval o).run P w=.ok (.enter aa (first++(cc.args.toList.map a.eval).toArray++bD)) w:=by
     rw[hex];have hb:fn.body.isNone=false:=by cases wJ:fn.body<;>simp[wJ] at J ⊢
     have e3:(cc.args.toList.map a.eval).toArray=cc.args.map a.eval:=by rw[←Array.toList_map,Array.toArray_toList]
     simp only[resolve,u6,e1,Deferred.ofValue,Sem.run_bind,Sem.run_pure,Result.andThen_ok,invoke,callFunc,run_program,ad,S,hb,e3];simp
    unfold Oper.wp;rw[X,Oper.upon_enter];refine x9.mono ?_;rintro e w' ⟨v,z,ws,V,R',rfl,hK,g2,hr⟩
    exact⟨R',z,ws,⟨V,hK⟩,g2.put o.dst hd hr⟩
 cases hc
theorem aim {o:Oper}(hd:∀t,o.dst=some t→t<c.n)(hc:mY o.op=true){vs:List AV}{K:AV→List (Nat×aI)→List Nat→Prop}(hv:FL (au (bA c R s.hp) w s.hp R) vs ((kX o.op).map a.eval))
  (h:dC P s.hp vs K):o.wp P a w (Nx c s o fun v ws=>∃V,K v ws V) Q:=by
 cases ho:o.op<;>rw[ho] at hc<;>simp only[mY] at hc<;>try (cases hc;done)
 rename_i cc;split at hc
 ·rename_i f u6;rw[ho] at hv;simp only[kX,u6,List.map_cons] at hv;cases vs with
  | nil=>
    unfold dC at h;simp only[xw] at h;split at h
    ·simp at h
    exact h.elim
  | cons fv args=>
    obtain⟨u,us,e1,UC,G⟩:=hv;simp only[List.cons.injEq] at e1;obtain⟨e1,rfl⟩:=e1;obtain⟨aa,first,bD,rfl,⟨fn,ad,J,S⟩,x9⟩:=XP g h UC G;have hex:execOp a.eval o=(do let d ←resolve a.eval cc o.type;invoke d.target d.args):=by unfold execOp;rw[ho]
    have X:(execOp a.eval o).run P w=.ok (.enter aa (first++(cc.args.toList.map a.eval).toArray++bD)) w:=by
     rw[hex];have hb:fn.body.isNone=false:=by cases wJ:fn.body<;>simp[wJ] at J ⊢
     have e3:(cc.args.toList.map a.eval).toArray=cc.args.map a.eval:=by rw[←Array.toList_map,Array.toArray_toList]
     simp only[resolve,u6,e1,Deferred.ofValue,Sem.run_bind,Sem.run_pure,Result.andThen_ok,invoke,callFunc,run_program,ad,S,hb,e3];simp
    unfold Oper.wp;rw[X,Oper.upon_enter];refine x9.mono ?_;rintro e w' ⟨v,z,ws,V,R',rfl,hK,g2,hr⟩
    exact⟨R',z,ws,⟨V,hK⟩,g2.put o.dst hd hr⟩
 cases hc
theorem SF {o:Oper}(X:∀t,o.dst=some t→t<c.n){vs:List AV}{K:AV→List (Nat×aI)→List Nat→Prop}(hv:FL (au (bA c R s.hp) w s.hp R) vs ((kX o.op).map a.eval))
  (h:zD P T o.op vs s.hp id K):o.wp P a w (Nx c s o fun v ws=>∃G,K v ws G) Q:=by
 unfold zD at h;simp only at h;split at h;rotate_left;cases h
 rename_i H S;refine Oper.wp_mono ?_ (afQ g hT hf Q o.op o rfl X vs H _ (Cr S) hv h);rintro a w ⟨R,v,ws,V,J⟩
 exact⟨R,v,ws,⟨_,V⟩,J⟩
theorem ain {o:Oper}(hd:∀t,o.dst=some t→t<c.n)(hc:mY o.op=true){vs:List AV}{K:AV→List (Nat×aI)→List Nat→Prop}(hv:FL (au (bA c R s.hp) w s.hp R) vs ((kX o.op).map a.eval))
  (ro:Option Nat) (h:yC P s.hp vs K):o.wpIn (W1 ro) 0 P a w (Nx c s o fun v ws=>∃am,K v ws am) Q:=by
 cases ho:o.op<;>rw[ho] at hc<;>simp only[mY] at hc<;>try (cases hc;done)
 rename_i cc;split at hc
 ·rename_i f u6;rw[ho] at hv;simp only[kX,u6,List.map_cons] at hv;unfold yC at h;split at h;rotate_left;cases h
  rename_i l args;obtain⟨u,us,e1,UC,ad⟩:=hv;simp only[List.cons.injEq] at e1;obtain⟨e1,rfl⟩:=e1;split at h;rotate_left;cases h
  rename_i y ver rest st h9;split at h;rotate_left;cases h
  split at h;rotate_left;cases h
  split at h;rotate_left;cases h
  rename_i ps al;obtain⟨rfl,x,r,rfl,ak,hK⟩:=h;have ai:=g.boxes 999 _ h9;obtain⟨-,kh,k1,k2,k3,k4⟩:=ai;simp only[au,bL] at UC;obtain⟨fs,cs,rfl,V,S⟩:=UC;simp only[fE] at V S;have V:fs = #[]:=by simpa using V
  have S:cs = #[]:=by simpa using S
  subst V S;have J:fE (bA c R s.hp) w ps (cc.args.toList.map a.eval):=by
   have:=(eZ _ _ _ _ _ _).2 ad;rw[wK al] at this;exact qD _ _ this
  have hx:fE (fun q=>R.Y.D q∨lS c R s.hp q) w x (cc.args.toList.map a.eval):=by
   refine qE (N:=bA c R s.hp) (fun q G=>?_) _ _ _ ak J;rcases G with G|G
   ·exact .inr ⟨999,by rw[h9];exact G⟩
   exact G.1
  obtain⟨fn,aa,assign,body,X,bK⟩:=kh x r R.Y.Z R.Y.D R.Y.wy w (lS c R s.hp) _ (by simpa using k1) k2 k3 (fun q G=>(k4 q G.1).resolve_left G.2)
   (fun q G=>g.Nlt G.1) (fun q G=>G.2) hx
  have hex:execOp a.eval o=(do let d ←resolve a.eval cc o.type;invoke d.target d.args):=by unfold execOp;rw[ho]
  have e3:(cc.args.toList.map a.eval).toArray=cc.args.map a.eval:=by rw[←Array.toList_map,Array.toArray_toList]
  have ae:(execOp a.eval o).run P w=.ok (.round l fn aa assign body) w:=by
   rw[hex];rw[e3] at X;simp only[resolve,u6,e1,Deferred.ofValue,Sem.run_bind,Sem.run_pure,Result.andThen_ok,invoke];simpa using X
  have af:Oper.semAt ro a.eval o=execOp a.eval o:=by
   cases ro with
   |none=>rfl
   |some l=>exact Oper.semAt_some l _ _ (fun c e=>by rw[ho] at e;cases e)
  refine⟨fun _ _=>trivial,?_⟩;show o.uponIn (W1 ro) 0 P a _ Q ((Oper.semAt ro a.eval o).run P w)
  rw[af,ae,Oper.uponIn_round];refine⟨fun e=>(by cases e),?_⟩;refine (show RoundIn (W1 ro) 0 P l fn aa assign body w _ from bK).mono ?_;rintro e w' ⟨D',b,rfl,hE,ag,ah,hJ⟩
  obtain⟨g2,hr⟩:=g.yielded h9 hE ag ah hJ;exact⟨_,_,_,⟨_,hK⟩,g2.put o.dst hd hr⟩
 cases hc
theorem UD (ro:Option Nat){o:Oper}(S:∀t,o.dst=some t→t<c.n){K:AV→List (Nat×aI)→List Nat→Prop}(h:XF P T o s.tm s.hp id K) :
  o.wpIn (W1 ro) 0 P a w (Nx c s o fun v ws=>∃V,K v ws V) Q:=by
 have nd:∀{vs:List AV},zD P T o.op vs s.hp id K→∀c,o.op ≠ .defer c:=by
  intro vs hf c e;rw[e] at hf;unfold zD at hf;simp only at hf;split at hf
  ·exact hf.elim
  exact hf.elim
 have J:mY o.op=true→∀c,o.op ≠ .defer c:=fun hc c e=>by rw[e] at hc;cases hc
 unfold XF at h;split at h;rotate_left;cases h
 rename_i vs G;split at h
 ·rename_i hc;split at h
  ·exact ain g hT hf Q S hc (lQ g G) ro h
  rcases h with (h|h)|h
  rotate_left 2
  ·split at h
   ·exact mZ ro (J hc) (ail g hT hf Q S hc (lQ g G) h)
   exact mZ ro (J hc) (aij g hT hf Q S hc (lQ g G) h)
  ·unfold lC at h;split at h
   ·exact mZ ro (J hc) (aim g hT hf Q S hc (lQ g G) h)
   exact mZ ro (nd h) (SF g hT hf Q S (lQ g G) h)
  exact mZ ro (J hc) (ae1 g hT hf Q S hc (lQ g G) h)
 exact mZ ro (nd h) (SF g hT hf Q S (lQ g G) h)
end
end
end Go.AX
end
