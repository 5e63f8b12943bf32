/-
  Conditions: none. A framework for walks: abstract values, memory, and conditions that suffice; the chapters in plain terms.
-/
import Derived.Test.YtfoiekbkkbnpkaaGreatAb
import Derived.TacticsIn
set_option linter.unusedSectionVars false
set_option linter.unusedVariables false
set_option linter.unusedSimpArgs false
section
namespace Go.AX
theorem EM {N:Nat→Prop}{w:World}{hp:List (Nat×aF)}{R:Real}{v:AV}{g:Fn}{a' c':List AV}{x:Value}(sF:O3 v=some (g,a',c'))(hx:ak N w hp R v x) :
  ∃fs cs:Array Value,x=.func g fs cs∧dh N w hp R a' fs.toList∧dh N w hp R c' cs.toList:=by
 unfold O3 at sF;split at sF
 ·simp only[Option.some.injEq,Prod.mk.injEq] at sF;obtain⟨rfl,rfl,rfl⟩:=sF;simpa only[ak] using hx
 ·simp only[Option.some.injEq,Prod.mk.injEq] at sF;obtain⟨rfl,rfl,rfl⟩:=sF;simp only[ak,bJ] at hx;obtain⟨fs,cs,e,h3,h4⟩:=hx;exact⟨fs,cs,e,om _ _ h3,om _ _ h4⟩
 cases sF
theorem wu {N:Nat→Prop}{w:World}{hp:List (Nat×aF)}{R:Real}{vs us:List AV}{xs ys:List Value}(h:dh N w hp R vs xs)(h':dh N w hp R us ys):dh N w hp R (vs++us) (xs++ys):=by
 rw[eF] at h h' ⊢;exact h.app h'
def K2 (R:Real)(gH:Ren)(hp:List (Nat×aF))(v:AV)(x:Value):Prop:=
 match v with
 |.ptr k off=>k<999∧∃b d,lk gH k=some (b,d)∧aY R b off x (lk hp b)
 |.aO k ver=>k<999∧∃b d,lk gH k=some (b,d)∧aU R b (ver+d) x (lk hp b)
 |.dM k ver i off=>k<999∧∃b d,lk gH k=some (b,d)∧bf R b (ver+d) i off x (lk hp b)
 |_=>False
section
variable {P:Program}{c:Ctx}{R:Real}{s:AS}{a:Act}{w:World}
def DD (R:Real)(inv:Inv)(hp:List (Nat×aF))(r:Nat):Prop:=∃b k d,lk inv b=some (k,d)∧aL R b r (lk hp b)
def EN (g:bG c R s a w)(inv:Inv)(gH:Ren):Ctx where
 F r:=aV c R s.hp r∧¬DD R inv s.hp r
 O:=DD R inv s.hp
 w:=w
 n:=0
 hF r h:=g.Nlt h.1
 K:=K2 R gH s.hp
 hK v x h:=by
  cases v<;>simp only[K2] at h<;>have h:=h.1<;>simp only[jD,Bool.and_eq_true,Nat.blt_eq,Bool.not_eq_true']<;>first
   |omega
   |exact⟨by omega,by cases hb:Nat.beq _ 999 with|false=>rfl|true=>(have:=Nat.eq_of_beq_eq_true hb;omega)⟩
 fix _:=none
 n0:=R.Y.n0
 lo:=w.heap.size
theorem Xt (g:bG c R s a w){inv:Inv}{gH:Ren}{mg:List (Nat×aF)}(h1:∀b k d,lk inv b=some (k,d)→lk gH k=some (b,d))(h1':∀b k d,lk gH k=some (b,d)→lk inv b=some (k,d))
  (h2:∀k b d,lk gH k=some (b,d)→∃box,lk s.hp b=some box∧d=nU box∧lk mg k=some (kY inv box))
  (h3:∀k box0,lk mg k=some box0→∃b box,lk gH k=some (b,nU box)∧lk s.hp b=some box∧box0=kY inv box) (h4:∀k x y z u,lk mg k≠some (.tr x y z u)) :
  y8 (EN g inv gH) (NT gH R) mg w∧(∀r,aV (EN g inv gH) (NT gH R) mg r→aV c R s.hp r):=by
 have ho:∀k r,aL (NT gH R) k r (lk mg k)→∃b d,lk gH k=some (b,d)∧aL R b r (lk s.hp b):=by
  intro k r h;cases hk:lk mg k with
  |none=>rw[hk] at h;exact h.elim
  | some box0=>
    obtain⟨b,box,a1,a2,rfl⟩:=h3 k box0 hk;obtain⟨e1,e2,e3⟩:=EJ (R:=R) a1;refine⟨b,_,a1,?_⟩;rw[hk] at h;rw[a2];cases box<;>simp only[aL,kY,e1,e2,e3] at h ⊢ <;> exact h
 have hod:∀r,owned (NT gH R) mg r→DD R inv s.hp r:=by
  rintro r ⟨k,h⟩
  obtain⟨b,d,a1,a2⟩:=ho k r h;exact⟨b,k,d,h1' b k d a1,a2⟩
 have hN:∀r,aV (EN g inv gH) (NT gH R) mg r→aV c R s.hp r:=by
  rintro r (h|h)
  ·exact h.1
  obtain⟨b,k,d,_,h⟩:=hod r h;exact .inr ⟨b,h⟩
 refine⟨⟨fun k box0 hk=>?_,fun k k' r ha hb=>?_,fun r hr hF=>hF.2 (hod r hr),mr.refl _ _,fun r hr=>.inl (hod r hr),fun v x hK=>?_,tY.none,⟨rfl,by show R.Y.n0.1≤w.heap.size;rw[g.lo.1];exact Nat.le_trans g.lo.2.1 g.lo.2.2,Nat.le_refl _⟩⟩,hN⟩
 ·obtain⟨b,box,a1,a2,rfl⟩:=h3 k box0 hk;obtain⟨e1,e2,e3⟩:=EJ (R:=R) a1;have hr:=g.boxes b box a2;cases box with
  | var cells=>
    obtain⟨cur,e,b1,b2⟩:=hr;exact⟨cur,e,by rw[e1];exact b1,rf h1 h2 hN _ _ b2⟩
  | nR cells=>
    obtain⟨cur,e,fr,b1,b2,b3⟩:=hr;exact⟨cur,e,fr,by rw[e1];exact b1,by rw[e1];exact fun h=>b2 (hN _ h),dQ (fun r _ h=>hN r h) (fun _ _ _=>rfl) _ _ b3⟩
  | arr e ver st rows=>
    obtain⟨xs,b1,b2⟩:=hr;exact⟨xs,by rw[JE a1];exact b1,aX (fun r _ h=>hN r h) (fun _ _ _=>rfl) _ _ _ b2⟩
  | dS ver st rows=>
    simp only[kY,dY,JE a1] at hr ⊢;exact dJ (fun r _ h=>hN r h) (fun _ _ _=>rfl) _ _ hr
  |tr y ver rest st=>exact absurd hk (h4 _ _ _ _ _)
  | mp kk kv es=>
    obtain⟨cur,clock,b1,b2,b3⟩:=hr;exact⟨cur,clock,by rw[e1];exact b1,by rw[e2];exact b2,b3⟩
  |iM e ver st j ed sd pre row post=>exact iQ (fun r _ h=>hN r h) (fun _ _ _=>rfl) e1 e2 e3 (fun _ _=>rfl) (wo _ _) (fun vs h=>rf h1 h2 hN _ _ h) hr
  | gy e ver st pre row post=>
    obtain⟨xs,b1,b2,b3,b4,b5⟩:=hr;refine⟨xs,by rw[JE a1];exact b1,aX (fun r _ h=>hN r h) (fun _ _ _=>rfl) _ _ _ b2,by rw[wo];exact b3,rf h1 h2 hN _ _ b4,aX (fun r _ h=>hN r h) (fun _ _ _=>rfl) _ _ _ b5⟩
 ·obtain⟨b,d,a1,a2⟩:=ho k r ha;obtain⟨b',d',b1,b2⟩:=ho k' r hb;have:=g.inj b b' r a2 b2;subst this;have e1:=h1' b k d a1;have e2:=h1' b k' d' b1;rw[e1] at e2;simp only[Option.some.injEq,Prod.mk.injEq] at e2;exact e2.1
 cases v<;>simp only[EN,K2] at hK
 ·obtain⟨_,b,d,a1,a2⟩:=hK;simp only[ak];exact EL h1 h2 (h1' b _ d a1) a2
 ·obtain⟨_,b,d,a1,a2⟩:=hK;simp only[ak];have:=HV h1 h2 (h1' b _ d a1) (Nat.le_add_left _ _) a2;rwa [Nat.add_sub_cancel] at this
 obtain⟨_,b,d,a1,a2⟩:=hK;simp only[ak];have:=A7 h1 h2 (h1' b _ d a1) (Nat.le_add_left _ _) a2;rwa [Nat.add_sub_cancel] at this
theorem Ro (g:bG c R s a w){inv:Inv}{gH ρ:Ren}{hp':List (Nat×aF)}{R2:Real}{w':World}{id:Nat}
  (h1:∀b k d,lk inv b=some (k,d)→lk gH k=some (b,d)) (h1':∀b k d,lk gH k=some (b,d)→lk inv b=some (k,d))
  (h2:∀k b d,lk gH k=some (b,d)→∃box,lk s.hp b=some box∧d=nU box) (h4:∀k b d,lk gH k=some (b,d)→∀x y z u,lk s.hp b≠some (.tr x y z u))
  (HZ:∀k p,lk gH k=some p→k<999∧∃box,lk hp' k=some box) (hnew:∀b∈u6 gH id hp',lk s.hp b=none) (hkeys:xQ hp'=true)
  (hρ:ρ=AU gH id hp') (Xu:∀k x y z u,lk hp' k≠some (.tr x y z u)) (h:y8 (EN g inv gH) R2 hp' w') :
  bG c (upR ρ R R2 hp') (s.app (iH ρ hp')) a w' ∧
   ∀v x,ak (aV (EN g inv gH) R2 hp') w' hp' R2 v x→ak (aV c (upR ρ R R2 hp') (iH ρ hp'++s.hp)) w' (iH ρ hp'++s.hp) (upR ρ R R2 hp') (lU ρ v) x:=by
 have TU:∀k box,lk hp' k=some box→(∃b d,lk gH k=some (b,d)∧jl ρ k=b∧Dq ρ k=d)∨(lk gH k=none∧jl ρ k=id+1000000*k∧Dq ρ k=0∧lk s.hp (jl ρ k)=none):=by
  intro k box hk;have e:lk ρ k=some (EG gH id k):=by rw[hρ,Hz,hk];rfl
  cases hf:lk gH k with
  | some p=>
    obtain⟨b,d⟩:=p;refine .inl ⟨b,d,rfl,?_,?_⟩<;>simp[jl,Dq,e,EG,hf]
  | none=>
    have e1:jl ρ k=id+1000000*k:=by simp[jl,e,EG,hf]
    refine .inr ⟨rfl,e1,by simp[Dq,e,EG,hf],?_⟩;rw[e1];exact hnew _ (EI hk hf)
 have hinj:∀k k' box bL,lk hp' k=some box→lk hp' k'=some bL→jl ρ k'=jl ρ k→k'=k:=by
  intro k k' box bL hk hk' e;rcases TU k box hk with ⟨b,d,a1,a2,a3⟩|⟨a1,a2,a3,a4⟩<;>rcases TU k' bL hk' with ⟨b',d',b1,b2,b3⟩|⟨b1,b2,b3,b4⟩
  ·rw[a2,b2] at e;subst e;have e1:=h1' _ k d a1;have e2:=h1' _ k' d' b1;rw[e1] at e2;simp only[Option.some.injEq,Prod.mk.injEq] at e2;exact e2.1.symm
  ·obtain⟨bx,c1,_⟩:=h2 k b d a1;rw[e,a2,c1] at b4;cases b4
  ·obtain⟨bx,c1,_⟩:=h2 k' b' d' b1;rw[←e,b2,c1] at a4;cases a4
  rw[a2,b2] at e;omega
 have hit:∀k box,lk hp' k=some box→lk (hp'.map fun x=>(jl ρ x.1,x.1)) (jl ρ k)=some k:=fun k box hk=>
  Lx (fun k' bL hk' e=>hinj k k' box bL hk hk' e) hkeys hk
 generalize hX:(hp'.map fun x=>(jl ρ x.1,x.1))=X at hit;let R':=upR ρ R R2 hp'
 have hRk:∀k box,lk hp' k=some box→R'.blk (jl ρ k)=R2.blk k∧R'.nil (jl ρ k)=R2.nil k∧R'.cap (jl ρ k)=R2.cap k:=by
  intro k box hk;have:=hit k box hk;rw[←hX] at this;simp only[R',upR,this];exact⟨trivial,trivial,trivial⟩
 have hRn:∀b,lk X b=none→R'.blk b=R.blk b∧R'.nil b=R.nil b∧R'.cap b=R.cap b:=by
  intro b hb;rw[←hX] at hb;simp only[R',upR,hb];exact⟨trivial,trivial,trivial⟩
 have hlk:∀k box,lk hp' k=some box→lk (iH ρ hp'++s.hp) (jl ρ k)=some (fP ρ k box):=by
  intro k box hk;have:=hit k box hk;rw[←hX] at this;obtain⟨_,bx,c1,c2⟩:=A8 hkeys this;rw[hk] at c1;cases c1;have hmem:∀{l l':List (Nat×aF)} {b:Nat} {y:aF},lk l b=some y→lk (l++l') b=some y:=by
   intro l l' b y;induction l with
   |nil=>intro h;simp[lk] at h
   | cons z l ih=>
     obtain⟨zk,zv⟩:=z;intro h;rw[List.cons_append,aC];rw[aC] at h;split at h
     ·rename_i e;rw[if_pos e];exact h
     rename_i e;rw[if_neg e];exact ih h
  exact hmem c2
 have hln:∀b,lk X b=none→lk (iH ρ hp'++s.hp) b=lk s.hp b:=by
  intro b hb;rw[←hX] at hb;have:=HY hb;have hmem:∀{l l':List (Nat×aF)} {b:Nat},lk l b=none→lk (l++l') b=lk l' b:=by
   intro l l' b;induction l with
   |nil=>intro _;rfl
   | cons z l ih=>
     obtain⟨zk,zv⟩:=z;intro h;rw[List.cons_append,aC];rw[aC] at h;split at h
     ·cases h
     rename_i e;rw[if_neg e];exact ih h
  exact hmem this
 have hcase:∀b,lk X b=none∨∃k box,b=jl ρ k∧lk hp' k=some box:=by
  intro b;cases hb:lk X b with
  |none=>exact .inl rfl
  | some k=>
    rw[←hX] at hb;obtain⟨e,bx,c1,_⟩:=A8 hkeys hb;exact .inr ⟨k,bx,e,c1⟩
 have hXd:∀b k d,lk inv b=some (k,d)→lk X b≠none:=by
  intro b k d hb hn;have hf:=h1 b k d hb;obtain⟨_,bx,hk⟩:=HZ k _ hf;have:=hit k bx hk;rcases TU k bx hk with ⟨b',d',a1,a2,a3⟩|⟨a1,_⟩
  ·rw[hf] at a1;simp only[Option.some.injEq,Prod.mk.injEq] at a1;rw[a2,←a1.1,hn] at this;cases this
  rw[hf] at a1;cases a1
 have Cg:∀b r,lk X b=none→aL R' b r (lk (iH ρ hp'++s.hp) b)→aL R b r (lk s.hp b):=by
  intro b r hb h';rw[hln b hb] at h';exact iA (hRn b hb) rfl h'
 have Ci:∀k box r,lk hp' k=some box→aL R' (jl ρ k) r (lk (iH ρ hp'++s.hp) (jl ρ k))→aL R2 k r (lk hp' k):=by
  intro k box r hk h';rw[hlk k box hk] at h';rw[hk];obtain⟨e1,e2,e3⟩:=hRk k box hk;cases box<;>simp only[aL,fP,e1,e2,e3] at h' ⊢ <;> first
   |exact h'
   |exact absurd hk (Xu _ _ _ _ _)
 have agr:∀b r,lk X b=none→aL R b r (lk s.hp b)→¬DD R inv s.hp r:=by
  rintro b r hb ho ⟨b',k,d,hi,ho'⟩
  have:=g.inj b b' r ho ho';subst this;exact hXd b k d hi hb
 have Xv:∀b r,lk X b=none→aL R b r (lk s.hp b)→(EN g inv gH).F r:=fun b r hb ho=>⟨.inr ⟨b,ho⟩,agr b r hb ho⟩
 have ags:∀r,c.F r→(EN g inv gH).F r:=fun r hr=>⟨.inl hr,fun⟨b,k,d,_,ho⟩=>g.free r ⟨b,ho⟩ hr⟩
 have DN:∀r,DD R inv s.hp r→owned R s.hp r:=fun r ⟨b,k,d,_,ho⟩=>⟨b,ho⟩
 have N2:∀r,aV c R' (iH ρ hp'++s.hp) r→aV (EN g inv gH) R2 hp' r:=by
  rintro r (h'|⟨b,h'⟩)
  ·exact .inl (ags r h')
  rcases hcase b with hb|⟨k,box,rfl,hk⟩
  ·exact .inl (Xv b r hb (Cg b r hb h'))
  exact .inr ⟨k,Ci k box r hk h'⟩
 have NN:∀r,r<w.heap.size→aV c R' (iH ρ hp'++s.hp) r→aV c R s.hp r:=by
  intro r hr h';rcases N2 r h' with h'|h'
  ·exact h'.1
  rcases h.iw r h' with h'|h'
  ·exact .inr (DN r h')
  exact absurd hr (Nat.not_lt.2 h')
 have WW:∀r,r<w.heap.size→¬aV c R s.hp r→w'.heap[r]? = w.heap[r]? :=fun r hr hn=>h.jE.keep r hr fun hd=>hn (.inr (DN r hd))
 have P1:∀k box,lk hp' k=some box→∀off v,aY R2 k off v (lk hp' k)→aY R' (jl ρ k) off v (lk (iH ρ hp'++s.hp) (jl ρ k)):=by
  intro k box hk off v hr;rw[hlk k box hk];rw[hk] at hr;obtain⟨e1,e2,e3⟩:=hRk k box hk;cases box<;>simp only[aY,fP,e1] at hr ⊢ <;> exact hr
 have P2:∀k box,lk hp' k=some box→∀ver v,aU R2 k ver v (lk hp' k)→aU R' (jl ρ k) (ver+Dq ρ k) v (lk (iH ρ hp'++s.hp) (jl ρ k)):=by
  intro k box hk ver v hr;rw[hlk k box hk];rw[hk] at hr;obtain⟨e1,e2,e3⟩:=hRk k box hk;cases box<;>simp only[aU,fP,ael,AO e1 e2 e3] at hr ⊢ <;> first
   |exact hr
   |exact⟨Nat.zero_le _,hr.2.1,hr.2.2⟩
   |exact⟨by omega,hr.2.1,fun he=>hr.2.2 (by omega)⟩
 have P3:∀k box,lk hp' k=some box→∀ver i off v,bf R2 k ver i off v (lk hp' k)→bf R' (jl ρ k) (ver+Dq ρ k) i off v (lk (iH ρ hp'++s.hp) (jl ρ k)):=by
  intro k box hk ver i off v hr;rw[hlk k box hk];rw[hk] at hr;obtain⟨e1,e2,e3⟩:=hRk k box hk;cases box<;>simp only[bf,fP,e1,e2] at hr ⊢ <;> first
   |exact hr
   |exact absurd hk (Xu _ _ _ _ _)
   |exact⟨Nat.zero_le _,hr.2.1,hr.2.2⟩
   |exact⟨by omega,hr.2.1,fun he=>hr.2.2 (by omega)⟩
 have Q1:∀b off v,aY R b off v (lk s.hp b)→aY R' b off v (lk (iH ρ hp'++s.hp) b):=by
  intro b off v hr;rcases hcase b with hb|⟨k,box,rfl,hk⟩
  ·rw[hln b hb];exact lT (hRn b hb) hr
  rcases TU k box hk with ⟨b,d,a1,a2,a3⟩|⟨a1,a2,a3,a4⟩
  ·rw[a2] at hr;have:=h.kept (.ptr k off) v ⟨(HZ k _ a1).1,b,d,a1,hr⟩;simp only[ak] at this;exact P1 k box hk off v this
  rw[a4] at hr;exact hr.elim
 have cur:∀k b d,lk gH k=some (b,d)→∀box,lk hp' k=some box→(∃ver v,aU R b ver v (lk s.hp b))→∃v',aU R b (0+d) v' (lk s.hp b):=by
  rintro k b d hk box hb ⟨ver,v,hr⟩
  obtain⟨bx,c1,c2⟩:=h2 k b d hk;rw[c1] at hr ⊢;cases bx<;>simp only[aU] at hr
  ·simp only[nU] at c2;subst c2;exact⟨dH R b _,by omega,by unfold dH;split<;>rfl,fun _=>rfl⟩
  ·simp only[nU] at c2;subst c2;exact⟨dH R b _,by omega,by unfold dH;split<;>rfl,fun _=>rfl⟩
  ·simp only[nU] at c2;subst c2;exact⟨dH R b _,by omega,by unfold dH;split<;>rfl,fun _=>rfl⟩
  simp only[nU] at c2;subst c2;exact⟨dH R b _,by omega,by unfold dH;split<;>rfl,fun _=>rfl⟩
 have Q2:∀b ver v,aU R b ver v (lk s.hp b)→aU R' b ver v (lk (iH ρ hp'++s.hp) b):=by
  intro b ver v hr;rcases hcase b with hb|⟨k,box,rfl,hk⟩
  ·rw[hln b hb];exact ng (hRn b hb) hr
  rcases TU k box hk with ⟨b,d,a1,a2,a3⟩|⟨a1,a2,a3,a4⟩
  ·rw[a2] at hr;by_cases hd:d≤ver
   ·have:=h.kept (.aO k (ver-d)) v ⟨(HZ k _ a1).1,b,d,a1,by rw[Nat.sub_add_cancel hd];exact hr⟩;simp only[ak] at this;have:=P2 k box hk _ v this;rwa [a3,Nat.sub_add_cancel hd] at this
   obtain⟨v',hv'⟩:=cur k b d a1 box hk ⟨ver,v,hr⟩;have:=h.kept (.aO k 0) v' ⟨(HZ k _ a1).1,b,d,a1,hv'⟩;simp only[ak] at this;have:=P2 k box hk _ v' this;rw[a3] at this;have hone:v.oneCell'=true:=by
    cases hb2:lk s.hp b with
    |none=>rw[hb2] at hr;exact hr.elim
    |some bx=>rw[hb2] at hr;cases bx<;>simp only[aU] at hr<;>first|exact hr.2.1|exact hr.elim
   cases hb3:lk (iH ρ hp'++s.hp) (jl ρ k) with
   |none=>rw[hb3] at this;exact this.elim
   | some bx=>
     rw[hb3] at this;cases bx<;>simp only[aU] at this ⊢ <;> exact⟨by omega,hone,fun e=>by omega⟩
  rw[a4] at hr;exact hr.elim
 have aiS:∀k b d,lk gH k=some (b,d)→∀box,lk hp' k=some box→d≠0→(∃ver i off v,bf R b ver i off v (lk s.hp b))→∃v',aU R b (0+d) v' (lk s.hp b):=by
  rintro k b d hk box hb hd0 ⟨ver,i,off,v,hr⟩
  obtain⟨bx,c1,c2⟩:=h2 k b d hk;rw[c1] at hr ⊢;cases bx<;>simp only[bf] at hr
  ·simp only[nU] at c2;subst c2;exact⟨dH R b _,by omega,by unfold dH;split<;>rfl,fun _=>rfl⟩
  ·simp only[nU] at c2;subst c2;exact⟨dH R b _,by omega,by unfold dH;split<;>rfl,fun _=>rfl⟩
  ·exact absurd c1 (h4 k b d hk _ _ _ _)
  ·simp only[nU] at c2;subst c2;exact⟨dH R b _,by omega,by unfold dH;split<;>rfl,fun _=>rfl⟩
  ·exact absurd c2 hd0
  simp only[nU] at c2;subst c2;exact⟨dH R b _,by omega,by unfold dH;split<;>rfl,fun _=>rfl⟩
 have Q3:∀b ver i off v,bf R b ver i off v (lk s.hp b)→bf R' b ver i off v (lk (iH ρ hp'++s.hp) b):=by
  intro b ver i off v hr;rcases hcase b with hb|⟨k,box,rfl,hk⟩
  ·rw[hln b hb];exact ni (hRn b hb) hr
  rcases TU k box hk with ⟨b,d,a1,a2,a3⟩|⟨a1,a2,a3,a4⟩
  ·rw[a2] at hr;by_cases hd:d≤ver
   ·have:=h.kept (.dM k (ver-d) i off) v ⟨(HZ k _ a1).1,b,d,a1,by rw[Nat.sub_add_cancel hd];exact hr⟩;simp only[ak] at this;have:=P3 k box hk _ i off v this;rwa [a3,Nat.sub_add_cancel hd] at this
   obtain⟨v',hv'⟩:=aiS k b d a1 box hk (by omega) ⟨ver,i,off,v,hr⟩;have:=h.kept (.aO k 0) v' ⟨(HZ k _ a1).1,b,d,a1,hv'⟩;simp only[ak] at this;have:=P2 k box hk _ v' this;rw[a3] at this;have hone:v.oneCell'=true:=by
    cases hb2:lk s.hp b with
    |none=>rw[hb2] at hr;exact hr.elim
    |some bx=>rw[hb2] at hr;cases bx<;>simp only[bf] at hr<;>first|exact hr.2.1|exact hr.elim
   cases hb3:lk (iH ρ hp'++s.hp) (jl ρ k) with
   |none=>rw[hb3] at this;exact this.elim
   | some bx=>
     rw[hb3] at this;cases bx<;>simp only[aU] at this<;>simp only[bf]<;>exact⟨by omega,hone,fun e=>by omega⟩
  rw[a4] at hr;exact hr.elim
 have Rp:∀k box,lk hp' k=some box→lk (iH ρ hp'++s.hp) (jl ρ k)=some (fP ρ k box)∧R'.blk (jl ρ k)=R2.blk k∧R'.nil (jl ρ k)=R2.nil k∧R'.cap (jl ρ k)=R2.cap k:=
  fun k box hk=>⟨hlk k box hk,hRk k box hk⟩
 have Id1:∀b off v,aY R' b off v (lk (iH ρ hp'++s.hp) b)→aY R' b off v (lk (iH ρ hp'++s.hp) b):=fun _ _ _ h=>h
 have Id2:∀b ver v,aU R' b ver v (lk (iH ρ hp'++s.hp) b)→aU R' b ver v (lk (iH ρ hp'++s.hp) b):=fun _ _ _ h=>h
 have Id3:∀b ver i off v,bf R' b ver i off v (lk (iH ρ hp'++s.hp) b)→bf R' b ver i off v (lk (iH ρ hp'++s.hp) b):=fun _ _ _ _ _ h=>h
 have N2':∀r,r<w'.heap.size→aV c R' (iH ρ hp'++s.hp) r→aV (EN g inv gH) R2 hp' r:=fun r _=>N2 r
 have W2:∀r,r<w'.heap.size→¬aV (EN g inv gH) R2 hp' r→w'.heap[r]? = w'.heap[r]? :=fun _ _ _=>rfl
 have WO:∀r,r<w.heap.size→¬owned R s.hp r→w'.heap[r]? = w.heap[r]? :=fun r hr hn=>h.jE.keep r hr fun hd=>hn (DN r hd)
 have OO:∀r,r<w.heap.size→owned R' (iH ρ hp'++s.hp) r→owned R s.hp r:=by
  rintro r hr ⟨b,h'⟩
  rcases hcase b with hb|⟨k,box,rfl,hk⟩
  ·exact⟨b,Cg b r hb h'⟩
  rcases h.iw r ⟨k,Ci k box r hk h'⟩ with h'|h'
  ·exact DN r h'
  exact absurd hr (Nat.not_lt.2 h')
 refine⟨⟨fun t v hv=>?_,g.size,⟨g.lo.1,g.lo.2.1,Nat.le_trans g.lo.2.2 h.jE.size⟩,g.marks.imp fun Ds hm=>hm.kept WO OO,g.fixed.kept WO OO,fun b box hb=>?_,fun b b' r ha hb=>?_,fun r ⟨b,hr⟩ hF=>?_,?_,fun r ⟨b,hr⟩=>?_,fun v x hK=>dF NN WW Q1 Q2 Q3 v x (g.kept v x hK)⟩,fun v x hv=>?_⟩
 ·obtain⟨x,hx,hr⟩:=g.slots t v hv;exact⟨x,hx,dF NN WW Q1 Q2 Q3 v x hr⟩
 ·simp only[AS.app] at hb ⊢;rcases hcase b with hbn|⟨k,bx,rfl,hk⟩
  ·have hb0:=hb;rw[hln b hbn] at hb;have hr:=g.boxes b box hb;have hRb:=hRn b hbn;have hkeep:∀r,aL R b r (lk s.hp b)→w'.heap[r]? = w.heap[r]? :=fun r ho=>h.jE.keep r (g.kM ho) (agr b r hbn ho)
   rw[hb] at hkeep;cases box with
   | var cells=>
     obtain⟨cur,e',h8,h9⟩:=hr;refine⟨cur,e',?_,bK NN WW Q1 Q2 Q3 _ _ h9⟩;rw[hRb.1,hkeep _ rfl];exact h8
   | nR cells=>
     obtain⟨cur,e',fr,h8,h7,h9⟩:=hr;have hs:=size_of_getElem? h8;refine⟨cur,e',fr,?_,?_,dQ NN WW _ _ h9⟩
     ·rw[hRb.1,WW _ hs h7];exact h8
     rw[hRb.1];exact fun x=>h7 (NN _ hs x)
   | arr e' ver st rows=>
     obtain⟨xs,h8,h9⟩:=hr;refine⟨xs,?_,aX NN WW _ _ _ h9⟩;rw[jA hRb];refine dZ h8 fun k hk=>hkeep k ?_
     simp only[dH] at hk;cases hnil:R.nil b with
     |true=>simp[hnil,Value.ownBlock] at hk
     |false=>simp[hnil,Value.ownBlock] at hk;exact⟨hnil,hk⟩
   | dS ver st rows=>
     simp only[dY] at hr ⊢;rw[show dH (upR ρ R R2 hp') b rows.length=dH R b rows.length from jA hRb];exact dJ NN WW _ _ hr
   | tr y ver rest st=>
     obtain⟨k0,kh,k1,k2,k3,k4⟩:=hr;simp only[dY,show (upR ρ R R2 hp').nil b=R.nil b from hRb.2.1];refine⟨k0,kh,k1,k2.step h.jE fun r hr ⟨b2,k,d,hi,ho⟩=>?_,k3,fun r hn=>?_⟩
     ·rcases k4 r (.inr ⟨b2,ho⟩) with hd|hz|hs
      ·exact absurd (g.inj b2 b r ho (by rw[hb];exact hd)) fun e=>hXd b2 k d hi (e▸hbn)
      ·exact hz
      omega
     by_cases hlt:r<w.heap.size
     ·exact k4 r (NN r hlt hn)
     exact .inr (.inr (by have:=k2.size;show R.Y.wy.heap.size≤r;omega))
   | mp kk kv es=>
     obtain⟨cur,clock,h8,h9,h10⟩:=hr;exact⟨cur,clock,by rw[hRb.1,hkeep _ ⟨h9,rfl⟩];exact h8,by rw[hRb.2.1];exact h9,h10⟩
   |iM e' ver st j ed sd pre row post=>exact iQ NN WW hRb.1 hRb.2.1 hRb.2.2 (fun k hk=>hkeep k hk) rfl (fun vs h=>bK NN WW Q1 Q2 Q3 _ _ h) hr
   | gy e' ver st pre row post=>
     obtain⟨xs,h8,h9,h10,h11,h12⟩:=hr;refine⟨xs,?_,aX NN WW _ _ _ h9,h10,bK NN WW Q1 Q2 Q3 _ _ h11,aX NN WW _ _ _ h12⟩;rw[jA hRb];refine dZ h8 fun k hk=>hkeep k ?_
     simp only[dH] at hk;cases hnil:R.nil b with
     |true=>simp[hnil,Value.ownBlock] at hk
     |false=>simp[hnil,Value.ownBlock] at hk;exact⟨hnil,hk⟩
  rw[hlk k bx hk] at hb;cases hb;have hr:=h.boxes k bx hk;obtain⟨e1,e2,e3⟩:=hRk k bx hk;cases bx with
  | var cells=>
    obtain⟨cur,e',h8,h9⟩:=hr;exact⟨cur,e',by rw[e1];exact h8,bK N2' W2 Id1 Id2 Id3 _ _ (uX Rp _ _ h9)⟩
  | nR cells=>
    obtain⟨cur,e',fr,h8,h7,h9⟩:=hr;exact⟨cur,e',fr,by rw[e1];exact h8,by rw[e1];exact fun x=>h7 (N2 _ x),dQ N2' W2 _ _ h9⟩
  | arr e' ver st rows=>
    obtain⟨xs,h8,h9⟩:=hr;exact⟨xs,by rw[AO e1 e2 e3];exact h8,aX N2' W2 _ _ _ h9⟩
  | dS ver st rows=>
    simp only[fP,dY] at hr ⊢;rw[show dH (upR ρ R R2 hp') (jl ρ k) rows.length=dH R2 k rows.length from AO e1 e2 e3];exact dJ N2' W2 _ _ hr
  |tr y ver rest st=>exact absurd hk (Xu _ _ _ _ _)
  | mp kk kv es=>
    obtain⟨cur,clock,h8,h9,h10⟩:=hr;exact⟨cur,clock,by rw[e1];exact h8,by rw[e2];exact h9,h10⟩
  |iM e' ver st j ed sd pre row post=>exact iQ N2' W2 e1 e2 e3 (fun _ _=>rfl) (wm _ _) (fun vs h=>bK N2' W2 Id1 Id2 Id3 _ _ (uX Rp _ _ h)) hr
  | gy e' ver st pre row post=>
    obtain⟨xs,h8,h9,h10,h11,h12⟩:=hr;exact⟨xs,by rw[AO e1 e2 e3];exact h8,aX N2' W2 _ _ _ h9,by rw[wm];exact h10,bK N2' W2 Id1 Id2 Id3 _ _ (uX Rp _ _ h11),aX N2' W2 _ _ _ h12⟩
 ·simp only[AS.app] at ha hb;rcases hcase b with hbn|⟨k,bx,rfl,hk⟩<;>rcases hcase b' with aen|⟨k',bx',rfl,hk'⟩
  ·exact g.inj b b' r (Cg b r hbn ha) (Cg b' r aen hb)
  ·exact absurd (Xv b r hbn (Cg b r hbn ha)) (h.free r ⟨k',Ci k' bx' r hk' hb⟩)
  ·exact absurd (Xv b' r aen (Cg b' r aen hb)) (h.free r ⟨k,Ci k bx r hk ha⟩)
  rw[h.inj k k' r (Ci k bx r hk ha) (Ci k' bx' r hk' hb)]
 ·simp only[AS.app] at hr;rcases hcase b with hbn|⟨k,bx,rfl,hk⟩
  ·exact g.free r ⟨b,Cg b r hbn hr⟩ hF
  exact h.free r ⟨k,Ci k bx r hk hr⟩ (ags r hF)
 ·exact g.jE.trans h.jE fun r hr hd=>(g.iw r (DN r hd)).resolve_right (by omega)
 ·simp only[AS.app] at hr;rcases hcase b with hbn|⟨k,bx,rfl,hk⟩
  ·exact g.iw r ⟨b,Cg b r hbn hr⟩
  rcases h.iw r ⟨k,Ci k bx r hk hr⟩ with h'|h'
  ·exact g.iw r (DN r h')
  exact .inr (Nat.le_trans g.jE.size h')
 exact dF N2' W2 Id1 Id2 Id3 _ _ (JB Rp v x hv)
theorem WA (g:bG c R s a w){fv:AV}{args:List AV}{id:Nat}{K:AV→List (Nat×aF)→List Nat→Prop}(h:gC P s.hp id (fv::args) K)
  {u:Value} {us:List Value} (hf:ak (aV c R s.hp) w s.hp R fv u) (hv:FL (ak (aV c R s.hp) w s.hp R) args us) :
  ∃f first bF,u=.func (.func f) first bF∧Enters P f∧Calls P f (first++us.toArray++bF) w fun e w'=>∃v z ws ids R',e=.returned v∧K z ws ids∧bG c R' (s.app ws) a w' ∧
   ak (aV c R' (ws++s.hp)) w' (ws++s.hp) R' z v:=by
 unfold gC at h;simp only at h;split at h;rotate_left;cases h
 rename_i f first bF hfn
 split at h;rotate_left;cases h
 rename_i H hH;obtain⟨r,hp',NZ,h⟩:=h;split at h;rotate_left;cases h
 rename_i hok;rw[zf,zh] at h;have hnt:=jf _ _ h;have h:=kT _ _ _ h;simp only[gOk,Bool.and_eq_true] at hok;obtain⟨o1,o2,o3,o4,o5⟩:=hok;obtain⟨fs,cs,rfl,f1,f2⟩:=EM hfn hf;refine⟨f,fs,cs,rfl,NZ.1,?_⟩;have h1:∀b k d,lk (lq 1 H) b=some (k,d)→lk (jV 1 H) k=some (b,d):=fun b k d hb=>(AY hb).2
 have h1':∀b k d,lk (jV 1 H) k=some (b,d)→lk (lq 1 H) b=some (k,d):=fun b k d hb=>xR o4 hb
 have h2:∀k b d,lk (jV 1 H) k=some (b,d)→∃box,lk s.hp b=some box∧d=nU box∧lk (uD (lq 1 H) 1 H) k=some (kY (lq 1 H) box):=
  fun k b d hb=>AZ (q9 hH) hb
 have h3:∀k box0,lk (uD (lq 1 H) 1 H) k=some box0→∃b box,lk (jV 1 H) k=some (b,nU box)∧lk s.hp b=some box∧box0=kY (lq 1 H) box:=
  fun k box0 hb=>EH (q9 hH) hb
 obtain⟨hin,aeo⟩:=Xt g h1 h1' h2 h3 (mK o5);have hargs:dh (aV c R s.hp) w s.hp R (first++(args++bF)) (fs.toList++(us++cs.toList)):=
  wu f1 (wu ((eF _ _ _ _ _ _).2 hv) f2)
 have O5:=ou h1 h2 aeo _ _ hargs;refine (NZ.2 _ _ w (fs++us.toArray++cs) hin (by simpa using O5)).mono ?_;rintro e w' ⟨v,r',abx,R2,rfl,⟨rfl,rfl⟩,hh,hr⟩
 obtain⟨g',hmap⟩:=Ro (id:=id) g h1 h1' (fun k b d hb=>let ⟨bx,c1,c2,_⟩:=h2 k b d hb;⟨bx,c1,c2⟩) (fun k b d hb x y z u e=>by
  obtain⟨bx,c1,_,c3⟩:=h2 k b d hb;rw[c1] at e;cases e;exact mK o5 k _ _ _ _ c3) (fun k p hk=>ve o1 hk) (fun b hb=>sU o2 b hb) o3 rfl (mK hnt) hh
 exact⟨v,_,_,_,_,rfl,h,g',hmap r' v hr⟩
theorem WB (g:bG c R s a w){fv:AV}{args:List AV}{id:Nat}{K:AV→List (Nat×aF)→List Nat→Prop}(h:gI P s.hp id (fv::args) K)
  {u:Value} {us:List Value} (hf:ak (aV c R s.hp) w s.hp R fv u) (hv:FL (ak (aV c R s.hp) w s.hp R) args us) :
  ∃f first bF,u=.func (.func f) first bF∧Enters P f∧Calls P f (first++us.toArray++bF) w fun e w'=>∃v z ws ids R',e=.returned v∧K z ws ids∧bG c R' (s.app ws) a w' ∧
   ak (aV c R' (ws++s.hp)) w' (ws++s.hp) R' z v:=by
 unfold gI at h;simp only at h;split at h;rotate_left;cases h
 rename_i f first bF hfn
 split at h;rotate_left;cases h
 rename_i H hH;split at h;rotate_left;cases h
 rename_i hpre;obtain⟨Q,NZ,h⟩:=h;obtain⟨fs,cs,rfl,f1,f2⟩:=EM hfn hf;refine⟨f,fs,cs,rfl,NZ.1,?_⟩;simp only[Bool.and_eq_true] at hpre;obtain⟨o4,o5⟩:=hpre;have h1:∀b k d,lk (lq 1 H) b=some (k,d)→lk (jV 1 H) k=some (b,d):=fun b k d hb=>(AY hb).2
 have h1':∀b k d,lk (jV 1 H) k=some (b,d)→lk (lq 1 H) b=some (k,d):=fun b k d hb=>xR o4 hb
 have h2:∀k b d,lk (jV 1 H) k=some (b,d)→∃box,lk s.hp b=some box∧d=nU box∧lk (uD (lq 1 H) 1 H) k=some (kY (lq 1 H) box):=
  fun k b d hb=>AZ (q9 hH) hb
 have h3:∀k box0,lk (uD (lq 1 H) 1 H) k=some box0→∃b box,lk (jV 1 H) k=some (b,nU box)∧lk s.hp b=some box∧box0=kY (lq 1 H) box:=
  fun k box0 hb=>EH (q9 hH) hb
 obtain⟨hin,aeo⟩:=Xt g h1 h1' h2 h3 (mK o5);have hargs:dh (aV c R s.hp) w s.hp R (first++(args++bF)) (fs.toList++(us++cs.toList)):=
  wu f1 (wu ((eF _ _ _ _ _ _).2 hv) f2)
 have O5:=ou h1 h2 aeo _ _ hargs;refine (NZ.2 _ _ w (fs++us.toArray++cs) hin (by simpa using O5)).mono ?_;rintro e w' ⟨v,r',abx,R2,rfl,hQ,hh,hr⟩
 have h:=h r' abx hQ;split at h;rotate_left;cases h
 rename_i hok;rw[zf,zh] at h;have hnt:=jf _ _ h;have h:=kT _ _ _ h;simp only[gOk,Bool.and_eq_true] at hok;obtain⟨o1,o2,o3,-,-⟩:=hok;obtain⟨g',hmap⟩:=Ro (id:=id) g h1 h1' (fun k b d hb=>let ⟨bx,c1,c2,_⟩:=h2 k b d hb;⟨bx,c1,c2⟩) (fun k b d hb x y z u e=>by
  obtain⟨bx,c1,_,c3⟩:=h2 k b d hb;rw[c1] at e;cases e;exact mK o5 k _ _ _ _ c3) (fun k p hk=>ve o1 hk) (fun b hb=>sU o2 b hb) o3 rfl (mK hnt) hh
 exact⟨v,_,_,_,_,rfl,h,g',hmap r' v hr⟩
end
def isNone {α:Type}:Option α→Bool
 |none=>true
 |some _=>false
def agF (T:Tab):Bool:=
 match T with
 |(a,_)::(b,_)::_=>Nat.beq a b
 |_=>false
def OL (tw:Bool)(rows:List (List PV))(b ver:Nat)(e:TypeId)(st:Nat)(l h:Option Int)(K:AV→List (Nat×aF)→Prop):Prop:=
 match l with
 | none=>match h with
   |none=>K (.aO b ver) []
   | some h=>match tw with
     |true=>0≤h∧h≤rows.length∧K (.sub b ver st 0 h.toNat) []
     |false=>0≤h∧h≤rows.length∧K (.aO b (ver+1)) [(b,.arr e (ver+1) st (rows.take h.toNat))]
 | some l=>match h with
   |none=>0≤l∧l≤rows.length∧K (.sub b ver st l.toNat rows.length) []
   |some h=>0≤h∧h≤rows.length∧0≤l∧l≤h∧K (.sub b ver st l.toNat h.toNat) []
def nS (T:Tab)(H:List (Nat×aF))(t:TypeId)(lo hi mx:Option Operand)(vs:List AV)(K:AV→List (Nat×aF)→Prop):Prop:=
 match vs with
 | .aO b ver::r=>match lk H b with
   | some (.arr e v st rows)=>match Nat.beq ver v with
     | true=>match isNone mx with
       | true=>match lk T t with
         | some i=>match i.d with
           | .slt et=>match lk T et with
             | some ei=>match Nat.beq st ei.size with
               | true=>match Du lo r with
                 | some (l,r1)=>match Du hi r1 with
                   |some (h,_)=>OL (agF T) rows b ver e st l h K
                   |none=>False
                 |none=>False
               |false=>False
             |none=>False
           |_=>False
         |none=>False
       |false=>mW T H t lo hi mx vs K
     |false=>False
   |_=>mW T H t lo hi mx vs K
 |_=>mW T H t lo hi mx vs K
def Ay (T:Tab)(H:List (Nat×aF))(t:TypeId)(x:AV)(K:AV→List (Nat×aF)→Prop):Prop:=
 match x with
 | .sub b ver st lo hi=>match lk H b with
   | some (.arr e v st' rows)=>match Nat.beq ver v with
     | true=>match Nat.beq st st' with
       | true=>match lk T t with
         | some i=>match i.d with
           | .slt et=>match lk T et with
             | some ei=>match Nat.beq st ei.size,zPV ei.zero with
               |true,some z=>K (.pv (.cO [])) [(b,.arr e v st' (rows.take lo++(List.replicate (hi-lo) z++rows.drop hi)))]
               |_,_=>False
             |none=>False
           |_=>False
         |none=>False
       |false=>False
     |false=>False
   |_=>False
 |_=>False
section
variable {P:Program}{T:Tab}{c:Ctx}{R:Real}{s:AS}{a:Act}{w:World}
theorem qj {N:Nat→Prop}{hp:List (Nat×aF)}{b:Nat}{e:TypeId}{ver st:Nat}{rows:List (List PV)}(h:dY N w hp R b (.arr e ver st rows))(hn:R.nil b=true):rows=[]:=by
 obtain⟨xs,⟨_,h3⟩,_⟩:=h;rcases h3 with ⟨_,h3⟩|⟨g',cap,cur,e1,_⟩
 ·exact List.eq_nil_of_length_eq_zero h3
 simp[dH,hn] at e1
theorem qD (g:bG c R s a w)(hT:bY P T){H:List (Nat×aF)}(hH:∀b box,lk H b=some box→lk s.hp b=some box){t:TypeId}{x0:Operand}{lo hi mx:Option Operand}{vs:List AV}
  {K:AV→List (Nat×aF)→Prop} (h:nS T H t lo hi mx vs K)
  (hv:FL (ak (aV c R s.hp) w s.hp R) vs ((x0::(lo.toList++(hi.toList++mx.toList))).map a.eval)) :
  ∃y z ws R',(Instr.sliceAt t (a.eval x0) (lo.map a.eval) (hi.map a.eval) (mx.map a.eval)).run P w=.ok y w∧K z ws∧bG c R' (s.app ws) a w∧ak (aV c R' (ws++s.hp)) w (ws++s.hp) R' z y:=by
 have old:mW T H t lo hi mx vs K→∃y z ws R',(Instr.sliceAt t (a.eval x0) (lo.map a.eval) (hi.map a.eval) (mx.map a.eval)).run P w=.ok y w∧K z ws∧bG c R' (s.app ws) a w∧ak (aV c R' (ws++s.hp)) w (ws++s.hp) R' z y:=fun h=>by
  obtain⟨y,z,ws,h1,h2,h3,h4⟩:=Gb g hT hH h hv;exact⟨y,z,ws,R,h1,h2,h3,h4⟩
 unfold nS at h;split at h
 ·rename_i b ver r;split at h
  ·rename_i e v st rows hb;split at h;rotate_left;cases h
   rename_i fD;have fD:=Nat.eq_of_beq_eq_true fD;split at h
   ·rename_i hmx;have hmx:mx=none:=by cases mx<;>simp_all [isNone]
    subst hmx;split at h;rotate_left;cases h
    rename_i i hi';obtain⟨d,hd,ig⟩:=(hT t i hi').gW;split at h;rotate_left;cases h
    rename_i et hte;have hd':P.underlying t=some (.slice et):=by
     rw[hte] at ig;cases d<;>simp[di] at ig
     subst ig;exact hd
    split at h;rotate_left;cases h
    rename_i ei pV;have iY:=hT _ _ pV;split at h;rotate_left;cases h
    rename_i hst;have hst:=Nat.eq_of_beq_eq_true hst;split at h;rotate_left;cases h
    rename_i l r1 hl;split at h;rotate_left;cases h
    rename_i hh r2 hhi;simp only[List.map_cons] at hv;obtain⟨u,r',e1,hx,hv⟩:=hv;simp only[List.cons.injEq] at e1;obtain⟨e1,rfl⟩:=e1;obtain⟨v1,hv⟩:=iI hv hl;obtain⟨v2,hv⟩:=iI (rest:=[]) (by simpa using hv) hhi;have hb':=hH _ _ hb;have hre:=g.boxes b _ hb';have hxr:=hx;simp only[ak,hb',aU] at hx;have hu:=hx.2.2 fD;have hrun:∀(k2:∀i,hh=some i→0≤i∧i≤rows.length) (k3:∀i,l=some i→0≤i∧i≤fV rows.length hh),
      (Instr.sliceAt t (a.eval x0) (lo.map a.eval) (hi.map a.eval) (Option.map a.eval none)).run P w=.ok (je st ((l.map Int.toNat).getD 0) (fV rows.length hh).toNat u) w ∧
       ((l.map Int.toNat).getD 0)≤(fV rows.length hh).toNat∧(fV rows.length hh).toNat≤rows.length:=by
     intro k2 k3;rw[e1,hu];cases hn:R.nil b with
     | true=>
       have hr0:=qj hre hn;subst hr0;obtain⟨hrun,q1,q2,q3⟩:=jg (P:=P) (w:=w) (Ub:=true) (len:=0) (cap:=0) (m:=none) v1 v2 (show vI none none from trivial) (Nat.le_refl _) (fun i e=>by cases e) (by simpa[fV] using k2) (by simpa using k3);refine⟨?_,q1,q2⟩;have hz:(fV 0 hh).toNat=0:=by omega
       have lz:(l.map Int.toNat).getD 0=0:=by omega
       simp only[Option.map_none,Option.getD_none,hz,lz] at hrun;simp only[Instr.sliceAt,Instr.slice,Sem.run_bind,run_underlying hd',Result.andThen_ok,dH,hn,if_true,Option.map_none,hrun,iY.run_sizeOf,Sem.run_pure];simp[je]
     | false=>
       obtain⟨cur,hg,hs,hle,hm,hr,_⟩:=gQ hre hn;obtain⟨hrun,q1,q2,q3⟩:=jg (P:=P) (w:=w) (Ub:=true) (len:=rows.length) (cap:=(R.cap b).1) (m:=none) v1 v2 (show vI none none from trivial) hle (fun i e=>by cases e) (by
        intro i hi;exact k2 i hi) (by simpa using k3)
       refine⟨?_,q1,q2⟩;simp only[Option.map_none,Option.getD_none] at hrun;simp only[Instr.sliceAt,Instr.slice,Sem.run_bind,run_underlying hd',Result.andThen_ok,dH,hn,Bool.false_eq_true,if_false,Option.map_none,hrun,iY.run_sizeOf,Sem.run_pure];simp only[je,hst];congr 2
       split<;>rfl
    have YR:∀(lo' hi':Nat),lo'≤hi'→hi'≤rows.length→ak (aV c R s.hp) w s.hp R (.sub b ver st lo' hi') (je st lo' hi' u):=by
     intro lo' hi' q1 q2;simp only[ak];refine⟨u,by simpa only[ak] using hxr,?_,rfl⟩;rw[hu];unfold dH;split
     ·rename_i hn;have:=qj hre hn;subst this;simp at q2;exact⟨by omega,by omega⟩
     exact⟨q1,q2⟩
    unfold OL at h;cases l with
    | none=>
      cases hh with
      | none=>
        obtain⟨h1,q1,q2⟩:=hrun (fun i e=>by cases e) (fun i e=>by cases e);refine⟨_,_,[],R,h1,h,g,?_⟩;have:je st 0 rows.length u=u:=by
         rw[hu];unfold dH;split
         ·rfl
         simp only[je,Nat.sub_zero,Nat.zero_mul];split<;>rfl
        simp only[Option.map_none,Option.getD_none,fV,Int.toNat_natCast];rw[this];exact hxr
      | some j=>
        simp only at h;split at h
        ·obtain⟨j0,j1,hK⟩:=h;obtain⟨h1,q1,q2⟩:=hrun (fun i e=>by cases e;exact⟨j0,j1⟩) (fun i e=>by cases e);refine⟨_,_,[],R,h1,hK,g,?_⟩;simp only[Option.map_none,Option.getD_none,fV] at q1 q2 ⊢;exact YR _ _ q1 q2
        obtain⟨j0,j1,hK⟩:=h;obtain⟨h1,q1,q2⟩:=hrun (fun i e=>by cases e;exact⟨j0,j1⟩) (fun i e=>by cases e);have hR:∀b',b'≠b→R.blk b'=R.blk b'∧R.nil b'=R.nil b'∧R.cap b'=R.cap b':=fun _ _=>⟨rfl,rfl,rfl⟩
        have hlen:(rows.take j.toNat).length=j.toNat:=by simp;omega
        obtain⟨xs,hxs,amv⟩:=hre;have hown2:∃ys,w.ownsRow 0 e st (dH R b (rows.take j.toNat).length) (rows.take j.toNat).length ys∧cK (aV c R s.hp) w st (rows.take j.toNat) ys:=by
         cases hn:R.nil b with
         | true=>
           have:=qj (g.boxes b _ hb') hn;subst this;exact⟨[],⟨by simp,.inl ⟨by simp[dH,hn],by simp⟩⟩,by simp[cK]⟩
         | false=>
           obtain⟨cur,hg,hs,hle,hm,hr,_⟩:=gQ (g.boxes b _ hb') hn;have hr2:=lN (i:=j.toNat) hr;obtain⟨t1,t2,t3⟩:=gG hr2;rw[hlen] at t1 t2;refine⟨cur.toList.take (j.toNat*st),⟨?_,.inr ⟨R.blk b,(R.cap b).1,cur,by simp[dH,hn],Nat.zero_le _,hg,?_,hm,hs,by rw[hlen]⟩⟩,t2⟩
           ·rw[List.length_take,hlen];omega
           rw[hlen];omega
        obtain⟨ys,ho,hr⟩:=hown2;obtain⟨g2,hr2⟩:=g.sj (b:=b) (e:=e) (ver:=ver+1) (st:=st) (rows:=rows.take j.toNat) (R':=R) (.inr ⟨_,_,_,_,hb',by omega⟩) hR (mr.refl _ w)
         (fun hn=>.inl (by rw[hb'];exact⟨hn,rfl⟩)) ho hr
        refine⟨_,_,_,R,h1,hK,g2,?_⟩;have:je st 0 j.toNat u=dH R b (rows.take j.toNat).length:=by
         rw[hu,hlen];unfold dH;split
         ·rfl
         simp only[je,Nat.sub_zero,Nat.zero_mul];split<;>rfl
        simp only[Option.map_none,Option.getD_none,fV];rw[this];exact hr2
    | some l=>
      cases hh with
      | none=>
        simp only at h;obtain⟨l0,l1,hK⟩:=h;obtain⟨h1,q1,q2⟩:=hrun (fun i e=>by cases e) (fun i e=>by cases e;exact⟨l0,by simpa[fV] using l1⟩);refine⟨_,_,[],R,h1,hK,g,?_⟩;simp only[Option.map_some,Option.getD_some,fV,Int.toNat_natCast] at q1 ⊢;exact YR _ _ q1 (Nat.le_refl _)
      | some j=>
        simp only at h;obtain⟨j0,j1,l0,l1,hK⟩:=h;obtain⟨h1,q1,q2⟩:=hrun (fun i e=>by cases e;exact⟨j0,j1⟩) (fun i e=>by cases e;exact⟨l0,by simpa[fV] using l1⟩);refine⟨_,_,[],R,h1,hK,g,?_⟩;simp only[Option.map_some,Option.getD_some,fV] at q1 q2 ⊢;exact YR _ _ q1 q2
   exact old h
  exact old h
 exact old h
theorem wS {b:Nat}{e:TypeId}{cur:Array Value}(vs:List Value)(off:Nat)(hg:w.heap[b]? = some (.cells cur e (0,0)))(hl:off+vs.length≤cur.size)(h1:∀u∈vs,u.oneCell'=true) :
  (storeCells ⟨b,off,none⟩ vs).run P w=.ok () (w.setRow b (cur.toList.take off++vs++cur.toList.drop (off+vs.length)).toArray):=by
 have:=run_storeCells_at P b off e vs 0 cur w hg (by simpa using hl) h1;simp only[Nat.add_zero] at this;simp[storeCells,this]
theorem bG.sameBox (g:bG c R s a w){b:Nat}{e:TypeId}{ver st:Nat}{rows:List (List PV)}(hb:lk s.hp b=some (.arr e ver st rows)):bG c R (s.app [(b,.arr e ver st rows)]) a w:=by
 have hR:∀b',b'≠b→R.blk b'=R.blk b'∧R.nil b'=R.nil b'∧R.cap b'=R.cap b':=fun _ _=>⟨rfl,rfl,rfl⟩
 have r1:∀off v,aY R b off v (lk s.hp b)→aY R b off v (some (.arr e ver st rows)):=fun off v h=>by rw[hb] at h;exact h
 have r2:∀eZ v,aU R b eZ v (lk s.hp b)→aU R b eZ v (some (.arr e ver st rows)):=fun _ v h=>by rw[hb] at h;exact h
 have r3:∀eZ i off v,bf R b eZ i off v (lk s.hp b)→bf R b eZ i off v (some (.arr e ver st rows)):=fun _ _ _ v h=>by rw[hb] at h;exact h
 have hown:∀r,aL R b r (some (.arr e ver st rows))→aL R b r (lk s.hp b)∨w.heap.size≤r:=fun r h=>by rw[hb];exact .inl h
 obtain⟨m1,m2,m3,m4,m5⟩:=g.Ga hR r1 r2 r3 hown (mr.refl _ w);refine g.upd hR r1 r2 r3 hown (mr.refl _ w) ?_;obtain⟨xs,hxs,hr⟩:=g.boxes b _ hb;exact⟨xs,hxs,aX m1 m2 _ _ _ hr⟩
theorem Jq (g:bG c R s a w)(hT:bY P T){H:List (Nat×aF)}(hH:∀b box,lk H b=some box→lk s.hp b=some box){t ty:TypeId}{x:AV}{u:Value}
  {K:AV→List (Nat×aF)→Prop} (h:Ay T H t x K) (hx:ak (aV c R s.hp) w s.hp R x u) :
  ∃z w' q ws,(Builtin.clear_ #[t] ty #[u]).run P w=.ok z w'∧K q ws∧bG c R (s.app ws) a w'∧ak (aV c R (ws++s.hp)) w' (ws++s.hp) R q z:=by
 unfold Ay at h;split at h;rotate_left;cases h
 rename_i b ver st lo hi;split at h;rotate_left;cases h
 rename_i e v st' rows hb;split at h;rotate_left;cases h
 rename_i fD;have fD:=Nat.eq_of_beq_eq_true fD;split at h;rotate_left;cases h
 rename_i hst;have hst:=Nat.eq_of_beq_eq_true hst;subst hst;split at h;rotate_left;cases h
 rename_i i hi';obtain⟨d,hd,ig⟩:=(hT t i hi').gW;split at h;rotate_left;cases h
 rename_i et hte;have hd':P.underlying t=some (.slice et):=by
  rw[hte] at ig;cases d<;>simp[di] at ig
  subst ig;exact hd
 split at h;rotate_left;cases h
 rename_i ei pV;have iY:=hT _ _ pV;split at h;rotate_left;cases h
 rename_i z hsz hz;have hsz:=Nat.eq_of_beq_eq_true hsz;have hz:=N9 hz;subst hz;have hb':=hH _ _ hb;have hre:=g.boxes b _ hb';simp only[ak,hb',aU] at hx;obtain⟨u0,hx,hok,rfl⟩:=hx;have hu:=hx.2.2 fD;subst hu;have hnone:hi-lo=0→(rows.take lo++(List.replicate (hi-lo) (ei.zero.map PV.sc)++rows.drop hi))=rows→lo≤hi →
   (∃p cap,je st lo hi (dH R b rows.length)=.slice p 0 cap)→∃z w' q ws,(Builtin.clear_ #[t] ty #[je st lo hi (dH R b rows.length)]).run P w=.ok z w'∧K q ws∧bG c R (s.app ws) a w'∧ak (aV c R (ws++s.hp)) w' (ws++s.hp) R q z:=by
  intro h0 hrows hle ⟨p,cap,hs⟩;rw[hrows] at h;refine⟨.tuple #[],w,_,_,?_,h,g.sameBox hb',?_⟩
  ·rw[hs];cases p<;>simp[Builtin.clear_,run_underlying hd']
  simp[ak,bJ,eY]
 cases hn:R.nil b with
 | true=>
   have hr0:=qj hre hn;subst hr0;simp only[dH,hn,if_true,oG,List.length_nil] at hok;have h1:lo=0:=by omega
   have h2:hi=0:=by omega
   subst h1;subst h2;refine hnone rfl (by simp) (Nat.le_refl _) ⟨none,0,by simp[dH,hn,je]⟩
 | false=>
   obtain⟨cur,hg,hs,hle,hm,hr,_⟩:=gQ hre hn;simp only[dH,hn,Bool.false_eq_true,if_false,oG] at hok;by_cases hlh:hi=lo
   ·subst hlh;refine hnone (by omega) (by simp) (Nat.le_refl _) ⟨some (if (R.cap b).1=hi then ⟨R.blk b,0,none⟩ else (⟨R.blk b,0,none⟩:Addr).add (hi*st)),(R.cap b).1-hi,by simp[dH,hn,je]⟩
   have hlt:lo<hi:=by omega
   obtain⟨zv,hz1,hz2,hz3⟩:=iY.qP w;have Wm:zv.cells.size=st:=by have:=iY.Wn;rw[←hz2] at this;rw[hsz];simpa using this
   have hcap:¬(R.cap b).1=lo:=by omega
   have hsub:je st lo hi (dH R b rows.length)=.slice (some ⟨R.blk b,lo*st,none⟩) (hi-lo) ((R.cap b).1-lo):=by
    have hadd:(⟨R.blk b,0,none⟩:Addr).add (lo*st)=⟨R.blk b,lo*st,none⟩:=by by_cases h0:lo*st=0<;>simp[Addr.add,h0]
    simp only[dH,hn,je,hcap,Bool.false_eq_true,if_false,hadd]
   have hzl:(Builtin.zeroCells zv.cells (hi-lo)).toList.length=(hi-lo)*st:=by simp[Builtin.zeroCells,Wm]
   have hmul:lo*st+(hi-lo)*st=hi*st:=by rw[←Nat.add_mul];congr 1;omega
   have hcs:hi*st≤cur.size:=by rw[hs];exact Nat.mul_le_mul_right _ (by omega)
   have adG:∀j,j<(hi-lo)*st→(Builtin.zeroCells zv.cells (hi-lo)).toList[j]? = (ei.zero)[j%st]? :=by
    intro j hj;have amx:0<st:=by
     rcases Nat.eq_zero_or_pos st with h0|h0
     ·rw[h0] at hj;simp at hj
     exact h0
    have hlt2:j%zv.cells.size<zv.cells.size:=Nat.mod_lt _ (by omega);have hmc:(Builtin.zeroCells zv.cells (hi-lo))[j]? = some (zv.cells[j%zv.cells.size]!):=by
     simp[Builtin.zeroCells,Wm,hj]
    rw[Array.getElem?_toList,hmc,getElem!_pos zv.cells _ hlt2,←hz2,Array.getElem?_toList,←Wm];exact (Array.getElem?_eq_getElem hlt2).symm
   have hone:∀u∈(Builtin.zeroCells zv.cells (hi-lo)).toList,u.oneCell'=true:=by
    intro u hu;obtain⟨j,hj,rfl⟩:=List.getElem_of_mem hu;have h1:=adG j (by rw[←hzl];exact hj);rw[List.getElem?_eq_getElem hj] at h1;have h2:=List.mem_of_getElem? h1.symm;exact List.all_eq_true.1 iY.SV _ h2
   have hrun:=wS (P:=P) (w:=w) (e:=e) (cur:=cur) (Builtin.zeroCells zv.cells (hi-lo)).toList (lo*st) hg (by rw[hzl,hmul];exact hcs) hone;rw[hzl,hmul] at hrun;refine⟨.tuple #[],w.setRow (R.blk b) (cur.toList.take (lo*st)++(Builtin.zeroCells zv.cells (hi-lo)).toList++cur.toList.drop (hi*st)).toArray,_,_,?_,h,?_,by simp[ak,bJ,eY]⟩
   ·rw[hsub];have hne:hi-lo≠0:=by omega
    obtain⟨k,hk⟩:∃k,hi-lo=k+1:=⟨hi-lo-1,by omega⟩;rw[hk] at hrun ⊢;simp only[Builtin.clear_,List.getElem?_toArray,List.getElem?_cons_zero,run_underlying hd',Sem.run_bind,Result.andThen_ok,hz1,hrun,Sem.run_pure]
   have hR:∀b',b'≠b→R.blk b'=R.blk b'∧R.nil b'=R.nil b'∧R.cap b'=R.cap b':=fun _ _=>⟨rfl,rfl,rfl⟩
   generalize hrows:(rows.take lo++(List.replicate (hi-lo) (ei.zero.map PV.sc)++rows.drop hi))=aS;have hll:aS.length=rows.length:=by rw[←hrows];simp;omega
   have r1:∀off v',aY R b off v' (lk s.hp b)→aY R b off v' (some (.arr e v st aS)):=fun off v h=>by rw[hb'] at h;exact h
   have r2:∀ver v',aU R b ver v' (lk s.hp b)→aU R b ver v' (some (.arr e v st aS)):=fun _ v h=>by rw[hb'] at h;simp only[aU,hll] at h ⊢;exact h
   have r3:∀ver i off v',bf R b ver i off v' (lk s.hp b)→bf R b ver i off v' (some (.arr e v st aS)):=fun _ _ _ v h=>by rw[hb'] at h;exact h
   have hown:∀r,aL R b r (some (.arr e v st aS))→aL R b r (lk s.hp b)∨w.heap.size≤r:=fun r h=>by rw[hb'];exact .inl h
   have hworld:mr (fun r=>aL R b r (lk s.hp b)) w (w.setRow (R.blk b) (cur.toList.take (lo*st)++(Builtin.zeroCells zv.cells (hi-lo)).toList++cur.toList.drop (hi*st)).toArray):=by
    refine (oI w _ _).mono ?_;rintro r rfl
    rw[hb'];exact⟨hn,rfl⟩
   obtain⟨m1,m2,m3,m4,m5⟩:=g.Ga hR r1 r2 r3 hown hworld;refine g.upd hR r1 r2 r3 hown hworld ?_;have hnew:cK (aV c R s.hp) w st aS (cur.toList.take (lo*st)++(Builtin.zeroCells zv.cells (hi-lo)).toList++cur.toList.drop (hi*st)):=by
    rw[←hrows,List.append_assoc];have p1:cK (aV c R s.hp) w st (rows.take lo) (cur.toList.take (lo*st)):=by
     obtain⟨_,t2,_⟩:=gG (lN (i:=lo) hr);rw[List.length_take,Nat.min_eq_left (by omega)] at t2;exact t2
    have p2:cK (aV c R s.hp) w st (List.replicate (hi-lo) (ei.zero.map PV.sc)) (Builtin.zeroCells zv.cells (hi-lo)).toList:=
     D9 (zs:=ei.zero) (Ea iY.SV) (by rw[List.length_map,iY.Wn,hsz]) _ _ (by rw[hzl];exact Nat.le_refl _) adG
    have hlo:lo*st≤cur.size:=by have:=Nat.mul_le_mul_right st (show lo≤hi by omega);omega
    refine jS p1 (by rw[List.length_take,List.length_take,Nat.min_eq_left (by simpa using hlo),Nat.min_eq_left (by omega)]) (jS p2 (by rw[hzl];simp) (mD hi hr))
   have XL:(cur.toList.take (lo*st)++(Builtin.zeroCells zv.cells (hi-lo)).toList++cur.toList.drop (hi*st)).length=cur.size:=by
    simp only[List.length_append,hzl,List.length_take,List.length_drop,Array.length_toList];omega
   obtain⟨t1,t2,t3⟩:=gG (aX m1 m2 _ _ _ hnew);refine⟨_,?_,t2⟩;have hsl:dH R b aS.length=.slice (some ⟨R.blk b,0,none⟩) rows.length ((R.cap b).1):=by simp[dH,hn,hll]
   rw[hsl,hll];rw[hll] at t1;refine⟨?_,.inr ⟨R.blk b,(R.cap b).1,_,rfl,Nat.zero_le _,setRow_heap w _ cur _ e _ hg,hle,hm,?_,by simp⟩⟩
   ·simp only[List.length_take];omega
   simp only[List.size_toArray,XL,hs]
end
def uN (f:AV→Option PV):List AV→Option (List PV)
 |[]=>some []
 | x::r=>match f x with
   | some p=>match uN f r with
     |some t=>some (p::t)
     |none=>none
   |none=>none
def XO (H:List (Nat×aF)):Nat→AV→Option PV
 |0,_=>none
 | n+1,x=>match x with
   |.pv p=>some p
   | .aO b ver=>match lk H b with
     | some (.gy e v st pre row post)=>match Nat.beq ver v with
       | true=>match uN (XO H n) row with
         |some ps=>some (.sl false st (pre++ps::post))
         |none=>none
       |false=>none
     | some (.iM e v st j ed sd pre row post)=>match Nat.beq ver v with
       | true=>match row with
         |[]=>some (.sl false st (pre.map (·.2)++post.map (·.2)))
         | _=>match uN (XO H n) row with
           |some ps=>some (.sl false st (pre.map (·.2)++ps::post.map (·.2)))
           |none=>none
       |false=>none
     |o=>uq o ver
   |.sub _ _ _ _ _=>some .junk
   |.dM _ _ _ _=>some .junk
   | .ptr b off=>match lk H b with
     | some (.var cells)=>match uN (XO H n) cells with
       |some ps=>some (.dL ps off)
       |none=>none
     |some (.nR cells)=>some (.dL cells off)
     |_=>none
   | .agg cs=>match uN (XO H n) cs with
     |some ps=>some (.agg ps)
     |none=>none
   | .cO cs=>match uN (XO H n) cs with
     |some ps=>some (.cO ps)
     |none=>none
   | .fn f a c=>match uN (XO H n) a,uN (XO H n) c with
     |some x,some y=>some (.fn f x y)
     |_,_=>none
section
variable {P:Program}{T:Tab}{c:Ctx}{R:Real}{s:AS}{a:Act}{w:World}
def Gx:Nat→Prop:=fun _=>False
theorem zx {f:AV→Option PV}{N:Nat→Prop}{hp:List (Nat×aF)}(hf:∀x p u,f x=some p→ak N w hp R x u→bJ Gx w p u) :
  ∀{xs:List AV} {ps:List PV} {us:List Value},uN f xs=some ps→FL (ak N w hp R) xs us→FL (bJ Gx w) ps us
 |[],ps,us,h,hx=>by simp only[uN,Option.some.injEq] at h;subst h;exact hx
 | x::xs,ps,us,h,hx=>by
   simp only[uN] at h;split at h
   ·rename_i p hp;split at h
    ·rename_i t ht;simp only[Option.some.injEq] at h;subst h;obtain⟨v,r,rfl,h1,h2⟩:=hx;exact⟨v,r,rfl,hf _ _ _ hp h1,zx hf ht h2⟩
    cases h
   cases h
theorem zy {f:AV→Option PV}{N:Nat→Prop}{hp:List (Nat×aF)}(hf:∀x p u,f x=some p→ak N w hp R x u→bJ Gx w p u) :
  ∀{xs:List AV} {ps:List PV} {us:List Value},uN f xs=some ps→FC (ak N w hp R) xs us→FC (bJ Gx w) ps us
 |[],ps,us,h,hx=>by simp only[uN,Option.some.injEq] at h;subst h;exact hx
 | x::xs,ps,us,h,hx=>by
   simp only[uN] at h;split at h
   ·rename_i p hp;split at h
    ·rename_i t ht;simp only[Option.some.injEq] at h;subst h;obtain⟨v,r,rfl,h0,h1,h2⟩:=hx;exact⟨v,r,rfl,h0,hf _ _ _ hp h1,zy hf ht h2⟩
    cases h
   cases h
theorem rC {N:Nat→Prop}{st j:Nat}{ed:TypeId}{sd:Nat}:∀{hs:List (Option Value)} {rs:List (Bool×List PV)} {xs:List Value},ic N w st j ed sd hs rs xs→cK Gx w st (rs.map (·.2)) xs
 |[],[],xs,_=>by simp only[List.map_nil,cK]
 |[],_::_,xs,h=>by simp only[ic] at h
 |_::_,[],xs,h=>by simp only[ic] at h
 | h::hs,(fl,r)::rs,xs,hh=>by
   simp only[ic] at hh;obtain⟨h1,h2,h3⟩:=hh;simp only[List.map_cons,cK];refine⟨h1,?_,rC h3⟩;cases h with
   | none=>cases fl with
     |false=>exact dQ (fun r _ h=>h.elim) (fun _ _ _=>rfl) _ _ h2
     |true=>exact h2.elim
   | some v=>cases fl with
     |false=>exact h2.elim
     | true=>
       obtain⟨rr,ys,a1,a0,a2,a3,a4⟩:=h2;have hv:bJ Gx w (.sl false sd rr) v:=by
        obtain⟨q1,q2⟩:=a3;simp only[bJ];rcases q2 with ⟨q2,q3⟩|⟨g',cap,cur,e1,_,hg,hle,hm,hs,ht⟩
        ·exact⟨none,0,0,q2,q3.symm,⟨Nat.le_refl _,by omega⟩,fun _=>⟨by trivial,by trivial⟩,fun ad ha=>by cases ha⟩
        refine⟨_,_,_,e1,rfl,⟨hle,by unfold maxLen at hm;omega⟩,fun hp=>(by cases hp),fun ad ha=>?_⟩;cases ha;refine .inr ⟨rfl,fun h=>h.elim,cur,_,_,hg,?_⟩;have a5:=aX (N':=Gx) (fun r _ h=>h.elim) (fun _ _ _=>rfl) _ _ _ a4;have:=oH (cur.toList.drop (rr.length*sd)) a5;rw[←ht,List.take_append_drop] at this;simpa using this
       have a6:=dQ (N':=Gx) (fun r _ h=>h.elim) (fun _ _ _=>rfl) _ _ a2;have:∀(r:List PV) (j:Nat) (xs:List Value),r[j]? = some (.sl false sd rr)→gU Gx w (r.set j (.sc v)) xs→gU Gx w r xs:=by
        intro r;induction r with
        |nil=>intro j xs h _;simp at h
        | cons p r ih=>
          intro j xs h h';cases j with
          | zero=>
            simp only[List.getElem?_cons_zero,Option.some.injEq] at h;subst h;simp only[List.set_cons_zero,gU] at h' ⊢;obtain⟨u,t,e,b1,b2,b3⟩:=h';simp only[bJ] at b2;subst b2;exact⟨u,t,e,b1,hv,b3⟩
          | succ j=>
            simp only[List.getElem?_cons_succ] at h;simp only[List.set_cons_succ,gU] at h' ⊢;obtain⟨u,t,e,b1,b2,b3⟩:=h';exact⟨u,t,e,b1,b2,ih j _ h b3⟩
       exact this r j xs a1 a6
theorem ES {N:Nat→Prop}{st:Nat}:∀{a b:List (List PV)} {xs:List Value},cK N w st a xs→cK N w st b (xs.drop (a.length*st))→cK N w st (a++b) xs
 |[],b,xs,_,h=>by simpa using h
 | x::a,b,xs,h,h'=>by
   simp only[List.cons_append,cK] at h ⊢;refine⟨h.1,h.2.1,ES h.2.2 ?_⟩;rw[List.drop_drop,show st+a.length*st=(x::a).length*st by rw[List.length_cons,Nat.succ_mul];omega];exact h'
theorem Bb (g:bG c R s a w){H:List (Nat×aF)}(hH:∀b box,lk H b=some box→lk s.hp b=some box) :
  ∀(n:Nat) (x:AV) (p:PV) (u:Value),XO H n x=some p→ak (aV c R s.hp) w s.hp R x u→bJ Gx w p u
 |0,x,p,u,h,_=>by simp[XO] at h
 | n+1,x,p,u,h,hx=>by
   have ih:=fun x p u=>Bb g hH n x p u
   simp only[XO] at h;split at h
   ·simp only[Option.some.injEq] at h;subst h;simp only[ak] at hx;exact dJ (fun r _ h=>h.elim) (fun _ _ _=>rfl) _ _ hx
   ·rename_i b ver;simp only[ak] at hx;split at h
    ·rename_i e v st pre row post hb;have hb':=hH _ _ hb;split at h
     ·rename_i fD;split at h
      ·rename_i ps hps;simp only[Option.some.injEq] at h;subst h;rw[hb'] at hx;have hu:=hx.2.2 (Nat.eq_of_beq_eq_true fD);subst hu;obtain⟨xs,k1,k2,k3,k4,k5⟩:=g.boxes b _ hb';have hFC:=(bM _ _ _ _ _ _).1 k4;have qA:=zy ih hps hFC;have hl:(pre++ps::post).length=pre.length+(1+post.length):=by simp[Nat.add_comm]
       have hrows:cK Gx w st (pre++ps::post) xs:=by
        have mid:∀{pre:List (List PV)} {row:List PV} {post:List (List PV)} {xs:List Value},cK Gx w st pre xs→row.length=st→gU Gx w row (xs.drop (pre.length*st)) →
          cK Gx w st post ((xs.drop (pre.length*st)).drop st)→cK Gx w st (pre++row::post) xs:=by
         intro pre;induction pre with
         |nil=>intro row post xs h h1 h2 h3;simp only[List.nil_append,cK];exact⟨h1,by simpa using h2,by simpa using h3⟩
         | cons p pre ih=>
           intro row post xs h h1 h2 h3;simp only[cK] at h;obtain⟨a1,a2,a3⟩:=h;have e:xs.drop ((p::pre).length*st)=(xs.drop st).drop (pre.length*st):=by
            rw[List.drop_drop,show (p::pre).length*st=st+pre.length*st by rw[List.length_cons,Nat.add_mul];omega]
           rw[e] at h2 h3;simp only[List.cons_append,cK];exact⟨a1,a2,ih a3 h1 h2 h3⟩
        refine mid (aX (fun r _ h=>h.elim) (fun _ _ _=>rfl) _ _ _ k2) (by rw[←qA.length,hFC.length];exact k3) ?_ (aX (fun r _ h=>h.elim) (fun _ _ _=>rfl) _ _ _ k5);have:=(qA.fp).app ((xs.drop (pre.length*st)).drop st);rw[List.take_append_drop] at this;rw[dN];exact this
       obtain⟨q1,q2⟩:=k1;simp only[bJ];rcases q2 with ⟨q2,q3⟩|⟨g',cap,cur,e1,_,hg,hle,hm,hs,ht⟩
       ·omega
       refine⟨_,_,_,e1,hl.symm,⟨hle,by unfold maxLen at hm;omega⟩,fun hp=>(by cases hp),fun ad ha=>?_⟩;cases ha;refine .inr ⟨rfl,fun h=>h.elim,cur,_,_,hg,?_⟩;have:=oH (cur.toList.drop ((pre.length+(1+post.length))*st)) hrows;rw[←ht,List.take_append_drop] at this;simpa using this
      cases h
     cases h
    ·rename_i e v st j ed sd pre row post hb;have hb':=hH _ _ hb;split at h
     ·rename_i fD;rw[hb'] at hx;have hu:=hx.2.2 (Nat.eq_of_beq_eq_true fD);subst hu;obtain⟨xs,hs1,hs2,a1,k1,k2,k3,k4,k5,k6⟩:=g.boxes b _ hb';have fin:∀rows:List (List PV),rows.length=pre.length+(gZ row+post.length)→cK Gx w st rows xs→bJ Gx w (.sl false st rows) (dH R b (pre.length+(gZ row+post.length))):=by
       intro rows hl hrows;obtain⟨q1,q2⟩:=k1;simp only[bJ];rcases q2 with ⟨q2,q3⟩|⟨g',cap,cur,e1,_,hg,hle,hm,hs,ht⟩
       ·refine⟨none,0,0,q2,by omega,⟨Nat.le_refl _,by omega⟩,fun _=>⟨by trivial,by trivial⟩,fun ad ha=>by cases ha⟩
       refine⟨_,_,_,e1,hl.symm,⟨hle,by unfold maxLen at hm;omega⟩,fun hp=>(by cases hp),fun ad ha=>?_⟩;cases ha;refine .inr ⟨rfl,fun h=>h.elim,cur,_,_,hg,?_⟩;have:=oH (cur.toList.drop ((pre.length+(gZ row+post.length))*st)) hrows;rw[←ht,List.take_append_drop] at this;simpa using this
      split at h
      ·simp only[Option.some.injEq] at h;subst h;refine fin _ (by simp[gZ]) (ES (rC k2) ?_);rw[List.length_map];simpa[gZ] using rC k5
      rename_i row' hne;split at h
      ·rename_i ps hps;simp only[Option.some.injEq] at h;subst h;have hFC:=(bM _ _ _ _ _ _).1 k4;have qA:=zy ih hps hFC;have hO:gZ row=1:=by cases row with|nil=>exact absurd rfl hne|cons _ _=>rfl
       rw[hO,Nat.one_mul] at k3 k5 qA hFC;refine fin _ (by rw[hO];simp[Nat.add_comm]) (ES (rC k2) ?_);simp only[cK,List.length_map];refine⟨by rw[←qA.length,hFC.length];exact k3,?_,rC k5⟩;have:=(qA.fp).app ((xs.drop (pre.length*st)).drop st);rw[List.take_append_drop] at this;rw[dN];exact this
      cases h
     cases h
    rename_i o _ _;cases hb:lk H b with
    |none=>rw[hb] at h;cases h
    | some box=>
      rw[hb,←hH _ _ hb] at h;exact oZ g h (fun r h=>h.elim) (fun r _ h=>h.elim) hx
   ·simp only[Option.some.injEq] at h;subst h;simp only[bJ]
   ·simp only[Option.some.injEq] at h;subst h;simp only[bJ]
   ·rename_i b off;simp only[ak] at hx;split at h
    ·rename_i cells hb;split at h
     ·rename_i ps hps;simp only[Option.some.injEq] at h;subst h;have hb':=hH _ _ hb;rw[hb'] at hx;simp only[aY] at hx;subst hx;obtain⟨cur,e,hg,hc⟩:=g.boxes b _ hb';rw[bM] at hc;have hc':=zy ih hps hc;simp only[bJ];refine⟨R.blk b,0,cur,e,(0,0),by simp,fun h=>h.elim,hg,?_⟩;rw[dN];simpa using hc'.fp
     cases h
    ·rename_i cells hb;simp only[Option.some.injEq] at h;subst h;have hb':=hH _ _ hb;rw[hb'] at hx;exact Cm (N':=Gx) g (b:=b) (off:=off) (by rw[hb'];rfl) (fun r h=>h.elim) (fun r _ h=>h.elim) (by rw[hb'];exact hx)
    cases h
   ·split at h
    ·rename_i ps hps;simp only[Option.some.injEq] at h;subst h;simp only[ak] at hx;obtain⟨vs,rfl,hx⟩:=hx;rw[bM] at hx;simp only[bJ];refine⟨vs,rfl,?_⟩;rw[gM];exact zy ih hps hx
    cases h
   ·split at h
    ·rename_i ps hps;simp only[Option.some.injEq] at h;subst h;simp only[ak] at hx;obtain⟨vs,rfl,hx⟩:=hx;rw[eF] at hx;simp only[bJ];refine⟨vs,rfl,?_⟩;rw[jk];exact zx ih hps hx
    cases h
   split at h
   ·rename_i x y hx' hy';simp only[Option.some.injEq] at h;subst h;simp only[ak] at hx;obtain⟨fs,cs,rfl,h1,h2⟩:=hx;rw[eF] at h1 h2;simp only[bJ];refine⟨fs,cs,rfl,?_,?_⟩
    ·rw[jk];exact zx ih hx' h1
    rw[jk];exact zx ih hy' h2
   cases h
def Q7 (hp:List (Nat×aF))(vs:List AV):Bool:=
 match vs with
 | .pv _::args=>match kG hp (fq args) with
   | some H=>match GL H args with
     |some _=>false
     |none=>true
   |none=>true
 |_=>true
def dC (P:Program)(hp:List (Nat×aF))(vs:List AV)(K:AV→List (Nat×aF)→List Nat→Prop):Prop:=
 match ze hp 100 (fq vs) [] with
 | ids=>match kG hp ids with
   | some H=>match uN (XO H 9) vs with
     | some (.fn (.func f) first bF::ps)=>∃r,dB P f (first++(ps++bF)) r∧match Dn r with
       |true=>K (.pv r) [] (fq vs++ids)
       |false=>False
     |_=>False
   |none=>False
theorem zA {hp:List (Nat×aF)}:∀{ids:List Nat} {H:List (Nat×aF)},kG hp ids=some H→∀b box,lk H b=some box→lk hp b=some box
 |[],H,h=>by simp only[kG,Option.some.injEq] at h;subst h;intro b box hb;simp[lk] at hb
 | i::r,H,h=>by
   simp only[kG] at h;split at h
   ·rename_i bx hbx;split at h
    ·rename_i t ht;simp only[Option.some.injEq] at h;subst h;intro b box hb;rw[aC] at hb;split at hb
     ·rename_i e;simp only[Option.some.injEq] at hb;subst hb;first|(rw[←e];exact hbx)|(subst e;exact hbx)|simp_all
     exact zA ht b box hb
    cases h
   cases h
theorem WC (g:bG c R s a w){fv:AV}{args:List AV}{K:AV→List (Nat×aF)→List Nat→Prop}(h:dC P s.hp (fv::args) K)
  {u:Value} {us:List Value} (hf:ak (aV c R s.hp) w s.hp R fv u) (hv:FL (ak (aV c R s.hp) w s.hp R) args us) :
  ∃f first bF,u=.func (.func f) first bF∧Enters P f∧Calls P f (first++us.toArray++bF) w fun e w'=>∃v z ws ids R',e=.returned v∧K z ws ids∧bG c R' (s.app ws) a w' ∧
   ak (aV c R' (ws++s.hp)) w' (ws++s.hp) R' z v:=by
 unfold dC at h;simp only at h;split at h;rotate_left;cases h
 rename_i H hH;have hH:=zA hH;split at h;rotate_left;cases h
 rename_i f first bF ps hm
 obtain⟨r,hpc,h⟩:=h;simp only[uN] at hm;split at hm
 ·rename_i p hp;split at hm
  ·rename_i t ht;simp only[Option.some.injEq,List.cons.injEq] at hm;obtain⟨rfl,rfl⟩:=hm;have h1:=Bb g hH 9 _ _ _ hp hf;simp only[bJ] at h1;obtain⟨fs,cs,rfl,hf1,hf2⟩:=h1;have h2:=zx (Bb g hH 9) ht hv;refine⟨f,fs,cs,rfl,hpc.1,?_⟩;have hargs:eY Gx w (first++(t++bF)) (fs++us.toArray++cs).toList:=by
    rw[jk] at hf1 hf2 ⊢;have e:(fs++us.toArray++cs).toList=fs.toList++(us++cs.toList):=by simp
    rw[e];exact hf1.app (h2.app hf2)
   refine (hpc.2 Gx w _ (fun r h=>h.elim) hargs).mono ?_;rintro e w' ⟨v,r',rfl,rfl,hr,hsame⟩
   have g2:=g.grow hsame;split at h;rotate_left;cases h
   rename_i hs;refine⟨v,_,[],_,R,rfl,h,g2,?_⟩;simp only[ak];exact yY _ _ hs hr
  cases hm
 cases hm
end
def W1 (ro:Option Nat):Fence:={ Fence.wide with round:=ro }
theorem FB {ro:Option Nat}{n:Nat}{P:Program}{f:FuncId}{args:Array Value}{w:World}{R:Ending→World→Prop}(h:Calls P f args w R):CallsIn (W1 ro) n P f args w R:=
 (callsIn_wide (n:=n)).2 h
theorem UK {n:Nat}{P:Program}{row:String}{args:Array Value}{w:World}{R:Value→World→Prop}(h:Rows P row args w R):RowsIn Fence.wide n P row args w R:=
 fun c cs _=>let ⟨v,w',r,s⟩:=h c cs;⟨v,w',r,stepsIn_wide.2 s⟩
theorem UL {ro:Option Nat}{n:Nat}{P:Program}{row:String}{args:Array Value}{w:World}{R:Value→World→Prop}(h:Rows P row args w R):RowsIn (W1 ro) n P row args w R:=
 UK (n:=n) h
theorem mI {P:Program}{o:Oper}{a:Act}{w:World}{next:Act→World→Prop}{Q:Exit→Act→World→Prop}(ro:Option Nat)(hnd:∀c,o.op ≠ .defer c)(h:o.wp P a w next Q) :
  o.wpIn (W1 ro) 0 P a w next Q:=by
 have he:Oper.semAt ro a.eval o=execOp a.eval o:=by
  cases ro with
  |none=>rfl
  |some l=>exact Oper.semAt_some l _ _ hnd
 refine⟨fun _ _=>trivial,?_⟩;show o.uponIn (W1 ro) 0 P a next Q ((Oper.semAt ro a.eval o).run P w)
 rw[he];unfold Oper.wp at h;generalize (execOp a.eval o).run P w=res at h;cases res with
 | ok x w'=>
   cases x<;>simp only[Oper.upon] at h<;>simp only[Oper.uponIn]<;>first
    |exact h
    |exact⟨fun e=>(by cases e),FB h⟩
    |exact⟨fun e=>(by cases e),UL h⟩
    |exact h.elim
 |halt x w'=>cases x<;>simp only[Oper.upon] at h<;>simp only[Oper.uponIn]<;>exact h
theorem vW:∀{vs:List AV} {ps:List PV},ji vs=some ps→vs=ps.map .pv
 |[],ps,h=>by simp only[ji,Option.some.injEq] at h;subst h;rfl
 | v::r,ps,h=>by
   cases v<;>simp only[ji] at h<;>try (cases h;done)
   split at h
   ·rename_i t ht;simp only[Option.some.injEq] at h;subst h;rw[vW ht];rfl
   cases h
theorem qc {N:Nat→Prop}{w:World}{hp:List (Nat×aF)}{R:Real}:∀(ps:List PV) (xs:List Value),dh N w hp R (ps.map .pv) xs→eY N w ps xs
 |[],xs,h=>by simpa only[List.map,dh,eY] using h
 | p::ps,xs,h=>by
   simp only[List.map_cons,dh,ak] at h;simp only[eY];obtain⟨v,r,e,h1,h2⟩:=h;exact⟨v,r,e,h1,qc ps r h2⟩
def isY (vs:List AV):Bool:=
 match vs with
 | v::_=>match v with
   | .pv p=>match p with
     | .fn f _ _=>match f with
       |.yield _=>true
       |_=>false
     |_=>false
   |_=>false
 |[]=>false
def yC (P:Program)(hp:List (Nat×aF))(vs:List AV)(K:AV→List (Nat×aF)→List Nat→Prop):Prop:=
 match vs with
 | .pv (.fn (.yield l) [] [])::args=>match lk hp 999 with
   | some (.tr y ver rest st)=>match st with
     | some b=>match b with
       | false=>match ji args with
         |some ps=>y=(P,l)∧∃x r,rest=x::r∧kH x ps∧K (.dM 999 (ver+1) 0 0) [(999,.tr y (ver+1) r none)] [999]
         |none=>False
       |true=>False
     |none=>False
   |_=>False
 |_=>False
section
variable {P:Program}{c:Ctx}{R:Real}{s:AS}{a:Act}{w:World}
def lm (c:Ctx)(R:Real)(hp:List (Nat×aF))(r:Nat):Prop:=aV c R hp r∧¬R.Y.D r
def yR (R:Real)(b:Bool)(Z D:Nat→Prop)(w:World):Real:=
 { R with nil:=fun b'=>if b'=999 then b else R.nil b',Y:={ R.Y with Z:=Z,D:=D,wy:=w } }
theorem bG.yielded (g:bG c R s a w){y:Program×Nat}{ver:Nat}{rest r:List (List PV)}{w':World}{D':Nat→Prop}{b:Bool}
  (h9:lk s.hp 999=some (.tr y ver rest (some false))) (hE:mr R.Y.D w w') (hD1:∀r,D' r→R.Y.D r∨w.heap.size≤r) (hD2:∀r,D' r→r<w'.heap.size)
  (hJ:R.Y.n0.2 r (!b) (lm c R s.hp) D' w') :
  bG c (yR R b (lm c R s.hp) D' w') (s.app [(999,.tr y (ver+1) r none)]) a w' ∧
   ak (aV c (yR R b (lm c R s.hp) D' w') ((999,.tr y (ver+1) r none)::s.hp)) w' ((999,.tr y (ver+1) r none)::s.hp) (yR R b (lm c R s.hp) D' w') (.dM 999 (ver+1) 0 0) (.bool b):=by
 generalize hbx:aF.tr y (ver+1) r none=bL;obtain⟨R',hR'⟩:∃R',R'=yR R b (lm c R s.hp) D' w':=⟨_,rfl⟩;rw[←hR'];have k:=g.boxes 999 _ h9;obtain⟨-,kh,k1,k2,k3,k4⟩:=k;have ug:lk ((999,bL)::s.hp) 999=some bL:=by rw[aC,if_pos rfl]
 have sN:∀b',b'≠999→lk ((999,bL)::s.hp) b'=lk s.hp b':=fun b' h=>by rw[aC,if_neg (fun e=>h e.symm)]
 have hR:∀b',b'≠999→R'.blk b'=R.blk b'∧R'.nil b'=R.nil b'∧R'.cap b'=R.cap b':=fun b' h=>by subst hR';simp[yR,h]
 have hRY:R'.Y={ R.Y with Z:=lm c R s.hp,D:=D',wy:=w' }:=by subst hR';rfl
 have ahn:∀r,aL R 999 r (lk s.hp 999)=R.Y.D r:=fun r=>by rw[h9];rfl
 have adJ:∀r,aL R' 999 r (some bL)=D' r:=fun r=>by subst hbx;simp only[aL,hRY]
 have ntr:∀b' box,b'≠999→lk s.hp b'=some box→∀x1 x2 x3 x4,box ≠ .tr x1 x2 x3 x4:=by
  rintro b' box hne hb x1 x2 x3 x4 rfl
  exact hne (g.boxes b' _ hb).1
 have UM:∀b' r,b'≠999→aL R' b' r (lk s.hp b')→aL R b' r (lk s.hp b'):=by
  intro b' q hne h;cases hb:lk s.hp b' with
  |none=>rw[hb] at h;exact h.elim
  | some box=>
    rw[hb] at h;have hn:=ntr b' box hne hb;obtain⟨e1,e2,e3⟩:=hR b' hne;cases box<;>simp only[aL,e1,e2,e3] at h ⊢ <;> first
     |exact h
     |exact absurd rfl (hn _ _ _ _)
 have amD:∀b' r,b'≠999→aL R b' r (lk s.hp b')→aL R' b' r (lk s.hp b'):=by
  intro b' q hne h;cases hb:lk s.hp b' with
  |none=>rw[hb] at h;exact h.elim
  | some box=>
    rw[hb] at h;have hn:=ntr b' box hne hb;obtain⟨e1,e2,e3⟩:=hR b' hne;cases box<;>simp only[aL,e1,e2,e3] at h ⊢ <;> first
     |exact h
     |exact absurd rfl (hn _ _ _ _)
 have hworld:mr (fun r=>aL R 999 r (lk s.hp 999)) w w':=hE.mono fun r h=>by rw[ahn];exact h
 have hown:∀r,aL R' 999 r (some bL)→aL R 999 r (lk s.hp 999)∨w.heap.size≤r:=fun r h=>by rw[adJ] at h;rw[ahn];exact hD1 r h
 have JA:∀r,owned R' ((999,bL)::s.hp) r→owned R s.hp r∨w.heap.size≤r:=by
  rintro r ⟨b',h⟩
  by_cases e:b'=999
  ·subst e;rw[ug] at h;exact (hown r h).imp (fun x=>⟨999,x⟩) id
  rw[sN b' e] at h;exact .inl ⟨b',UM b' r e h⟩
 have hN:∀r,r<w.heap.size→aV c R' ((999,bL)::s.hp) r→aV c R s.hp r:=by
  rintro r hr (h|h)
  ·exact .inl h
  exact .inr ((JA r h).resolve_right (by omega))
 have hw:∀r,r<w.heap.size→¬aV c R s.hp r→w'.heap[r]? = w.heap[r]? :=fun r hr hn=>hworld.keep r hr fun x=>hn (.inr ⟨999,x⟩)
 have p1:∀b' off v,aY R b' off v (lk s.hp b')→aY R' b' off v (lk ((999,bL)::s.hp) b'):=fun b' off v h=>by
  by_cases e:b'=999
  ·subst e;rw[h9] at h;exact h.elim
  rw[sN b' e];exact lT (hR b' e) h
 have p2:∀b' ver v,aU R b' ver v (lk s.hp b')→aU R' b' ver v (lk ((999,bL)::s.hp) b'):=fun b' ver v h=>by
  by_cases e:b'=999
  ·subst e;rw[h9] at h;exact h.elim
  rw[sN b' e];exact ng (hR b' e) h
 have p3:∀b' ver i off v,bf R b' ver i off v (lk s.hp b')→bf R' b' ver i off v (lk ((999,bL)::s.hp) b'):=fun b' ver i off v h=>by
  by_cases e:b'=999
  ·subst e;rw[h9] at h;rw[ug];subst hbx;simp only[bf] at h ⊢;exact⟨by omega,h.2.1,fun e=>by omega⟩
  rw[sN b' e];exact ni (hR b' e) h
 have hwo:∀r,r<w.heap.size→¬owned R s.hp r→w'.heap[r]? = w.heap[r]? :=fun r hr hn=>hworld.keep r hr fun x=>hn ⟨999,x⟩
 have hoo:∀r,r<w.heap.size→owned R' ((999,bL)::s.hp) r→owned R s.hp r:=fun r hr h=>(JA r h).resolve_right (by omega)
 refine⟨⟨?_,g.size,⟨by rw[hRY];exact g.lo.1,g.lo.2.1,Nat.le_trans g.lo.2.2 hE.size⟩,g.marks.imp fun Ds h=>h.kept hwo hoo,g.fixed.kept hwo hoo,?_,?_,?_,?_,?_,fun v x h=>dF hN hw p1 p2 p3 v x (g.kept v x h)⟩,?_⟩
 ·intro t v h;obtain⟨x,hx,hv⟩:=g.slots t v h;exact⟨x,hx,dF hN hw p1 p2 p3 v x hv⟩
 ·intro b' box h;by_cases e:b'=999
  ·subst e;simp only[AS.app,List.singleton_append,ug,Option.some.injEq] at h;subst h;subst hbx;simp only[dY,hRY];refine⟨trivial,kh,?_,Dj.refl _ _ _ _,hD2,fun q hn=>?_⟩
   ·have:R'.nil 999=b:=by subst hR';simp[yR]
    rw[this];exact hJ
   rcases hn with hn|⟨b2,ho⟩
   ·refine .inr (.inl ⟨.inl hn,fun hd=>?_⟩);exact g.free q ⟨999,by rw[h9];exact hd⟩ hn
   simp only[AS.app,List.singleton_append] at ho;by_cases e2:b2=999
   ·subst e2;rw[ug,adJ] at ho;exact .inl ho
   rw[sN b2 e2] at ho;have ho':=UM b2 q e2 ho;exact .inr (.inl ⟨.inr ⟨b2,ho'⟩,fun hd=>e2 (g.inj b2 999 q ho' (by rw[h9];exact hd))⟩)
  simp only[AS.app,List.singleton_append,sN b' e] at h;have hr:=g.boxes b' box h;have hRb:=hR b' e;have hkeep:∀r,aL R b' r (lk s.hp b')→w'.heap[r]? = w.heap[r]? :=fun r ho=>
   hworld.keep r (g.kM ho) fun x=>e (g.inj b' 999 r ho x)
  rw[h] at hkeep;cases box with
  | var cells=>
    obtain⟨cur,e',h8,h9⟩:=hr;refine⟨cur,e',?_,bK hN hw p1 p2 p3 _ _ h9⟩;rw[hRb.1,hkeep _ rfl];exact h8
  | nR cells=>
    obtain⟨cur,e',fr,h8,h7,h9⟩:=hr;have hs:=size_of_getElem? h8;refine⟨cur,e',fr,?_,?_,dQ hN hw _ _ h9⟩
    ·rw[hRb.1,hw _ hs h7];exact h8
    rw[hRb.1];exact fun x=>h7 (hN _ hs x)
  | arr e' ver st rows=>
    obtain⟨xs,h8,h9⟩:=hr;refine⟨xs,?_,aX hN hw _ _ _ h9⟩;rw[jA hRb];refine dZ h8 fun k hk=>hkeep k ?_
    simp only[dH] at hk;cases hnil:R.nil b' with
    |true=>simp[hnil,Value.ownBlock] at hk
    |false=>simp[hnil,Value.ownBlock] at hk;exact⟨hnil,hk⟩
  | dS ver st rows=>
    simp only[dY,jA hRb] at hr ⊢;exact dJ hN hw _ _ hr
  |tr _ _ _ _=>exact absurd rfl (ntr b' _ e h _ _ _ _)
  | mp kk kv es=>
    obtain⟨cur,clock,h8,h9,h10⟩:=hr;exact⟨cur,clock,by rw[hRb.1,hkeep _ ⟨h9,rfl⟩];exact h8,by rw[hRb.2.1];exact h9,h10⟩
  |iM e' ver st j ed sd pre row post=>exact iQ hN hw hRb.1 hRb.2.1 hRb.2.2 (fun k hk=>hkeep k hk) rfl (fun vs h=>bK hN hw p1 p2 p3 _ _ h) hr
  | gy e' ver st pre row post=>
    obtain⟨xs,h8,h9,h10,h11,h12⟩:=hr;refine⟨xs,?_,aX hN hw _ _ _ h9,h10,bK hN hw p1 p2 p3 _ _ h11,aX hN hw _ _ _ h12⟩;rw[jA hRb];refine dZ h8 fun k hk=>hkeep k ?_
    simp only[dH] at hk;cases hnil:R.nil b' with
    |true=>simp[hnil,Value.ownBlock] at hk
    |false=>simp[hnil,Value.ownBlock] at hk;exact⟨hnil,hk⟩
 ·intro b1 b2 q h1 h2;simp only[AS.app,List.singleton_append] at h1 h2;by_cases e1:b1=999
  ·by_cases e2:b2=999
   ·rw[e1,e2]
   subst e1;simp only[ug,sN b2 e2] at h1 h2;have h2':=UM b2 q e2 h2;have hlt:=g.kM h2';exact g.inj _ _ q ((hown q h1).resolve_right (by omega)) h2'
  by_cases e2:b2=999
  ·subst e2;simp only[ug,sN b1 e1] at h1 h2;have h1':=UM b1 q e1 h1;have hlt:=g.kM h1';exact g.inj _ _ q h1' ((hown q h2).resolve_right (by omega))
  simp only[sN b1 e1,sN b2 e2] at h1 h2;exact g.inj _ _ q (UM b1 q e1 h1) (UM b2 q e2 h2)
 ·intro q h hF;rcases JA q h with h|h
  ·exact g.free q h hF
  have:=c.hF q hF;have:=g.jE.size;omega
 ·refine g.jE.trans hworld fun q hr ho=>?_
  exact (g.iw q ⟨999,ho⟩).resolve_right (by omega)
 ·intro q h;rcases JA q h with h|h
  ·exact g.iw q h
  exact .inr (Nat.le_trans g.jE.size h)
 simp only[ak,ug];subst hbx;simp only[bf];have:R'.nil 999=b:=by subst hR';simp[yR]
 exact⟨Nat.le_refl _,rfl,fun _ _=>by rw[this];cases b<;>rfl⟩
end
section
variable {P:Program}{T:Tab}{c:Ctx}
theorem bG.congr {R:Real}{tm tm':List (Nat×AV)}{nx:Nat}{hp hp':List (Nat×aF)}{a:Act}{w:World}(g:bG c R ⟨tm,nx,hp⟩ a w)
  (ht:∀t,lk tm' t=lk tm t) (hh:∀b,lk hp' b=lk hp b):bG c R ⟨tm',nx,hp'⟩ a w:=by
 have ho:∀r,owned R hp' r↔owned R hp r:=fun r=>by simp only[owned,hh]
 have hN:∀r,r<w.heap.size→aV c R hp' r→aV c R hp r:=fun r _ h=>h.imp id (ho r).1
 have YT:∀r,¬aV c R hp r→¬aV c R hp' r:=fun r h h'=>h (h'.imp id (ho r).1)
 have hw:∀r,r<w.heap.size→¬aV c R hp r→w.heap[r]? = w.heap[r]? :=fun _ _ _=>rfl
 have h1:∀b off v,aY R b off v (lk hp b)→aY R b off v (lk hp' b):=fun b off v h=>by rw[hh];exact h
 have h2:∀b ver v,aU R b ver v (lk hp b)→aU R b ver v (lk hp' b):=fun b ver v h=>by rw[hh];exact h
 have h3:∀b ver i off v,bf R b ver i off v (lk hp b)→bf R b ver i off v (lk hp' b):=fun b ver i off v h=>by rw[hh];exact h
 refine⟨fun t v hv=>?_,g.size,g.lo,g.marks.imp fun Ds hm=>hm.kept (fun _ _ _=>rfl) (fun r _ h=>(ho r).1 h),g.fixed.kept (fun _ _ _=>rfl) (fun r _ h=>(ho r).1 h),fun b box hb=>?_,fun b b' r hb hb'=>?_,fun r hr=>g.free r ((ho r).1 hr),g.jE,fun r hr=>g.iw r ((ho r).1 hr),fun v x h=>dF hN hw h1 h2 h3 v x (g.kept v x h)⟩
 ·obtain⟨x,hx,hr⟩:=g.slots t v (by rw[←ht];exact hv);exact⟨x,hx,dF hN hw h1 h2 h3 v x hr⟩
 ·have hr:=g.boxes b box (by rw[←hh];exact hb);cases box with
  | var cells=>
    simp only[dY] at hr ⊢;obtain⟨cur,e,ha,hb⟩:=hr;exact⟨cur,e,ha,bK hN hw h1 h2 h3 cells _ hb⟩
  | nR cells=>
    simp only[dY] at hr ⊢;obtain⟨cur,e,fr,ha,hn,hb⟩:=hr;exact⟨cur,e,fr,ha,YT _ hn,dQ hN hw cells _ hb⟩
  | arr e ver st rows=>
    simp only[dY] at hr ⊢;obtain⟨xs,ha,hb⟩:=hr;exact⟨xs,ha,aX hN hw st rows xs hb⟩
  | dS ver st rows=>
    simp only[dY] at hr ⊢;exact dJ hN hw _ _ hr
  | tr y ver rest st=>
    obtain⟨k0,kh,k1,k2,k3,k4⟩:=hr;exact⟨k0,kh,k1,k2,k3,fun r hn=>k4 r (hn.imp id (ho r).1)⟩
  |iM e' ver st j ed sd pre row post=>exact iQ hN hw rfl rfl rfl (fun k _=>rfl) rfl (fun vs h=>bK hN hw h1 h2 h3 _ _ h) hr
  |mp kk kv es=>exact hr
  | gy e' ver st pre row post=>
    obtain⟨xs,h8,h9,h10,h11,h12⟩:=hr;exact⟨xs,h8,aX hN hw _ _ _ h9,h10,bK hN hw h1 h2 h3 _ _ h11,aX hN hw _ _ _ h12⟩
 simp only[hh] at hb hb';exact g.inj b b' r hb hb'
end
def MP (ids:List Nat)(hp:List (Nat×aF)):List (Nat×aF)→Prop→Prop
 |[],X=>X
 |(b,box)::r,X=>El b ids=true∧(lk hp b=some box∧MP ids hp r X)
theorem xI {ids:List Nat}{hp:List (Nat×aF)}:∀{ws:List (Nat×aF)} {X:Prop},MP ids hp ws X→X∧∀b,lk (ws++hp) b=lk hp b
 |[],X,h=>⟨h,fun _=>rfl⟩
 | (b,box)::r,X,h=>by
   obtain⟨h1,h2,h3⟩:=h;obtain⟨h4,h5⟩:=xI h3;refine⟨h4,fun k=>?_⟩;rw[List.cons_append,aC];split
   ·rename_i e;rw[←e];exact h2.symm
   exact h5 k
theorem MQ {x:Nat}:∀{l:List Nat},El x l=true→x∈l
 |[],h=>by simp[El] at h
 | y::r,h=>by
   unfold El at h;split at h
   ·rename_i e;have e:=Nat.eq_of_beq_eq_true e;simp[e]
   exact List.mem_cons_of_mem _ (MQ h)
theorem Cb {ids:List Nat}{hp hp':List (Nat×aF)}(hb:∀b∈ids,lk hp' b=lk hp b):∀{ws:List (Nat×aF)} {X Y:Prop},MP ids hp ws X→Y→MP ids hp' ws Y
 |[],X,Y,h,hy=>hy
 |(b,box)::r,X,Y,h,hy=>⟨h.1,(hb b (MQ h.1)).trans h.2.1,Cb hb h.2.2 hy⟩
def gV (P:Program)(hp:List (Nat×aF))(id:Nat)(vs:List AV)(K:AV→List (Nat×aF)→List Nat→Prop):Prop:=
 gC P hp id vs fun r ws ids=>MP ids hp ws (K r [] ids)
def tZ (T:Tab)(H:List (Nat×aF))(t:TypeId)(vs:List AV)(id:Nat)(K:AV→List (Nat×aF)→Prop):Prop:=
 match vs with
 | [.sub b ver st lo hi,x]=>match lk T t with
   | some i=>match i.d with
     | .slt e=>match lk T e with
       | some ei=>match lM H st x with
         | some aS=>match lk H b with
           | some (.arr e' v st' rows)=>match Nat.beq ver v,Nat.beq st st',Nat.beq st ei.size,Nat.beq e' e,Nat.beq lo 0 with
             |true,true,true,true,true=>hi+aS.length≤rows.length∧K (.sub b ver st 0 (hi+aS.length)) [(b,.arr e' v st' (rows.take hi++(aS++rows.drop (hi+aS.length))))]
             |_,_,_,_,_=>False
           |_=>False
         |none=>False
       |none=>False
     |_=>False
   |none=>False
 |_=>uw T H t vs id K
section
variable {P:Program}{T:Tab}{c:Ctx}{R:Real}{s:AS}{a:Act}{w:World}
theorem qi (g:bG c R s a w)(hT:bY P T){H:List (Nat×aF)}(hH:∀b box,lk H b=some box→lk s.hp b=some box){id:Nat}(hf:lk s.hp id=none)
  {t ty:TypeId} {d x:AV} {K:AV→List (Nat×aF)→Prop} (h:tZ T H t [d,x] id K) {u v:Value} (hd:ak (aV c R s.hp) w s.hp R d u) (hx:ak (aV c R s.hp) w s.hp R x v) :
  ∃y w' R' z ws,(Builtin.append_ #[t,t] ty #[u,v]).run P w=.ok y w'∧K z ws∧bG c R' (s.app ws) a w'∧ak (aV c R' (ws++s.hp)) w' (ws++s.hp) R' z y:=by
 unfold tZ at h;split at h
 ·rename_i b ver st lo hi x' heq;simp only[List.cons.injEq,and_true] at heq;obtain⟨rfl,rfl⟩:=heq;split at h;rotate_left;cases h
  rename_i i hi';obtain⟨dd,hdd,ig⟩:=(hT t i hi').gW;split at h;rotate_left;cases h
  rename_i e hte;have ht:P.underlying t=some (.slice e):=by
   rw[hte] at ig;cases dd<;>simp[di] at ig
   subst ig;exact hdd
  split at h;rotate_left;cases h
  rename_i ei pV;have iY:=hT _ _ pV;obtain⟨ti,zv,hinfo,hsz,hby,hzero,hzc⟩:=iY.D5;split at h;rotate_left;cases h
  rename_i aS hsrc;obtain⟨p,len,cap,rfl,rfl,hlc,hpn,hps⟩:=GI g hH hsrc hx;split at h;rotate_left;cases h
  rename_i e' vr st' rows hb;have hb':=hH _ _ hb;split at h;rotate_left;cases h
  rename_i fD hst Ba he hlo;have fD:=Nat.eq_of_beq_eq_true fD;have hst:=Nat.eq_of_beq_eq_true hst;have Ba:=Nat.eq_of_beq_eq_true Ba;have he:=Nat.eq_of_beq_eq_true he;have hlo:=Nat.eq_of_beq_eq_true hlo;subst fD;subst hst;subst he;subst hlo;obtain⟨hbd,hK⟩:=h;have hre:=g.boxes b _ hb';simp only[ak,hb',aU] at hd;obtain⟨u0,hu0,hok,rfl⟩:=hd;have hu:=hu0.2.2 (by trivial);subst hu;by_cases hz:aS.length=0
  ·have he:aS=[]:=List.eq_nil_of_length_eq_zero hz;subst he;have adR:∃p0 l0 c0,je st 0 hi (dH R b rows.length)=.slice p0 l0 c0∧l0≤c0:=by
    cases hn:R.nil b with
    |true=>exact⟨none,0,0,by simp[dH,hn,je],Nat.le_refl _⟩
    | false=>
      obtain⟨cur,hg,hs,hle,hm,hr,_⟩:=gQ hre hn;simp only[dH,hn,Bool.false_eq_true,if_false,oG] at hok;have hsv:je st 0 hi (dH R b rows.length)=.slice (some (if (R.cap b).1=0 then ⟨R.blk b,0,none⟩ else (⟨R.blk b,0,none⟩:Addr).add (0*st))) (hi-0) ((R.cap b).1-0):=by simp only[dH,hn,Bool.false_eq_true,if_false,je]
      exact⟨_,_,_,hsv,by omega⟩
   obtain⟨p0,l0,c0,e1,e2⟩:=adR;have hrun:=mE (P:=P) (w:=w) (ty:=ty) ht iY p0 p l0 c0 cap e2;rw[←e1] at hrun;simp only[List.length_nil,Nat.add_zero,List.nil_append,List.take_append_drop] at hK;refine⟨_,w,R,_,_,hrun,hK,g.sameBox hb',?_⟩;simp only[ak,List.cons_append,List.nil_append,aC,if_true,aU];exact⟨_,hu0,hok,rfl⟩
  cases p with
  |none=>exact absurd (by rw[hpn rfl];rfl) hz
  | some ad=>
    obtain⟨news,n1,n2,n3,n4⟩:=hps ad rfl;have hn:R.nil b=false:=by
     cases hn:R.nil b with
     |false=>rfl
     | true=>
       have:=qj hre hn;subst this;simp only[List.length_nil] at hbd;omega
    obtain⟨cur,hg,hs,hle,hm,hr,_⟩:=gQ hre hn;simp only[dH,hn,Bool.false_eq_true,if_false,oG] at hok;have hadd:(⟨R.blk b,0,none⟩:Addr).add (0*st)=⟨R.blk b,0,none⟩:=by simp[Addr.add]
    have hsub:∀k,je st 0 k (dH R b rows.length)=.slice (some ⟨R.blk b,0,none⟩) k ((R.cap b).1):=by
     intro k;simp only[dH,hn,je,Bool.false_eq_true,if_false,hadd,Nat.sub_zero];split<;>rfl
    have hroom:hi+aS.length≤(R.cap b).1:=by omega
    have hmul:hi*st+aS.length*st=(hi+aS.length)*st:=by rw[Nat.add_mul]
    have hcs:(hi+aS.length)*st≤cur.size:=by rw[hs];exact Nat.mul_le_mul_right _ hroom
    have hfit:hi*st+news.length≤cur.size:=by rw[n1,hmul];exact hcs
    have hrun:=run_append_room (P:=P) w t ty e' ti ht hinfo (R.blk b) hi ((R.cap b).1) cur hg ad aS.length cap news (by rw[hsz,n1,Ba]) n2 n3 hroom (by rw[hsz,←Ba];exact hfit);rw[hsz,←Ba] at hrun;have hR:∀b',b'≠b→R.blk b'=R.blk b'∧R.nil b'=R.nil b'∧R.cap b'=R.cap b':=fun _ _=>⟨rfl,rfl,rfl⟩
    generalize hrows:(rows.take hi++(aS++rows.drop (hi+aS.length)))=ER at hK;have hll:ER.length=rows.length:=by rw[←hrows];simp;omega
    have r1:∀off v',aY R b off v' (lk s.hp b)→aY R b off v' (some (.arr e' ver st ER)):=fun off v h=>by rw[hb'] at h;exact h
    have r2:∀o6 v',aU R b o6 v' (lk s.hp b)→aU R b o6 v' (some (.arr e' ver st ER)):=fun _ v h=>by rw[hb'] at h;simp only[aU,hll] at h ⊢;exact h
    have r3:∀o6 i off v',bf R b o6 i off v' (lk s.hp b)→bf R b o6 i off v' (some (.arr e' ver st ER)):=fun _ _ _ v h=>by rw[hb'] at h;exact h
    have hown:∀r,aL R b r (some (.arr e' ver st ER))→aL R b r (lk s.hp b)∨w.heap.size≤r:=fun r h=>by rw[hb'];exact .inl h
    have hworld:mr (fun r=>aL R b r (lk s.hp b)) w (w.setRow (R.blk b) (cur.toList.take (hi*st)++news++cur.toList.drop (hi*st+news.length)).toArray):=by
     refine (oI w _ _).mono ?_;rintro r rfl
     rw[hb'];exact⟨hn,rfl⟩
    obtain⟨m1,m2,m3,m4,m5⟩:=g.Ga hR r1 r2 r3 hown hworld;refine⟨_,_,R,_,_,by rw[hsub];exact hrun,hK,g.upd hR r1 r2 r3 hown hworld ?_,?_⟩
    ·have hnew:cK (aV c R s.hp) w st ER (cur.toList.take (hi*st)++news++cur.toList.drop (hi*st+news.length)):=by
      rw[←hrows,List.append_assoc];have p1:cK (aV c R s.hp) w st (rows.take hi) (cur.toList.take (hi*st)):=by
       obtain⟨_,t2,_⟩:=gG (lN (i:=hi) hr);rw[List.length_take,Nat.min_eq_left (by omega)] at t2;exact t2
      refine jS p1 (by rw[List.length_take,List.length_take,Nat.min_eq_left (by simp;omega),Nat.min_eq_left (by omega)]) (jS n4 n1 ?_);rw[n1,hmul];exact mD (hi+aS.length) hr
     have XL:(cur.toList.take (hi*st)++news++cur.toList.drop (hi*st+news.length)).length=cur.size:=by
      simp only[List.length_append,List.length_take,List.length_drop,Array.length_toList];omega
     obtain⟨t1,t2,t3⟩:=gG (aX m1 m2 _ _ _ hnew);refine⟨_,?_,t2⟩;have hsl:dH R b ER.length=.slice (some ⟨R.blk b,0,none⟩) rows.length ((R.cap b).1):=by simp[dH,hn,hll]
     rw[hsl,hll];rw[hll] at t1;refine⟨?_,.inr ⟨R.blk b,(R.cap b).1,_,rfl,Nat.zero_le _,setRow_heap w _ cur _ e' _ hg,hle,hm,?_,by simp⟩⟩
     ·simp only[List.length_take];omega
     simp only[List.size_toArray,XL,hs]
    simp only[ak,List.cons_append,List.nil_append,aC,if_true,aU];refine⟨dH R b rows.length,⟨Nat.le_refl _,hu0.2.1,fun _=>by rw[hll]⟩,?_,by rw[hsub]⟩;simp only[dH,hn,Bool.false_eq_true,if_false,oG];omega
 exact sD g hT hH hf h hd hx
def GY (T:Tab)(H:List (Nat×aF))(t:TypeId)(lo hi mx:Option Operand)(b ver st l0:Nat)(r:List AV)(K:AV→List (Nat×aF)→Prop):Prop:=
 match lk H b with
 | some (.arr e v st' rows)=>match Nat.beq ver v,Nat.beq l0 0,isNone mx with
   | true,true,true=>match lk T t with
     | some i=>match i.d with
       | .slt et=>match lk T et with
         | some ei=>match Nat.beq st ei.size,Nat.beq st st' with
           | true,true=>match Du lo r with
             | some (some l,r1)=>match Du hi r1 with
               |some (some h,_)=>0≤h∧h≤rows.length∧0≤l∧l≤h∧K (.sub b ver st l.toNat h.toNat) []
               |_=>False
             |_=>False
           |_,_=>False
         |none=>False
       |_=>False
     |none=>False
   |_,_,_=>False
 |_=>False
def GZ (T:Tab)(H:List (Nat×aF))(t:TypeId)(lo hi mx:Option Operand)(b ver:Nat)(r:List AV)(K:AV→List (Nat×aF)→Prop):Prop:=
 match lk H b with
 | some (.arr e v st rows)=>match Nat.beq ver v with
   | true=>match lk T t with
     | some i=>match i.d with
       | .slt et=>match lk T et with
         | some ei=>match Du lo r with
           | some (some l,r1)=>match Du hi r1 with
             | some (some h,r2)=>match Du mx r2 with
               |some (some m,_)=>0≤m∧m≤rows.length∧0≤h∧h≤m∧0≤l∧l≤h∧K (.pv .junk) []
               |_=>False
             |_=>False
           |_=>False
         |none=>False
       |_=>False
     |none=>False
   |false=>False
 |_=>False
def qb (T:Tab)(H:List (Nat×aF))(t:TypeId)(lo hi mx:Option Operand)(vs:List AV)(K:AV→List (Nat×aF)→Prop):Prop:=
 match agF T with
 |false=>nS T H t lo hi mx vs K
 | true=>match vs with
   |.sub b ver st l0 _::r=>GY T H t lo hi mx b ver st l0 r K
   | .aO b ver::r=>match isNone mx with
     |true=>nS T H t lo hi mx vs K
     |false=>GZ T H t lo hi mx b ver r K
   |_=>nS T H t lo hi mx vs K
theorem Pe {P:Program}{w:World}{len len' cap:Nat}{lo hi mx:Option Value}(h:hi.isSome=true):(Instr.sliceBounds true len cap lo hi mx).run P w=(Instr.sliceBounds true len' cap lo hi mx).run P w:=by
 cases hi with
 |none=>cases h
 |some v=>cases mx<;>simp[Instr.sliceBounds]
theorem abE {o:Option Value}{j:Int}(h:vI o (some j)):o.isSome=true:=by
 cases o with
 |none=>exact h.elim
 |some v=>rfl
theorem LJ (g:bG c R s a w)(hT:bY P T){H:List (Nat×aF)}(hH:∀b box,lk H b=some box→lk s.hp b=some box){t:TypeId}{x0:Operand}{lo hi mx:Option Operand}{b ver st l0 h0:Nat}{r:List AV}
  {K:AV→List (Nat×aF)→Prop} (h:GY T H t lo hi mx b ver st l0 r K)
  (hv:FL (ak (aV c R s.hp) w s.hp R) (.sub b ver st l0 h0::r) ((x0::(lo.toList++(hi.toList++mx.toList))).map a.eval)) :
  ∃y z,(Instr.sliceAt t (a.eval x0) (lo.map a.eval) (hi.map a.eval) (mx.map a.eval)).run P w=.ok y w∧K z []∧ak (aV c R s.hp) w s.hp R z y:=by
 unfold GY at h;split at h;rotate_left;cases h
 rename_i e v st' rows hb;split at h;rotate_left;cases h
 rename_i fD hl0 hmx;have fD:=Nat.eq_of_beq_eq_true fD;have hl0:=Nat.eq_of_beq_eq_true hl0;have hmx:mx=none:=by cases mx<;>simp_all [isNone]
 subst hmx;subst hl0;split at h;rotate_left;cases h
 rename_i i hi';obtain⟨d,hd,ig⟩:=(hT t i hi').gW;split at h;rotate_left;cases h
 rename_i et hte;have hd':P.underlying t=some (.slice et):=by
  rw[hte] at ig;cases d<;>simp[di] at ig
  subst ig;exact hd
 split at h;rotate_left;cases h
 rename_i ei pV;have iY:=hT _ _ pV;split at h;rotate_left;cases h
 rename_i hst Ba;have hst:=Nat.eq_of_beq_eq_true hst;have Ba:=Nat.eq_of_beq_eq_true Ba;subst Ba;split at h;rotate_left;cases h
 rename_i l r1 hl;split at h;rotate_left;cases h
 rename_i hh r2 hhi;obtain⟨k1,k2,k3,k4,hK⟩:=h;simp only[List.map_cons] at hv;obtain⟨u,r',e1,hx,hv⟩:=hv;simp only[List.cons.injEq] at e1;obtain⟨e1,rfl⟩:=e1;obtain⟨v1,hv⟩:=iI hv hl;obtain⟨v2,hv⟩:=iI (rest:=[]) (by simpa using hv) hhi;have hb':=hH _ _ hb;have hre:=g.boxes b _ hb';simp only[ak,hb',aU] at hx;obtain⟨u0,hu0,hok,rfl⟩:=hx;have hu:=hu0.2.2 fD;subst hu;have Wd:=abE v2;cases hn:R.nil b with
 | true=>
   have hr0:=qj hre hn;subst hr0;simp only[dH,hn,if_true,oG,List.length_nil] at hok;obtain⟨hrun,q1,q2,q3⟩:=jg (P:=P) (w:=w) (Ub:=true) (len:=0) (cap:=0) (m:=none) v1 v2 (show vI none none from trivial) (Nat.le_refl _) (fun i e=>by cases e) (by simpa[fV] using ⟨k1,k2⟩) (by simpa[fV] using ⟨k3,k4⟩);have hz:hh.toNat=0:=by simp at k2;omega
   have lz:l.toNat=0:=by omega
   refine⟨.slice none 0 0,_,?_,hK,?_⟩
   ·rw[e1];simp only[Option.map_none,Option.map_some,Option.getD_none,Option.getD_some,fV,hz,lz] at hrun;simp only[Instr.sliceAt,Instr.slice,Sem.run_bind,run_underlying hd',Result.andThen_ok,dH,hn,if_true,je,Option.map_none,hrun,iY.run_sizeOf,Sem.run_pure]
   simp only[ak,hb',aU];refine⟨_,hu0,?_,by simp[dH,hn,je]⟩;simp only[dH,hn,if_true,oG];omega
 | false=>
   obtain⟨cur,hg,hs,hle,hm,hr,_⟩:=gQ hre hn;obtain⟨hrun,q1,q2,q3⟩:=jg (P:=P) (w:=w) (Ub:=true) (len:=rows.length) (cap:=(R.cap b).1) (m:=none) v1 v2 (show vI none none from trivial) hle (fun i e=>by cases e) (by
    intro i hi;cases hi;exact⟨k1,k2⟩) (by intro i hi;cases hi;exact⟨k3,k4⟩)
   rw[Pe (len':=h0) Wd] at hrun;simp only[Option.map_none,Option.map_some,Option.getD_none,Option.getD_some,fV] at hrun;have hadd:(⟨R.blk b,0,none⟩:Addr).add (0*st)=⟨R.blk b,0,none⟩:=by simp[Addr.add]
   have hsub:je st 0 h0 (dH R b rows.length)=.slice (some ⟨R.blk b,0,none⟩) h0 ((R.cap b).1):=by
    simp only[dH,hn,je,Bool.false_eq_true,if_false,hadd,Nat.sub_zero];split<;>rfl
   refine⟨je st l.toNat hh.toNat (dH R b rows.length),_,?_,hK,?_⟩
   ·rw[e1,hsub];simp only[Instr.sliceAt,Instr.slice,Sem.run_bind,run_underlying hd',Result.andThen_ok,Option.map_none,hrun,iY.run_sizeOf,Sem.run_pure];simp only[dH,hn,Bool.false_eq_true,if_false,je,hst];congr 2
    split<;>rfl
   simp only[ak,hb',aU];refine⟨_,hu0,?_,rfl⟩;simp only[dH,hn,Bool.false_eq_true,if_false,oG];omega
theorem LK (g:bG c R s a w)(hT:bY P T){H:List (Nat×aF)}(hH:∀b box,lk H b=some box→lk s.hp b=some box){t:TypeId}{x0:Operand}{lo hi mx:Option Operand}{b ver:Nat}{r:List AV}
  {K:AV→List (Nat×aF)→Prop} (h:GZ T H t lo hi mx b ver r K)
  (hv:FL (ak (aV c R s.hp) w s.hp R) (.aO b ver::r) ((x0::(lo.toList++(hi.toList++mx.toList))).map a.eval)) :
  ∃y z,(Instr.sliceAt t (a.eval x0) (lo.map a.eval) (hi.map a.eval) (mx.map a.eval)).run P w=.ok y w∧K z []∧ak (aV c R s.hp) w s.hp R z y:=by
 unfold GZ at h;split at h;rotate_left;cases h
 rename_i e v st rows hb;split at h;rotate_left;cases h
 rename_i fD;have fD:=Nat.eq_of_beq_eq_true fD;split at h;rotate_left;cases h
 rename_i i hi';obtain⟨d,hd,ig⟩:=(hT t i hi').gW;split at h;rotate_left;cases h
 rename_i et hte;have hd':P.underlying t=some (.slice et):=by
  rw[hte] at ig;cases d<;>simp[di] at ig
  subst ig;exact hd
 split at h;rotate_left;cases h
 rename_i ei pV;have iY:=hT _ _ pV;split at h;rotate_left;cases h
 rename_i l r1 hl;split at h;rotate_left;cases h
 rename_i hh r2 hhi;split at h;rotate_left;cases h
 rename_i m r3 hmx;obtain⟨k5,k6,k1,k2,k3,k4,hK⟩:=h;simp only[List.map_cons] at hv;obtain⟨u,r',e1,hx,hv⟩:=hv;simp only[List.cons.injEq] at e1;obtain⟨e1,rfl⟩:=e1;obtain⟨v1,hv⟩:=iI hv hl;obtain⟨v2,hv⟩:=iI hv hhi;obtain⟨v3,hv⟩:=iI (rest:=[]) (by simpa using hv) hmx;have hb':=hH _ _ hb;have hre:=g.boxes b _ hb';simp only[ak,hb',aU] at hx;have hu:=hx.2.2 fD;subst hu;obtain⟨p0,l0,c0,hsl,hlc,hl0⟩:∃p0 l0 c0,dH R b rows.length=.slice p0 l0 c0∧l0≤c0∧l0=rows.length:=by
  cases hn:R.nil b with
  | true=>
    have hr0:=qj hre hn;subst hr0;exact⟨none,0,0,by simp[dH,hn],Nat.le_refl _,rfl⟩
  | false=>
    obtain⟨cur,hg,hs,hle,hm,hr,_⟩:=gQ hre hn;exact⟨some ⟨R.blk b,0,none⟩,rows.length,(R.cap b).1,by simp only[dH,hn,Bool.false_eq_true,if_false],hle,rfl⟩
 subst hl0;obtain⟨hrun,q1,q2,q3⟩:=jg (P:=P) (w:=w) (Ub:=true) v1 v2 v3 hlc (fun i e=>by cases e;exact⟨k5,k6,rfl⟩) (by
  intro i hi;cases hi;exact⟨k1,by simpa[fV] using k2⟩) (by intro i hi;cases hi;exact⟨k3,by simpa[fV] using k4⟩)
 rw[hsl] at e1;obtain⟨y,hy⟩:∃y,(Instr.sliceAt t (a.eval x0) (lo.map a.eval) (hi.map a.eval) (mx.map a.eval)).run P w=.ok y w:=by
  rw[e1];simp only[Instr.sliceAt,Instr.slice,Sem.run_bind,run_underlying hd',Result.andThen_ok,hrun,iY.run_sizeOf,Sem.run_pure];exact⟨_,rfl⟩
 exact⟨y,_,hy,hK,by simp only[ak,bJ]⟩
theorem Gi (g:bG c R s a w)(hT:bY P T){H:List (Nat×aF)}(hH:∀b box,lk H b=some box→lk s.hp b=some box){t:TypeId}{x0:Operand}{lo hi mx:Option Operand}{vs:List AV}
  {K:AV→List (Nat×aF)→Prop} (h:qb T H t lo hi mx vs K)
  (hv:FL (ak (aV c R s.hp) w s.hp R) vs ((x0::(lo.toList++(hi.toList++mx.toList))).map a.eval)) :
  ∃y z ws R',(Instr.sliceAt t (a.eval x0) (lo.map a.eval) (hi.map a.eval) (mx.map a.eval)).run P w=.ok y w∧K z ws∧bG c R' (s.app ws) a w∧ak (aV c R' (ws++s.hp)) w (ws++s.hp) R' z y:=by
 unfold qb at h;split at h
 ·exact qD g hT hH h hv
 split at h
 ·obtain⟨y,z,h1,h2,h3⟩:=LJ g hT hH h hv;exact⟨y,z,[],R,h1,h2,g,h3⟩
 ·split at h
  ·exact qD g hT hH h hv
  obtain⟨y,z,h1,h2,h3⟩:=LK g hT hH h hv;exact⟨y,z,[],R,h1,h2,g,h3⟩
 exact qD g hT hH h hv
end
def fM (vs:List Value):List PV:=vs.map .sc
theorem Fs {N:Nat→Prop}{w:World}:∀(vs xs:List Value),(∀v∈vs,v.oneCell'=true)→(gU N w (fM vs) (vs++xs))
 |[],_,_=>by simp[fM,gU]
 | v::vs,xs,h=>by
   simp only[fM,List.map_cons,gU,List.cons_append];refine⟨v,vs++xs,rfl,h v (by simp),by simp only[bJ],Fs vs xs fun u hu=>h u (by simp[hu])⟩
theorem Fu {N:Nat→Prop}{w:World}:∀(vs xs:List Value),gU N w (fM vs) xs→∃r,xs=vs++r
 |[],xs,_=>⟨xs,rfl⟩
 | v::vs,xs,h=>by
   simp only[fM,List.map_cons,gU] at h;obtain⟨x,r,rfl,_,h1,h2⟩:=h;simp only[bJ] at h1;subst h1;obtain⟨r',rfl⟩:=Fu vs r h2;exact⟨r',rfl⟩
theorem nW (vs:List Value):(fM vs).length=vs.length:=by simp[fM]
section
variable {c:Ctx}{R:Real}{s:AS}{a:Act}{w:World}
theorem bG.Yx (g:bG c R s a w){b:Nat}{box bL:aF}(hb:lk s.hp b=some box)
  (r1:∀off v,aY R b off v (some box)→aY R b off v (some bL))
  (r2:∀ver v,aU R b ver v (some box)→aU R b ver v (some bL))
  (r3:∀ver i off v,bf R b ver i off v (some box)→bf R b ver i off v (some bL))
  (hown:∀r,aL R b r (some bL)→aL R b r (some box))
  (Lc:(∀v x,ak (aV c R s.hp) w s.hp R v x→ak (aV c R ((b,bL)::s.hp)) w ((b,bL)::s.hp) R v x) →
   (∀r,aV c R ((b,bL)::s.hp) r→aV c R s.hp r)→dY (aV c R ((b,bL)::s.hp)) w ((b,bL)::s.hp) R b bL) :
  bG c R (s.app [(b,bL)]) a w∧(∀v x,ak (aV c R s.hp) w s.hp R v x→ak (aV c R ((b,bL)::s.hp)) w ((b,bL)::s.hp) R v x):=by
 have q1:∀off v,aY R b off v (lk s.hp b)→aY R b off v (some bL):=fun off v h=>r1 off v (by rw[hb] at h;exact h)
 have q2:∀ver v,aU R b ver v (lk s.hp b)→aU R b ver v (some bL):=fun ver v h=>r2 ver v (by rw[hb] at h;exact h)
 have q3:∀ver i off v,bf R b ver i off v (lk s.hp b)→bf R b ver i off v (some bL):=fun ver i off v h=>r3 ver i off v (by rw[hb] at h;exact h)
 have ho:∀r,aL R b r (some bL)→aL R b r (lk s.hp b)∨w.heap.size≤r:=fun r h=>.inl (by rw[hb];exact hown r h)
 have hR:∀b',b'≠b→R.blk b'=R.blk b'∧R.nil b'=R.nil b'∧R.cap b'=R.cap b':=fun _ _=>⟨rfl,rfl,rfl⟩
 obtain⟨m1,m2,m3,m4,m5⟩:=g.Ga (b:=b) (bL:=bL) hR q1 q2 q3 ho (mr.refl _ w) rfl;have hm:=fun v x h=>dF (p:=v) m1 m2 m3 m4 m5 x h
 refine⟨g.upd (nx':=s.nx) hR q1 q2 q3 ho (mr.refl _ w) (Lc hm fun r hr=>?_) rfl,hm⟩;rcases hr with h|⟨b',h⟩
 ·exact .inl h
 refine .inr ⟨b',?_⟩;rw[aC] at h;split at h
 ·rename_i e;subst e;rw[hb];exact hown r h
 exact h
theorem zQ {N:Nat→Prop}{w:World}{st:Nat}:∀{pre:List (List PV)} {row:List PV} {post:List (List PV)} {xs:List Value},cK N w st (pre++row::post) xs→cK N w st pre xs∧row.length=st∧gU N w row (xs.drop (pre.length*st))∧cK N w st post ((xs.drop (pre.length*st)).drop st)
 | [],row,post,xs,h=>by
   simp only[List.nil_append,cK] at h;exact⟨trivial,h.1,by simpa using h.2.1,by simpa using h.2.2⟩
 | p::pre,row,post,xs,h=>by
   simp only[List.cons_append,cK] at h;obtain⟨h1,h2,h3⟩:=h;obtain⟨a1,a2,a3,a4⟩:=zQ h3;have e:xs.drop ((p::pre).length*st)=(xs.drop st).drop (pre.length*st):=by
    rw[List.drop_drop,show (p::pre).length*st=st+pre.length*st by rw[List.length_cons,Nat.add_mul];omega]
   rw[e];exact⟨⟨h1,h2,a1⟩,a2,a3,a4⟩
theorem Bw {N:Nat→Prop}{w:World}{st:Nat}:∀{pre:List (List PV)} {row:List PV} {post:List (List PV)} {xs:List Value},cK N w st pre xs→row.length=st→gU N w row (xs.drop (pre.length*st)) →
  cK N w st post ((xs.drop (pre.length*st)).drop st)→cK N w st (pre++row::post) xs
 | [],row,post,xs,h,h1,h2,h3=>by
   simp only[List.nil_append,cK];exact⟨h1,by simpa using h2,by simpa using h3⟩
 | p::pre,row,post,xs,h,h1,h2,h3=>by
   simp only[cK] at h;obtain⟨a1,a2,a3⟩:=h;simp only[List.cons_append,cK];have e:xs.drop ((p::pre).length*st)=(xs.drop st).drop (pre.length*st):=by
    rw[List.drop_drop,show (p::pre).length*st=st+pre.length*st by rw[List.length_cons,Nat.add_mul];omega]
   rw[e] at h2 h3;exact⟨a1,a2,Bw a3 h1 h2 h3⟩
theorem bG.IC (g:bG c R s a w){b:Nat}{e:TypeId}{v st:Nat}{pre post:List (List PV)}{vs:List Value}{row:List AV}(hb:lk s.hp b=some (.arr e v st (pre++fM vs::post)))
  (hrow:dD (aV c R s.hp) w s.hp R row vs) :
  bG c R (s.app [(b,.gy e v st pre row post)]) a w∧(∀u x,ak (aV c R s.hp) w s.hp R u x→ak (aV c R ((b,.gy e v st pre row post)::s.hp)) w ((b,.gy e v st pre row post)::s.hp) R u x):=by
 have hl:(pre++fM vs::post).length=pre.length+(1+post.length):=by simp[Nat.add_comm]
 refine g.Yx hb (fun off v h=>h.elim) (fun ver u h=>?_) (fun ver i off u h=>h) (fun r h=>h) (fun hm hN=>?_)
 ·simpa only[aU,hl] using h
 obtain⟨xs,h1,h2⟩:=g.boxes b _ hb;obtain⟨a1,a2,a3,a4⟩:=zQ h2;obtain⟨r,hr⟩:=Fu _ _ a3;rw[nW] at a2;have hrl:row.length=vs.length:=by
  have:=(bM _ _ _ _ _ _).1 hrow;exact this.length.symm
 refine⟨xs,by rw[←hl];exact h1,aX (fun r _ h=>hN r h) (fun _ _ _=>rfl) _ _ _ a1,by rw[hrl];exact a2,?_,aX (fun r _ h=>hN r h) (fun _ _ _=>rfl) _ _ _ a4⟩;rw[hr,show (vs++r).take st=vs by rw[←a2];exact List.take_left];rw[bM] at hrow ⊢;exact hrow.imp hm
theorem bG.tH (g:bG c R s a w){b:Nat}{e:TypeId}{v st:Nat}{pre post:List (List PV)}{row:List AV}(hb:lk s.hp b=some (.gy e v st pre row post)) :
  ∃vs:List Value,dD (aV c R s.hp) w s.hp R row vs∧vs.length=st∧bG c R (s.app [(b,.arr e v st (pre++fM vs::post))]) a w ∧
   (∀u x,ak (aV c R s.hp) w s.hp R u x→ak (aV c R ((b,.arr e v st (pre++fM vs::post))::s.hp)) w ((b,.arr e v st (pre++fM vs::post))::s.hp) R u x):=by
 obtain⟨xs,h1,h2,h3,h4,h5⟩:=g.boxes b _ hb;have h4':=(bM _ _ _ _ _ _).1 h4;refine⟨(xs.drop (pre.length*st)).take st,h4,h4'.length.trans h3,g.Yx hb (fun off v h=>h.elim) (fun ver u h=>?_) (fun ver i off u h=>h) (fun r h=>h) (fun hm hN=>?_)⟩
 ·have hl:(pre++fM ((xs.drop (pre.length*st)).take st)::post).length=pre.length+(1+post.length):=by simp[Nat.add_comm]
  simpa only[aU,hl] using h
 have hl:(pre++fM ((xs.drop (pre.length*st)).take st)::post).length=pre.length+(1+post.length):=by simp[Nat.add_comm]
 refine⟨xs,by rw[hl];exact h1,?_⟩;refine Bw (aX (fun r _ h=>hN r h) (fun _ _ _=>rfl) _ _ _ h2) (by rw[nW,h4'.length];exact h3) ?_ (aX (fun r _ h=>hN r h) (fun _ _ _=>rfl) _ _ _ h5);have:=Fs (N:=aV c R ((b,aF.arr e v st (pre++fM ((xs.drop (pre.length*st)).take st)::post))::s.hp)) (w:=w) ((xs.drop (pre.length*st)).take st) ((xs.drop (pre.length*st)).drop st) (fun u hu=>h4'.one u hu);rwa [List.take_append_drop] at this
def J4 (c:Ctx):Ctx:={ c with n:=c.n+1 }
theorem bG.MB (g:bG c R s a w){v:AV}{x:Value}(hx:ak (aV c R s.hp) w s.hp R v x) :
  bG (J4 c) R ⟨(c.n,v)::s.tm,s.nx,s.hp⟩ { a with tmps:=a.tmps.push x } w:=by
 refine⟨fun t u hu=>?_,by simp[J4,g.size],g.lo,g.marks,g.fixed,g.boxes,g.inj,g.free,g.jE,g.iw,g.kept⟩;rw[aC] at hu;split at hu
 ·rename_i e;simp only[Option.some.injEq] at hu;subst e;subst hu;refine⟨x,?_,hx⟩;show (a.tmps.push x)[c.n]? = some x
  rw[←g.size];exact Array.getElem?_push_size
 obtain⟨y,hy,hr⟩:=g.slots t u hu;refine⟨y,?_,hr⟩;rw[Array.getElem?_push];have:=size_of_getElem? hy;rw[if_neg (by omega)];exact hy
theorem bG.zR {v:AV}{x:Value}{tm:List (Nat×AV)}{nx:Nat}{hp:List (Nat×aF)}(ha:a.tmps.size=c.n)(Tg:∀t u,lk tm t=some u→t≠c.n)(g:bG (J4 c) R ⟨(c.n,v)::tm,nx,hp⟩ { a with tmps:=a.tmps.push x } w) :
  bG c R ⟨tm,nx,hp⟩ a w∧ak (aV c R hp) w hp R v x:=by
 refine⟨⟨fun t u hu=>?_,ha,g.lo,g.marks,g.fixed,g.boxes,g.inj,g.free,g.jE,g.iw,g.kept⟩,?_⟩
 ·have hne:=Tg t u hu;obtain⟨y,hy,hr⟩:=g.slots t u (by rw[aC,if_neg (fun e=>hne e.symm)];exact hu);refine⟨y,?_,hr⟩;rw[Array.getElem?_push] at hy;split at hy
  ·rename_i e;omega
  exact hy
 obtain⟨y,hy,hr⟩:=g.slots c.n v (by rw[aC,if_pos rfl]);rw[Array.getElem?_push,if_pos ha.symm] at hy;simp only[Option.some.injEq] at hy;subst hy;exact hr
end
def adD (a:Nat):Tab→Bool
 | (b,_)::r=>match Nat.beq a b with
   |true=>adD a r
   | false=>match r with
     |(c,_)::_=>Nat.beq b c
     |[]=>false
 |[]=>false
def ajj (T:Tab):Bool:=
 match T with
 |(a,_)::r=>adD a r
 |[]=>false
def uU (T:Tab)(H:List (Nat×aF))(t:TypeId)(x:AV)(K:AV→Prop):Prop:=
 match x with
 | .dM b ver k off=>match lk H b with
   | some (.gy e v st pre row post)=>match lk T t with
     | some i=>match Nat.beq ver v,Nat.beq i.size 0 with
       | true,false=>match part off i.size row with
         |some cs=>k=pre.length∧sK i cs K
         |none=>False
       |_,_=>False
     |none=>False
   |_=>uR T H t (.dM b ver k off) K
 |x=>uR T H t x K
def mX (T:Tab)(H:List (Nat×aF))(t:TypeId)(x y:AV)(K:AV→List (Nat×aF)→Prop):Prop:=
 match x with
 | .dM b ver k off=>match lk H b with
   | some (.gy e v st pre row post)=>match lk T t with
     | some i=>match Nat.beq ver v with
       | true=>match cellsOf i y with
         | some cs=>match Nat.beq cs.length i.size with
           | true=>match kz off row cs with
             |some row'=>k=pre.length∧K (.pv (.sc undef)) [(b,.gy e v st pre row' post)]
             |none=>False
           |false=>False
         |none=>False
       |false=>False
     |none=>False
   |_=>qC T H t (.dM b ver k off) y K
 |x=>qC T H t x y K
def K7 (T:Tab)(H:List (Nat×aF))(t:TypeId)(x ix:AV)(K:AV→Prop):Prop:=
 match x with
 | .aO b ver=>match lk H b with
   | some (.gy e v st pre row post)=>match ix with
     | .pv (.sc (.int _ i))=>match lk T t with
       | some ti=>match ti.d with
         | .slt e=>match lk T e with
           | some ei=>match Nat.beq ver v,Nat.beq st ei.size with
             |true,true=>0≤i∧i.toNat<pre.length+(1+post.length)∧K (.dM b ver i.toNat 0)
             |_,_=>False
           |none=>False
         |_=>False
       |none=>False
     |_=>False
   |_=>eP T H t (.aO b ver) ix K
 |x=>eP T H t x ix K
def BX (T:Tab)(H:List (Nat×aF))(t:TypeId)(x:AV)(K:AV→Prop):Prop:=
 match x with
 | .aO b ver=>match lk H b with
   | some (.gy e v st pre row post)=>match lk T t with
     | some i=>match i.d with
       | .slt _=>match Nat.beq ver v with
         |true=>K (.pv (.sc (.int .i64 (pre.length+(1+post.length):Nat))))
         |false=>False
       |_=>False
     |none=>False
   |_=>Et T H t (.aO b ver) K
 |x=>Et T H t x K
section
variable {P:Program}{T:Tab}{N:Nat→Prop}{w:World}{hp:List (Nat×aF)}{R:Real}
theorem CU (i:TI){t:TypeId}(hi:dw P t i){g off:Nat}{cur:Array Value}{e:TypeId}{fr:Nat×Nat}{cs:List AV}{K:AV→Prop}
  (hg:w.heap[g]? = some (.cells cur e fr)) (hl:off+i.size≤cur.size) (hcs:FC (ak N w hp R) cs ((cur.toList.drop off).take i.size))
  (h:sK i cs K) :
  ∃x v,(loadVar t ⟨g,off,none⟩).run P w=.ok x w∧K v∧ak N w hp R v x:=by
 have hrun:=lW (w:=w) hi hg hl;cases ha:i.d.isAgg with
 | true=>
   simp only[sK,ha] at h;simp only[ha] at hrun;unfold yU at h;split at h;rotate_left;cases h
   rename_i v hv;refine⟨_,v,hrun,h,?_⟩;split at hv
   ·rename_i ps hps;simp only[Option.some.injEq] at hv;subst hv;simp only[ak,bJ,if_true];refine⟨_,rfl,?_⟩;rw[gM];have:∀(cs:List AV) (ps:List PV) (vs:List Value),ji cs=some ps→FC (ak N w hp R) cs vs→FC (bJ N w) ps vs:=by
     intro cs;induction cs with
     |nil=>intro ps vs h h';simp only[ji,Option.some.injEq] at h;subst h;exact h'
     | cons c cs ih=>
       intro ps vs h h';obtain⟨v,r,rfl,h1,h2,h3⟩:=h';cases c<;>simp only[ji] at h<;>try (cases h;done)
       split at h
       ·rename_i ps' qA;simp only[Option.some.injEq] at h;subst h;exact⟨v,r,rfl,h1,by simpa only[ak] using h2,ih _ _ qA h3⟩
       cases h
    exact this cs ps _ hps (by simpa using hcs)
   simp only[Option.some.injEq] at hv;subst hv;simp only[ak,if_true];refine⟨_,rfl,?_⟩;rw[bM];simpa using hcs
 | false=>
   have h1:=hi.agg ha;simp only[sK,ha] at h;simp only[ha,Bool.false_eq_true,if_false] at hrun;split at h;rotate_left;cases h
   rename_i v;obtain⟨u,r,e1,e2,e3,e4⟩:=hcs;refine⟨_,_,hrun,h,?_⟩;have:cur[off]! = u:=by
    have hlt:off<cur.size:=by omega
    rw[getElem!_pos cur off hlt];have hh:((cur.toList.drop off).take i.size)[0]? = some u:=by rw[e1];rfl
    rw[h1] at hh;simp only[List.getElem?_take,Nat.zero_lt_one,if_true,List.getElem?_drop,Nat.add_zero] at hh;have h3:cur[off]? = some u:=by simpa using hh
    rw[Array.getElem?_eq_getElem hlt] at h3;exact Option.some.inj h3
   rw[this];exact e3
end
section
variable {P:Program}{T:Tab}{c:Ctx}{R:Real}{s:AS}{a:Act}{w:World}
theorem UA (g:bG c R s a w){b:Nat}{e:TypeId}{v st:Nat}{pre post:List (List PV)}{row:List AV}(hb:lk s.hp b=some (.gy e v st pre row post))(hn:R.nil b=false) :
  ∃(cur:Array Value) (vs r:List Value),w.heap[R.blk b]? = some (.cells cur e (0,0))∧cur.toList.drop (pre.length*st)=vs++r∧vs.length=st∧FC (ak (aV c R s.hp) w s.hp R) row vs:=by
 obtain⟨vs,hrow,hvl,g1,m1⟩:=g.tH hb;have hb1:lk (s.app [(b,.arr e v st (pre++fM vs::post))]).hp b=some (.arr e v st (pre++fM vs::post)):=by
  simp only[AS.app,List.singleton_append,aC,if_true]
 obtain⟨cur,hg,hs,hle,hm,hr,_⟩:=gQ (g1.boxes b _ hb1) hn;obtain⟨a1,a2,a3,a4⟩:=zQ hr;obtain⟨r,hr'⟩:=Fu _ _ a3;exact⟨cur,vs,r,hg,hr',hvl,(bM _ _ _ _ _ _).1 hrow⟩
theorem zS (g:bG c R s a w)(hT:bY P T){H:List (Nat×aF)}(hH:∀b box,lk H b=some box→lk s.hp b=some box){t:TypeId}{x:AV}{K:AV→Prop}
  (h:uU T H t x K) {u:Value} (hx:ak (aV c R s.hp) w s.hp R x u) :
  ∃y v,(Instr.loadAt t u).run P w=.ok y w∧K v∧ak (aV c R s.hp) w s.hp R v y:=by
 unfold uU at h;split at h
 ·rename_i b ver k off;split at h
  ·rename_i e v st pre row post hb;have hb':=hH _ _ hb;split at h;rotate_left;cases h
   rename_i i hi;have hi':=hT t i hi;split at h;rotate_left;cases h
   rename_i fD hsz0;split at h;rotate_left;cases h
   rename_i cs hcs;obtain⟨rfl,h⟩:=h;simp only[ak,hb',bf] at hx;obtain⟨hn,rfl⟩:=hx.2.2 (Nat.eq_of_beq_eq_true fD);obtain⟨cur,vs,r,hg,hd,hvl,hrow⟩:=UA g hb' hn;obtain⟨h1,h2⟩:=hrow.fp.part hcs;have hlen:cur.size=pre.length*st+(vs.length+r.length)∨(vs++r=[]∧cur.size≤pre.length*st):=by
    have:=congrArg List.length hd;simp only[List.length_drop,Array.length_toList,List.length_append] at this;by_cases hz:cur.size≤pre.length*st
    ·refine .inr ⟨List.eq_nil_of_length_eq_zero (by simp only[List.length_append];omega),hz⟩
    left;omega
   have hdd:(cur.toList.drop (pre.length*st+off)).take i.size=(vs.drop off).take i.size:=by
    rw[←List.drop_drop,hd,List.drop_append_of_le_length (by omega),List.take_append_of_le_length (by simp only[List.length_drop];omega)]
   by_cases hz:pre.length*st+off+i.size≤cur.size
   ·obtain⟨y,z,k1,k2,k3⟩:=CU i hi' hg hz (by rw[hdd];exact h2) h;exact⟨y,z,by simpa[Instr.loadAt,Instr.sureAddr] using k1,k2,k3⟩
   exfalso;rcases hlen with hlen|⟨hnil,hlen⟩
   ·omega
   have:vs=[]:=(List.append_eq_nil_iff.1 hnil).1;subst this;simp only[List.length_nil] at h1 hvl;exact Nat.ne_of_beq_eq_false hsz0 (by omega)
  exact uS g hT hH h hx
 exact uS g hT hH h hx
theorem MC {α:Type}:∀{off:Nat} {vs xs:List α},off+xs.length≤vs.length→kz off vs xs=some (vs.take off++xs++vs.drop (off+xs.length))
 | 0,vs,xs,h=>by
   simp only[kz,List.take_zero,List.nil_append,Nat.zero_add];have:∀(xs vs:List α),xs.length≤vs.length→kI vs xs=some (xs++vs.drop xs.length):=by
    intro xs;induction xs with
    |nil=>intro vs _;cases vs<;>simp[kI]
    | cons x xs ih=>
      intro vs h;cases vs with
      |nil=>simp at h
      |cons v vs=>simp only[kI,ih vs (by simpa using h)];simp
   exact this xs vs (by simpa using h)
 |off+1,[],xs,h=>by simp at h
 | off+1,v::vs,xs,h=>by
   have h':off+xs.length≤vs.length:=by simp only[List.length_cons] at h;omega
   simp only[kz,MC h'];rw[show off+1+xs.length=(off+xs.length)+1 by omega];simp
theorem ab6 (a b:List Value):fM (a++b)=fM a++fM b:=by simp[fM]
theorem ab7 {off:Nat}{vs xs:List Value}(h:off+xs.length≤vs.length):kz off (fM vs) (fM xs)=some (fM (vs.take off++xs++vs.drop (off+xs.length))):=by
 rw[MC (by rw[nW,nW];exact h)];simp only[ab6,nW];simp[fM,List.map_take,List.map_drop]
def exV (i:TI)(v:Value):PV:=match i.d.isAgg with
 |true=>.agg (fM v.cells.toList)
 |false=>.sc v
theorem Fv {N:Nat→Prop}:∀(vs:List Value),(∀v∈vs,v.oneCell'=true)→iX N w (fM vs) vs
 |[],_=>by simp[fM,iX]
 | v::vs,h=>by
   simp only[fM,List.map_cons,iX];exact⟨v,vs,rfl,h v (by simp),by simp only[bJ],Fv vs fun u hu=>h u (by simp[hu])⟩
theorem aeT {N N':Nat→Prop}{w w':World}{hp:List (Nat×aF)}{i:TI}{y:AV}{cs:List AV}(h:cellsOf i y=some cs){v:Value}(hy:ak N w hp R y v):bJ N' w' (exV i v) v∧lQ i (exV i v)=some (fM v.cells.toList):=by
 have hc:=jy h hy;unfold exV;cases ha:i.d.isAgg with
 | true=>
   simp only[cellsOf,ha] at h;have:∃us:Array Value,v=.agg us:=by
    split at h
    ·simp only[ak,bJ] at hy;obtain⟨us,e,_⟩:=hy;exact⟨us,e⟩
    ·simp only[ak] at hy;obtain⟨us,e,_⟩:=hy;exact⟨us,e⟩
    cases h
   obtain⟨us,rfl⟩:=this;refine⟨?_,by simp[lQ,ha]⟩;simp only[bJ];exact⟨us,rfl,Fv us.toList hc.one⟩
 | false=>
   simp only[cellsOf,ha] at h;split at h
   ·rename_i hcell;have h1:=Ig hcell hy;have e:=A9 h1;refine⟨by simp only[bJ],?_⟩;simp only[lQ,ha,cellP,h1];have:v.cells.toList=[v]:=by rw[e]
    rw[this];rfl
   cases h
theorem ME (g:bG c R s a w):∀t u,lk s.tm t=some u→t≠c.n:=by
 intro t u h e;obtain⟨x,hx,_⟩:=g.slots t u h;have:=size_of_getElem? hx;rw[g.size] at this;omega
theorem wI {hp hp':List (Nat×aF)}(h:∀b,lk hp' b=lk hp b){v:AV}{x:Value}(hx:ak (aV c R hp) w hp R v x):ak (aV c R hp') w hp' R v x:=by
 refine dF (fun r _ hr=>?_) (fun _ _ _=>rfl) (fun b off u hu=>by rw[h];exact hu) (fun b ver u hu=>by rw[h];exact hu) (fun b ver i off u hu=>by rw[h];exact hu) v x hx;rcases hr with hr|⟨b,hr⟩
 ·exact .inl hr
 exact .inr ⟨b,by rw[←h];exact hr⟩
theorem qF (g:bG c R s a w)(hT:bY P T){H:List (Nat×aF)}(hH:∀b box,lk H b=some box→lk s.hp b=some box){t:TypeId}{x y:AV}
  {K:AV→List (Nat×aF)→Prop} (h:mX T H t x y K) {u v:Value} (hx:ak (aV c R s.hp) w s.hp R x u) (hy:ak (aV c R s.hp) w s.hp R y v) :
  ∃w' ws,(Instr.storeAt t u v).run P w=.ok () w'∧K (.pv (.sc undef)) ws∧bG c R (s.app ws) a w':=by
 unfold mX at h;split at h
 ·rename_i b ver k off;split at h
  ·rename_i e vr st pre row post hb;have hb':=hH _ _ hb;split at h;rotate_left;cases h
   rename_i i hi;split at h;rotate_left;cases h
   rename_i fD;split at h;rotate_left;cases h
   rename_i cs hcs;split at h;rotate_left;cases h
   rename_i hlen;split at h;rotate_left;cases h
   rename_i row' hset;obtain⟨rfl,hK⟩:=h;obtain⟨vs,hrow,hvl,g1,m1⟩:=g.tH hb';have hcv:=jy hcs hy;have hrow':=(bM _ _ _ _ _ _).1 hrow;obtain⟨hsl,_⟩:=FC.kz hrow' hcv hset;have hA:ak (aV c R (s.app [(b,.arr e vr st (pre++fM vs::post))]).hp) w (s.app [(b,.arr e vr st (pre++fM vs::post))]).hp R (.agg row) (.agg vs.toArray):=
    m1 _ _ (by simp only[ak];exact⟨_,rfl,by simpa using hrow⟩)
   have hB:ak (aV c R (s.app [(b,.arr e vr st (pre++fM vs::post))]).hp) w (s.app [(b,.arr e vr st (pre++fM vs::post))]).hp R (.agg cs) (.agg v.cells):=
    m1 _ _ (by simp only[ak];exact⟨_,rfl,by rw[bM];exact hcv⟩)
   have g2:=g1.MB hA;have g3:=g2.MB hB;have uM:lk (s.app [(b,.arr e vr st (pre++fM vs::post))]).hp b=some (.arr e vr st (pre++fM vs::post)):=by
    simp only[AS.app,List.singleton_append,aC,if_true]
   obtain⟨hrep,hpc⟩:=aeT (N':=aV c R (s.app [(b,.arr e vr st (pre++fM vs::post))]).hp) (w':=w) hcs hy;have hst:qC T (s.app [(b,.arr e vr st (pre++fM vs::post))]).hp t (.dM b ver pre.length off) (.pv (exV i v))
     (fun z ws=>ws=[(b,.arr e vr st (pre++fM (vs.take off++v.cells.toList++vs.drop (off+v.cells.toList.length))::post))]):=by
    have e1:Nat.beq (fM v.cells.toList).length i.size=true:=by rw[nW,hcv.length];exact hlen
    unfold qC;simp only[hi,uM,fD,hpc,e1];refine⟨fM vs,by simp,?_⟩;rw[ab7 hsl];simp
   obtain⟨w',ws,hrun,rfl,g4⟩:=sW g3 hT (fun _ _ h=>h) hst (u:=u) (v:=v) (m1 _ _ hx) (by simp only[ak];exact hrep);have hsz2:({ a with tmps:=a.tmps.push (.agg vs.toArray) }:Act).tmps.size=(J4 c).n:=by simp[J4,g.size]
   obtain⟨g5,hB'⟩:=bG.zR (c:=J4 c) (a:={ a with tmps:=a.tmps.push (.agg vs.toArray) }) hsz2 (ME g2) g4;obtain⟨g6,hA'⟩:=bG.zR (c:=c) g.size (ME g) g5;simp only[ak] at hA' hB';obtain⟨us,e1,hA'⟩:=hA';cases e1;obtain⟨us,e1,hB'⟩:=hB';cases e1;rw[bM] at hA' hB';obtain⟨_,hnew⟩:=FC.kz hA' hB' hset;have hb6:lk ([(b,aF.arr e vr st (pre++fM (vs.take off++v.cells.toList++vs.drop (off+v.cells.toList.length))::post))]++(s.app [(b,.arr e vr st (pre++fM vs::post))]).hp) b =
     some (.arr e vr st (pre++fM (vs.take off++v.cells.toList++vs.drop (off+v.cells.toList.length))::post)):=by
    rw[List.singleton_append,aC,if_pos rfl]
   obtain⟨g7,m7⟩:=bG.IC (row:=row') g6 hb6 (by rw[bM];exact hnew);refine⟨w',_,hrun,hK,bG.congr g7 (fun _=>rfl) fun j=>?_⟩;simp only[AS.app,List.singleton_append,aC];split<;>rfl
  exact sW g hT hH h hx hy
 exact sW g hT hH h hx hy
theorem Fw (g:bG c R s a w)(hT:bY P T){H:List (Nat×aF)}(hH:∀b box,lk H b=some box→lk s.hp b=some box){t:TypeId}{x ix:AV}{K:AV→Prop}
  (h:K7 T H t x ix K) {u v:Value} (hx:ak (aV c R s.hp) w s.hp R x u) (hv:ak (aV c R s.hp) w s.hp R ix v) :
  ∃y z,(Instr.indexAt t u v).run P w=.ok y w∧K z∧ak (aV c R s.hp) w s.hp R z y:=by
 unfold K7 at h;split at h
 ·rename_i b ver;split at h
  ·rename_i e vr st pre row post hb;have hb':=hH _ _ hb;split at h;rotate_left;cases h
   rename_i kk i;split at h;rotate_left;cases h
   rename_i ti XF;split at h;rotate_left;cases h
   rename_i e2 hte;split at h;rotate_left;cases h
   rename_i ei pV;split at h;rotate_left;cases h
   rename_i h1 h2;obtain⟨h0,hlt,hK⟩:=h;obtain⟨vs,hrow,hvl,g1,m1⟩:=g.tH hb';have uM:lk (s.app [(b,.arr e vr st (pre++fM vs::post))]).hp b=some (.arr e vr st (pre++fM vs::post)):=by
    simp only[AS.app,List.singleton_append,aC,if_true]
   have hl:(pre++fM vs::post).length=pre.length+(1+post.length):=by simp[Nat.add_comm]
   have hi:eP T (s.app [(b,.arr e vr st (pre++fM vs::post))]).hp t (.aO b ver) (.pv (.sc (.int kk i))) (fun z=>z=.dM b ver i.toNat 0):=by
    unfold eP;simp only[XF,hte,pV,uM,h1,h2];exact⟨h0,by rw[hl];exact hlt,trivial⟩
   obtain⟨y,z,hrun,rfl,hz⟩:=kC g1 hT (fun _ _ h=>h) hi (m1 _ _ hx) (m1 _ _ hv);refine⟨y,_,hrun,hK,?_⟩;simp only[ak,uM,bf] at hz;simp only[ak,hb',bf];exact hz
  exact kC g hT hH h hx hv
 exact kC g hT hH h hx hv
theorem CV (g:bG c R s a w)(hT:bY P T){H:List (Nat×aF)}(hH:∀b box,lk H b=some box→lk s.hp b=some box){t ty:TypeId}{x:AV}{K:AV→Prop}
  (h:BX T H t x K) {u:Value} (hx:ak (aV c R s.hp) w s.hp R x u) :
  ∃y z,(Builtin.len_ #[t] ty #[u]).run P w=.ok y w∧K z∧ak (aV c R s.hp) w s.hp R z y:=by
 unfold BX at h;split at h
 ·rename_i b ver;split at h
  ·rename_i e vr st pre row post hb;have hb':=hH _ _ hb;split at h;rotate_left;cases h
   rename_i i hi;split at h;rotate_left;cases h
   rename_i e2 hte;split at h;rotate_left;cases h
   rename_i h1;obtain⟨vs,hrow,hvl,g1,m1⟩:=g.tH hb';have uM:lk (s.app [(b,.arr e vr st (pre++fM vs::post))]).hp b=some (.arr e vr st (pre++fM vs::post)):=by
    simp only[AS.app,List.singleton_append,aC,if_true]
   have hl:(pre++fM vs::post).length=pre.length+(1+post.length):=by simp[Nat.add_comm]
   have hi:Et T (s.app [(b,.arr e vr st (pre++fM vs::post))]).hp t (.aO b ver) (fun z=>z=.pv (.sc (.int .i64 (pre.length+(1+post.length):Nat)))):=by
    unfold Et;simp only[hi,hte,vw,uM,uq,h1,hl]
   obtain⟨y,z,hrun,rfl,hz⟩:=sV (ty:=ty) g1 hT (fun _ _ h=>h) hi (m1 _ _ hx);refine⟨y,_,hrun,h,?_⟩;simp only[ak,bJ] at hz ⊢;exact hz
  exact sV g hT hH h hx
 exact sV g hT hH h hx
end
def vZ (T:Tab)(t:TypeId)(len:Nat)(ks:List Nat)(cs:List AV)(id:Nat)(K:AV→List (Nat×aF)→Prop):Prop:=
 match lk T t with
 | some i=>match i.d with
   | .slt e=>match lk T e with
     | some ei=>match ei.d.isAgg with
       | true=>tiF ei fun p9 KE=>match Nat.beq p9 0,Wp 0 ks,Nat.beq ks.length len,Nat.beq len 1,Nat.beq cs.length p9,Nat.ble p9 16777216 with
         |false,true,true,true,true,true=>K (.aO id 0) [(id,.gy e 0 p9 [] cs [])]
         |_,_,_,_,_,_=>False
       |false=>False
     |none=>False
   |_=>False
 |none=>False
def qa (T:Tab)(H:List (Nat×aF))(t:TypeId)(len:Nat)(ks:List Nat)(vs:List AV)(id:Nat)(K:AV→List (Nat×aF)→Prop):Prop:=
 match ajj T with
 | true=>match vs with
   |[.agg cs]=>vZ T t len ks cs id K
   |vs=>lS T H t len ks vs id K
 |false=>lS T H t len ks vs id K
def BZ (T:Tab)(H:List (Nat×aF))(t:TypeId)(d:AV)(k kv id:Nat)(K:AV→List (Nat×aF)→Prop):Prop:=
 match lk H k with
 | some (.gy e0 v0 Ap [] row [])=>match Nat.beq kv v0 with
   | true=>match lk T t with
     | some i=>match i.d with
       | .slt e=>match lk T e with
         | some ei=>tiF ei fun p9 KE=>match Nat.beq KE 0,Nat.beq p9 0,Nat.beq Ap p9 with
           | false,false,true=>match d with
             |.pv (.sc (.slice none 0 0))=>1*KE≤140737488355328∧K (.aO id 0) [(id,.gy e 0 p9 [] row [])]
             | .aO b ver=>match Nat.beq b k with
               |true=>False
               | false=>match lk H b with
                 | some (.arr e' v st rows)=>match Nat.beq ver v,Nat.beq st p9,Nat.beq e' e with
                   |true,true,true=>(rows.length+1)*KE≤140737488355328∧K (.aO b (v+1)) [(b,.gy e (v+1) p9 rows row [])]
                   |_,_,_=>False
                 |_=>False
             |_=>False
           |_,_,_=>False
         |none=>False
       |_=>False
     |none=>False
   |false=>False
 |_=>False
def xN (T:Tab)(t:TypeId)(ver:Nat)(o:Option aF)(src:Nat→Option (List (List PV)))(b:Nat)(K:AV→List (Nat×aF)→Prop):Prop:=
 match o with
 | some (.gy e' v st pre row post)=>match lk T t with
   | some i=>match i.d with
     | .slt e=>match lk T e with
       | some ei=>tiF ei fun p9 KE=>match Nat.beq KE 0,Nat.beq p9 0 with
         | false,false=>match src p9 with
           | some aS=>match Nat.beq ver v,Nat.beq st p9,Nat.beq e' e with
             |true,true,true=>(pre.length+(1+post.length)+aS.length)*KE≤140737488355328∧K (.aO b (v+1)) [(b,.gy e (v+1) p9 pre row (post++aS))]
             |_,_,_=>False
           |none=>False
         |_,_=>False
       |none=>False
     |_=>False
   |none=>False
 |_=>False
def Ca (T:Tab)(H:List (Nat×aF))(t:TypeId)(b ver:Nat)(x:AV)(K:AV→List (Nat×aF)→Prop):Prop:=
 match x with
 |.pv p=>xN T t ver (lk H b) (fun p9=>lM H p9 (.pv p)) b K
 | .aO k kv=>match Nat.beq b k with
   |true=>False
   |false=>xN T t ver (lk H b) (fun p9=>lM H p9 (.aO k kv)) b K
 |_=>False
def Yz (o:Option aF):Bool:=
 match o with
 |some (.gy _ _ _ _ _ _)=>true
 |_=>false
def wX (T:Tab)(H:List (Nat×aF))(t:TypeId)(vs:List AV)(id:Nat)(K:AV→List (Nat×aF)→Prop):Prop:=
 match vs with
 | [d,x]=>match x with
   | .aO k kv=>match Yz (lk H k) with
     |true=>BZ T H t d k kv id K
     | false=>match d with
       | .aO b ver=>match Yz (lk H b) with
         |true=>Ca T H t b ver (.aO k kv) K
         |false=>tZ T H t [.aO b ver,.aO k kv] id K
       |d=>tZ T H t [d,.aO k kv] id K
   | x=>match d with
     | .aO b ver=>match Yz (lk H b) with
       |true=>Ca T H t b ver x K
       |false=>tZ T H t [.aO b ver,x] id K
     |d=>tZ T H t [d,x] id K
 |vs=>tZ T H t vs id K
section
variable {P:Program}{T:Tab}{c:Ctx}{R:Real}{s:AS}{a:Act}{w:World}
theorem GA (g:bG c R s a w)(hT:bY P T){id:Nat}(hf:lk s.hp id=none){t:TypeId}{len:Nat}{ks:List Nat}{cs:List AV}{K:AV→List (Nat×aF)→Prop}
  (h:vZ T t len ks cs id K) {u:Value} (hv:ak (aV c R s.hp) w s.hp R (.agg cs) u) :
  ∃y w' R' z ws,(Instr.buildSlice t len (ks.zip [u]).toArray).run P w=.ok y w'∧K z ws∧bG c R' (s.app ws) a w'∧ak (aV c R' (ws++s.hp)) w' (ws++s.hp) R' z y:=by
 unfold vZ at h;simp only[eu] at h;split at h;rotate_left;cases h
 rename_i i hi;split at h;rotate_left;cases h
 rename_i e hte;split at h;rotate_left;cases h
 rename_i ei pV;split at h;rotate_left;cases h
 rename_i hagg;split at h;rotate_left;cases h
 rename_i h0 h1 h2 h3 h4 h5;have hv0:=hv;simp only[ak] at hv;obtain⟨us,rfl,sF⟩:=hv;have hl:us.toList.length=cs.length:=by rw[bM] at sF;exact sF.length
 have h3:=Nat.eq_of_beq_eq_true h3;subst h3;have h4':=Nat.eq_of_beq_eq_true h4;have g1:=g.MB hv0;have hp:ak (aV (J4 c) R s.hp) w s.hp R (.pv (.agg (fM us.toList))) (.agg us):=by
  simp only[ak,bJ];exact⟨us,rfl,Fv _ ((bM _ _ _ _ _ _).1 sF).one⟩
 have hb:lS T [] t 1 ks [.pv (.agg (fM us.toList))] id (fun z ws=>z=.aO id 0∧ws=[(id,.arr e 0 ei.size ([]++fM us.toList::[]))]):=by
  unfold lS;simp only[eu,hi,hte,pV,h0,h1,h2];have e1:Nat.ble (1*ei.size) 16777216=true:=by rw[Nat.one_mul];exact h5
  have e2:lQ ei (.agg (fM us.toList))=some (fM us.toList):=by simp[lQ,hagg]
  have e3:Nat.beq (fM us.toList).length ei.size=true:=by rw[nW,hl];exact h4
  simp only[e1,GL,vw,GN,e2,e3,fq,refs,List.append_nil,Je,List.length_singleton];exact⟨trivial,by simp⟩
 obtain⟨y,w',R',z,ws,hrun,⟨rfl,rfl⟩,g2,hz⟩:=oJ (s:=⟨(c.n,.agg cs)::s.tm,s.nx,s.hp⟩) g1 hT (H:=[]) (fun b box hb=>by simp[lk] at hb) hf hb (us:=[.agg us]) ⟨_,_,rfl,hp,rfl⟩;obtain⟨g3,hr⟩:=bG.zR (tm:=s.tm) (nx:=s.nx) g.size (ME g) g2;simp only[ak] at hr;obtain⟨us',e1,hr⟩:=hr;cases e1;have ajk:lk ([(id,aF.arr e 0 ei.size ([]++fM us.toList::[]))]++s.hp) id=some (.arr e 0 ei.size ([]++fM us.toList::[])):=by
  rw[List.singleton_append,aC,if_pos rfl]
 obtain⟨g4,m4⟩:=g3.IC ajk hr;have hc:∀j,lk ([(id,aF.gy e 0 ei.size [] cs [])]++s.hp) j=lk ((id,aF.gy e 0 ei.size [] cs [])::([(id,aF.arr e 0 ei.size ([]++fM us.toList::[]))]++s.hp)) j:=by
  intro j;simp only[List.singleton_append,aC];split<;>rfl
 exact⟨y,w',R',_,_,hrun,h,bG.congr g4 (fun _=>rfl) hc,wI hc (m4 _ _ hz)⟩
theorem CW (g:bG c R s a w)(hT:bY P T){H:List (Nat×aF)}(hH:∀b box,lk H b=some box→lk s.hp b=some box){id:Nat}(hf:lk s.hp id=none)
  {t ty:TypeId} {d:AV} {k kv:Nat} {K:AV→List (Nat×aF)→Prop} (h:BZ T H t d k kv id K) {u v:Value} (hd:ak (aV c R s.hp) w s.hp R d u) (hx:ak (aV c R s.hp) w s.hp R (.aO k kv) v) :
  ∃y w' R' z ws,(Builtin.append_ #[t,t] ty #[u,v]).run P w=.ok y w'∧K z ws∧bG c R' (s.app ws) a w'∧ak (aV c R' (ws++s.hp)) w' (ws++s.hp) R' z y:=by
 unfold BZ at h;simp only[eu] at h;split at h;rotate_left;cases h
 rename_i e0 v0 Ap row hk;have hk':=hH _ _ hk;split at h;rotate_left;cases h
 rename_i hkv;have hkv:=Nat.eq_of_beq_eq_true hkv;subst hkv;split at h;rotate_left;cases h
 rename_i i hi;split at h;rotate_left;cases h
 rename_i e hte;split at h;rotate_left;cases h
 rename_i ei pV;split at h;rotate_left;cases h
 rename_i h1 h2 h3;have h3':=Nat.eq_of_beq_eq_true h3;subst h3';obtain⟨vs,hrow,hvl,g1,m1⟩:=g.tH hk';have hg:ak (aV c R (s.app [(k,.arr e0 kv ei.size ([]++fM vs::[]))]).hp) w (s.app [(k,.arr e0 kv ei.size ([]++fM vs::[]))]).hp R (.agg row) (.agg vs.toArray):=
  m1 _ _ (by simp only[ak];exact⟨_,rfl,by simpa using hrow⟩)
 have g2:=g1.MB hg;have hkk:lk (s.app [(k,.arr e0 kv ei.size ([]++fM vs::[]))]).hp k=some (.arr e0 kv ei.size ([]++fM vs::[])):=by
  simp only[AS.app,List.singleton_append,aC,if_true]
 have hko:∀j,j≠k→lk (s.app [(k,.arr e0 kv ei.size ([]++fM vs::[]))]).hp j=lk s.hp j:=by
  intro j hj;simp only[AS.app,List.singleton_append,aC,if_neg (show ¬k=j from fun e=>hj e.symm)]
 have aeU:id≠k:=fun e=>by rw[e,hk'] at hf;cases hf
 have hsrc:lM (s.app [(k,.arr e0 kv ei.size ([]++fM vs::[]))]).hp ei.size (.aO k kv)=some [fM vs]:=by
  simp only[lM,hkk,uq,Nat.beq_refl];simp
 have fin:∀(b:Nat) (nv:Nat) (rows:List (List PV)) (y:Value) (w':World) (R':Real),b≠k →
   bG (J4 c) R' (AS.app ⟨(c.n,.agg row)::s.tm,s.nx,(s.app [(k,.arr e0 kv ei.size ([]++fM vs::[]))]).hp⟩ [(b,.arr e nv ei.size (rows++fM vs::[]))]) { a with tmps:=a.tmps.push (.agg vs.toArray) } w' →
   ak (aV (J4 c) R' ([(b,.arr e nv ei.size (rows++fM vs::[]))]++(s.app [(k,.arr e0 kv ei.size ([]++fM vs::[]))]).hp)) w' ([(b,.arr e nv ei.size (rows++fM vs::[]))]++(s.app [(k,.arr e0 kv ei.size ([]++fM vs::[]))]).hp) R' (.aO b nv) y →
   bG c R' (s.app [(b,.gy e nv ei.size rows row [])]) a w'∧ak (aV c R' ([(b,.gy e nv ei.size rows row [])]++s.hp)) w' ([(b,.gy e nv ei.size rows row [])]++s.hp) R' (.aO b nv) y:=by
  intro b nv rows y w' R' hbk g3 hz;obtain⟨g4,hr⟩:=bG.zR (tm:=s.tm) (nx:=s.nx) g.size (ME g) g3;simp only[ak] at hr;obtain⟨us',e1,hr⟩:=hr;cases e1;have hr:dD (aV c R' ([(b,aF.arr e nv ei.size (rows++fM vs::[]))]++(s.app [(k,.arr e0 kv ei.size ([]++fM vs::[]))]).hp)) w' ([(b,aF.arr e nv ei.size (rows++fM vs::[]))]++(s.app [(k,.arr e0 kv ei.size ([]++fM vs::[]))]).hp) R' row vs:=by simpa using hr
  have hb4:lk ([(b,aF.arr e nv ei.size (rows++fM vs::[]))]++(s.app [(k,.arr e0 kv ei.size ([]++fM vs::[]))]).hp) b=some (.arr e nv ei.size (rows++fM vs::[])):=by
   rw[List.singleton_append,aC,if_pos rfl]
  obtain⟨g5,m5⟩:=g4.IC hb4 hr;have hr5:=m5 (.agg row) (.agg vs.toArray) (by simp only[ak];exact⟨_,rfl,by simpa using hr⟩);simp only[ak] at hr5;obtain⟨us5,e5,hr5⟩:=hr5;cases e5;have hk5:lk ((b,aF.gy e nv ei.size rows row [])::([(b,aF.arr e nv ei.size (rows++fM vs::[]))]++(s.app [(k,.arr e0 kv ei.size ([]++fM vs::[]))]).hp)) k=some (.arr e0 kv ei.size ([]++fM vs::[])):=by
   rw[aC,if_neg hbk,List.singleton_append,aC,if_neg hbk];exact hkk
  obtain⟨g6,m6⟩:=bG.IC (s:=⟨s.tm,s.nx,(b,aF.gy e nv ei.size rows row [])::([(b,aF.arr e nv ei.size (rows++fM vs::[]))]++(s.app [(k,.arr e0 kv ei.size ([]++fM vs::[]))]).hp)⟩) g5 hk5 hr5;have hc:∀j,lk ([(b,aF.gy e nv ei.size rows row [])]++s.hp) j=lk ((k,aF.gy e0 kv ei.size [] row [])::(b,aF.gy e nv ei.size rows row [])::([(b,aF.arr e nv ei.size (rows++fM vs::[]))]++(s.app [(k,.arr e0 kv ei.size ([]++fM vs::[]))]).hp)) j:=by
   intro j;simp only[List.singleton_append,aC];by_cases e1:k=j
   ·subst e1;rw[if_neg hbk,if_pos rfl];exact hk'
   rw[if_neg e1];split
   ·rfl
   exact (hko j (fun e=>e1 e.symm)).symm
  exact⟨bG.congr g6 (fun _=>rfl) hc,wI hc (m6 _ _ (m5 _ _ hz))⟩
 split at h
 ·obtain⟨hbd,hK⟩:=h;have PN:uw T (s.app [(k,.arr e0 kv ei.size ([]++fM vs::[]))]).hp t [.pv (.sc (.slice none 0 0)),.aO k kv] id (fun z ws=>z=.aO id 0∧ws=[(id,.arr e 0 ei.size ([]++fM vs::[]))]):=by
   unfold uw;simp only[eu,hi,hte,pV,h1,h2,hsrc];exact⟨by simpa using hbd,trivial,by simp⟩
  obtain⟨y,w',R',z,ws,hrun,⟨rfl,rfl⟩,g3,hz⟩:=sD (s:=⟨(c.n,.agg row)::s.tm,s.nx,(s.app [(k,.arr e0 kv ei.size ([]++fM vs::[]))]).hp⟩) g2 hT (fun _ _ h=>h) (by rw[hko id aeU];exact hf) (ty:=ty) PN (m1 _ _ hd) (m1 _ _ hx);obtain⟨g4,hz4⟩:=fin id 0 [] y w' R' aeU g3 hz;exact⟨y,w',R',_,_,hrun,hK,g4,hz4⟩
 ·rename_i b ver;split at h
  ·exact h.elim
  rename_i hbk;have hbk:=Nat.ne_of_beq_eq_false hbk;split at h;rotate_left;cases h
  rename_i e' vr st rows hb;have hb':=hH _ _ hb;split at h;rotate_left;cases h
  rename_i k1 k2 k3;obtain⟨hbd,hK⟩:=h;have YA:=Nat.eq_of_beq_eq_true k1;have DT:=Nat.eq_of_beq_eq_true k2;have Mc:=Nat.eq_of_beq_eq_true k3;subst YA;subst DT;subst Mc;have uM:lk (s.app [(k,.arr e0 kv ei.size ([]++fM vs::[]))]).hp b=some (.arr e' ver ei.size rows):=by rw[hko b hbk];exact hb'
  have PN:uw T (s.app [(k,.arr e0 kv ei.size ([]++fM vs::[]))]).hp t [.aO b ver,.aO k kv] id (fun z ws=>z=.aO b (ver+1)∧ws=[(b,.arr e' (ver+1) ei.size (rows++fM vs::[]))]):=by
   unfold uw;simp only[eu,hi,hte,pV,h1,h2,hsrc,uM,Nat.beq_refl];exact⟨by simpa using hbd,trivial,by simp⟩
  obtain⟨y,w',R',z,ws,hrun,⟨rfl,rfl⟩,g3,hz⟩:=sD (s:=⟨(c.n,.agg row)::s.tm,s.nx,(s.app [(k,.arr e0 kv ei.size ([]++fM vs::[]))]).hp⟩) g2 hT (fun _ _ h=>h) (by rw[hko id aeU];exact hf) (ty:=ty) PN (m1 _ _ hd) (m1 _ _ hx);obtain⟨g4,hz4⟩:=fin b (ver+1) rows y w' R' hbk g3 hz;exact⟨y,w',R',_,_,hrun,hK,g4,hz4⟩
 exact h.elim
theorem Gg (g:bG c R s a w)(hT:bY P T){H:List (Nat×aF)}(hH:∀b box,lk H b=some box→lk s.hp b=some box){id:Nat}(hf:lk s.hp id=none)
  {t:TypeId} {len:Nat} {ks:List Nat} {vs:List AV} {K:AV→List (Nat×aF)→Prop} (h:qa T H t len ks vs id K) {us:List Value} (hv:FL (ak (aV c R s.hp) w s.hp R) vs us) :
  ∃y w' R' z ws,(Instr.buildSlice t len (ks.zip us).toArray).run P w=.ok y w'∧K z ws∧bG c R' (s.app ws) a w'∧ak (aV c R' (ws++s.hp)) w' (ws++s.hp) R' z y:=by
 unfold qa at h;split at h
 ·split at h
  ·obtain⟨u,r,rfl,h1,h2⟩:=hv;simp only[FL] at h2;subst h2;exact GA g hT hf h h1
  exact oJ g hT hH hf h hv
 exact oJ g hT hH hf h hv
theorem CX (g:bG c R s a w)(hT:bY P T){H:List (Nat×aF)}(hH:∀b box,lk H b=some box→lk s.hp b=some box){id:Nat}(hf:lk s.hp id=none)
  {t ty:TypeId} {b ver:Nat} {x:AV} {K:AV→List (Nat×aF)→Prop} (h:Ca T H t b ver x K) {u v:Value} (hd:ak (aV c R s.hp) w s.hp R (.aO b ver) u) (hx:ak (aV c R s.hp) w s.hp R x v) :
  ∃y w' R' z ws,(Builtin.append_ #[t,t] ty #[u,v]).run P w=.ok y w'∧K z ws∧bG c R' (s.app ws) a w'∧ak (aV c R' (ws++s.hp)) w' (ws++s.hp) R' z y:=by
 have key:∀(src:Nat→Option (List (List PV))),xN T t ver (lk H b) src b K →
   (∀(H':List (Nat×aF)) p9 rows,(∀j,j≠b→∀box,lk H j=some box→lk H' j=some box)→src p9=some rows→lM H' p9 x=some rows) →
   ∃y w' R' z ws,(Builtin.append_ #[t,t] ty #[u,v]).run P w=.ok y w'∧K z ws∧bG c R' (s.app ws) a w'∧ak (aV c R' (ws++s.hp)) w' (ws++s.hp) R' z y:=by
  intro src h hsrc;unfold xN at h;simp only[eu] at h;split at h;rotate_left;cases h
  rename_i e' vr st pre row post hb;have hb':=hH _ _ hb;split at h;rotate_left;cases h
  rename_i i hi;split at h;rotate_left;cases h
  rename_i e hte;split at h;rotate_left;cases h
  rename_i ei pV;split at h;rotate_left;cases h
  rename_i h1 h2;split at h;rotate_left;cases h
  rename_i aS hrows;split at h;rotate_left;cases h
  rename_i k1 k2 k3;obtain⟨hbd,hK⟩:=h;have YA:=Nat.eq_of_beq_eq_true k1;have DT:=Nat.eq_of_beq_eq_true k2;have Mc:=Nat.eq_of_beq_eq_true k3;subst YA;subst DT;subst Mc;obtain⟨vs,hrow,hvl,g1,m1⟩:=g.tH hb';have hA:ak (aV c R (s.app [(b,.arr e' ver ei.size (pre++fM vs::post))]).hp) w (s.app [(b,.arr e' ver ei.size (pre++fM vs::post))]).hp R (.agg row) (.agg vs.toArray):=
   m1 _ _ (by simp only[ak];exact⟨_,rfl,by simpa using hrow⟩)
  have g2:=g1.MB hA;have uM:lk (s.app [(b,.arr e' ver ei.size (pre++fM vs::post))]).hp b=some (.arr e' ver ei.size (pre++fM vs::post)):=by
   simp only[AS.app,List.singleton_append,aC,if_true]
  have hsr:=hsrc (s.app [(b,.arr e' ver ei.size (pre++fM vs::post))]).hp ei.size aS (fun j hj box hbx=>by
   simp only[AS.app,List.singleton_append,aC,if_neg (show ¬b=j from fun e=>hj e.symm)];exact hH _ _ hbx) hrows
  have hl:(pre++fM vs::post).length=pre.length+(1+post.length):=by simp[Nat.add_comm]
  have aeV:id≠b:=fun e=>by rw[e,hb'] at hf;cases hf
  have PN:uw T (s.app [(b,.arr e' ver ei.size (pre++fM vs::post))]).hp t [.aO b ver,x] id (fun z ws=>z=.aO b (ver+1)∧ws=[(b,.arr e' (ver+1) ei.size ((pre++fM vs::post)++aS))]):=by
   unfold uw;simp only[eu,hi,hte,pV,h1,h2,hsr,uM,Nat.beq_refl];exact⟨by rw[hl];exact hbd,trivial,trivial⟩
  obtain⟨y,w',R',z,ws,hrun,⟨rfl,rfl⟩,g3,hz⟩:=sD (s:=⟨(c.n,.agg row)::s.tm,s.nx,(s.app [(b,.arr e' ver ei.size (pre++fM vs::post))]).hp⟩) g2 hT (fun _ _ h=>h) (by
   simp only[AS.app,List.singleton_append,aC,if_neg (show ¬b=id from fun e=>aeV e.symm)];exact hf) (ty:=ty) PN (m1 _ _ hd) (m1 _ _ hx)
  obtain⟨g4,hr⟩:=bG.zR (tm:=s.tm) (nx:=s.nx) g.size (ME g) g3;simp only[ak] at hr;obtain⟨us',e1,hr⟩:=hr;cases e1;have hb4:lk ([(b,aF.arr e' (ver+1) ei.size ((pre++fM vs::post)++aS))]++(s.app [(b,.arr e' ver ei.size (pre++fM vs::post))]).hp) b=some (.arr e' (ver+1) ei.size (pre++fM vs::(post++aS))):=by
   rw[List.singleton_append,aC,if_pos rfl,List.append_assoc,List.cons_append]
  obtain⟨g5,m5⟩:=g4.IC hb4 hr;have hc:∀j,lk ([(b,aF.gy e' (ver+1) ei.size pre row (post++aS))]++s.hp) j =
    lk ((b,aF.gy e' (ver+1) ei.size pre row (post++aS))::([(b,aF.arr e' (ver+1) ei.size ((pre++fM vs::post)++aS))]++(s.app [(b,.arr e' ver ei.size (pre++fM vs::post))]).hp)) j:=by
   intro j;simp only[AS.app,List.singleton_append,aC];split<;>rfl
  exact⟨y,w',R',_,_,hrun,hK,bG.congr g5 (fun _=>rfl) hc,wI hc (m5 _ _ hz)⟩
 unfold Ca at h;split at h
 ·refine key _ h fun H' p9 rows _ hr=>?_
  unfold lM at hr ⊢;split at hr
  ·rename_i e;cases e;exact hr
  ·rename_i e;cases e;exact hr
  ·rename_i e;cases e
  ·rename_i e;cases e
  cases hr
 ·rename_i k kv;split at h
  ·exact h.elim
  rename_i hbk;have hbk:=Nat.ne_of_beq_eq_false hbk;refine key _ h fun H' p9 rows hH' hr=>?_
  simp only[lM] at hr ⊢;cases hk:lk H k with
  |none=>rw[hk] at hr;simp[uq] at hr
  |some bx=>rw[hH' k (fun e=>hbk e.symm) bx hk,←hk];exact hr
 exact h.elim
theorem CY (g:bG c R s a w)(hT:bY P T){H:List (Nat×aF)}(hH:∀b box,lk H b=some box→lk s.hp b=some box){id:Nat}(hf:lk s.hp id=none)
  {t ty:TypeId} {d x:AV} {K:AV→List (Nat×aF)→Prop} (h:wX T H t [d,x] id K) {u v:Value} (hd:ak (aV c R s.hp) w s.hp R d u) (hx:ak (aV c R s.hp) w s.hp R x v) :
  ∃y w' R' z ws,(Builtin.append_ #[t,t] ty #[u,v]).run P w=.ok y w'∧K z ws∧bG c R' (s.app ws) a w'∧ak (aV c R' (ws++s.hp)) w' (ws++s.hp) R' z y:=by
 unfold wX at h;simp only at h;split at h
 ·split at h
  ·exact CW g hT hH hf h hd hx
  split at h
  ·split at h
   ·exact CX g hT hH hf h hd hx
   exact qi g hT hH hf h hd hx
  exact qi g hT hH hf h hd hx
 split at h
 ·split at h
  ·exact CX g hT hH hf h hd hx
  exact qi g hT hH hf h hd hx
 exact qi g hT hH hf h hd hx
end
def tJ (R:Real)(b r:Nat):Prop:=∃v,some v∈(R.cap b).2∧v.ownBlock=some r
def bE (st:Nat):Nat→List Value→List (List PV)
 |0,_=>[]
 |n+1,xs=>fM (xs.take st)::bE st n (xs.drop st)
theorem j4 (st:Nat):∀(n:Nat) (xs:List Value),(bE st n xs).length=n
 |0,_=>rfl
 |n+1,xs=>by simp[bE,j4 st n]
theorem FD {N:Nat→Prop}{w:World}{st:Nat}:∀{n:Nat} {xs:List Value},n*st≤xs.length→(∀v∈xs.take (n*st),v.oneCell'=true)→cK N w st (bE st n xs) xs
 |0,_,_,_=>by simp only[bE,cK]
 | n+1,xs,hl,h1=>by
   rw[Nat.succ_mul] at hl h1;simp only[bE,cK,nW,List.length_take];refine⟨by omega,?_,FD (by rw[List.length_drop];omega) fun v hv=>h1 v ?_⟩
   ·have:=Fs (N:=N) (w:=w) (xs.take st) (xs.drop st) fun v hv=>h1 v (by
     refine List.mem_of_mem_take (i:=st) ?_;rw[List.take_take,Nat.min_eq_left (by omega)];exact hv)
    rwa [List.take_append_drop] at this
   rw[show n*st+st=st+n*st by omega,List.take_add];exact List.mem_append_right _ hv
theorem BD {N:Nat→Prop}{w:World}{st:Nat}:∀{n:Nat} {xs ys:List Value},n*st≤xs.length→cK N w st (bE st n xs) ys→ys.take (n*st)=xs.take (n*st)
 |0,_,_,_,_=>by simp
 | n+1,xs,ys,hl,h=>by
   rw[Nat.succ_mul] at hl ⊢;simp only[bE,cK,nW,List.length_take] at h;obtain⟨h1,h2,h3⟩:=h;obtain⟨r,hr⟩:=Fu _ _ h2;have ih:=BD (by rw[List.length_drop];omega) h3;rw[show n*st+st=st+n*st by omega,List.take_add,List.take_add,ih];congr 1
   rw[hr,List.take_append_of_le_length (by rw[List.length_take];omega),List.take_take,Nat.min_self]
section
variable {N:Nat→Prop}{w:World}{st j:Nat}{ed:TypeId}{sd:Nat}
theorem ML {ps:List PV}{xs:List Value}(h:gU N w ps xs):ps.length≤xs.length∧∀v∈xs.take ps.length,v.oneCell'=true:=by
 rw[dN] at h;exact⟨h.length,h.take.one⟩
theorem MN {ps:List PV}{xs ys:List Value}(h:gU N w ps xs)(e:ys.take ps.length=xs.take ps.length):gU N w ps ys:=by
 have h':=h;rw[dN] at h;have h2:=h.take;rw[←e] at h2;have h3:=FP.app (ys.drop ps.length) h2.fp;rw[List.take_append_drop] at h3;rw[dN];exact h3
theorem vG:∀{hs:List (Option Value)} {rs:List (Bool×List PV)} {xs:List Value},ic N w st j ed sd hs rs xs→hs.length=rs.length∧rs.length*st≤xs.length∧∀v∈xs.take (rs.length*st),v.oneCell'=true
 |[],[],xs,_=>by simp
 |[],_::_,xs,h=>by simp only[ic] at h
 |_::_,[],xs,h=>by simp only[ic] at h
 | h::hs,(fl,r)::rs,xs,hh=>by
   simp only[ic] at hh;obtain⟨h1,h2,h3⟩:=hh;obtain⟨i1,i2,i3⟩:=vG h3;have hp:st≤xs.length∧∀v∈xs.take st,v.oneCell'=true:=by
    cases h with
    | none=>cases fl with
      |false=>have:=ML h2;rw[h1] at this;exact this
      |true=>exact h2.elim
    | some v=>cases fl with
      |false=>exact h2.elim
      | true=>
        obtain⟨rr,ys,a1,a0,a2,a3,a4⟩:=h2;have:=ML a2;rw[List.length_set,h1] at this;exact this
   rw[List.length_drop] at i2;refine⟨by simp[i1],by rw[List.length_cons,Nat.succ_mul];omega,fun v hv=>?_⟩;rw[List.length_cons,Nat.succ_mul,Nat.add_comm,List.take_add] at hv;rcases List.mem_append.1 hv with hv|hv
   ·exact hp.2 v hv
   exact i3 v hv
theorem zU:∀{hs:List (Option Value)} {rs:List (Bool×List PV)} {xs ys:List Value},ic N w st j ed sd hs rs xs→ys.take (rs.length*st)=xs.take (rs.length*st)→ic N w st j ed sd hs rs ys
 |[],[],xs,ys,_,_=>by simp only[ic]
 |[],_::_,xs,ys,h,_=>by simp only[ic] at h
 |_::_,[],xs,ys,h,_=>by simp only[ic] at h
 | h::hs,(fl,r)::rs,xs,ys,hh,e=>by
   simp only[ic] at hh ⊢;obtain⟨h1,h2,h3⟩:=hh;rw[List.length_cons,Nat.succ_mul] at e;have e1:ys.take st=xs.take st:=by
    have:=congrArg (List.take st) e;rwa [List.take_take,List.take_take,Nat.min_eq_left (by omega)] at this
   have e2:(ys.drop st).take (rs.length*st)=(xs.drop st).take (rs.length*st):=by
    rw[List.take_drop,List.take_drop,Nat.add_comm st,e]
   refine⟨h1,?_,zU h3 e2⟩;cases h with
   | none=>cases fl with
     |false=>exact MN h2 (by rw[h1];exact e1)
     |true=>exact h2.elim
   | some v=>cases fl with
     |false=>exact h2.elim
     | true=>
       obtain⟨rr,zs,a1,a0,a2,a3,a4⟩:=h2;exact⟨rr,zs,a1,a0,MN a2 (by rw[List.length_set,h1];exact e1),a3,a4⟩
theorem yx:∀{hs:List (Option Value)} {rs:List (Bool×List PV)} {xs:List Value},ic N w st j ed sd hs rs xs→∀v,some v∈hs→∀r,v.ownBlock=some r→∃cur,w.heap[r]? = some (.cells cur ed (0,0))
 |[],_,_,_,v,hv=>by simp at hv
 |_::_,[],xs,h,_,_=>by simp only[ic] at h
 | h::hs,(fl,r)::rs,xs,hh,v,hv=>by
   intro k hk;simp only[ic] at hh;obtain⟨h1,h2,h3⟩:=hh;rcases List.mem_cons.1 hv with e|hv
   ·subst e;cases fl with
    |false=>exact h2.elim
    | true=>
      obtain⟨rr,ys,a1,a0,a2,⟨_,a3⟩,a4⟩:=h2;rcases a3 with ⟨e,_⟩|⟨g,cap,cur,e,_,hg,_⟩
      ·subst e;simp[Value.ownBlock] at hk
      subst e;simp only[Value.ownBlock,Option.some.injEq] at hk;subst hk;exact⟨cur,hg⟩
   exact yx h3 v hv k hk
end
section
variable {N N':Nat→Prop}{w:World}{hp hp':List (Nat×aF)}{R R':Real}
theorem FE (hN:∀r,N' r→N r)(h1:∀b off v,aY R b off v (lk hp b)→aY R' b off v (lk hp' b))(h2:∀b ver v,aU R b ver v (lk hp b)→aU R' b ver v (lk hp' b))
  (h3:∀b ver i off v,bf R b ver i off v (lk hp b)→bf R' b ver i off v (lk hp' b)) (hY:R'.Y=R.Y) {b:Nat} (e1:R'.blk b=R.blk b) (e2:R'.nil b=R.nil b) (e3:R'.cap b=R.cap b) {box:aF}
  (h:dY N w hp R b box):dY N' w hp' R' b box:=by
 have YT:∀r,r<w.heap.size→N' r→N r:=fun r _=>hN r
 have hw:∀r,r<w.heap.size→¬N r→w.heap[r]? = w.heap[r]? :=fun _ _ _=>rfl
 have es:∀n,dH R' b n=dH R b n:=fun n=>by simp only[dH,e1,e2,e3]
 cases box with
 | var cells=>
   obtain⟨cur,e,a1,a2⟩:=h;exact⟨cur,e,by rw[e1];exact a1,bK YT hw h1 h2 h3 _ _ a2⟩
 | nR cells=>
   obtain⟨cur,e,fr,a1,a2,a3⟩:=h;exact⟨cur,e,fr,by rw[e1];exact a1,by rw[e1];exact fun x=>a2 (hN _ x),dQ YT hw _ _ a3⟩
 | arr e ver st rows=>
   obtain⟨xs,a1,a2⟩:=h;exact⟨xs,by rw[es];exact a1,aX YT hw _ _ _ a2⟩
 | dS ver st rows=>
   simp only[dY,es] at h ⊢;exact dJ YT hw _ _ h
 | tr y ver rest st=>
   obtain⟨k0,kh,k1,k2,k3,k4⟩:=h;refine⟨k0,by rw[hY];exact kh,by rw[hY,e2];exact k1,by rw[hY];exact k2,by rw[hY];exact k3,fun r hn=>by rw[hY];exact k4 r (hN r hn)⟩
 | mp kk kv es=>
   obtain⟨cur,clock,a1,a2,a3⟩:=h;exact⟨cur,clock,by rw[e1];exact a1,by rw[e2];exact a2,a3⟩
 | gy e ver st pre row post=>
   obtain⟨xs,a1,a2,a3,a4,a5⟩:=h;exact⟨xs,by rw[es];exact a1,aX YT hw _ _ _ a2,a3,bK YT hw h1 h2 h3 _ _ a4,aX YT hw _ _ _ a5⟩
 | iM e ver st j ed sd pre row post=>
   exact iQ YT hw e1 e2 e3 (fun _ _=>rfl) rfl (fun vs h=>bK YT hw h1 h2 h3 _ _ h) h
end
end Go.AX
end
