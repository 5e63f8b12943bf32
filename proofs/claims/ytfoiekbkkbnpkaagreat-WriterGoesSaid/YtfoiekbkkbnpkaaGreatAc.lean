/-
  Conditions: none. A framework for walks: abstract values, memory, and conditions that suffice; the chapters in plain terms.
-/
import Derived.Test.YtfoiekbkkbnpkaaGreatAb
import Derived.TacticsIn
set_option linter.unusedSectionVars false
set_option linter.unusedVariables false
set_option linter.unusedSimpArgs false
section
namespace Go.AX
theorem BI {N:Nat→Prop}{w:World}{hp:List (Nat×au)}{R:Real}{v:AV}{g:Fn}{a' c':List AV}{x:Value}(nW:KS v=some (g,a',c'))(hx:ai N w hp R v x) :
  ∃fs cs:Array Value,x=.func g fs cs∧bD N w hp R a' fs.toList∧bD N w hp R c' cs.toList:=by
 unfold KS at nW;split at nW
 ·simp only[Option.some.injEq,Prod.mk.injEq] at nW;obtain⟨rfl,rfl,rfl⟩:=nW;simpa only[ai] using hx
 ·simp only[Option.some.injEq,Prod.mk.injEq] at nW;obtain⟨rfl,rfl,rfl⟩:=nW;simp only[ai,aU] at hx;obtain⟨fs,cs,e,h3,h4⟩:=hx;exact⟨fs,cs,e,lV _ _ h3,lV _ _ h4⟩
 cases nW
theorem tT {N:Nat→Prop}{w:World}{hp:List (Nat×au)}{R:Real}{vs us:List AV}{xs ys:List Value}(h:bD N w hp R vs xs)(h':bD N w hp R us ys):bD N w hp R (vs++us) (xs++ys):=by
 rw[dn] at h h' ⊢;exact h.app h'
def K2 (R:Real)(eu:Ren)(hp:List (Nat×au))(v:AV)(x:Value):Prop:=
 match v with
 |.ptr k off=>k<999∧∃b d,lk eu k=some (b,d)∧aH R b off x (lk hp b)
 |.aZ k ver=>k<999∧∃b d,lk eu k=some (b,d)∧aD R b (ver+d) x (lk hp b)
 |.bU k ver i off=>k<999∧∃b d,lk eu k=some (b,d)∧aJ R b (ver+d) i off x (lk hp b)
 |_=>False
section
variable {P:Program}{c:Ctx}{R:Real}{s:AS}{a:Act}{w:World}
def DD (R:Real)(inv:Inv)(hp:List (Nat×au))(r:Nat):Prop:=∃b k d,lk inv b=some (k,d)∧ax R b r (lk hp b)
def BJ (g:aS c R s a w)(inv:Inv)(eu:Ren):Ctx where
 F r:=aG c R s.hp r∧¬DD R inv s.hp r
 O:=DD R inv s.hp
 w:=w
 n:=0
 hF r h:=g.Zn h.1
 K:=K2 R eu s.hp
 hK v x h:=by
  cases v<;>simp only[K2] at h<;>have h:=h.1<;>simp only[iD,Bool.and_eq_true,Nat.blt_eq,Bool.not_eq_true']<;>first
   |omega
   |exact⟨by omega,by cases hb:Nat.beq _ 999 with|false=>rfl|true=>(have:=Nat.eq_of_beq_eq_true hb;omega)⟩
 fix _:=none
 n0:=R.Y.n0
 lo:=w.heap.size
theorem RO (g:aS c R s a w){inv:Inv}{eu:Ren}{lq:List (Nat×au)}(h1:∀b k d,lk inv b=some (k,d)→lk eu k=some (b,d))(h1':∀b k d,lk eu k=some (b,d)→lk inv b=some (k,d))
  (h2:∀k b d,lk eu k=some (b,d)→∃box,lk s.hp b=some box∧d=lI box∧lk lq k=some (jv inv box))
  (h3:∀k box0,lk lq k=some box0→∃b box,lk eu k=some (b,lI box)∧lk s.hp b=some box∧box0=jv inv box) (h4:∀k x y z u,lk lq k≠some (.tr x y z u)) :
  vZ (BJ g inv eu) (J4 eu R) lq w∧(∀r,aG (BJ g inv eu) (J4 eu R) lq r→aG c R s.hp r):=by
 have ho:∀k r,ax (J4 eu R) k r (lk lq k)→∃b d,lk eu k=some (b,d)∧ax R b r (lk s.hp b):=by
  intro k r h;cases hk:lk lq k with
  |none=>rw[hk] at h;exact h.elim
  | some box0=>
    obtain⟨b,box,a1,a2,rfl⟩:=h3 k box0 hk;obtain⟨e1,e2,e3⟩:=BG (R:=R) a1;refine⟨b,_,a1,?_⟩;rw[hk] at h;rw[a2];cases box<;>simp only[ax,jv,e1,e2,e3] at h ⊢ <;> exact h
 have hod:∀r,owned (J4 eu R) lq r→DD R inv s.hp r:=by
  rintro r ⟨k,h⟩
  obtain⟨b,d,a1,a2⟩:=ho k r h;exact⟨b,k,d,h1' b k d a1,a2⟩
 have hN:∀r,aG (BJ g inv eu) (J4 eu R) lq r→aG c R s.hp r:=by
  rintro r (h|h)
  ·exact h.1
  obtain⟨b,k,d,_,h⟩:=hod r h;exact .inr ⟨b,h⟩
 refine⟨⟨fun k box0 hk=>?_,fun k k' r ha hb=>?_,fun r hr hF=>hF.2 (hod r hr),kK.refl _ _,fun r hr=>.inl (hod r hr),fun v x hK=>?_,rf.none,⟨rfl,by show R.Y.n0.1≤w.heap.size;rw[g.lo.1];exact Nat.le_trans g.lo.2.1 g.lo.2.2,Nat.le_refl _⟩⟩,hN⟩
 ·obtain⟨b,box,a1,a2,rfl⟩:=h3 k box0 hk;obtain⟨e1,e2,e3⟩:=BG (R:=R) a1;have hr:=g.boxes b box a2;cases box with
  | var cells=>
    obtain⟨cur,e,b1,b2⟩:=hr;exact⟨cur,e,by rw[e1];exact b1,oU h1 h2 hN _ _ b2⟩
  | lM cells=>
    obtain⟨cur,e,fr,b1,b2,b3⟩:=hr;exact⟨cur,e,fr,by rw[e1];exact b1,by rw[e1];exact fun h=>b2 (hN _ h),bY (fun r _ h=>hN r h) (fun _ _ _=>rfl) _ _ b3⟩
  | arr e ver st rows=>
    obtain⟨xs,b1,b2⟩:=hr;exact⟨xs,by rw[F5 a1];exact b1,aI (fun r _ h=>hN r h) (fun _ _ _=>rfl) _ _ _ b2⟩
  | gD ver st rows=>
    simp only[jv,dB,F5 a1] at hr ⊢;exact bV (fun r _ h=>hN r h) (fun _ _ _=>rfl) _ _ hr
  |tr y ver rest st=>exact absurd hk (h4 _ _ _ _ _)
  | mp kk kv es=>
    obtain⟨cur,clock,b1,b2,b3⟩:=hr;exact⟨cur,clock,by rw[e1];exact b1,by rw[e2];exact b2,b3⟩
  |fZ e ver st j ed sd pre row post=>exact gZ (fun r _ h=>hN r h) (fun _ _ _=>rfl) e1 e2 e3 (fun _ _=>rfl) (tQ _ _) (fun vs h=>oU h1 h2 hN _ _ h) hr
  | dX e ver st pre row post=>
    obtain⟨xs,b1,b2,b3,b4,b5⟩:=hr;refine⟨xs,by rw[F5 a1];exact b1,aI (fun r _ h=>hN r h) (fun _ _ _=>rfl) _ _ _ b2,by rw[tQ];exact b3,oU h1 h2 hN _ _ b4,aI (fun r _ h=>hN r h) (fun _ _ _=>rfl) _ _ _ b5⟩
 ·obtain⟨b,d,a1,a2⟩:=ho k r ha;obtain⟨b',d',b1,b2⟩:=ho k' r hb;have:=g.inj b b' r a2 b2;subst this;have e1:=h1' b k d a1;have e2:=h1' b k' d' b1;rw[e1] at e2;simp only[Option.some.injEq,Prod.mk.injEq] at e2;exact e2.1
 cases v<;>simp only[BJ,K2] at hK
 ·obtain⟨_,b,d,a1,a2⟩:=hK;simp only[ai];exact BH h1 h2 (h1' b _ d a1) a2
 ·obtain⟨_,b,d,a1,a2⟩:=hK;simp only[ai];have:=Eu h1 h2 (h1' b _ d a1) (Nat.le_add_left _ _) a2;rwa [Nat.add_sub_cancel] at this
 obtain⟨_,b,d,a1,a2⟩:=hK;simp only[ai];have:=yA h1 h2 (h1' b _ d a1) (Nat.le_add_left _ _) a2;rwa [Nat.add_sub_cancel] at this
theorem MX (g:aS c R s a w){inv:Inv}{eu ρ:Ren}{hp':List (Nat×au)}{R2:Real}{w':World}{id:Nat}
  (h1:∀b k d,lk inv b=some (k,d)→lk eu k=some (b,d)) (h1':∀b k d,lk eu k=some (b,d)→lk inv b=some (k,d))
  (h2:∀k b d,lk eu k=some (b,d)→∃box,lk s.hp b=some box∧d=lI box) (h4:∀k b d,lk eu k=some (b,d)→∀x y z u,lk s.hp b≠some (.tr x y z u))
  (Ew:∀k p,lk eu k=some p→k<999∧∃box,lk hp' k=some box) (hnew:∀b∈rV eu id hp',lk s.hp b=none) (hkeys:u6 hp'=true)
  (hρ:ρ=yu eu id hp') (RP:∀k x y z u,lk hp' k≠some (.tr x y z u)) (h:vZ (BJ g inv eu) R2 hp' w') :
  aS c (Vz ρ R R2 hp') (s.app (fP ρ hp')) a w' ∧
   ∀v x,ai (aG (BJ g inv eu) R2 hp') w' hp' R2 v x→ai (aG c (Vz ρ R R2 hp') (fP ρ hp'++s.hp)) w' (fP ρ hp'++s.hp) (Vz ρ R R2 hp') (jV ρ v) x:=by
 have OZ:∀k box,lk hp' k=some box→(∃b d,lk eu k=some (b,d)∧ic ρ k=b∧Aa ρ k=d)∨(lk eu k=none∧ic ρ k=id+1000000*k∧Aa ρ k=0∧lk s.hp (ic ρ k)=none):=by
  intro k box hk;have e:lk ρ k=some (BB eu id k):=by rw[hρ,Et,hk];rfl
  cases hf:lk eu k with
  | some p=>
    obtain⟨b,d⟩:=p;refine .inl ⟨b,d,rfl,?_,?_⟩<;>simp[ic,Aa,e,BB,hf]
  | none=>
    have e1:ic ρ k=id+1000000*k:=by simp[ic,e,BB,hf]
    refine .inr ⟨rfl,e1,by simp[Aa,e,BB,hf],?_⟩;rw[e1];exact hnew _ (BF hk hf)
 have hinj:∀k k' box aV,lk hp' k=some box→lk hp' k'=some aV→ic ρ k'=ic ρ k→k'=k:=by
  intro k k' box aV hk hk' e;rcases OZ k box hk with ⟨b,d,a1,a2,a3⟩|⟨a1,a2,a3,a4⟩<;>rcases OZ k' aV hk' with ⟨b',d',b1,b2,b3⟩|⟨b1,b2,b3,b4⟩
  ·rw[a2,b2] at e;subst e;have e1:=h1' _ k d a1;have e2:=h1' _ k' d' b1;rw[e1] at e2;simp only[Option.some.injEq,Prod.mk.injEq] at e2;exact e2.1.symm
  ·obtain⟨bx,c1,_⟩:=h2 k b d a1;rw[e,a2,c1] at b4;cases b4
  ·obtain⟨bx,c1,_⟩:=h2 k' b' d' b1;rw[←e,b2,c1] at a4;cases a4
  rw[a2,b2] at e;omega
 have hit:∀k box,lk hp' k=some box→lk (hp'.map fun x=>(ic ρ x.1,x.1)) (ic ρ k)=some k:=fun k box hk=>
  Iz (fun k' aV hk' e=>hinj k k' box aV hk hk' e) hkeys hk
 generalize hX:(hp'.map fun x=>(ic ρ x.1,x.1))=X at hit;let R':=Vz ρ R R2 hp'
 have hRk:∀k box,lk hp' k=some box→R'.blk (ic ρ k)=R2.blk k∧R'.nil (ic ρ k)=R2.nil k∧R'.cap (ic ρ k)=R2.cap k:=by
  intro k box hk;have:=hit k box hk;rw[←hX] at this;simp only[R',Vz,this];exact⟨trivial,trivial,trivial⟩
 have hRn:∀b,lk X b=none→R'.blk b=R.blk b∧R'.nil b=R.nil b∧R'.cap b=R.cap b:=by
  intro b hb;rw[←hX] at hb;simp only[R',Vz,hb];exact⟨trivial,trivial,trivial⟩
 have hlk:∀k box,lk hp' k=some box→lk (fP ρ hp'++s.hp) (ic ρ k)=some (dS ρ k box):=by
  intro k box hk;have:=hit k box hk;rw[←hX] at this;obtain⟨_,bx,c1,c2⟩:=yB hkeys this;rw[hk] at c1;cases c1;have hmem:∀{l l':List (Nat×au)} {b:Nat} {y:au},lk l b=some y→lk (l++l') b=some y:=by
   intro l l' b y;induction l with
   |nil=>intro h;simp[lk] at h
   | cons z l ih=>
     obtain⟨zk,zv⟩:=z;intro h;rw[List.cons_append,ak];rw[ak] at h;split at h
     ·rename_i e;rw[if_pos e];exact h
     rename_i e;rw[if_neg e];exact ih h
  exact hmem c2
 have hln:∀b,lk X b=none→lk (fP ρ hp'++s.hp) b=lk s.hp b:=by
  intro b hb;rw[←hX] at hb;have:=Ev hb;have hmem:∀{l l':List (Nat×au)} {b:Nat},lk l b=none→lk (l++l') b=lk l' b:=by
   intro l l' b;induction l with
   |nil=>intro _;rfl
   | cons z l ih=>
     obtain⟨zk,zv⟩:=z;intro h;rw[List.cons_append,ak];rw[ak] at h;split at h
     ·cases h
     rename_i e;rw[if_neg e];exact ih h
  exact hmem this
 have hcase:∀b,lk X b=none∨∃k box,b=ic ρ k∧lk hp' k=some box:=by
  intro b;cases hb:lk X b with
  |none=>exact .inl rfl
  | some k=>
    rw[←hX] at hb;obtain⟨e,bx,c1,_⟩:=yB hkeys hb;exact .inr ⟨k,bx,e,c1⟩
 have hXd:∀b k d,lk inv b=some (k,d)→lk X b≠none:=by
  intro b k d hb hn;have hf:=h1 b k d hb;obtain⟨_,bx,hk⟩:=Ew k _ hf;have:=hit k bx hk;rcases OZ k bx hk with ⟨b',d',a1,a2,a3⟩|⟨a1,_⟩
  ·rw[hf] at a1;simp only[Option.some.injEq,Prod.mk.injEq] at a1;rw[a2,←a1.1,hn] at this;cases this
  rw[hf] at a1;cases a1
 have zn:∀b r,lk X b=none→ax R' b r (lk (fP ρ hp'++s.hp) b)→ax R b r (lk s.hp b):=by
  intro b r hb h';rw[hln b hb] at h';exact fI (hRn b hb) rfl h'
 have zo:∀k box r,lk hp' k=some box→ax R' (ic ρ k) r (lk (fP ρ hp'++s.hp) (ic ρ k))→ax R2 k r (lk hp' k):=by
  intro k box r hk h';rw[hlk k box hk] at h';rw[hk];obtain⟨e1,e2,e3⟩:=hRk k box hk;cases box<;>simp only[ax,dS,e1,e2,e3] at h' ⊢ <;> first
   |exact h'
   |exact absurd hk (RP _ _ _ _ _)
 have aau:∀b r,lk X b=none→ax R b r (lk s.hp b)→¬DD R inv s.hp r:=by
  rintro b r hb ho ⟨b',k,d,hi,ho'⟩
  have:=g.inj b b' r ho ho';subst this;exact hXd b k d hi hb
 have RQ:∀b r,lk X b=none→ax R b r (lk s.hp b)→(BJ g inv eu).F r:=fun b r hb ho=>⟨.inr ⟨b,ho⟩,aau b r hb ho⟩
 have aav:∀r,c.F r→(BJ g inv eu).F r:=fun r hr=>⟨.inl hr,fun⟨b,k,d,_,ho⟩=>g.free r ⟨b,ho⟩ hr⟩
 have DN:∀r,DD R inv s.hp r→owned R s.hp r:=fun r ⟨b,k,d,_,ho⟩=>⟨b,ho⟩
 have N2:∀r,aG c R' (fP ρ hp'++s.hp) r→aG (BJ g inv eu) R2 hp' r:=by
  rintro r (h'|⟨b,h'⟩)
  ·exact .inl (aav r h')
  rcases hcase b with hb|⟨k,box,rfl,hk⟩
  ·exact .inl (RQ b r hb (zn b r hb h'))
  exact .inr ⟨k,zo k box r hk h'⟩
 have NN:∀r,r<w.heap.size→aG c R' (fP ρ hp'++s.hp) r→aG c R s.hp r:=by
  intro r hr h';rcases N2 r h' with h'|h'
  ·exact h'.1
  rcases h.fG r h' with h'|h'
  ·exact .inr (DN r h')
  exact absurd hr (Nat.not_lt.2 h')
 have WW:∀r,r<w.heap.size→¬aG c R s.hp r→w'.heap[r]? = w.heap[r]? :=fun r hr hn=>h.iE.keep r hr fun hd=>hn (.inr (DN r hd))
 have P1:∀k box,lk hp' k=some box→∀off v,aH R2 k off v (lk hp' k)→aH R' (ic ρ k) off v (lk (fP ρ hp'++s.hp) (ic ρ k)):=by
  intro k box hk off v hr;rw[hlk k box hk];rw[hk] at hr;obtain⟨e1,e2,e3⟩:=hRk k box hk;cases box<;>simp only[aH,dS,e1] at hr ⊢ <;> exact hr
 have P2:∀k box,lk hp' k=some box→∀ver v,aD R2 k ver v (lk hp' k)→aD R' (ic ρ k) (ver+Aa ρ k) v (lk (fP ρ hp'++s.hp) (ic ρ k)):=by
  intro k box hk ver v hr;rw[hlk k box hk];rw[hk] at hr;obtain⟨e1,e2,e3⟩:=hRk k box hk;cases box<;>simp only[aD,dS,Yg,yc e1 e2 e3] at hr ⊢ <;> first
   |exact hr
   |exact⟨Nat.zero_le _,hr.2.1,hr.2.2⟩
   |exact⟨by omega,hr.2.1,fun he=>hr.2.2 (by omega)⟩
 have P3:∀k box,lk hp' k=some box→∀ver i off v,aJ R2 k ver i off v (lk hp' k)→aJ R' (ic ρ k) (ver+Aa ρ k) i off v (lk (fP ρ hp'++s.hp) (ic ρ k)):=by
  intro k box hk ver i off v hr;rw[hlk k box hk];rw[hk] at hr;obtain⟨e1,e2,e3⟩:=hRk k box hk;cases box<;>simp only[aJ,dS,e1,e2] at hr ⊢ <;> first
   |exact hr
   |exact absurd hk (RP _ _ _ _ _)
   |exact⟨Nat.zero_le _,hr.2.1,hr.2.2⟩
   |exact⟨by omega,hr.2.1,fun he=>hr.2.2 (by omega)⟩
 have Q1:∀b off v,aH R b off v (lk s.hp b)→aH R' b off v (lk (fP ρ hp'++s.hp) b):=by
  intro b off v hr;rcases hcase b with hb|⟨k,box,rfl,hk⟩
  ·rw[hln b hb];exact jT (hRn b hb) hr
  rcases OZ k box hk with ⟨b,d,a1,a2,a3⟩|⟨a1,a2,a3,a4⟩
  ·rw[a2] at hr;have:=h.kept (.ptr k off) v ⟨(Ew k _ a1).1,b,d,a1,hr⟩;simp only[ai] at this;exact P1 k box hk off v this
  rw[a4] at hr;exact hr.elim
 have cur:∀k b d,lk eu k=some (b,d)→∀box,lk hp' k=some box→(∃ver v,aD R b ver v (lk s.hp b))→∃v',aD R b (0+d) v' (lk s.hp b):=by
  rintro k b d hk box hb ⟨ver,v,hr⟩
  obtain⟨bx,c1,c2⟩:=h2 k b d hk;rw[c1] at hr ⊢;cases bx<;>simp only[aD] at hr
  ·simp only[lI] at c2;subst c2;exact⟨bO R b _,by omega,by unfold bO;split<;>rfl,fun _=>rfl⟩
  ·simp only[lI] at c2;subst c2;exact⟨bO R b _,by omega,by unfold bO;split<;>rfl,fun _=>rfl⟩
  ·simp only[lI] at c2;subst c2;exact⟨bO R b _,by omega,by unfold bO;split<;>rfl,fun _=>rfl⟩
  simp only[lI] at c2;subst c2;exact⟨bO R b _,by omega,by unfold bO;split<;>rfl,fun _=>rfl⟩
 have Q2:∀b ver v,aD R b ver v (lk s.hp b)→aD R' b ver v (lk (fP ρ hp'++s.hp) b):=by
  intro b ver v hr;rcases hcase b with hb|⟨k,box,rfl,hk⟩
  ·rw[hln b hb];exact kR (hRn b hb) hr
  rcases OZ k box hk with ⟨b,d,a1,a2,a3⟩|⟨a1,a2,a3,a4⟩
  ·rw[a2] at hr;by_cases hd:d≤ver
   ·have:=h.kept (.aZ k (ver-d)) v ⟨(Ew k _ a1).1,b,d,a1,by rw[Nat.sub_add_cancel hd];exact hr⟩;simp only[ai] at this;have:=P2 k box hk _ v this;rwa [a3,Nat.sub_add_cancel hd] at this
   obtain⟨v',hv'⟩:=cur k b d a1 box hk ⟨ver,v,hr⟩;have:=h.kept (.aZ k 0) v' ⟨(Ew k _ a1).1,b,d,a1,hv'⟩;simp only[ai] at this;have:=P2 k box hk _ v' this;rw[a3] at this;have hone:v.oneCell'=true:=by
    cases hb2:lk s.hp b with
    |none=>rw[hb2] at hr;exact hr.elim
    |some bx=>rw[hb2] at hr;cases bx<;>simp only[aD] at hr<;>first|exact hr.2.1|exact hr.elim
   cases hb3:lk (fP ρ hp'++s.hp) (ic ρ k) with
   |none=>rw[hb3] at this;exact this.elim
   | some bx=>
     rw[hb3] at this;cases bx<;>simp only[aD] at this ⊢ <;> exact⟨by omega,hone,fun e=>by omega⟩
  rw[a4] at hr;exact hr.elim
 have adg:∀k b d,lk eu k=some (b,d)→∀box,lk hp' k=some box→d≠0→(∃ver i off v,aJ R b ver i off v (lk s.hp b))→∃v',aD R b (0+d) v' (lk s.hp b):=by
  rintro k b d hk box hb hd0 ⟨ver,i,off,v,hr⟩
  obtain⟨bx,c1,c2⟩:=h2 k b d hk;rw[c1] at hr ⊢;cases bx<;>simp only[aJ] at hr
  ·simp only[lI] at c2;subst c2;exact⟨bO R b _,by omega,by unfold bO;split<;>rfl,fun _=>rfl⟩
  ·simp only[lI] at c2;subst c2;exact⟨bO R b _,by omega,by unfold bO;split<;>rfl,fun _=>rfl⟩
  ·exact absurd c1 (h4 k b d hk _ _ _ _)
  ·simp only[lI] at c2;subst c2;exact⟨bO R b _,by omega,by unfold bO;split<;>rfl,fun _=>rfl⟩
  ·exact absurd c2 hd0
  simp only[lI] at c2;subst c2;exact⟨bO R b _,by omega,by unfold bO;split<;>rfl,fun _=>rfl⟩
 have Q3:∀b ver i off v,aJ R b ver i off v (lk s.hp b)→aJ R' b ver i off v (lk (fP ρ hp'++s.hp) b):=by
  intro b ver i off v hr;rcases hcase b with hb|⟨k,box,rfl,hk⟩
  ·rw[hln b hb];exact kS (hRn b hb) hr
  rcases OZ k box hk with ⟨b,d,a1,a2,a3⟩|⟨a1,a2,a3,a4⟩
  ·rw[a2] at hr;by_cases hd:d≤ver
   ·have:=h.kept (.bU k (ver-d) i off) v ⟨(Ew k _ a1).1,b,d,a1,by rw[Nat.sub_add_cancel hd];exact hr⟩;simp only[ai] at this;have:=P3 k box hk _ i off v this;rwa [a3,Nat.sub_add_cancel hd] at this
   obtain⟨v',hv'⟩:=adg k b d a1 box hk (by omega) ⟨ver,i,off,v,hr⟩;have:=h.kept (.aZ k 0) v' ⟨(Ew k _ a1).1,b,d,a1,hv'⟩;simp only[ai] at this;have:=P2 k box hk _ v' this;rw[a3] at this;have hone:v.oneCell'=true:=by
    cases hb2:lk s.hp b with
    |none=>rw[hb2] at hr;exact hr.elim
    |some bx=>rw[hb2] at hr;cases bx<;>simp only[aJ] at hr<;>first|exact hr.2.1|exact hr.elim
   cases hb3:lk (fP ρ hp'++s.hp) (ic ρ k) with
   |none=>rw[hb3] at this;exact this.elim
   | some bx=>
     rw[hb3] at this;cases bx<;>simp only[aD] at this<;>simp only[aJ]<;>exact⟨by omega,hone,fun e=>by omega⟩
  rw[a4] at hr;exact hr.elim
 have MZ:∀k box,lk hp' k=some box→lk (fP ρ hp'++s.hp) (ic ρ k)=some (dS ρ k box)∧R'.blk (ic ρ k)=R2.blk k∧R'.nil (ic ρ k)=R2.nil k∧R'.cap (ic ρ k)=R2.cap k:=
  fun k box hk=>⟨hlk k box hk,hRk k box hk⟩
 have Id1:∀b off v,aH R' b off v (lk (fP ρ hp'++s.hp) b)→aH R' b off v (lk (fP ρ hp'++s.hp) b):=fun _ _ _ h=>h
 have Id2:∀b ver v,aD R' b ver v (lk (fP ρ hp'++s.hp) b)→aD R' b ver v (lk (fP ρ hp'++s.hp) b):=fun _ _ _ h=>h
 have Id3:∀b ver i off v,aJ R' b ver i off v (lk (fP ρ hp'++s.hp) b)→aJ R' b ver i off v (lk (fP ρ hp'++s.hp) b):=fun _ _ _ _ _ h=>h
 have U3:∀r,r<w'.heap.size→aG c R' (fP ρ hp'++s.hp) r→aG (BJ g inv eu) R2 hp' r:=fun r _=>N2 r
 have W2:∀r,r<w'.heap.size→¬aG (BJ g inv eu) R2 hp' r→w'.heap[r]? = w'.heap[r]? :=fun _ _ _=>rfl
 have WO:∀r,r<w.heap.size→¬owned R s.hp r→w'.heap[r]? = w.heap[r]? :=fun r hr hn=>h.iE.keep r hr fun hd=>hn (DN r hd)
 have OO:∀r,r<w.heap.size→owned R' (fP ρ hp'++s.hp) r→owned R s.hp r:=by
  rintro r hr ⟨b,h'⟩
  rcases hcase b with hb|⟨k,box,rfl,hk⟩
  ·exact⟨b,zn b r hb h'⟩
  rcases h.fG r ⟨k,zo k box r hk h'⟩ with h'|h'
  ·exact DN r h'
  exact absurd hr (Nat.not_lt.2 h')
 refine⟨⟨fun t v hv=>?_,g.size,⟨g.lo.1,g.lo.2.1,Nat.le_trans g.lo.2.2 h.iE.size⟩,g.marks.imp fun Ds hm=>hm.kept WO OO,g.fixed.kept WO OO,fun b box hb=>?_,fun b b' r ha hb=>?_,fun r ⟨b,hr⟩ hF=>?_,?_,fun r ⟨b,hr⟩=>?_,fun v x hK=>bP NN WW Q1 Q2 Q3 v x (g.kept v x hK)⟩,fun v x hv=>?_⟩
 ·obtain⟨x,hx,hr⟩:=g.slots t v hv;exact⟨x,hx,bP NN WW Q1 Q2 Q3 v x hr⟩
 ·simp only[AS.app] at hb ⊢;rcases hcase b with hbn|⟨k,bx,rfl,hk⟩
  ·have hb0:=hb;rw[hln b hbn] at hb;have hr:=g.boxes b box hb;have hRb:=hRn b hbn;have hkeep:∀r,ax R b r (lk s.hp b)→w'.heap[r]? = w.heap[r]? :=fun r ho=>h.iE.keep r (g.jb ho) (aau b r hbn ho)
   rw[hb] at hkeep;cases box with
   | var cells=>
     obtain⟨cur,e',h8,h9⟩:=hr;refine⟨cur,e',?_,aY NN WW Q1 Q2 Q3 _ _ h9⟩;rw[hRb.1,hkeep _ rfl];exact h8
   | lM cells=>
     obtain⟨cur,e',fr,h8,h7,h9⟩:=hr;have hs:=size_of_getElem? h8;refine⟨cur,e',fr,?_,?_,bY NN WW _ _ h9⟩
     ·rw[hRb.1,WW _ hs h7];exact h8
     rw[hRb.1];exact fun x=>h7 (NN _ hs x)
   | arr e' ver st rows=>
     obtain⟨xs,h8,h9⟩:=hr;refine⟨xs,?_,aI NN WW _ _ _ h9⟩;rw[iB hRb];refine cB h8 fun k hk=>hkeep k ?_
     simp only[bO] at hk;cases hnil:R.nil b with
     |true=>simp[hnil,Value.ownBlock] at hk
     |false=>simp[hnil,Value.ownBlock] at hk;exact⟨hnil,hk⟩
   | gD ver st rows=>
     simp only[dB] at hr ⊢;rw[show bO (Vz ρ R R2 hp') b rows.length=bO R b rows.length from iB hRb];exact bV NN WW _ _ hr
   | tr y ver rest st=>
     obtain⟨k0,kh,k1,k2,k3,k4⟩:=hr;simp only[dB,show (Vz ρ R R2 hp').nil b=R.nil b from hRb.2.1];refine⟨k0,kh,k1,k2.step h.iE fun r hr ⟨b2,k,d,hi,ho⟩=>?_,k3,fun r hn=>?_⟩
     ·rcases k4 r (.inr ⟨b2,ho⟩) with hd|hz|hs
      ·exact absurd (g.inj b2 b r ho (by rw[hb];exact hd)) fun e=>hXd b2 k d hi (e▸hbn)
      ·exact hz
      omega
     by_cases hlt:r<w.heap.size
     ·exact k4 r (NN r hlt hn)
     exact .inr (.inr (by have:=k2.size;show R.Y.wy.heap.size≤r;omega))
   | mp kk kv es=>
     obtain⟨cur,clock,h8,h9,h10⟩:=hr;exact⟨cur,clock,by rw[hRb.1,hkeep _ ⟨h9,rfl⟩];exact h8,by rw[hRb.2.1];exact h9,h10⟩
   |fZ e' ver st j ed sd pre row post=>exact gZ NN WW hRb.1 hRb.2.1 hRb.2.2 (fun k hk=>hkeep k hk) rfl (fun vs h=>aY NN WW Q1 Q2 Q3 _ _ h) hr
   | dX e' ver st pre row post=>
     obtain⟨xs,h8,h9,h10,h11,h12⟩:=hr;refine⟨xs,?_,aI NN WW _ _ _ h9,h10,aY NN WW Q1 Q2 Q3 _ _ h11,aI NN WW _ _ _ h12⟩;rw[iB hRb];refine cB h8 fun k hk=>hkeep k ?_
     simp only[bO] at hk;cases hnil:R.nil b with
     |true=>simp[hnil,Value.ownBlock] at hk
     |false=>simp[hnil,Value.ownBlock] at hk;exact⟨hnil,hk⟩
  rw[hlk k bx hk] at hb;cases hb;have hr:=h.boxes k bx hk;obtain⟨e1,e2,e3⟩:=hRk k bx hk;cases bx with
  | var cells=>
    obtain⟨cur,e',h8,h9⟩:=hr;exact⟨cur,e',by rw[e1];exact h8,aY U3 W2 Id1 Id2 Id3 _ _ (rR MZ _ _ h9)⟩
  | lM cells=>
    obtain⟨cur,e',fr,h8,h7,h9⟩:=hr;exact⟨cur,e',fr,by rw[e1];exact h8,by rw[e1];exact fun x=>h7 (N2 _ x),bY U3 W2 _ _ h9⟩
  | arr e' ver st rows=>
    obtain⟨xs,h8,h9⟩:=hr;exact⟨xs,by rw[yc e1 e2 e3];exact h8,aI U3 W2 _ _ _ h9⟩
  | gD ver st rows=>
    simp only[dS,dB] at hr ⊢;rw[show bO (Vz ρ R R2 hp') (ic ρ k) rows.length=bO R2 k rows.length from yc e1 e2 e3];exact bV U3 W2 _ _ hr
  |tr y ver rest st=>exact absurd hk (RP _ _ _ _ _)
  | mp kk kv es=>
    obtain⟨cur,clock,h8,h9,h10⟩:=hr;exact⟨cur,clock,by rw[e1];exact h8,by rw[e2];exact h9,h10⟩
  |fZ e' ver st j ed sd pre row post=>exact gZ U3 W2 e1 e2 e3 (fun _ _=>rfl) (tN _ _) (fun vs h=>aY U3 W2 Id1 Id2 Id3 _ _ (rR MZ _ _ h)) hr
  | dX e' ver st pre row post=>
    obtain⟨xs,h8,h9,h10,h11,h12⟩:=hr;exact⟨xs,by rw[yc e1 e2 e3];exact h8,aI U3 W2 _ _ _ h9,by rw[tN];exact h10,aY U3 W2 Id1 Id2 Id3 _ _ (rR MZ _ _ h11),aI U3 W2 _ _ _ h12⟩
 ·simp only[AS.app] at ha hb;rcases hcase b with hbn|⟨k,bx,rfl,hk⟩<;>rcases hcase b' with Yi|⟨k',bx',rfl,hk'⟩
  ·exact g.inj b b' r (zn b r hbn ha) (zn b' r Yi hb)
  ·exact absurd (RQ b r hbn (zn b r hbn ha)) (h.free r ⟨k',zo k' bx' r hk' hb⟩)
  ·exact absurd (RQ b' r Yi (zn b' r Yi hb)) (h.free r ⟨k,zo k bx r hk ha⟩)
  rw[h.inj k k' r (zo k bx r hk ha) (zo k' bx' r hk' hb)]
 ·simp only[AS.app] at hr;rcases hcase b with hbn|⟨k,bx,rfl,hk⟩
  ·exact g.free r ⟨b,zn b r hbn hr⟩ hF
  exact h.free r ⟨k,zo k bx r hk hr⟩ (aav r hF)
 ·exact g.iE.trans h.iE fun r hr hd=>(g.fG r (DN r hd)).resolve_right (by omega)
 ·simp only[AS.app] at hr;rcases hcase b with hbn|⟨k,bx,rfl,hk⟩
  ·exact g.fG r ⟨b,zn b r hbn hr⟩
  rcases h.fG r ⟨k,zo k bx r hk hr⟩ with h'|h'
  ·exact g.fG r (DN r h')
  exact .inr (Nat.le_trans g.iE.size h')
 exact bP U3 W2 Id1 Id2 Id3 _ _ (FZ MZ v x hv)
theorem QV (g:aS c R s a w){fv:AV}{args:List AV}{id:Nat}{K:AV→List (Nat×au)→List Nat→Prop}(h:gC P s.hp id (fv::args) K)
  {u:Value} {us:List Value} (hf:ai (aG c R s.hp) w s.hp R fv u) (hv:FL (ai (aG c R s.hp) w s.hp R) args us) :
  ∃f first aT,u=.func (.func f) first aT∧Enters P f∧Calls P f (first++us.toArray++aT) w fun e w'=>∃v z ws ids R',e=.returned v∧K z ws ids∧aS c R' (s.app ws) a w' ∧
   ai (aG c R' (ws++s.hp)) w' (ws++s.hp) R' z v:=by
 unfold gC at h;simp only at h;split at h;rotate_left;cases h
 rename_i f first aT hfn
 split at h;rotate_left;cases h
 rename_i H hH;obtain⟨r,hp',J7,h⟩:=h;split at h;rotate_left;cases h
 rename_i hok;rw[wC,wE] at h;have hnt:=gP _ _ h;have h:=jh _ _ _ h;simp only[Ya,Bool.and_eq_true] at hok;obtain⟨o1,o2,o3,o4,o5⟩:=hok;obtain⟨fs,cs,rfl,f1,f2⟩:=BI hfn hf;refine⟨f,fs,cs,rfl,J7.1,?_⟩;have h1:∀b k d,lk (jG 1 H) b=some (k,d)→lk (iL 1 H) k=some (b,d):=fun b k d hb=>(yw hb).2
 have h1':∀b k d,lk (iL 1 H) k=some (b,d)→lk (jG 1 H) b=some (k,d):=fun b k d hb=>u7 o4 hb
 have h2:∀k b d,lk (iL 1 H) k=some (b,d)→∃box,lk s.hp b=some box∧d=lI box∧lk (qW (jG 1 H) 1 H) k=some (jv (jG 1 H) box):=
  fun k b d hb=>yx (oQ hH) hb
 have h3:∀k box0,lk (qW (jG 1 H) 1 H) k=some box0→∃b box,lk (iL 1 H) k=some (b,lI box)∧lk s.hp b=some box∧box0=jv (jG 1 H) box:=
  fun k box0 hb=>BD (oQ hH) hb
 obtain⟨hin,Yj⟩:=RO g h1 h1' h2 h3 (kG o5);have hargs:bD (aG c R s.hp) w s.hp R (first++(args++aT)) (fs.toList++(us++cs.toList)):=
  tT f1 (tT ((dn _ _ _ _ _ _).2 hv) f2)
 have KU:=lX h1 h2 Yj _ _ hargs;refine (J7.2 _ _ w (fs++us.toArray++cs) hin (by simpa using KU)).mono ?_;rintro e w' ⟨v,r',VA,R2,rfl,⟨rfl,rfl⟩,hh,hr⟩
 obtain⟨g',hmap⟩:=MX (id:=id) g h1 h1' (fun k b d hb=>let ⟨bx,c1,c2,_⟩:=h2 k b d hb;⟨bx,c1,c2⟩) (fun k b d hb x y z u e=>by
  obtain⟨bx,c1,_,c3⟩:=h2 k b d hb;rw[c1] at e;cases e;exact kG o5 k _ _ _ _ c3) (fun k p hk=>rX o1 hk) (fun b hb=>qm o2 b hb) o3 rfl (kG hnt) hh
 exact⟨v,_,_,_,_,rfl,h,g',hmap r' v hr⟩
theorem QW (g:aS c R s a w){fv:AV}{args:List AV}{id:Nat}{K:AV→List (Nat×au)→List Nat→Prop}(h:gI P s.hp id (fv::args) K)
  {u:Value} {us:List Value} (hf:ai (aG c R s.hp) w s.hp R fv u) (hv:FL (ai (aG c R s.hp) w s.hp R) args us) :
  ∃f first aT,u=.func (.func f) first aT∧Enters P f∧Calls P f (first++us.toArray++aT) w fun e w'=>∃v z ws ids R',e=.returned v∧K z ws ids∧aS c R' (s.app ws) a w' ∧
   ai (aG c R' (ws++s.hp)) w' (ws++s.hp) R' z v:=by
 unfold gI at h;simp only at h;split at h;rotate_left;cases h
 rename_i f first aT hfn
 split at h;rotate_left;cases h
 rename_i H hH;split at h;rotate_left;cases h
 rename_i hpre;obtain⟨Q,J7,h⟩:=h;obtain⟨fs,cs,rfl,f1,f2⟩:=BI hfn hf;refine⟨f,fs,cs,rfl,J7.1,?_⟩;simp only[Bool.and_eq_true] at hpre;obtain⟨o4,o5⟩:=hpre;have h1:∀b k d,lk (jG 1 H) b=some (k,d)→lk (iL 1 H) k=some (b,d):=fun b k d hb=>(yw hb).2
 have h1':∀b k d,lk (iL 1 H) k=some (b,d)→lk (jG 1 H) b=some (k,d):=fun b k d hb=>u7 o4 hb
 have h2:∀k b d,lk (iL 1 H) k=some (b,d)→∃box,lk s.hp b=some box∧d=lI box∧lk (qW (jG 1 H) 1 H) k=some (jv (jG 1 H) box):=
  fun k b d hb=>yx (oQ hH) hb
 have h3:∀k box0,lk (qW (jG 1 H) 1 H) k=some box0→∃b box,lk (iL 1 H) k=some (b,lI box)∧lk s.hp b=some box∧box0=jv (jG 1 H) box:=
  fun k box0 hb=>BD (oQ hH) hb
 obtain⟨hin,Yj⟩:=RO g h1 h1' h2 h3 (kG o5);have hargs:bD (aG c R s.hp) w s.hp R (first++(args++aT)) (fs.toList++(us++cs.toList)):=
  tT f1 (tT ((dn _ _ _ _ _ _).2 hv) f2)
 have KU:=lX h1 h2 Yj _ _ hargs;refine (J7.2 _ _ w (fs++us.toArray++cs) hin (by simpa using KU)).mono ?_;rintro e w' ⟨v,r',VA,R2,rfl,hQ,hh,hr⟩
 have h:=h r' VA hQ;split at h;rotate_left;cases h
 rename_i hok;rw[wC,wE] at h;have hnt:=gP _ _ h;have h:=jh _ _ _ h;simp only[Ya,Bool.and_eq_true] at hok;obtain⟨o1,o2,o3,-,-⟩:=hok;obtain⟨g',hmap⟩:=MX (id:=id) g h1 h1' (fun k b d hb=>let ⟨bx,c1,c2,_⟩:=h2 k b d hb;⟨bx,c1,c2⟩) (fun k b d hb x y z u e=>by
  obtain⟨bx,c1,_,c3⟩:=h2 k b d hb;rw[c1] at e;cases e;exact kG o5 k _ _ _ _ c3) (fun k p hk=>rX o1 hk) (fun b hb=>qm o2 b hb) o3 rfl (kG hnt) hh
 exact⟨v,_,_,_,_,rfl,h,g',hmap r' v hr⟩
end
def isNone {α:Type}:Option α→Bool
 |none=>true
 |some _=>false
def aaI (T:Tab):Bool:=
 match T with
 |(a,_)::(b,_)::_=>Nat.beq a b
 |_=>false
def KF (tw:Bool)(rows:List (List PV))(b ver:Nat)(e:TypeId)(st:Nat)(l h:Option Int)(K:AV→List (Nat×au)→Prop):Prop:=
 match l with
 | none=>match h with
   |none=>K (.aZ b ver) []
   | some h=>match tw with
     |true=>0≤h∧h≤rows.length∧K (.sub b ver st 0 h.toNat) []
     |false=>0≤h∧h≤rows.length∧K (.aZ b (ver+1)) [(b,.arr e (ver+1) st (rows.take h.toNat))]
 | some l=>match h with
   |none=>0≤l∧l≤rows.length∧K (.sub b ver st l.toNat rows.length) []
   |some h=>0≤h∧h≤rows.length∧0≤l∧l≤h∧K (.sub b ver st l.toNat h.toNat) []
def lG (T:Tab)(H:List (Nat×au))(t:TypeId)(lo hi mx:Option Operand)(vs:List AV)(K:AV→List (Nat×au)→Prop):Prop:=
 match vs with
 | .aZ b ver::r=>match lk H b with
   | some (.arr e v st rows)=>match Nat.beq ver v with
     | true=>match isNone mx with
       | true=>match lk T t with
         | some i=>match i.d with
           | .slt et=>match lk T et with
             | some ei=>match Nat.beq st ei.size with
               | true=>match Ad lo r with
                 | some (l,r1)=>match Ad hi r1 with
                   |some (h,_)=>KF (aaI T) rows b ver e st l h K
                   |none=>False
                 |none=>False
               |false=>False
             |none=>False
           |_=>False
         |none=>False
       |false=>kM T H t lo hi mx vs K
     |false=>False
   |_=>kM T H t lo hi mx vs K
 |_=>kM T H t lo hi mx vs K
def xU (T:Tab)(H:List (Nat×au))(t:TypeId)(x:AV)(K:AV→List (Nat×au)→Prop):Prop:=
 match x with
 | .sub b ver st lo hi=>match lk H b with
   | some (.arr e v st' rows)=>match Nat.beq ver v with
     | true=>match Nat.beq st st' with
       | true=>match lk T t with
         | some i=>match i.d with
           | .slt et=>match lk T et with
             | some ei=>match Nat.beq st ei.size,Zm ei.zero with
               |true,some z=>K (.pv (.fM [])) [(b,.arr e v st' (rows.take lo++(List.replicate (hi-lo) z++rows.drop hi)))]
               |_,_=>False
             |none=>False
           |_=>False
         |none=>False
       |false=>False
     |false=>False
   |_=>False
 |_=>False
section
variable {P:Program}{T:Tab}{c:Ctx}{R:Real}{s:AS}{a:Act}{w:World}
theorem nO {N:Nat→Prop}{hp:List (Nat×au)}{b:Nat}{e:TypeId}{ver st:Nat}{rows:List (List PV)}(h:dB N w hp R b (.arr e ver st rows))(hn:R.nil b=true):rows=[]:=by
 obtain⟨xs,⟨_,h3⟩,_⟩:=h;rcases h3 with ⟨_,h3⟩|⟨g',cap,cur,e1,_⟩
 ·exact List.eq_nil_of_length_eq_zero h3
 simp[bO,hn] at e1
theorem og (g:aS c R s a w)(hT:bA P T){H:List (Nat×au)}(hH:∀b box,lk H b=some box→lk s.hp b=some box){t:TypeId}{x0:Operand}{lo hi mx:Option Operand}{vs:List AV}
  {K:AV→List (Nat×au)→Prop} (h:lG T H t lo hi mx vs K)
  (hv:FL (ai (aG c R s.hp) w s.hp R) vs ((x0::(lo.toList++(hi.toList++mx.toList))).map a.eval)) :
  ∃y z ws R',(Instr.sliceAt t (a.eval x0) (lo.map a.eval) (hi.map a.eval) (mx.map a.eval)).run P w=.ok y w∧K z ws∧aS c R' (s.app ws) a w∧ai (aG c R' (ws++s.hp)) w (ws++s.hp) R' z y:=by
 have old:kM T H t lo hi mx vs K→∃y z ws R',(Instr.sliceAt t (a.eval x0) (lo.map a.eval) (hi.map a.eval) (mx.map a.eval)).run P w=.ok y w∧K z ws∧aS c R' (s.app ws) a w∧ai (aG c R' (ws++s.hp)) w (ws++s.hp) R' z y:=fun h=>by
  obtain⟨y,z,ws,h1,h2,h3,h4⟩:=Dg g hT hH h hv;exact⟨y,z,ws,R,h1,h2,h3,h4⟩
 unfold lG at h;split at h
 ·rename_i b ver r;split at h
  ·rename_i e v st rows hb;split at h;rotate_left;cases h
   rename_i dN;have dN:=Nat.eq_of_beq_eq_true dN;split at h
   ·rename_i hmx;have hmx:mx=none:=by cases mx<;>simp_all [isNone]
    subst hmx;split at h;rotate_left;cases h
    rename_i i hi';obtain⟨d,hd,fC⟩:=(hT t i hi').fq;split at h;rotate_left;cases h
    rename_i et hte;have hd':P.underlying t=some (.slice et):=by
     rw[hte] at fC;cases d<;>simp[di] at fC
     subst fC;exact hd
    split at h;rotate_left;cases h
    rename_i ei ng;have gH:=hT _ _ ng;split at h;rotate_left;cases h
    rename_i hst;have hst:=Nat.eq_of_beq_eq_true hst;split at h;rotate_left;cases h
    rename_i l r1 hl;split at h;rotate_left;cases h
    rename_i hh r2 hhi;simp only[List.map_cons] at hv;obtain⟨u,r',e1,hx,hv⟩:=hv;simp only[List.cons.injEq] at e1;obtain⟨e1,rfl⟩:=e1;obtain⟨v1,hv⟩:=fQ hv hl;obtain⟨v2,hv⟩:=fQ (rest:=[]) (by simpa using hv) hhi;have hb':=hH _ _ hb;have hre:=g.boxes b _ hb';have hxr:=hx;simp only[ai,hb',aD] at hx;have hu:=hx.2.2 dN;have hrun:∀(k2:∀i,hh=some i→0≤i∧i≤rows.length) (k3:∀i,l=some i→0≤i∧i≤dU rows.length hh),
      (Instr.sliceAt t (a.eval x0) (lo.map a.eval) (hi.map a.eval) (Option.map a.eval none)).run P w=.ok (gX st ((l.map Int.toNat).getD 0) (dU rows.length hh).toNat u) w ∧
       ((l.map Int.toNat).getD 0)≤(dU rows.length hh).toNat∧(dU rows.length hh).toNat≤rows.length:=by
     intro k2 k3;rw[e1,hu];cases hn:R.nil b with
     | true=>
       have hr0:=nO hre hn;subst hr0;obtain⟨hrun,q1,q2,q3⟩:=gQ (P:=P) (w:=w) (O6:=true) (len:=0) (cap:=0) (m:=none) v1 v2 (show vI none none from trivial) (Nat.le_refl _) (fun i e=>by cases e) (by simpa[dU] using k2) (by simpa using k3);refine⟨?_,q1,q2⟩;have hz:(dU 0 hh).toNat=0:=by omega
       have lz:(l.map Int.toNat).getD 0=0:=by omega
       simp only[Option.map_none,Option.getD_none,hz,lz] at hrun;simp only[Instr.sliceAt,Instr.slice,Sem.run_bind,run_underlying hd',Result.andThen_ok,bO,hn,if_true,Option.map_none,hrun,gH.run_sizeOf,Sem.run_pure];simp[gX]
     | false=>
       obtain⟨cur,hg,hs,hle,hm,hr,_⟩:=eO hre hn;obtain⟨hrun,q1,q2,q3⟩:=gQ (P:=P) (w:=w) (O6:=true) (len:=rows.length) (cap:=(R.cap b).1) (m:=none) v1 v2 (show vI none none from trivial) hle (fun i e=>by cases e) (by
        intro i hi;exact k2 i hi) (by simpa using k3)
       refine⟨?_,q1,q2⟩;simp only[Option.map_none,Option.getD_none] at hrun;simp only[Instr.sliceAt,Instr.slice,Sem.run_bind,run_underlying hd',Result.andThen_ok,bO,hn,Bool.false_eq_true,if_false,Option.map_none,hrun,gH.run_sizeOf,Sem.run_pure];simp only[gX,hst];congr 2
       split<;>rfl
    have Td:∀(YZ hi':Nat),YZ≤hi'→hi'≤rows.length→ai (aG c R s.hp) w s.hp R (.sub b ver st YZ hi') (gX st YZ hi' u):=by
     intro YZ hi' q1 q2;simp only[ai];refine⟨u,by simpa only[ai] using hxr,?_,rfl⟩;rw[hu];unfold bO;split
     ·rename_i hn;have:=nO hre hn;subst this;simp at q2;exact⟨by omega,by omega⟩
     exact⟨q1,q2⟩
    unfold KF at h;cases l with
    | none=>
      cases hh with
      | none=>
        obtain⟨h1,q1,q2⟩:=hrun (fun i e=>by cases e) (fun i e=>by cases e);refine⟨_,_,[],R,h1,h,g,?_⟩;have:gX st 0 rows.length u=u:=by
         rw[hu];unfold bO;split
         ·rfl
         simp only[gX,Nat.sub_zero,Nat.zero_mul];split<;>rfl
        simp only[Option.map_none,Option.getD_none,dU,Int.toNat_natCast];rw[this];exact hxr
      | some j=>
        simp only at h;split at h
        ·obtain⟨j0,j1,hK⟩:=h;obtain⟨h1,q1,q2⟩:=hrun (fun i e=>by cases e;exact⟨j0,j1⟩) (fun i e=>by cases e);refine⟨_,_,[],R,h1,hK,g,?_⟩;simp only[Option.map_none,Option.getD_none,dU] at q1 q2 ⊢;exact Td _ _ q1 q2
        obtain⟨j0,j1,hK⟩:=h;obtain⟨h1,q1,q2⟩:=hrun (fun i e=>by cases e;exact⟨j0,j1⟩) (fun i e=>by cases e);have hR:∀b',b'≠b→R.blk b'=R.blk b'∧R.nil b'=R.nil b'∧R.cap b'=R.cap b':=fun _ _=>⟨rfl,rfl,rfl⟩
        have hlen:(rows.take j.toNat).length=j.toNat:=by simp;omega
        obtain⟨xs,hxs,agL⟩:=hre;have hown2:∃ys,w.ownsRow 0 e st (bO R b (rows.take j.toNat).length) (rows.take j.toNat).length ys∧bB (aG c R s.hp) w st (rows.take j.toNat) ys:=by
         cases hn:R.nil b with
         | true=>
           have:=nO (g.boxes b _ hb') hn;subst this;exact⟨[],⟨by simp,.inl ⟨by simp[bO,hn],by simp⟩⟩,by simp[bB]⟩
         | false=>
           obtain⟨cur,hg,hs,hle,hm,hr,_⟩:=eO (g.boxes b _ hb') hn;have hr2:=jQ (i:=j.toNat) hr;obtain⟨t1,t2,t3⟩:=d9 hr2;rw[hlen] at t1 t2;refine⟨cur.toList.take (j.toNat*st),⟨?_,.inr ⟨R.blk b,(R.cap b).1,cur,by simp[bO,hn],Nat.zero_le _,hg,?_,hm,hs,by rw[hlen]⟩⟩,t2⟩
           ·rw[List.length_take,hlen];omega
           rw[hlen];omega
        obtain⟨ys,ho,hr⟩:=hown2;obtain⟨g2,hr2⟩:=g.pX (b:=b) (e:=e) (ver:=ver+1) (st:=st) (rows:=rows.take j.toNat) (R':=R) (.inr ⟨_,_,_,_,hb',by omega⟩) hR (kK.refl _ w)
         (fun hn=>.inl (by rw[hb'];exact⟨hn,rfl⟩)) ho hr
        refine⟨_,_,_,R,h1,hK,g2,?_⟩;have:gX st 0 j.toNat u=bO R b (rows.take j.toNat).length:=by
         rw[hu,hlen];unfold bO;split
         ·rfl
         simp only[gX,Nat.sub_zero,Nat.zero_mul];split<;>rfl
        simp only[Option.map_none,Option.getD_none,dU];rw[this];exact hr2
    | some l=>
      cases hh with
      | none=>
        simp only at h;obtain⟨l0,l1,hK⟩:=h;obtain⟨h1,q1,q2⟩:=hrun (fun i e=>by cases e) (fun i e=>by cases e;exact⟨l0,by simpa[dU] using l1⟩);refine⟨_,_,[],R,h1,hK,g,?_⟩;simp only[Option.map_some,Option.getD_some,dU,Int.toNat_natCast] at q1 ⊢;exact Td _ _ q1 (Nat.le_refl _)
      | some j=>
        simp only at h;obtain⟨j0,j1,l0,l1,hK⟩:=h;obtain⟨h1,q1,q2⟩:=hrun (fun i e=>by cases e;exact⟨j0,j1⟩) (fun i e=>by cases e;exact⟨l0,by simpa[dU] using l1⟩);refine⟨_,_,[],R,h1,hK,g,?_⟩;simp only[Option.map_some,Option.getD_some,dU] at q1 q2 ⊢;exact Td _ _ q1 q2
   exact old h
  exact old h
 exact old h
theorem uo {b:Nat}{e:TypeId}{cur:Array Value}(vs:List Value)(off:Nat)(hg:w.heap[b]? = some (.cells cur e (0,0)))(hl:off+vs.length≤cur.size)(h1:∀u∈vs,u.oneCell'=true) :
  (storeCells ⟨b,off,none⟩ vs).run P w=.ok () (w.setRow b (cur.toList.take off++vs++cur.toList.drop (off+vs.length)).toArray):=by
 have:=run_storeCells_at P b off e vs 0 cur w hg (by simpa using hl) h1;simp only[Nat.add_zero] at this;simp[storeCells,this]
theorem aS.sameBox (g:aS c R s a w){b:Nat}{e:TypeId}{ver st:Nat}{rows:List (List PV)}(hb:lk s.hp b=some (.arr e ver st rows)):aS c R (s.app [(b,.arr e ver st rows)]) a w:=by
 have hR:∀b',b'≠b→R.blk b'=R.blk b'∧R.nil b'=R.nil b'∧R.cap b'=R.cap b':=fun _ _=>⟨rfl,rfl,rfl⟩
 have r1:∀off v,aH R b off v (lk s.hp b)→aH R b off v (some (.arr e ver st rows)):=fun off v h=>by rw[hb] at h;exact h
 have r2:∀dD v,aD R b dD v (lk s.hp b)→aD R b dD v (some (.arr e ver st rows)):=fun _ v h=>by rw[hb] at h;exact h
 have r3:∀dD i off v,aJ R b dD i off v (lk s.hp b)→aJ R b dD i off v (some (.arr e ver st rows)):=fun _ _ _ v h=>by rw[hb] at h;exact h
 have hown:∀r,ax R b r (some (.arr e ver st rows))→ax R b r (lk s.hp b)∨w.heap.size≤r:=fun r h=>by rw[hb];exact .inl h
 obtain⟨m1,m2,m3,m4,m5⟩:=g.Df hR r1 r2 r3 hown (kK.refl _ w);refine g.upd hR r1 r2 r3 hown (kK.refl _ w) ?_;obtain⟨xs,hxs,hr⟩:=g.boxes b _ hb;exact⟨xs,hxs,aI m1 m2 _ _ _ hr⟩
theorem FN (g:aS c R s a w)(hT:bA P T){H:List (Nat×au)}(hH:∀b box,lk H b=some box→lk s.hp b=some box){t ty:TypeId}{x:AV}{u:Value}
  {K:AV→List (Nat×au)→Prop} (h:xU T H t x K) (hx:ai (aG c R s.hp) w s.hp R x u) :
  ∃z w' q ws,(Builtin.clear_ #[t] ty #[u]).run P w=.ok z w'∧K q ws∧aS c R (s.app ws) a w'∧ai (aG c R (ws++s.hp)) w' (ws++s.hp) R q z:=by
 unfold xU at h;split at h;rotate_left;cases h
 rename_i b ver st lo hi;split at h;rotate_left;cases h
 rename_i e v st' rows hb;split at h;rotate_left;cases h
 rename_i dN;have dN:=Nat.eq_of_beq_eq_true dN;split at h;rotate_left;cases h
 rename_i hst;have hst:=Nat.eq_of_beq_eq_true hst;subst hst;split at h;rotate_left;cases h
 rename_i i hi';obtain⟨d,hd,fC⟩:=(hT t i hi').fq;split at h;rotate_left;cases h
 rename_i et hte;have hd':P.underlying t=some (.slice et):=by
  rw[hte] at fC;cases d<;>simp[di] at fC
  subst fC;exact hd
 split at h;rotate_left;cases h
 rename_i ei ng;have gH:=hT _ _ ng;split at h;rotate_left;cases h
 rename_i z hsz hz;have hsz:=Nat.eq_of_beq_eq_true hsz;have hz:=Ka hz;subst hz;have hb':=hH _ _ hb;have hre:=g.boxes b _ hb';simp only[ai,hb',aD] at hx;obtain⟨u0,hx,hok,rfl⟩:=hx;have hu:=hx.2.2 dN;subst hu;have hnone:hi-lo=0→(rows.take lo++(List.replicate (hi-lo) (ei.zero.map PV.sc)++rows.drop hi))=rows→lo≤hi →
   (∃p cap,gX st lo hi (bO R b rows.length)=.slice p 0 cap)→∃z w' q ws,(Builtin.clear_ #[t] ty #[gX st lo hi (bO R b rows.length)]).run P w=.ok z w'∧K q ws∧aS c R (s.app ws) a w'∧ai (aG c R (ws++s.hp)) w' (ws++s.hp) R q z:=by
  intro h0 hrows hle ⟨p,cap,hs⟩;rw[hrows] at h;refine⟨.tuple #[],w,_,_,?_,h,g.sameBox hb',?_⟩
  ·rw[hs];cases p<;>simp[Builtin.clear_,run_underlying hd']
  simp[ai,aU,dI]
 cases hn:R.nil b with
 | true=>
   have hr0:=nO hre hn;subst hr0;simp only[bO,hn,if_true,l5,List.length_nil] at hok;have h1:lo=0:=by omega
   have h2:hi=0:=by omega
   subst h1;subst h2;refine hnone rfl (by simp) (Nat.le_refl _) ⟨none,0,by simp[bO,hn,gX]⟩
 | false=>
   obtain⟨cur,hg,hs,hle,hm,hr,_⟩:=eO hre hn;simp only[bO,hn,Bool.false_eq_true,if_false,l5] at hok;by_cases hlh:hi=lo
   ·subst hlh;refine hnone (by omega) (by simp) (Nat.le_refl _) ⟨some (if (R.cap b).1=hi then ⟨R.blk b,0,none⟩ else (⟨R.blk b,0,none⟩:Addr).add (hi*st)),(R.cap b).1-hi,by simp[bO,hn,gX]⟩
   have hlt:lo<hi:=by omega
   obtain⟨zv,hz1,hz2,hz3⟩:=gH.oH w;have QH:zv.cells.size=st:=by have:=gH.QI;rw[←hz2] at this;rw[hsz];simpa using this
   have hcap:¬(R.cap b).1=lo:=by omega
   have hsub:gX st lo hi (bO R b rows.length)=.slice (some ⟨R.blk b,lo*st,none⟩) (hi-lo) ((R.cap b).1-lo):=by
    have hadd:(⟨R.blk b,0,none⟩:Addr).add (lo*st)=⟨R.blk b,lo*st,none⟩:=by by_cases h0:lo*st=0<;>simp[Addr.add,h0]
    simp only[bO,hn,gX,hcap,Bool.false_eq_true,if_false,hadd]
   have hzl:(Builtin.zeroCells zv.cells (hi-lo)).toList.length=(hi-lo)*st:=by simp[Builtin.zeroCells,QH]
   have hmul:lo*st+(hi-lo)*st=hi*st:=by rw[←Nat.add_mul];congr 1;omega
   have hcs:hi*st≤cur.size:=by rw[hs];exact Nat.mul_le_mul_right _ (by omega)
   have XB:∀j,j<(hi-lo)*st→(Builtin.zeroCells zv.cells (hi-lo)).toList[j]? = (ei.zero)[j%st]? :=by
    intro j hj;have agN:0<st:=by
     rcases Nat.eq_zero_or_pos st with h0|h0
     ·rw[h0] at hj;simp at hj
     exact h0
    have hlt2:j%zv.cells.size<zv.cells.size:=Nat.mod_lt _ (by omega);have hmc:(Builtin.zeroCells zv.cells (hi-lo))[j]? = some (zv.cells[j%zv.cells.size]!):=by
     simp[Builtin.zeroCells,QH,hj]
    rw[Array.getElem?_toList,hmc,getElem!_pos zv.cells _ hlt2,←hz2,Array.getElem?_toList,←QH];exact (Array.getElem?_eq_getElem hlt2).symm
   have hone:∀u∈(Builtin.zeroCells zv.cells (hi-lo)).toList,u.oneCell'=true:=by
    intro u hu;obtain⟨j,hj,rfl⟩:=List.getElem_of_mem hu;have h1:=XB j (by rw[←hzl];exact hj);rw[List.getElem?_eq_getElem hj] at h1;have h2:=List.mem_of_getElem? h1.symm;exact List.all_eq_true.1 gH.N9 _ h2
   have hrun:=uo (P:=P) (w:=w) (e:=e) (cur:=cur) (Builtin.zeroCells zv.cells (hi-lo)).toList (lo*st) hg (by rw[hzl,hmul];exact hcs) hone;rw[hzl,hmul] at hrun;refine⟨.tuple #[],w.setRow (R.blk b) (cur.toList.take (lo*st)++(Builtin.zeroCells zv.cells (hi-lo)).toList++cur.toList.drop (hi*st)).toArray,_,_,?_,h,?_,by simp[ai,aU,dI]⟩
   ·rw[hsub];have hne:hi-lo≠0:=by omega
    obtain⟨k,hk⟩:∃k,hi-lo=k+1:=⟨hi-lo-1,by omega⟩;rw[hk] at hrun ⊢;simp only[Builtin.clear_,List.getElem?_toArray,List.getElem?_cons_zero,run_underlying hd',Sem.run_bind,Result.andThen_ok,hz1,hrun,Sem.run_pure]
   have hR:∀b',b'≠b→R.blk b'=R.blk b'∧R.nil b'=R.nil b'∧R.cap b'=R.cap b':=fun _ _=>⟨rfl,rfl,rfl⟩
   generalize hrows:(rows.take lo++(List.replicate (hi-lo) (ei.zero.map PV.sc)++rows.drop hi))=aB;have hll:aB.length=rows.length:=by rw[←hrows];simp;omega
   have r1:∀off v',aH R b off v' (lk s.hp b)→aH R b off v' (some (.arr e v st aB)):=fun off v h=>by rw[hb'] at h;exact h
   have r2:∀ver v',aD R b ver v' (lk s.hp b)→aD R b ver v' (some (.arr e v st aB)):=fun _ v h=>by rw[hb'] at h;simp only[aD,hll] at h ⊢;exact h
   have r3:∀ver i off v',aJ R b ver i off v' (lk s.hp b)→aJ R b ver i off v' (some (.arr e v st aB)):=fun _ _ _ v h=>by rw[hb'] at h;exact h
   have hown:∀r,ax R b r (some (.arr e v st aB))→ax R b r (lk s.hp b)∨w.heap.size≤r:=fun r h=>by rw[hb'];exact .inl h
   have hworld:kK (fun r=>ax R b r (lk s.hp b)) w (w.setRow (R.blk b) (cur.toList.take (lo*st)++(Builtin.zeroCells zv.cells (hi-lo)).toList++cur.toList.drop (hi*st)).toArray):=by
    refine (l7 w _ _).mono ?_;rintro r rfl
    rw[hb'];exact⟨hn,rfl⟩
   obtain⟨m1,m2,m3,m4,m5⟩:=g.Df hR r1 r2 r3 hown hworld;refine g.upd hR r1 r2 r3 hown hworld ?_;have hnew:bB (aG c R s.hp) w st aB (cur.toList.take (lo*st)++(Builtin.zeroCells zv.cells (hi-lo)).toList++cur.toList.drop (hi*st)):=by
    rw[←hrows,List.append_assoc];have p1:bB (aG c R s.hp) w st (rows.take lo) (cur.toList.take (lo*st)):=by
     obtain⟨_,t2,_⟩:=d9 (jQ (i:=lo) hr);rw[List.length_take,Nat.min_eq_left (by omega)] at t2;exact t2
    have p2:bB (aG c R s.hp) w st (List.replicate (hi-lo) (ei.zero.map PV.sc)) (Builtin.zeroCells zv.cells (hi-lo)).toList:=
     AR (zs:=ei.zero) (AU gH.N9) (by rw[List.length_map,gH.QI,hsz]) _ _ (by rw[hzl];exact Nat.le_refl _) XB
    have hlo:lo*st≤cur.size:=by have:=Nat.mul_le_mul_right st (show lo≤hi by omega);omega
    refine iI p1 (by rw[List.length_take,List.length_take,Nat.min_eq_left (by simpa using hlo),Nat.min_eq_left (by omega)]) (iI p2 (by rw[hzl];simp) (kr hi hr))
   have Sl:(cur.toList.take (lo*st)++(Builtin.zeroCells zv.cells (hi-lo)).toList++cur.toList.drop (hi*st)).length=cur.size:=by
    simp only[List.length_append,hzl,List.length_take,List.length_drop,Array.length_toList];omega
   obtain⟨t1,t2,t3⟩:=d9 (aI m1 m2 _ _ _ hnew);refine⟨_,?_,t2⟩;have hsl:bO R b aB.length=.slice (some ⟨R.blk b,0,none⟩) rows.length ((R.cap b).1):=by simp[bO,hn,hll]
   rw[hsl,hll];rw[hll] at t1;refine⟨?_,.inr ⟨R.blk b,(R.cap b).1,_,rfl,Nat.zero_le _,setRow_heap w _ cur _ e _ hg,hle,hm,?_,by simp⟩⟩
   ·simp only[List.length_take];omega
   simp only[List.size_toArray,Sl,hs]
end
def rD (f:AV→Option PV):List AV→Option (List PV)
 |[]=>some []
 | x::r=>match f x with
   | some p=>match rD f r with
     |some t=>some (p::t)
     |none=>none
   |none=>none
def Sm (H:List (Nat×au)):Nat→AV→Option PV
 |0,_=>none
 | n+1,x=>match x with
   |.pv p=>some p
   | .aZ b ver=>match lk H b with
     | some (.dX e v st pre row post)=>match Nat.beq ver v with
       | true=>match rD (Sm H n) row with
         |some ps=>some (.sl false st (pre++ps::post))
         |none=>none
       |false=>none
     | some (.fZ e v st j ed sd pre row post)=>match Nat.beq ver v with
       | true=>match row with
         |[]=>some (.sl false st (pre.map (·.2)++post.map (·.2)))
         | _=>match rD (Sm H n) row with
           |some ps=>some (.sl false st (pre.map (·.2)++ps::post.map (·.2)))
           |none=>none
       |false=>none
     |o=>qQ o ver
   |.sub _ _ _ _ _=>some .junk
   |.bU _ _ _ _=>some .junk
   | .ptr b off=>match lk H b with
     | some (.var cells)=>match rD (Sm H n) cells with
       |some ps=>some (.dh ps off)
       |none=>none
     |some (.lM cells)=>some (.dh cells off)
     |_=>none
   | .agg cs=>match rD (Sm H n) cs with
     |some ps=>some (.agg ps)
     |none=>none
   | .fM cs=>match rD (Sm H n) cs with
     |some ps=>some (.fM ps)
     |none=>none
   | .fn f a c=>match rD (Sm H n) a,rD (Sm H n) c with
     |some x,some y=>some (.fn f x y)
     |_,_=>none
section
variable {P:Program}{T:Tab}{c:Ctx}{R:Real}{s:AS}{a:Act}{w:World}
def DJ:Nat→Prop:=fun _=>False
theorem wP {f:AV→Option PV}{N:Nat→Prop}{hp:List (Nat×au)}(hf:∀x p u,f x=some p→ai N w hp R x u→aU DJ w p u) :
  ∀{xs:List AV} {ps:List PV} {us:List Value},rD f xs=some ps→FL (ai N w hp R) xs us→FL (aU DJ w) ps us
 |[],ps,us,h,hx=>by simp only[rD,Option.some.injEq] at h;subst h;exact hx
 | x::xs,ps,us,h,hx=>by
   simp only[rD] at h;split at h
   ·rename_i p hp;split at h
    ·rename_i t ht;simp only[Option.some.injEq] at h;subst h;obtain⟨v,r,rfl,h1,h2⟩:=hx;exact⟨v,r,rfl,hf _ _ _ hp h1,wP hf ht h2⟩
    cases h
   cases h
theorem wQ {f:AV→Option PV}{N:Nat→Prop}{hp:List (Nat×au)}(hf:∀x p u,f x=some p→ai N w hp R x u→aU DJ w p u) :
  ∀{xs:List AV} {ps:List PV} {us:List Value},rD f xs=some ps→FC (ai N w hp R) xs us→FC (aU DJ w) ps us
 |[],ps,us,h,hx=>by simp only[rD,Option.some.injEq] at h;subst h;exact hx
 | x::xs,ps,us,h,hx=>by
   simp only[rD] at h;split at h
   ·rename_i p hp;split at h
    ·rename_i t ht;simp only[Option.some.injEq] at h;subst h;obtain⟨v,r,rfl,h0,h1,h2⟩:=hx;exact⟨v,r,rfl,h0,hf _ _ _ hp h1,wQ hf ht h2⟩
    cases h
   cases h
theorem o6 {N:Nat→Prop}{st j:Nat}{ed:TypeId}{sd:Nat}:∀{hs:List (Option Value)} {rs:List (Bool×List PV)} {xs:List Value},fB N w st j ed sd hs rs xs→bB DJ w st (rs.map (·.2)) xs
 |[],[],xs,_=>by simp only[List.map_nil,bB]
 |[],_::_,xs,h=>by simp only[fB] at h
 |_::_,[],xs,h=>by simp only[fB] at h
 | h::hs,(fl,r)::rs,xs,hh=>by
   simp only[fB] at hh;obtain⟨h1,h2,h3⟩:=hh;simp only[List.map_cons,bB];refine⟨h1,?_,o6 h3⟩;cases h with
   | none=>cases fl with
     |false=>exact bY (fun r _ h=>h.elim) (fun _ _ _=>rfl) _ _ h2
     |true=>exact h2.elim
   | some v=>cases fl with
     |false=>exact h2.elim
     | true=>
       obtain⟨rr,ys,a1,a0,a2,a3,a4⟩:=h2;have hv:aU DJ w (.sl false sd rr) v:=by
        obtain⟨q1,q2⟩:=a3;simp only[aU];rcases q2 with ⟨q2,q3⟩|⟨g',cap,cur,e1,_,hg,hle,hm,hs,ht⟩
        ·exact⟨none,0,0,q2,q3.symm,⟨Nat.le_refl _,by omega⟩,fun _=>⟨by trivial,by trivial⟩,fun ad ha=>by cases ha⟩
        refine⟨_,_,_,e1,rfl,⟨hle,by unfold maxLen at hm;omega⟩,fun hp=>(by cases hp),fun ad ha=>?_⟩;cases ha;refine .inr ⟨rfl,fun h=>h.elim,cur,_,_,hg,?_⟩;have a5:=aI (N':=DJ) (fun r _ h=>h.elim) (fun _ _ _=>rfl) _ _ _ a4;have:=l6 (cur.toList.drop (rr.length*sd)) a5;rw[←ht,List.take_append_drop] at this;simpa using this
       have a6:=bY (N':=DJ) (fun r _ h=>h.elim) (fun _ _ _=>rfl) _ _ a2;have:∀(r:List PV) (j:Nat) (xs:List Value),r[j]? = some (.sl false sd rr)→eY DJ w (r.set j (.sc v)) xs→eY DJ w r xs:=by
        intro r;induction r with
        |nil=>intro j xs h _;simp at h
        | cons p r ih=>
          intro j xs h h';cases j with
          | zero=>
            simp only[List.getElem?_cons_zero,Option.some.injEq] at h;subst h;simp only[List.set_cons_zero,eY] at h' ⊢;obtain⟨u,t,e,b1,b2,b3⟩:=h';simp only[aU] at b2;subst b2;exact⟨u,t,e,b1,hv,b3⟩
          | succ j=>
            simp only[List.getElem?_cons_succ] at h;simp only[List.set_cons_succ,eY] at h' ⊢;obtain⟨u,t,e,b1,b2,b3⟩:=h';exact⟨u,t,e,b1,b2,ih j _ h b3⟩
       exact this r j xs a1 a6
theorem BO {N:Nat→Prop}{st:Nat}:∀{a b:List (List PV)} {xs:List Value},bB N w st a xs→bB N w st b (xs.drop (a.length*st))→bB N w st (a++b) xs
 |[],b,xs,_,h=>by simpa using h
 | x::a,b,xs,h,h'=>by
   simp only[List.cons_append,bB] at h ⊢;refine⟨h.1,h.2.1,BO h.2.2 ?_⟩;rw[List.drop_drop,show st+a.length*st=(x::a).length*st by rw[List.length_cons,Nat.succ_mul];omega];exact h'
theorem yF (g:aS c R s a w){H:List (Nat×au)}(hH:∀b box,lk H b=some box→lk s.hp b=some box) :
  ∀(n:Nat) (x:AV) (p:PV) (u:Value),Sm H n x=some p→ai (aG c R s.hp) w s.hp R x u→aU DJ w p u
 |0,x,p,u,h,_=>by simp[Sm] at h
 | n+1,x,p,u,h,hx=>by
   have ih:=fun x p u=>yF g hH n x p u
   simp only[Sm] at h;split at h
   ·simp only[Option.some.injEq] at h;subst h;simp only[ai] at hx;exact bV (fun r _ h=>h.elim) (fun _ _ _=>rfl) _ _ hx
   ·rename_i b ver;simp only[ai] at hx;split at h
    ·rename_i e v st pre row post hb;have hb':=hH _ _ hb;split at h
     ·rename_i dN;split at h
      ·rename_i ps hps;simp only[Option.some.injEq] at h;subst h;rw[hb'] at hx;have hu:=hx.2.2 (Nat.eq_of_beq_eq_true dN);subst hu;obtain⟨xs,k1,k2,k3,k4,k5⟩:=g.boxes b _ hb';have VJ:=(aW _ _ _ _ _ _).1 k4;have nX:=wQ ih hps VJ;have hl:(pre++ps::post).length=pre.length+(1+post.length):=by simp[Nat.add_comm]
       have hrows:bB DJ w st (pre++ps::post) xs:=by
        have mid:∀{pre:List (List PV)} {row:List PV} {post:List (List PV)} {xs:List Value},bB DJ w st pre xs→row.length=st→eY DJ w row (xs.drop (pre.length*st)) →
          bB DJ w st post ((xs.drop (pre.length*st)).drop st)→bB DJ w st (pre++row::post) xs:=by
         intro pre;induction pre with
         |nil=>intro row post xs h h1 h2 h3;simp only[List.nil_append,bB];exact⟨h1,by simpa using h2,by simpa using h3⟩
         | cons p pre ih=>
           intro row post xs h h1 h2 h3;simp only[bB] at h;obtain⟨a1,a2,a3⟩:=h;have e:xs.drop ((p::pre).length*st)=(xs.drop st).drop (pre.length*st):=by
            rw[List.drop_drop,show (p::pre).length*st=st+pre.length*st by rw[List.length_cons,Nat.add_mul];omega]
           rw[e] at h2 h3;simp only[List.cons_append,bB];exact⟨a1,a2,ih a3 h1 h2 h3⟩
        refine mid (aI (fun r _ h=>h.elim) (fun _ _ _=>rfl) _ _ _ k2) (by rw[←nX.length,VJ.length];exact k3) ?_ (aI (fun r _ h=>h.elim) (fun _ _ _=>rfl) _ _ _ k5);have:=(nX.fp).app ((xs.drop (pre.length*st)).drop st);rw[List.take_append_drop] at this;rw[bT];exact this
       obtain⟨q1,q2⟩:=k1;simp only[aU];rcases q2 with ⟨q2,q3⟩|⟨g',cap,cur,e1,_,hg,hle,hm,hs,ht⟩
       ·omega
       refine⟨_,_,_,e1,hl.symm,⟨hle,by unfold maxLen at hm;omega⟩,fun hp=>(by cases hp),fun ad ha=>?_⟩;cases ha;refine .inr ⟨rfl,fun h=>h.elim,cur,_,_,hg,?_⟩;have:=l6 (cur.toList.drop ((pre.length+(1+post.length))*st)) hrows;rw[←ht,List.take_append_drop] at this;simpa using this
      cases h
     cases h
    ·rename_i e v st j ed sd pre row post hb;have hb':=hH _ _ hb;split at h
     ·rename_i dN;rw[hb'] at hx;have hu:=hx.2.2 (Nat.eq_of_beq_eq_true dN);subst hu;obtain⟨xs,hs1,hs2,a1,k1,k2,k3,k4,k5,k6⟩:=g.boxes b _ hb';have fin:∀rows:List (List PV),rows.length=pre.length+(fA row+post.length)→bB DJ w st rows xs→aU DJ w (.sl false st rows) (bO R b (pre.length+(fA row+post.length))):=by
       intro rows hl hrows;obtain⟨q1,q2⟩:=k1;simp only[aU];rcases q2 with ⟨q2,q3⟩|⟨g',cap,cur,e1,_,hg,hle,hm,hs,ht⟩
       ·refine⟨none,0,0,q2,by omega,⟨Nat.le_refl _,by omega⟩,fun _=>⟨by trivial,by trivial⟩,fun ad ha=>by cases ha⟩
       refine⟨_,_,_,e1,hl.symm,⟨hle,by unfold maxLen at hm;omega⟩,fun hp=>(by cases hp),fun ad ha=>?_⟩;cases ha;refine .inr ⟨rfl,fun h=>h.elim,cur,_,_,hg,?_⟩;have:=l6 (cur.toList.drop ((pre.length+(fA row+post.length))*st)) hrows;rw[←ht,List.take_append_drop] at this;simpa using this
      split at h
      ·simp only[Option.some.injEq] at h;subst h;refine fin _ (by simp[fA]) (BO (o6 k2) ?_);rw[List.length_map];simpa[fA] using o6 k5
      rename_i row' hne;split at h
      ·rename_i ps hps;simp only[Option.some.injEq] at h;subst h;have VJ:=(aW _ _ _ _ _ _).1 k4;have nX:=wQ ih hps VJ;have hO:fA row=1:=by cases row with|nil=>exact absurd rfl hne|cons _ _=>rfl
       rw[hO,Nat.one_mul] at k3 k5 nX VJ;refine fin _ (by rw[hO];simp[Nat.add_comm]) (BO (o6 k2) ?_);simp only[bB,List.length_map];refine⟨by rw[←nX.length,VJ.length];exact k3,?_,o6 k5⟩;have:=(nX.fp).app ((xs.drop (pre.length*st)).drop st);rw[List.take_append_drop] at this;rw[bT];exact this
      cases h
     cases h
    rename_i o _ _;cases hb:lk H b with
    |none=>rw[hb] at h;cases h
    | some box=>
      rw[hb,←hH _ _ hb] at h;exact mJ g h (fun r h=>h.elim) (fun r _ h=>h.elim) hx
   ·simp only[Option.some.injEq] at h;subst h;simp only[aU]
   ·simp only[Option.some.injEq] at h;subst h;simp only[aU]
   ·rename_i b off;simp only[ai] at hx;split at h
    ·rename_i cells hb;split at h
     ·rename_i ps hps;simp only[Option.some.injEq] at h;subst h;have hb':=hH _ _ hb;rw[hb'] at hx;simp only[aH] at hx;subst hx;obtain⟨cur,e,hg,hc⟩:=g.boxes b _ hb';rw[aW] at hc;have hc':=wQ ih hps hc;simp only[aU];refine⟨R.blk b,0,cur,e,(0,0),by simp,fun h=>h.elim,hg,?_⟩;rw[bT];simpa using hc'.fp
     cases h
    ·rename_i cells hb;simp only[Option.some.injEq] at h;subst h;have hb':=hH _ _ hb;rw[hb'] at hx;exact zw (N':=DJ) g (b:=b) (off:=off) (by rw[hb'];rfl) (fun r h=>h.elim) (fun r _ h=>h.elim) (by rw[hb'];exact hx)
    cases h
   ·split at h
    ·rename_i ps hps;simp only[Option.some.injEq] at h;subst h;simp only[ai] at hx;obtain⟨vs,rfl,hx⟩:=hx;rw[aW] at hx;simp only[aU];refine⟨vs,rfl,?_⟩;rw[eB];exact wQ ih hps hx
    cases h
   ·split at h
    ·rename_i ps hps;simp only[Option.some.injEq] at h;subst h;simp only[ai] at hx;obtain⟨vs,rfl,hx⟩:=hx;rw[dn] at hx;simp only[aU];refine⟨vs,rfl,?_⟩;rw[iJ];exact wP ih hps hx
    cases h
   split at h
   ·rename_i x y hx' hy';simp only[Option.some.injEq] at h;subst h;simp only[ai] at hx;obtain⟨fs,cs,rfl,h1,h2⟩:=hx;rw[dn] at h1 h2;simp only[aU];refine⟨fs,cs,rfl,?_,?_⟩
    ·rw[iJ];exact wP ih hx' h1
    rw[iJ];exact wP ih hy' h2
   cases h
def MG (hp:List (Nat×au))(vs:List AV):Bool:=
 match vs with
 | .pv _::args=>match iX hp (dG args) with
   | some H=>match D6 H args with
     |some _=>false
     |none=>true
   |none=>true
 |_=>true
def dC (P:Program)(hp:List (Nat×au))(vs:List AV)(K:AV→List (Nat×au)→List Nat→Prop):Prop:=
 match wB hp 100 (dG vs) [] with
 | ids=>match iX hp ids with
   | some H=>match rD (Sm H 9) vs with
     | some (.fn (.func f) first aT::ps)=>∃r,dP P f (first++(ps++aT)) r∧match zZ r with
       |true=>K (.pv r) [] (dG vs++ids)
       |false=>False
     |_=>False
   |none=>False
theorem wR {hp:List (Nat×au)}:∀{ids:List Nat} {H:List (Nat×au)},iX hp ids=some H→∀b box,lk H b=some box→lk hp b=some box
 |[],H,h=>by simp only[iX,Option.some.injEq] at h;subst h;intro b box hb;simp[lk] at hb
 | i::r,H,h=>by
   simp only[iX] at h;split at h
   ·rename_i bx hbx;split at h
    ·rename_i t ht;simp only[Option.some.injEq] at h;subst h;intro b box hb;rw[ak] at hb;split at hb
     ·rename_i e;simp only[Option.some.injEq] at hb;subst hb;first|(rw[←e];exact hbx)|(subst e;exact hbx)|simp_all
     exact wR ht b box hb
    cases h
   cases h
theorem QX (g:aS c R s a w){fv:AV}{args:List AV}{K:AV→List (Nat×au)→List Nat→Prop}(h:dC P s.hp (fv::args) K)
  {u:Value} {us:List Value} (hf:ai (aG c R s.hp) w s.hp R fv u) (hv:FL (ai (aG c R s.hp) w s.hp R) args us) :
  ∃f first aT,u=.func (.func f) first aT∧Enters P f∧Calls P f (first++us.toArray++aT) w fun e w'=>∃v z ws ids R',e=.returned v∧K z ws ids∧aS c R' (s.app ws) a w' ∧
   ai (aG c R' (ws++s.hp)) w' (ws++s.hp) R' z v:=by
 unfold dC at h;simp only at h;split at h;rotate_left;cases h
 rename_i H hH;have hH:=wR hH;split at h;rotate_left;cases h
 rename_i f first aT ps hm
 obtain⟨r,hpc,h⟩:=h;simp only[rD] at hm;split at hm
 ·rename_i p hp;split at hm
  ·rename_i t ht;simp only[Option.some.injEq,List.cons.injEq] at hm;obtain⟨rfl,rfl⟩:=hm;have h1:=yF g hH 9 _ _ _ hp hf;simp only[aU] at h1;obtain⟨fs,cs,rfl,hf1,hf2⟩:=h1;have h2:=wP (yF g hH 9) ht hv;refine⟨f,fs,cs,rfl,hpc.1,?_⟩;have hargs:dI DJ w (first++(t++aT)) (fs++us.toArray++cs).toList:=by
    rw[iJ] at hf1 hf2 ⊢;have e:(fs++us.toArray++cs).toList=fs.toList++(us++cs.toList):=by simp
    rw[e];exact hf1.app (h2.app hf2)
   refine (hpc.2 DJ w _ (fun r h=>h.elim) hargs).mono ?_;rintro e w' ⟨v,r',rfl,rfl,hr,hsame⟩
   have g2:=g.grow hsame;split at h;rotate_left;cases h
   rename_i hs;refine⟨v,_,[],_,R,rfl,h,g2,?_⟩;simp only[ai];exact vV _ _ hs hr
  cases hm
 cases hm
end
def W1 (ro:Option Nat):Fence:={ Fence.wide with round:=ro }
theorem Co {ro:Option Nat}{n:Nat}{P:Program}{f:FuncId}{args:Array Value}{w:World}{R:Ending→World→Prop}(h:Calls P f args w R):CallsIn (W1 ro) n P f args w R:=
 (callsIn_wide (n:=n)).2 h
theorem PD {n:Nat}{P:Program}{row:String}{args:Array Value}{w:World}{R:Value→World→Prop}(h:Rows P row args w R):RowsIn Fence.wide n P row args w R:=
 fun c cs _=>let ⟨v,w',r,s⟩:=h c cs;⟨v,w',r,stepsIn_wide.2 s⟩
theorem PE {ro:Option Nat}{n:Nat}{P:Program}{row:String}{args:Array Value}{w:World}{R:Value→World→Prop}(h:Rows P row args w R):RowsIn (W1 ro) n P row args w R:=
 PD (n:=n) h
theorem kE {P:Program}{o:Oper}{a:Act}{w:World}{next:Act→World→Prop}{Q:Exit→Act→World→Prop}(ro:Option Nat)(hnd:∀c,o.op ≠ .defer c)(h:o.wp P a w next Q) :
  o.wpIn (W1 ro) 0 P a w next Q:=by
 have he:Oper.semAt ro a.eval o=execOp a.eval o:=by
  cases ro with
  |none=>rfl
  |some l=>exact Oper.semAt_some l _ _ hnd
 refine⟨fun _ _=>trivial,?_⟩;show o.uponIn (W1 ro) 0 P a next Q ((Oper.semAt ro a.eval o).run P w)
 rw[he];unfold Oper.wp at h;generalize (execOp a.eval o).run P w=res at h;cases res with
 | ok x w'=>
   cases x<;>simp only[Oper.upon] at h<;>simp only[Oper.uponIn]<;>first
    |exact h
    |exact⟨fun e=>(by cases e),Co h⟩
    |exact⟨fun e=>(by cases e),PE h⟩
    |exact h.elim
 |halt x w'=>cases x<;>simp only[Oper.upon] at h<;>simp only[Oper.uponIn]<;>exact h
theorem tH:∀{vs:List AV} {ps:List PV},gY vs=some ps→vs=ps.map .pv
 |[],ps,h=>by simp only[gY,Option.some.injEq] at h;subst h;rfl
 | v::r,ps,h=>by
   cases v<;>simp only[gY] at h<;>try (cases h;done)
   split at h
   ·rename_i t ht;simp only[Option.some.injEq] at h;subst h;rw[tH ht];rfl
   cases h
theorem nI {N:Nat→Prop}{w:World}{hp:List (Nat×au)}{R:Real}:∀(ps:List PV) (xs:List Value),bD N w hp R (ps.map .pv) xs→dI N w ps xs
 |[],xs,h=>by simpa only[List.map,bD,dI] using h
 | p::ps,xs,h=>by
   simp only[List.map_cons,bD,ai] at h;simp only[dI];obtain⟨v,r,e,h1,h2⟩:=h;exact⟨v,r,e,h1,nI ps r h2⟩
def isY (vs:List AV):Bool:=
 match vs with
 | v::_=>match v with
   | .pv p=>match p with
     | .fn f _ _=>match f with
       |.yield _=>true
       |_=>false
     |_=>false
   |_=>false
 |[]=>false
def yC (P:Program)(hp:List (Nat×au))(vs:List AV)(K:AV→List (Nat×au)→List Nat→Prop):Prop:=
 match vs with
 | .pv (.fn (.yield l) [] [])::args=>match lk hp 999 with
   | some (.tr y ver rest st)=>match st with
     | some b=>match b with
       | false=>match gY args with
         |some ps=>y=(P,l)∧∃x r,rest=x::r∧iY x ps∧K (.bU 999 (ver+1) 0 0) [(999,.tr y (ver+1) r none)] [999]
         |none=>False
       |true=>False
     |none=>False
   |_=>False
 |_=>False
section
variable {P:Program}{c:Ctx}{R:Real}{s:AS}{a:Act}{w:World}
def jF (c:Ctx)(R:Real)(hp:List (Nat×au))(r:Nat):Prop:=aG c R hp r∧¬R.Y.D r
def yR (R:Real)(b:Bool)(Z D:Nat→Prop)(w:World):Real:=
 { R with nil:=fun b'=>if b'=999 then b else R.nil b',Y:={ R.Y with Z:=Z,D:=D,wy:=w } }
theorem aS.yielded (g:aS c R s a w){y:Program×Nat}{ver:Nat}{rest r:List (List PV)}{w':World}{D':Nat→Prop}{b:Bool}
  (h9:lk s.hp 999=some (.tr y ver rest (some false))) (hE:kK R.Y.D w w') (hD1:∀r,D' r→R.Y.D r∨w.heap.size≤r) (hD2:∀r,D' r→r<w'.heap.size)
  (hJ:R.Y.n0.2 r (!b) (jF c R s.hp) D' w') :
  aS c (yR R b (jF c R s.hp) D' w') (s.app [(999,.tr y (ver+1) r none)]) a w' ∧
   ai (aG c (yR R b (jF c R s.hp) D' w') ((999,.tr y (ver+1) r none)::s.hp)) w' ((999,.tr y (ver+1) r none)::s.hp) (yR R b (jF c R s.hp) D' w') (.bU 999 (ver+1) 0 0) (.bool b):=by
 generalize hbx:au.tr y (ver+1) r none=aV;obtain⟨R',hR'⟩:∃R',R'=yR R b (jF c R s.hp) D' w':=⟨_,rfl⟩;rw[←hR'];have k:=g.boxes 999 _ h9;obtain⟨-,kh,k1,k2,k3,k4⟩:=k;have qL:lk ((999,aV)::s.hp) 999=some aV:=by rw[ak,if_pos rfl]
 have qg:∀b',b'≠999→lk ((999,aV)::s.hp) b'=lk s.hp b':=fun b' h=>by rw[ak,if_neg (fun e=>h e.symm)]
 have hR:∀b',b'≠999→R'.blk b'=R.blk b'∧R'.nil b'=R.nil b'∧R'.cap b'=R.cap b':=fun b' h=>by subst hR';simp[yR,h]
 have hRY:R'.Y={ R.Y with Z:=jF c R s.hp,D:=D',wy:=w' }:=by subst hR';rfl
 have aby:∀r,ax R 999 r (lk s.hp 999)=R.Y.D r:=fun r=>by rw[h9];rfl
 have XF:∀r,ax R' 999 r (some aV)=D' r:=fun r=>by subst hbx;simp only[ax,hRY]
 have ntr:∀b' box,b'≠999→lk s.hp b'=some box→∀x1 x2 x3 x4,box ≠ .tr x1 x2 x3 x4:=by
  rintro b' box hne hb x1 x2 x3 x4 rfl
  exact hne (g.boxes b' _ hb).1
 have PG:∀b' r,b'≠999→ax R' b' r (lk s.hp b')→ax R b' r (lk s.hp b'):=by
  intro b' q hne h;cases hb:lk s.hp b' with
  |none=>rw[hb] at h;exact h.elim
  | some box=>
    rw[hb] at h;have hn:=ntr b' box hne hb;obtain⟨e1,e2,e3⟩:=hR b' hne;cases box<;>simp only[ax,e1,e2,e3] at h ⊢ <;> first
     |exact h
     |exact absurd rfl (hn _ _ _ _)
 have agU:∀b' r,b'≠999→ax R b' r (lk s.hp b')→ax R' b' r (lk s.hp b'):=by
  intro b' q hne h;cases hb:lk s.hp b' with
  |none=>rw[hb] at h;exact h.elim
  | some box=>
    rw[hb] at h;have hn:=ntr b' box hne hb;obtain⟨e1,e2,e3⟩:=hR b' hne;cases box<;>simp only[ax,e1,e2,e3] at h ⊢ <;> first
     |exact h
     |exact absurd rfl (hn _ _ _ _)
 have hworld:kK (fun r=>ax R 999 r (lk s.hp 999)) w w':=hE.mono fun r h=>by rw[aby];exact h
 have hown:∀r,ax R' 999 r (some aV)→ax R 999 r (lk s.hp 999)∨w.heap.size≤r:=fun r h=>by rw[XF] at h;rw[aby];exact hD1 r h
 have FY:∀r,owned R' ((999,aV)::s.hp) r→owned R s.hp r∨w.heap.size≤r:=by
  rintro r ⟨b',h⟩
  by_cases e:b'=999
  ·subst e;rw[qL] at h;exact (hown r h).imp (fun x=>⟨999,x⟩) id
  rw[qg b' e] at h;exact .inl ⟨b',PG b' r e h⟩
 have hN:∀r,r<w.heap.size→aG c R' ((999,aV)::s.hp) r→aG c R s.hp r:=by
  rintro r hr (h|h)
  ·exact .inl h
  exact .inr ((FY r h).resolve_right (by omega))
 have hw:∀r,r<w.heap.size→¬aG c R s.hp r→w'.heap[r]? = w.heap[r]? :=fun r hr hn=>hworld.keep r hr fun x=>hn (.inr ⟨999,x⟩)
 have p1:∀b' off v,aH R b' off v (lk s.hp b')→aH R' b' off v (lk ((999,aV)::s.hp) b'):=fun b' off v h=>by
  by_cases e:b'=999
  ·subst e;rw[h9] at h;exact h.elim
  rw[qg b' e];exact jT (hR b' e) h
 have p2:∀b' ver v,aD R b' ver v (lk s.hp b')→aD R' b' ver v (lk ((999,aV)::s.hp) b'):=fun b' ver v h=>by
  by_cases e:b'=999
  ·subst e;rw[h9] at h;exact h.elim
  rw[qg b' e];exact kR (hR b' e) h
 have p3:∀b' ver i off v,aJ R b' ver i off v (lk s.hp b')→aJ R' b' ver i off v (lk ((999,aV)::s.hp) b'):=fun b' ver i off v h=>by
  by_cases e:b'=999
  ·subst e;rw[h9] at h;rw[qL];subst hbx;simp only[aJ] at h ⊢;exact⟨by omega,h.2.1,fun e=>by omega⟩
  rw[qg b' e];exact kS (hR b' e) h
 have hwo:∀r,r<w.heap.size→¬owned R s.hp r→w'.heap[r]? = w.heap[r]? :=fun r hr hn=>hworld.keep r hr fun x=>hn ⟨999,x⟩
 have hoo:∀r,r<w.heap.size→owned R' ((999,aV)::s.hp) r→owned R s.hp r:=fun r hr h=>(FY r h).resolve_right (by omega)
 refine⟨⟨?_,g.size,⟨by rw[hRY];exact g.lo.1,g.lo.2.1,Nat.le_trans g.lo.2.2 hE.size⟩,g.marks.imp fun Ds h=>h.kept hwo hoo,g.fixed.kept hwo hoo,?_,?_,?_,?_,?_,fun v x h=>bP hN hw p1 p2 p3 v x (g.kept v x h)⟩,?_⟩
 ·intro t v h;obtain⟨x,hx,hv⟩:=g.slots t v h;exact⟨x,hx,bP hN hw p1 p2 p3 v x hv⟩
 ·intro b' box h;by_cases e:b'=999
  ·subst e;simp only[AS.app,List.singleton_append,qL,Option.some.injEq] at h;subst h;subst hbx;simp only[dB,hRY];refine⟨trivial,kh,?_,Fx.refl _ _ _ _,hD2,fun q hn=>?_⟩
   ·have:R'.nil 999=b:=by subst hR';simp[yR]
    rw[this];exact hJ
   rcases hn with hn|⟨b2,ho⟩
   ·refine .inr (.inl ⟨.inl hn,fun hd=>?_⟩);exact g.free q ⟨999,by rw[h9];exact hd⟩ hn
   simp only[AS.app,List.singleton_append] at ho;by_cases e2:b2=999
   ·subst e2;rw[qL,XF] at ho;exact .inl ho
   rw[qg b2 e2] at ho;have ho':=PG b2 q e2 ho;exact .inr (.inl ⟨.inr ⟨b2,ho'⟩,fun hd=>e2 (g.inj b2 999 q ho' (by rw[h9];exact hd))⟩)
  simp only[AS.app,List.singleton_append,qg b' e] at h;have hr:=g.boxes b' box h;have hRb:=hR b' e;have hkeep:∀r,ax R b' r (lk s.hp b')→w'.heap[r]? = w.heap[r]? :=fun r ho=>
   hworld.keep r (g.jb ho) fun x=>e (g.inj b' 999 r ho x)
  rw[h] at hkeep;cases box with
  | var cells=>
    obtain⟨cur,e',h8,h9⟩:=hr;refine⟨cur,e',?_,aY hN hw p1 p2 p3 _ _ h9⟩;rw[hRb.1,hkeep _ rfl];exact h8
  | lM cells=>
    obtain⟨cur,e',fr,h8,h7,h9⟩:=hr;have hs:=size_of_getElem? h8;refine⟨cur,e',fr,?_,?_,bY hN hw _ _ h9⟩
    ·rw[hRb.1,hw _ hs h7];exact h8
    rw[hRb.1];exact fun x=>h7 (hN _ hs x)
  | arr e' ver st rows=>
    obtain⟨xs,h8,h9⟩:=hr;refine⟨xs,?_,aI hN hw _ _ _ h9⟩;rw[iB hRb];refine cB h8 fun k hk=>hkeep k ?_
    simp only[bO] at hk;cases hnil:R.nil b' with
    |true=>simp[hnil,Value.ownBlock] at hk
    |false=>simp[hnil,Value.ownBlock] at hk;exact⟨hnil,hk⟩
  | gD ver st rows=>
    simp only[dB,iB hRb] at hr ⊢;exact bV hN hw _ _ hr
  |tr _ _ _ _=>exact absurd rfl (ntr b' _ e h _ _ _ _)
  | mp kk kv es=>
    obtain⟨cur,clock,h8,h9,h10⟩:=hr;exact⟨cur,clock,by rw[hRb.1,hkeep _ ⟨h9,rfl⟩];exact h8,by rw[hRb.2.1];exact h9,h10⟩
  |fZ e' ver st j ed sd pre row post=>exact gZ hN hw hRb.1 hRb.2.1 hRb.2.2 (fun k hk=>hkeep k hk) rfl (fun vs h=>aY hN hw p1 p2 p3 _ _ h) hr
  | dX e' ver st pre row post=>
    obtain⟨xs,h8,h9,h10,h11,h12⟩:=hr;refine⟨xs,?_,aI hN hw _ _ _ h9,h10,aY hN hw p1 p2 p3 _ _ h11,aI hN hw _ _ _ h12⟩;rw[iB hRb];refine cB h8 fun k hk=>hkeep k ?_
    simp only[bO] at hk;cases hnil:R.nil b' with
    |true=>simp[hnil,Value.ownBlock] at hk
    |false=>simp[hnil,Value.ownBlock] at hk;exact⟨hnil,hk⟩
 ·intro b1 b2 q h1 h2;simp only[AS.app,List.singleton_append] at h1 h2;by_cases e1:b1=999
  ·by_cases e2:b2=999
   ·rw[e1,e2]
   subst e1;simp only[qL,qg b2 e2] at h1 h2;have h2':=PG b2 q e2 h2;have hlt:=g.jb h2';exact g.inj _ _ q ((hown q h1).resolve_right (by omega)) h2'
  by_cases e2:b2=999
  ·subst e2;simp only[qL,qg b1 e1] at h1 h2;have h1':=PG b1 q e1 h1;have hlt:=g.jb h1';exact g.inj _ _ q h1' ((hown q h2).resolve_right (by omega))
  simp only[qg b1 e1,qg b2 e2] at h1 h2;exact g.inj _ _ q (PG b1 q e1 h1) (PG b2 q e2 h2)
 ·intro q h hF;rcases FY q h with h|h
  ·exact g.free q h hF
  have:=c.hF q hF;have:=g.iE.size;omega
 ·refine g.iE.trans hworld fun q hr ho=>?_
  exact (g.fG q ⟨999,ho⟩).resolve_right (by omega)
 ·intro q h;rcases FY q h with h|h
  ·exact g.fG q h
  exact .inr (Nat.le_trans g.iE.size h)
 simp only[ai,qL];subst hbx;simp only[aJ];have:R'.nil 999=b:=by subst hR';simp[yR]
 exact⟨Nat.le_refl _,rfl,fun _ _=>by rw[this];cases b<;>rfl⟩
end
section
variable {P:Program}{T:Tab}{c:Ctx}
theorem aS.congr {R:Real}{tm tm':List (Nat×AV)}{nx:Nat}{hp hp':List (Nat×au)}{a:Act}{w:World}(g:aS c R ⟨tm,nx,hp⟩ a w)
  (ht:∀t,lk tm' t=lk tm t) (hh:∀b,lk hp' b=lk hp b):aS c R ⟨tm',nx,hp'⟩ a w:=by
 have ho:∀r,owned R hp' r↔owned R hp r:=fun r=>by simp only[owned,hh]
 have hN:∀r,r<w.heap.size→aG c R hp' r→aG c R hp r:=fun r _ h=>h.imp id (ho r).1
 have Te:∀r,¬aG c R hp r→¬aG c R hp' r:=fun r h h'=>h (h'.imp id (ho r).1)
 have hw:∀r,r<w.heap.size→¬aG c R hp r→w.heap[r]? = w.heap[r]? :=fun _ _ _=>rfl
 have h1:∀b off v,aH R b off v (lk hp b)→aH R b off v (lk hp' b):=fun b off v h=>by rw[hh];exact h
 have h2:∀b ver v,aD R b ver v (lk hp b)→aD R b ver v (lk hp' b):=fun b ver v h=>by rw[hh];exact h
 have h3:∀b ver i off v,aJ R b ver i off v (lk hp b)→aJ R b ver i off v (lk hp' b):=fun b ver i off v h=>by rw[hh];exact h
 refine⟨fun t v hv=>?_,g.size,g.lo,g.marks.imp fun Ds hm=>hm.kept (fun _ _ _=>rfl) (fun r _ h=>(ho r).1 h),g.fixed.kept (fun _ _ _=>rfl) (fun r _ h=>(ho r).1 h),fun b box hb=>?_,fun b b' r hb hb'=>?_,fun r hr=>g.free r ((ho r).1 hr),g.iE,fun r hr=>g.fG r ((ho r).1 hr),fun v x h=>bP hN hw h1 h2 h3 v x (g.kept v x h)⟩
 ·obtain⟨x,hx,hr⟩:=g.slots t v (by rw[←ht];exact hv);exact⟨x,hx,bP hN hw h1 h2 h3 v x hr⟩
 ·have hr:=g.boxes b box (by rw[←hh];exact hb);cases box with
  | var cells=>
    simp only[dB] at hr ⊢;obtain⟨cur,e,ha,hb⟩:=hr;exact⟨cur,e,ha,aY hN hw h1 h2 h3 cells _ hb⟩
  | lM cells=>
    simp only[dB] at hr ⊢;obtain⟨cur,e,fr,ha,hn,hb⟩:=hr;exact⟨cur,e,fr,ha,Te _ hn,bY hN hw cells _ hb⟩
  | arr e ver st rows=>
    simp only[dB] at hr ⊢;obtain⟨xs,ha,hb⟩:=hr;exact⟨xs,ha,aI hN hw st rows xs hb⟩
  | gD ver st rows=>
    simp only[dB] at hr ⊢;exact bV hN hw _ _ hr
  | tr y ver rest st=>
    obtain⟨k0,kh,k1,k2,k3,k4⟩:=hr;exact⟨k0,kh,k1,k2,k3,fun r hn=>k4 r (hn.imp id (ho r).1)⟩
  |fZ e' ver st j ed sd pre row post=>exact gZ hN hw rfl rfl rfl (fun k _=>rfl) rfl (fun vs h=>aY hN hw h1 h2 h3 _ _ h) hr
  |mp kk kv es=>exact hr
  | dX e' ver st pre row post=>
    obtain⟨xs,h8,h9,h10,h11,h12⟩:=hr;exact⟨xs,h8,aI hN hw _ _ _ h9,h10,aY hN hw h1 h2 h3 _ _ h11,aI hN hw _ _ _ h12⟩
 simp only[hh] at hb hb';exact g.inj b b' r hb hb'
end
def Jm (ids:List Nat)(hp:List (Nat×au)):List (Nat×au)→Prop→Prop
 |[],X=>X
 |(b,box)::r,X=>Be b ids=true∧(lk hp b=some box∧Jm ids hp r X)
theorem uS {ids:List Nat}{hp:List (Nat×au)}:∀{ws:List (Nat×au)} {X:Prop},Jm ids hp ws X→X∧∀b,lk (ws++hp) b=lk hp b
 |[],X,h=>⟨h,fun _=>rfl⟩
 | (b,box)::r,X,h=>by
   obtain⟨h1,h2,h3⟩:=h;obtain⟨h4,h5⟩:=uS h3;refine⟨h4,fun k=>?_⟩;rw[List.cons_append,ak];split
   ·rename_i e;rw[←e];exact h2.symm
   exact h5 k
theorem Jo {x:Nat}:∀{l:List Nat},Be x l=true→x∈l
 |[],h=>by simp[Be] at h
 | y::r,h=>by
   unfold Be at h;split at h
   ·rename_i e;have e:=Nat.eq_of_beq_eq_true e;simp[e]
   exact List.mem_cons_of_mem _ (Jo h)
theorem zh {ids:List Nat}{hp hp':List (Nat×au)}(hb:∀b∈ids,lk hp' b=lk hp b):∀{ws:List (Nat×au)} {X Y:Prop},Jm ids hp ws X→Y→Jm ids hp' ws Y
 |[],X,Y,h,hy=>hy
 |(b,box)::r,X,Y,h,hy=>⟨h.1,(hb b (Jo h.1)).trans h.2.1,zh hb h.2.2 hy⟩
def gV (P:Program)(hp:List (Nat×au))(id:Nat)(vs:List AV)(K:AV→List (Nat×au)→List Nat→Prop):Prop:=
 gC P hp id vs fun r ws ids=>Jm ids hp ws (K r [] ids)
def qJ (T:Tab)(H:List (Nat×au))(t:TypeId)(vs:List AV)(id:Nat)(K:AV→List (Nat×au)→Prop):Prop:=
 match vs with
 | [.sub b ver st lo hi,x]=>match lk T t with
   | some i=>match i.d with
     | .slt e=>match lk T e with
       | some ei=>match jP H st x with
         | some aB=>match lk H b with
           | some (.arr e' v st' rows)=>match Nat.beq ver v,Nat.beq st st',Nat.beq st ei.size,Nat.beq e' e,Nat.beq lo 0 with
             |true,true,true,true,true=>hi+aB.length≤rows.length∧K (.sub b ver st 0 (hi+aB.length)) [(b,.arr e' v st' (rows.take hi++(aB++rows.drop (hi+aB.length))))]
             |_,_,_,_,_=>False
           |_=>False
         |none=>False
       |none=>False
     |_=>False
   |none=>False
 |_=>qR T H t vs id K
section
variable {P:Program}{T:Tab}{c:Ctx}{R:Real}{s:AS}{a:Act}{w:World}
theorem nN (g:aS c R s a w)(hT:bA P T){H:List (Nat×au)}(hH:∀b box,lk H b=some box→lk s.hp b=some box){id:Nat}(hf:lk s.hp id=none)
  {t ty:TypeId} {d x:AV} {K:AV→List (Nat×au)→Prop} (h:qJ T H t [d,x] id K) {u v:Value} (hd:ai (aG c R s.hp) w s.hp R d u) (hx:ai (aG c R s.hp) w s.hp R x v) :
  ∃y w' R' z ws,(Builtin.append_ #[t,t] ty #[u,v]).run P w=.ok y w'∧K z ws∧aS c R' (s.app ws) a w'∧ai (aG c R' (ws++s.hp)) w' (ws++s.hp) R' z y:=by
 unfold qJ at h;split at h
 ·rename_i b ver st lo hi x' heq;simp only[List.cons.injEq,and_true] at heq;obtain⟨rfl,rfl⟩:=heq;split at h;rotate_left;cases h
  rename_i i hi';obtain⟨dd,hdd,fC⟩:=(hT t i hi').fq;split at h;rotate_left;cases h
  rename_i e hte;have ht:P.underlying t=some (.slice e):=by
   rw[hte] at fC;cases dd<;>simp[di] at fC
   subst fC;exact hdd
  split at h;rotate_left;cases h
  rename_i ei ng;have gH:=hT _ _ ng;obtain⟨ti,zv,hinfo,hsz,hby,hzero,hzc⟩:=gH.AL;split at h;rotate_left;cases h
  rename_i aB hsrc;obtain⟨p,len,cap,rfl,rfl,hlc,ZP,hps⟩:=DX g hH hsrc hx;split at h;rotate_left;cases h
  rename_i e' vr st' rows hb;have hb':=hH _ _ hb;split at h;rotate_left;cases h
  rename_i dN hst yE he hlo;have dN:=Nat.eq_of_beq_eq_true dN;have hst:=Nat.eq_of_beq_eq_true hst;have yE:=Nat.eq_of_beq_eq_true yE;have he:=Nat.eq_of_beq_eq_true he;have hlo:=Nat.eq_of_beq_eq_true hlo;subst dN;subst hst;subst he;subst hlo;obtain⟨hbd,hK⟩:=h;have hre:=g.boxes b _ hb';simp only[ai,hb',aD] at hd;obtain⟨u0,Yu,hok,rfl⟩:=hd;have hu:=Yu.2.2 (by trivial);subst hu;by_cases hz:aB.length=0
  ·have he:aB=[]:=List.eq_nil_of_length_eq_zero hz;subst he;have XK:∃p0 l0 c0,gX st 0 hi (bO R b rows.length)=.slice p0 l0 c0∧l0≤c0:=by
    cases hn:R.nil b with
    |true=>exact⟨none,0,0,by simp[bO,hn,gX],Nat.le_refl _⟩
    | false=>
      obtain⟨cur,hg,hs,hle,hm,hr,_⟩:=eO hre hn;simp only[bO,hn,Bool.false_eq_true,if_false,l5] at hok;have hsv:gX st 0 hi (bO R b rows.length)=.slice (some (if (R.cap b).1=0 then ⟨R.blk b,0,none⟩ else (⟨R.blk b,0,none⟩:Addr).add (0*st))) (hi-0) ((R.cap b).1-0):=by simp only[bO,hn,Bool.false_eq_true,if_false,gX]
      exact⟨_,_,_,hsv,by omega⟩
   obtain⟨p0,l0,c0,e1,e2⟩:=XK;have hrun:=ku (P:=P) (w:=w) (ty:=ty) ht gH p0 p l0 c0 cap e2;rw[←e1] at hrun;simp only[List.length_nil,Nat.add_zero,List.nil_append,List.take_append_drop] at hK;refine⟨_,w,R,_,_,hrun,hK,g.sameBox hb',?_⟩;simp only[ai,List.cons_append,List.nil_append,ak,if_true,aD];exact⟨_,Yu,hok,rfl⟩
  cases p with
  |none=>exact absurd (by rw[ZP rfl];rfl) hz
  | some ad=>
    obtain⟨news,n1,n2,n3,n4⟩:=hps ad rfl;have hn:R.nil b=false:=by
     cases hn:R.nil b with
     |false=>rfl
     | true=>
       have:=nO hre hn;subst this;simp only[List.length_nil] at hbd;omega
    obtain⟨cur,hg,hs,hle,hm,hr,_⟩:=eO hre hn;simp only[bO,hn,Bool.false_eq_true,if_false,l5] at hok;have hadd:(⟨R.blk b,0,none⟩:Addr).add (0*st)=⟨R.blk b,0,none⟩:=by simp[Addr.add]
    have hsub:∀k,gX st 0 k (bO R b rows.length)=.slice (some ⟨R.blk b,0,none⟩) k ((R.cap b).1):=by
     intro k;simp only[bO,hn,gX,Bool.false_eq_true,if_false,hadd,Nat.sub_zero];split<;>rfl
    have hroom:hi+aB.length≤(R.cap b).1:=by omega
    have hmul:hi*st+aB.length*st=(hi+aB.length)*st:=by rw[Nat.add_mul]
    have hcs:(hi+aB.length)*st≤cur.size:=by rw[hs];exact Nat.mul_le_mul_right _ hroom
    have hfit:hi*st+news.length≤cur.size:=by rw[n1,hmul];exact hcs
    have hrun:=run_append_room (P:=P) w t ty e' ti ht hinfo (R.blk b) hi ((R.cap b).1) cur hg ad aB.length cap news (by rw[hsz,n1,yE]) n2 n3 hroom (by rw[hsz,←yE];exact hfit);rw[hsz,←yE] at hrun;have hR:∀b',b'≠b→R.blk b'=R.blk b'∧R.nil b'=R.nil b'∧R.cap b'=R.cap b':=fun _ _=>⟨rfl,rfl,rfl⟩
    generalize hrows:(rows.take hi++(aB++rows.drop (hi+aB.length)))=BN at hK;have hll:BN.length=rows.length:=by rw[←hrows];simp;omega
    have r1:∀off v',aH R b off v' (lk s.hp b)→aH R b off v' (some (.arr e' ver st BN)):=fun off v h=>by rw[hb'] at h;exact h
    have r2:∀mK v',aD R b mK v' (lk s.hp b)→aD R b mK v' (some (.arr e' ver st BN)):=fun _ v h=>by rw[hb'] at h;simp only[aD,hll] at h ⊢;exact h
    have r3:∀mK i off v',aJ R b mK i off v' (lk s.hp b)→aJ R b mK i off v' (some (.arr e' ver st BN)):=fun _ _ _ v h=>by rw[hb'] at h;exact h
    have hown:∀r,ax R b r (some (.arr e' ver st BN))→ax R b r (lk s.hp b)∨w.heap.size≤r:=fun r h=>by rw[hb'];exact .inl h
    have hworld:kK (fun r=>ax R b r (lk s.hp b)) w (w.setRow (R.blk b) (cur.toList.take (hi*st)++news++cur.toList.drop (hi*st+news.length)).toArray):=by
     refine (l7 w _ _).mono ?_;rintro r rfl
     rw[hb'];exact⟨hn,rfl⟩
    obtain⟨m1,m2,m3,m4,m5⟩:=g.Df hR r1 r2 r3 hown hworld;refine⟨_,_,R,_,_,by rw[hsub];exact hrun,hK,g.upd hR r1 r2 r3 hown hworld ?_,?_⟩
    ·have hnew:bB (aG c R s.hp) w st BN (cur.toList.take (hi*st)++news++cur.toList.drop (hi*st+news.length)):=by
      rw[←hrows,List.append_assoc];have p1:bB (aG c R s.hp) w st (rows.take hi) (cur.toList.take (hi*st)):=by
       obtain⟨_,t2,_⟩:=d9 (jQ (i:=hi) hr);rw[List.length_take,Nat.min_eq_left (by omega)] at t2;exact t2
      refine iI p1 (by rw[List.length_take,List.length_take,Nat.min_eq_left (by simp;omega),Nat.min_eq_left (by omega)]) (iI n4 n1 ?_);rw[n1,hmul];exact kr (hi+aB.length) hr
     have Sl:(cur.toList.take (hi*st)++news++cur.toList.drop (hi*st+news.length)).length=cur.size:=by
      simp only[List.length_append,List.length_take,List.length_drop,Array.length_toList];omega
     obtain⟨t1,t2,t3⟩:=d9 (aI m1 m2 _ _ _ hnew);refine⟨_,?_,t2⟩;have hsl:bO R b BN.length=.slice (some ⟨R.blk b,0,none⟩) rows.length ((R.cap b).1):=by simp[bO,hn,hll]
     rw[hsl,hll];rw[hll] at t1;refine⟨?_,.inr ⟨R.blk b,(R.cap b).1,_,rfl,Nat.zero_le _,setRow_heap w _ cur _ e' _ hg,hle,hm,?_,by simp⟩⟩
     ·simp only[List.length_take];omega
     simp only[List.size_toArray,Sl,hs]
    simp only[ai,List.cons_append,List.nil_append,ak,if_true,aD];refine⟨bO R b rows.length,⟨Nat.le_refl _,Yu.2.1,fun _=>by rw[hll]⟩,?_,by rw[hsub]⟩;simp only[bO,hn,Bool.false_eq_true,if_false,l5];omega
 exact pY g hT hH hf h hd hx
def Ed (T:Tab)(H:List (Nat×au))(t:TypeId)(lo hi mx:Option Operand)(b ver st l0:Nat)(r:List AV)(K:AV→List (Nat×au)→Prop):Prop:=
 match lk H b with
 | some (.arr e v st' rows)=>match Nat.beq ver v,Nat.beq l0 0,isNone mx with
   | true,true,true=>match lk T t with
     | some i=>match i.d with
       | .slt et=>match lk T et with
         | some ei=>match Nat.beq st ei.size,Nat.beq st st' with
           | true,true=>match Ad lo r with
             | some (some l,r1)=>match Ad hi r1 with
               |some (some h,_)=>0≤h∧h≤rows.length∧0≤l∧l≤h∧K (.sub b ver st l.toNat h.toNat) []
               |_=>False
             |_=>False
           |_,_=>False
         |none=>False
       |_=>False
     |none=>False
   |_,_,_=>False
 |_=>False
def Ee (T:Tab)(H:List (Nat×au))(t:TypeId)(lo hi mx:Option Operand)(b ver:Nat)(r:List AV)(K:AV→List (Nat×au)→Prop):Prop:=
 match lk H b with
 | some (.arr e v st rows)=>match Nat.beq ver v with
   | true=>match lk T t with
     | some i=>match i.d with
       | .slt et=>match lk T et with
         | some ei=>match Ad lo r with
           | some (some l,r1)=>match Ad hi r1 with
             | some (some h,r2)=>match Ad mx r2 with
               |some (some m,_)=>0≤m∧m≤rows.length∧0≤h∧h≤m∧0≤l∧l≤h∧K (.pv .junk) []
               |_=>False
             |_=>False
           |_=>False
         |none=>False
       |_=>False
     |none=>False
   |false=>False
 |_=>False
def nH (T:Tab)(H:List (Nat×au))(t:TypeId)(lo hi mx:Option Operand)(vs:List AV)(K:AV→List (Nat×au)→Prop):Prop:=
 match aaI T with
 |false=>lG T H t lo hi mx vs K
 | true=>match vs with
   |.sub b ver st l0 _::r=>Ed T H t lo hi mx b ver st l0 r K
   | .aZ b ver::r=>match isNone mx with
     |true=>lG T H t lo hi mx vs K
     |false=>Ee T H t lo hi mx b ver r K
   |_=>lG T H t lo hi mx vs K
theorem K4 {P:Program}{w:World}{len len' cap:Nat}{lo hi mx:Option Value}(h:hi.isSome=true):(Instr.sliceBounds true len cap lo hi mx).run P w=(Instr.sliceBounds true len' cap lo hi mx).run P w:=by
 cases hi with
 |none=>cases h
 |some v=>cases mx<;>simp[Instr.sliceBounds]
theorem VI {o:Option Value}{j:Int}(h:vI o (some j)):o.isSome=true:=by
 cases o with
 |none=>exact h.elim
 |some v=>rfl
theorem IL (g:aS c R s a w)(hT:bA P T){H:List (Nat×au)}(hH:∀b box,lk H b=some box→lk s.hp b=some box){t:TypeId}{x0:Operand}{lo hi mx:Option Operand}{b ver st l0 h0:Nat}{r:List AV}
  {K:AV→List (Nat×au)→Prop} (h:Ed T H t lo hi mx b ver st l0 r K)
  (hv:FL (ai (aG c R s.hp) w s.hp R) (.sub b ver st l0 h0::r) ((x0::(lo.toList++(hi.toList++mx.toList))).map a.eval)) :
  ∃y z,(Instr.sliceAt t (a.eval x0) (lo.map a.eval) (hi.map a.eval) (mx.map a.eval)).run P w=.ok y w∧K z []∧ai (aG c R s.hp) w s.hp R z y:=by
 unfold Ed at h;split at h;rotate_left;cases h
 rename_i e v st' rows hb;split at h;rotate_left;cases h
 rename_i dN hl0 hmx;have dN:=Nat.eq_of_beq_eq_true dN;have hl0:=Nat.eq_of_beq_eq_true hl0;have hmx:mx=none:=by cases mx<;>simp_all [isNone]
 subst hmx;subst hl0;split at h;rotate_left;cases h
 rename_i i hi';obtain⟨d,hd,fC⟩:=(hT t i hi').fq;split at h;rotate_left;cases h
 rename_i et hte;have hd':P.underlying t=some (.slice et):=by
  rw[hte] at fC;cases d<;>simp[di] at fC
  subst fC;exact hd
 split at h;rotate_left;cases h
 rename_i ei ng;have gH:=hT _ _ ng;split at h;rotate_left;cases h
 rename_i hst yE;have hst:=Nat.eq_of_beq_eq_true hst;have yE:=Nat.eq_of_beq_eq_true yE;subst yE;split at h;rotate_left;cases h
 rename_i l r1 hl;split at h;rotate_left;cases h
 rename_i hh r2 hhi;obtain⟨k1,k2,k3,k4,hK⟩:=h;simp only[List.map_cons] at hv;obtain⟨u,r',e1,hx,hv⟩:=hv;simp only[List.cons.injEq] at e1;obtain⟨e1,rfl⟩:=e1;obtain⟨v1,hv⟩:=fQ hv hl;obtain⟨v2,hv⟩:=fQ (rest:=[]) (by simpa using hv) hhi;have hb':=hH _ _ hb;have hre:=g.boxes b _ hb';simp only[ai,hb',aD] at hx;obtain⟨u0,Yu,hok,rfl⟩:=hx;have hu:=Yu.2.2 dN;subst hu;have Yv:=VI v2;cases hn:R.nil b with
 | true=>
   have hr0:=nO hre hn;subst hr0;simp only[bO,hn,if_true,l5,List.length_nil] at hok;obtain⟨hrun,q1,q2,q3⟩:=gQ (P:=P) (w:=w) (O6:=true) (len:=0) (cap:=0) (m:=none) v1 v2 (show vI none none from trivial) (Nat.le_refl _) (fun i e=>by cases e) (by simpa[dU] using ⟨k1,k2⟩) (by simpa[dU] using ⟨k3,k4⟩);have hz:hh.toNat=0:=by simp at k2;omega
   have lz:l.toNat=0:=by omega
   refine⟨.slice none 0 0,_,?_,hK,?_⟩
   ·rw[e1];simp only[Option.map_none,Option.map_some,Option.getD_none,Option.getD_some,dU,hz,lz] at hrun;simp only[Instr.sliceAt,Instr.slice,Sem.run_bind,run_underlying hd',Result.andThen_ok,bO,hn,if_true,gX,Option.map_none,hrun,gH.run_sizeOf,Sem.run_pure]
   simp only[ai,hb',aD];refine⟨_,Yu,?_,by simp[bO,hn,gX]⟩;simp only[bO,hn,if_true,l5];omega
 | false=>
   obtain⟨cur,hg,hs,hle,hm,hr,_⟩:=eO hre hn;obtain⟨hrun,q1,q2,q3⟩:=gQ (P:=P) (w:=w) (O6:=true) (len:=rows.length) (cap:=(R.cap b).1) (m:=none) v1 v2 (show vI none none from trivial) hle (fun i e=>by cases e) (by
    intro i hi;cases hi;exact⟨k1,k2⟩) (by intro i hi;cases hi;exact⟨k3,k4⟩)
   rw[K4 (len':=h0) Yv] at hrun;simp only[Option.map_none,Option.map_some,Option.getD_none,Option.getD_some,dU] at hrun;have hadd:(⟨R.blk b,0,none⟩:Addr).add (0*st)=⟨R.blk b,0,none⟩:=by simp[Addr.add]
   have hsub:gX st 0 h0 (bO R b rows.length)=.slice (some ⟨R.blk b,0,none⟩) h0 ((R.cap b).1):=by
    simp only[bO,hn,gX,Bool.false_eq_true,if_false,hadd,Nat.sub_zero];split<;>rfl
   refine⟨gX st l.toNat hh.toNat (bO R b rows.length),_,?_,hK,?_⟩
   ·rw[e1,hsub];simp only[Instr.sliceAt,Instr.slice,Sem.run_bind,run_underlying hd',Result.andThen_ok,Option.map_none,hrun,gH.run_sizeOf,Sem.run_pure];simp only[bO,hn,Bool.false_eq_true,if_false,gX,hst];congr 2
    split<;>rfl
   simp only[ai,hb',aD];refine⟨_,Yu,?_,rfl⟩;simp only[bO,hn,Bool.false_eq_true,if_false,l5];omega
theorem IQ (g:aS c R s a w)(hT:bA P T){H:List (Nat×au)}(hH:∀b box,lk H b=some box→lk s.hp b=some box){t:TypeId}{x0:Operand}{lo hi mx:Option Operand}{b ver:Nat}{r:List AV}
  {K:AV→List (Nat×au)→Prop} (h:Ee T H t lo hi mx b ver r K)
  (hv:FL (ai (aG c R s.hp) w s.hp R) (.aZ b ver::r) ((x0::(lo.toList++(hi.toList++mx.toList))).map a.eval)) :
  ∃y z,(Instr.sliceAt t (a.eval x0) (lo.map a.eval) (hi.map a.eval) (mx.map a.eval)).run P w=.ok y w∧K z []∧ai (aG c R s.hp) w s.hp R z y:=by
 unfold Ee at h;split at h;rotate_left;cases h
 rename_i e v st rows hb;split at h;rotate_left;cases h
 rename_i dN;have dN:=Nat.eq_of_beq_eq_true dN;split at h;rotate_left;cases h
 rename_i i hi';obtain⟨d,hd,fC⟩:=(hT t i hi').fq;split at h;rotate_left;cases h
 rename_i et hte;have hd':P.underlying t=some (.slice et):=by
  rw[hte] at fC;cases d<;>simp[di] at fC
  subst fC;exact hd
 split at h;rotate_left;cases h
 rename_i ei ng;have gH:=hT _ _ ng;split at h;rotate_left;cases h
 rename_i l r1 hl;split at h;rotate_left;cases h
 rename_i hh r2 hhi;split at h;rotate_left;cases h
 rename_i m r3 hmx;obtain⟨k5,k6,k1,k2,k3,k4,hK⟩:=h;simp only[List.map_cons] at hv;obtain⟨u,r',e1,hx,hv⟩:=hv;simp only[List.cons.injEq] at e1;obtain⟨e1,rfl⟩:=e1;obtain⟨v1,hv⟩:=fQ hv hl;obtain⟨v2,hv⟩:=fQ hv hhi;obtain⟨v3,hv⟩:=fQ (rest:=[]) (by simpa using hv) hmx;have hb':=hH _ _ hb;have hre:=g.boxes b _ hb';simp only[ai,hb',aD] at hx;have hu:=hx.2.2 dN;subst hu;obtain⟨p0,l0,c0,hsl,hlc,hl0⟩:∃p0 l0 c0,bO R b rows.length=.slice p0 l0 c0∧l0≤c0∧l0=rows.length:=by
  cases hn:R.nil b with
  | true=>
    have hr0:=nO hre hn;subst hr0;exact⟨none,0,0,by simp[bO,hn],Nat.le_refl _,rfl⟩
  | false=>
    obtain⟨cur,hg,hs,hle,hm,hr,_⟩:=eO hre hn;exact⟨some ⟨R.blk b,0,none⟩,rows.length,(R.cap b).1,by simp only[bO,hn,Bool.false_eq_true,if_false],hle,rfl⟩
 subst hl0;obtain⟨hrun,q1,q2,q3⟩:=gQ (P:=P) (w:=w) (O6:=true) v1 v2 v3 hlc (fun i e=>by cases e;exact⟨k5,k6,rfl⟩) (by
  intro i hi;cases hi;exact⟨k1,by simpa[dU] using k2⟩) (by intro i hi;cases hi;exact⟨k3,by simpa[dU] using k4⟩)
 rw[hsl] at e1;obtain⟨y,hy⟩:∃y,(Instr.sliceAt t (a.eval x0) (lo.map a.eval) (hi.map a.eval) (mx.map a.eval)).run P w=.ok y w:=by
  rw[e1];simp only[Instr.sliceAt,Instr.slice,Sem.run_bind,run_underlying hd',Result.andThen_ok,hrun,gH.run_sizeOf,Sem.run_pure];exact⟨_,rfl⟩
 exact⟨y,_,hy,hK,by simp only[ai,aU]⟩
theorem Dp (g:aS c R s a w)(hT:bA P T){H:List (Nat×au)}(hH:∀b box,lk H b=some box→lk s.hp b=some box){t:TypeId}{x0:Operand}{lo hi mx:Option Operand}{vs:List AV}
  {K:AV→List (Nat×au)→Prop} (h:nH T H t lo hi mx vs K)
  (hv:FL (ai (aG c R s.hp) w s.hp R) vs ((x0::(lo.toList++(hi.toList++mx.toList))).map a.eval)) :
  ∃y z ws R',(Instr.sliceAt t (a.eval x0) (lo.map a.eval) (hi.map a.eval) (mx.map a.eval)).run P w=.ok y w∧K z ws∧aS c R' (s.app ws) a w∧ai (aG c R' (ws++s.hp)) w (ws++s.hp) R' z y:=by
 unfold nH at h;split at h
 ·exact og g hT hH h hv
 split at h
 ·obtain⟨y,z,h1,h2,h3⟩:=IL g hT hH h hv;exact⟨y,z,[],R,h1,h2,g,h3⟩
 ·split at h
  ·exact og g hT hH h hv
  obtain⟨y,z,h1,h2,h3⟩:=IQ g hT hH h hv;exact⟨y,z,[],R,h1,h2,g,h3⟩
 exact og g hT hH h hv
end
def dQ (vs:List Value):List PV:=vs.map .sc
theorem Cf {N:Nat→Prop}{w:World}:∀(vs xs:List Value),(∀v∈vs,v.oneCell'=true)→(eY N w (dQ vs) (vs++xs))
 |[],_,_=>by simp[dQ,eY]
 | v::vs,xs,h=>by
   simp only[dQ,List.map_cons,eY,List.cons_append];refine⟨v,vs++xs,rfl,h v (by simp),by simp only[aU],Cf vs xs fun u hu=>h u (by simp[hu])⟩
theorem Cg {N:Nat→Prop}{w:World}:∀(vs xs:List Value),eY N w (dQ vs) xs→∃r,xs=vs++r
 |[],xs,_=>⟨xs,rfl⟩
 | v::vs,xs,h=>by
   simp only[dQ,List.map_cons,eY] at h;obtain⟨x,r,rfl,_,h1,h2⟩:=h;simp only[aU] at h1;subst h1;obtain⟨r',rfl⟩:=Cg vs r h2;exact⟨r',rfl⟩
theorem lK (vs:List Value):(dQ vs).length=vs.length:=by simp[dQ]
section
variable {c:Ctx}{R:Real}{s:AS}{a:Act}{w:World}
theorem aS.SE (g:aS c R s a w){b:Nat}{box aV:au}(hb:lk s.hp b=some box)
  (r1:∀off v,aH R b off v (some box)→aH R b off v (some aV))
  (r2:∀ver v,aD R b ver v (some box)→aD R b ver v (some aV))
  (r3:∀ver i off v,aJ R b ver i off v (some box)→aJ R b ver i off v (some aV))
  (hown:∀r,ax R b r (some aV)→ax R b r (some box))
  (Ig:(∀v x,ai (aG c R s.hp) w s.hp R v x→ai (aG c R ((b,aV)::s.hp)) w ((b,aV)::s.hp) R v x) →
   (∀r,aG c R ((b,aV)::s.hp) r→aG c R s.hp r)→dB (aG c R ((b,aV)::s.hp)) w ((b,aV)::s.hp) R b aV) :
  aS c R (s.app [(b,aV)]) a w∧(∀v x,ai (aG c R s.hp) w s.hp R v x→ai (aG c R ((b,aV)::s.hp)) w ((b,aV)::s.hp) R v x):=by
 have q1:∀off v,aH R b off v (lk s.hp b)→aH R b off v (some aV):=fun off v h=>r1 off v (by rw[hb] at h;exact h)
 have q2:∀ver v,aD R b ver v (lk s.hp b)→aD R b ver v (some aV):=fun ver v h=>r2 ver v (by rw[hb] at h;exact h)
 have q3:∀ver i off v,aJ R b ver i off v (lk s.hp b)→aJ R b ver i off v (some aV):=fun ver i off v h=>r3 ver i off v (by rw[hb] at h;exact h)
 have ho:∀r,ax R b r (some aV)→ax R b r (lk s.hp b)∨w.heap.size≤r:=fun r h=>.inl (by rw[hb];exact hown r h)
 have hR:∀b',b'≠b→R.blk b'=R.blk b'∧R.nil b'=R.nil b'∧R.cap b'=R.cap b':=fun _ _=>⟨rfl,rfl,rfl⟩
 obtain⟨m1,m2,m3,m4,m5⟩:=g.Df (b:=b) (aV:=aV) hR q1 q2 q3 ho (kK.refl _ w) rfl;have hm:=fun v x h=>bP (p:=v) m1 m2 m3 m4 m5 x h
 refine⟨g.upd (nx':=s.nx) hR q1 q2 q3 ho (kK.refl _ w) (Ig hm fun r hr=>?_) rfl,hm⟩;rcases hr with h|⟨b',h⟩
 ·exact .inl h
 refine .inr ⟨b',?_⟩;rw[ak] at h;split at h
 ·rename_i e;subst e;rw[hb];exact hown r h
 exact h
theorem xh {N:Nat→Prop}{w:World}{st:Nat}:∀{pre:List (List PV)} {row:List PV} {post:List (List PV)} {xs:List Value},bB N w st (pre++row::post) xs→bB N w st pre xs∧row.length=st∧eY N w row (xs.drop (pre.length*st))∧bB N w st post ((xs.drop (pre.length*st)).drop st)
 | [],row,post,xs,h=>by
   simp only[List.nil_append,bB] at h;exact⟨trivial,h.1,by simpa using h.2.1,by simpa using h.2.2⟩
 | p::pre,row,post,xs,h=>by
   simp only[List.cons_append,bB] at h;obtain⟨h1,h2,h3⟩:=h;obtain⟨a1,a2,a3,a4⟩:=xh h3;have e:xs.drop ((p::pre).length*st)=(xs.drop st).drop (pre.length*st):=by
    rw[List.drop_drop,show (p::pre).length*st=st+pre.length*st by rw[List.length_cons,Nat.add_mul];omega]
   rw[e];exact⟨⟨h1,h2,a1⟩,a2,a3,a4⟩
theorem yL {N:Nat→Prop}{w:World}{st:Nat}:∀{pre:List (List PV)} {row:List PV} {post:List (List PV)} {xs:List Value},bB N w st pre xs→row.length=st→eY N w row (xs.drop (pre.length*st)) →
  bB N w st post ((xs.drop (pre.length*st)).drop st)→bB N w st (pre++row::post) xs
 | [],row,post,xs,h,h1,h2,h3=>by
   simp only[List.nil_append,bB];exact⟨h1,by simpa using h2,by simpa using h3⟩
 | p::pre,row,post,xs,h,h1,h2,h3=>by
   simp only[bB] at h;obtain⟨a1,a2,a3⟩:=h;simp only[List.cons_append,bB];have e:xs.drop ((p::pre).length*st)=(xs.drop st).drop (pre.length*st):=by
    rw[List.drop_drop,show (p::pre).length*st=st+pre.length*st by rw[List.length_cons,Nat.add_mul];omega]
   rw[e] at h2 h3;exact⟨a1,a2,yL a3 h1 h2 h3⟩
theorem aS.EO (g:aS c R s a w){b:Nat}{e:TypeId}{v st:Nat}{pre post:List (List PV)}{vs:List Value}{row:List AV}(hb:lk s.hp b=some (.arr e v st (pre++dQ vs::post)))
  (hrow:bN (aG c R s.hp) w s.hp R row vs) :
  aS c R (s.app [(b,.dX e v st pre row post)]) a w∧(∀u x,ai (aG c R s.hp) w s.hp R u x→ai (aG c R ((b,.dX e v st pre row post)::s.hp)) w ((b,.dX e v st pre row post)::s.hp) R u x):=by
 have hl:(pre++dQ vs::post).length=pre.length+(1+post.length):=by simp[Nat.add_comm]
 refine g.SE hb (fun off v h=>h.elim) (fun ver u h=>?_) (fun ver i off u h=>h) (fun r h=>h) (fun hm hN=>?_)
 ·simpa only[aD,hl] using h
 obtain⟨xs,h1,h2⟩:=g.boxes b _ hb;obtain⟨a1,a2,a3,a4⟩:=xh h2;obtain⟨r,hr⟩:=Cg _ _ a3;rw[lK] at a2;have hrl:row.length=vs.length:=by
  have:=(aW _ _ _ _ _ _).1 hrow;exact this.length.symm
 refine⟨xs,by rw[←hl];exact h1,aI (fun r _ h=>hN r h) (fun _ _ _=>rfl) _ _ _ a1,by rw[hrl];exact a2,?_,aI (fun r _ h=>hN r h) (fun _ _ _=>rfl) _ _ _ a4⟩;rw[hr,show (vs++r).take st=vs by rw[←a2];exact List.take_left];rw[aW] at hrow ⊢;exact hrow.imp hm
theorem aS.qz (g:aS c R s a w){b:Nat}{e:TypeId}{v st:Nat}{pre post:List (List PV)}{row:List AV}(hb:lk s.hp b=some (.dX e v st pre row post)) :
  ∃vs:List Value,bN (aG c R s.hp) w s.hp R row vs∧vs.length=st∧aS c R (s.app [(b,.arr e v st (pre++dQ vs::post))]) a w ∧
   (∀u x,ai (aG c R s.hp) w s.hp R u x→ai (aG c R ((b,.arr e v st (pre++dQ vs::post))::s.hp)) w ((b,.arr e v st (pre++dQ vs::post))::s.hp) R u x):=by
 obtain⟨xs,h1,h2,h3,h4,h5⟩:=g.boxes b _ hb;have h4':=(aW _ _ _ _ _ _).1 h4;refine⟨(xs.drop (pre.length*st)).take st,h4,h4'.length.trans h3,g.SE hb (fun off v h=>h.elim) (fun ver u h=>?_) (fun ver i off u h=>h) (fun r h=>h) (fun hm hN=>?_)⟩
 ·have hl:(pre++dQ ((xs.drop (pre.length*st)).take st)::post).length=pre.length+(1+post.length):=by simp[Nat.add_comm]
  simpa only[aD,hl] using h
 have hl:(pre++dQ ((xs.drop (pre.length*st)).take st)::post).length=pre.length+(1+post.length):=by simp[Nat.add_comm]
 refine⟨xs,by rw[hl];exact h1,?_⟩;refine yL (aI (fun r _ h=>hN r h) (fun _ _ _=>rfl) _ _ _ h2) (by rw[lK,h4'.length];exact h3) ?_ (aI (fun r _ h=>hN r h) (fun _ _ _=>rfl) _ _ _ h5);have:=Cf (N:=aG c R ((b,au.arr e v st (pre++dQ ((xs.drop (pre.length*st)).take st)::post))::s.hp)) (w:=w) ((xs.drop (pre.length*st)).take st) ((xs.drop (pre.length*st)).drop st) (fun u hu=>h4'.one u hu);rwa [List.take_append_drop] at this
def Gi (c:Ctx):Ctx:={ c with n:=c.n+1 }
theorem aS.Jb (g:aS c R s a w){v:AV}{x:Value}(hx:ai (aG c R s.hp) w s.hp R v x) :
  aS (Gi c) R ⟨(c.n,v)::s.tm,s.nx,s.hp⟩ { a with tmps:=a.tmps.push x } w:=by
 refine⟨fun t u hu=>?_,by simp[Gi,g.size],g.lo,g.marks,g.fixed,g.boxes,g.inj,g.free,g.iE,g.fG,g.kept⟩;rw[ak] at hu;split at hu
 ·rename_i e;simp only[Option.some.injEq] at hu;subst e;subst hu;refine⟨x,?_,hx⟩;show (a.tmps.push x)[c.n]? = some x
  rw[←g.size];exact Array.getElem?_push_size
 obtain⟨y,hy,hr⟩:=g.slots t u hu;refine⟨y,?_,hr⟩;rw[Array.getElem?_push];have:=size_of_getElem? hy;rw[if_neg (by omega)];exact hy
theorem aS.xk {v:AV}{x:Value}{tm:List (Nat×AV)}{nx:Nat}{hp:List (Nat×au)}(ha:a.tmps.size=c.n)(Ol:∀t u,lk tm t=some u→t≠c.n)(g:aS (Gi c) R ⟨(c.n,v)::tm,nx,hp⟩ { a with tmps:=a.tmps.push x } w) :
  aS c R ⟨tm,nx,hp⟩ a w∧ai (aG c R hp) w hp R v x:=by
 refine⟨⟨fun t u hu=>?_,ha,g.lo,g.marks,g.fixed,g.boxes,g.inj,g.free,g.iE,g.fG,g.kept⟩,?_⟩
 ·have hne:=Ol t u hu;obtain⟨y,hy,hr⟩:=g.slots t u (by rw[ak,if_neg (fun e=>hne e.symm)];exact hu);refine⟨y,?_,hr⟩;rw[Array.getElem?_push] at hy;split at hy
  ·rename_i e;omega
  exact hy
 obtain⟨y,hy,hr⟩:=g.slots c.n v (by rw[ak,if_pos rfl]);rw[Array.getElem?_push,if_pos ha.symm] at hy;simp only[Option.some.injEq] at hy;subst hy;exact hr
end
def Xy (a:Nat):Tab→Bool
 | (b,_)::r=>match Nat.beq a b with
   |true=>Xy a r
   | false=>match r with
     |(c,_)::_=>Nat.beq b c
     |[]=>false
 |[]=>false
def adH (T:Tab):Bool:=
 match T with
 |(a,_)::r=>Xy a r
 |[]=>false
def rO (T:Tab)(H:List (Nat×au))(t:TypeId)(x:AV)(K:AV→Prop):Prop:=
 match x with
 | .bU b ver k off=>match lk H b with
   | some (.dX e v st pre row post)=>match lk T t with
     | some i=>match Nat.beq ver v,Nat.beq i.size 0 with
       | true,false=>match part off i.size row with
         |some cs=>k=pre.length∧qd i cs K
         |none=>False
       |_,_=>False
     |none=>False
   |_=>rH T H t (.bU b ver k off) K
 |x=>rH T H t x K
def kN (T:Tab)(H:List (Nat×au))(t:TypeId)(x y:AV)(K:AV→List (Nat×au)→Prop):Prop:=
 match x with
 | .bU b ver k off=>match lk H b with
   | some (.dX e v st pre row post)=>match lk T t with
     | some i=>match Nat.beq ver v with
       | true=>match cellsOf i y with
         | some cs=>match Nat.beq cs.length i.size with
           | true=>match iT off row cs with
             |some row'=>k=pre.length∧K (.pv (.sc undef)) [(b,.dX e v st pre row' post)]
             |none=>False
           |false=>False
         |none=>False
       |false=>False
     |none=>False
   |_=>nZ T H t (.bU b ver k off) y K
 |x=>nZ T H t x y K
def H9 (T:Tab)(H:List (Nat×au))(t:TypeId)(x ix:AV)(K:AV→Prop):Prop:=
 match x with
 | .aZ b ver=>match lk H b with
   | some (.dX e v st pre row post)=>match ix with
     | .pv (.sc (.int _ i))=>match lk T t with
       | some ti=>match ti.d with
         | .slt e=>match lk T e with
           | some ei=>match Nat.beq ver v,Nat.beq st ei.size with
             |true,true=>0≤i∧i.toNat<pre.length+(1+post.length)∧K (.bU b ver i.toNat 0)
             |_,_=>False
           |none=>False
         |_=>False
       |none=>False
     |_=>False
   |_=>dz T H t (.aZ b ver) ix K
 |x=>dz T H t x ix K
def zb (T:Tab)(H:List (Nat×au))(t:TypeId)(x:AV)(K:AV→Prop):Prop:=
 match x with
 | .aZ b ver=>match lk H b with
   | some (.dX e v st pre row post)=>match lk T t with
     | some i=>match i.d with
       | .slt _=>match Nat.beq ver v with
         |true=>K (.pv (.sc (.int .i64 (pre.length+(1+post.length):Nat))))
         |false=>False
       |_=>False
     |none=>False
   |_=>Bn T H t (.aZ b ver) K
 |x=>Bn T H t x K
section
variable {P:Program}{T:Tab}{N:Nat→Prop}{w:World}{hp:List (Nat×au)}{R:Real}
theorem zH (i:TI){t:TypeId}(hi:bH P t i){g off:Nat}{cur:Array Value}{e:TypeId}{fr:Nat×Nat}{cs:List AV}{K:AV→Prop}
  (hg:w.heap[g]? = some (.cells cur e fr)) (hl:off+i.size≤cur.size) (hcs:FC (ai N w hp R) cs ((cur.toList.drop off).take i.size))
  (h:qd i cs K) :
  ∃x v,(loadVar t ⟨g,off,none⟩).run P w=.ok x w∧K v∧ai N w hp R v x:=by
 have hrun:=jX (w:=w) hi hg hl;cases ha:i.d.isAgg with
 | true=>
   simp only[qd,ha] at h;simp only[ha] at hrun;unfold vS at h;split at h;rotate_left;cases h
   rename_i v hv;refine⟨_,v,hrun,h,?_⟩;split at hv
   ·rename_i ps hps;simp only[Option.some.injEq] at hv;subst hv;simp only[ai,aU,if_true];refine⟨_,rfl,?_⟩;rw[eB];have:∀(cs:List AV) (ps:List PV) (vs:List Value),gY cs=some ps→FC (ai N w hp R) cs vs→FC (aU N w) ps vs:=by
     intro cs;induction cs with
     |nil=>intro ps vs h h';simp only[gY,Option.some.injEq] at h;subst h;exact h'
     | cons c cs ih=>
       intro ps vs h h';obtain⟨v,r,rfl,h1,h2,h3⟩:=h';cases c<;>simp only[gY] at h<;>try (cases h;done)
       split at h
       ·rename_i ps' nX;simp only[Option.some.injEq] at h;subst h;exact⟨v,r,rfl,h1,by simpa only[ai] using h2,ih _ _ nX h3⟩
       cases h
    exact this cs ps _ hps (by simpa using hcs)
   simp only[Option.some.injEq] at hv;subst hv;simp only[ai,if_true];refine⟨_,rfl,?_⟩;rw[aW];simpa using hcs
 | false=>
   have h1:=hi.agg ha;simp only[qd,ha] at h;simp only[ha,Bool.false_eq_true,if_false] at hrun;split at h;rotate_left;cases h
   rename_i v;obtain⟨u,r,e1,e2,e3,e4⟩:=hcs;refine⟨_,_,hrun,h,?_⟩;have:cur[off]! = u:=by
    have hlt:off<cur.size:=by omega
    rw[getElem!_pos cur off hlt];have hh:((cur.toList.drop off).take i.size)[0]? = some u:=by rw[e1];rfl
    rw[h1] at hh;simp only[List.getElem?_take,Nat.zero_lt_one,if_true,List.getElem?_drop,Nat.add_zero] at hh;have h3:cur[off]? = some u:=by simpa using hh
    rw[Array.getElem?_eq_getElem hlt] at h3;exact Option.some.inj h3
   rw[this];exact e3
end
section
variable {P:Program}{T:Tab}{c:Ctx}{R:Real}{s:AS}{a:Act}{w:World}
theorem Pe (g:aS c R s a w){b:Nat}{e:TypeId}{v st:Nat}{pre post:List (List PV)}{row:List AV}(hb:lk s.hp b=some (.dX e v st pre row post))(hn:R.nil b=false) :
  ∃(cur:Array Value) (vs r:List Value),w.heap[R.blk b]? = some (.cells cur e (0,0))∧cur.toList.drop (pre.length*st)=vs++r∧vs.length=st∧FC (ai (aG c R s.hp) w s.hp R) row vs:=by
 obtain⟨vs,hrow,hvl,g1,m1⟩:=g.qz hb;have hb1:lk (s.app [(b,.arr e v st (pre++dQ vs::post))]).hp b=some (.arr e v st (pre++dQ vs::post)):=by
  simp only[AS.app,List.singleton_append,ak,if_true]
 obtain⟨cur,hg,hs,hle,hm,hr,_⟩:=eO (g1.boxes b _ hb1) hn;obtain⟨a1,a2,a3,a4⟩:=xh hr;obtain⟨r,hr'⟩:=Cg _ _ a3;exact⟨cur,vs,r,hg,hr',hvl,(aW _ _ _ _ _ _).1 hrow⟩
theorem xq (g:aS c R s a w)(hT:bA P T){H:List (Nat×au)}(hH:∀b box,lk H b=some box→lk s.hp b=some box){t:TypeId}{x:AV}{K:AV→Prop}
  (h:rO T H t x K) {u:Value} (hx:ai (aG c R s.hp) w s.hp R x u) :
  ∃y v,(Instr.loadAt t u).run P w=.ok y w∧K v∧ai (aG c R s.hp) w s.hp R v y:=by
 unfold rO at h;split at h
 ·rename_i b ver k off;split at h
  ·rename_i e v st pre row post hb;have hb':=hH _ _ hb;split at h;rotate_left;cases h
   rename_i i hi;have hi':=hT t i hi;split at h;rotate_left;cases h
   rename_i dN hsz0;split at h;rotate_left;cases h
   rename_i cs hcs;obtain⟨rfl,h⟩:=h;simp only[ai,hb',aJ] at hx;obtain⟨hn,rfl⟩:=hx.2.2 (Nat.eq_of_beq_eq_true dN);obtain⟨cur,vs,r,hg,hd,hvl,hrow⟩:=Pe g hb' hn;obtain⟨h1,h2⟩:=hrow.fp.part hcs;have hlen:cur.size=pre.length*st+(vs.length+r.length)∨(vs++r=[]∧cur.size≤pre.length*st):=by
    have:=congrArg List.length hd;simp only[List.length_drop,Array.length_toList,List.length_append] at this;by_cases hz:cur.size≤pre.length*st
    ·refine .inr ⟨List.eq_nil_of_length_eq_zero (by simp only[List.length_append];omega),hz⟩
    left;omega
   have hdd:(cur.toList.drop (pre.length*st+off)).take i.size=(vs.drop off).take i.size:=by
    rw[←List.drop_drop,hd,List.drop_append_of_le_length (by omega),List.take_append_of_le_length (by simp only[List.length_drop];omega)]
   by_cases hz:pre.length*st+off+i.size≤cur.size
   ·obtain⟨y,z,k1,k2,k3⟩:=zH i hi' hg hz (by rw[hdd];exact h2) h;exact⟨y,z,by simpa[Instr.loadAt,Instr.sureAddr] using k1,k2,k3⟩
   exfalso;rcases hlen with hlen|⟨hnil,hlen⟩
   ·omega
   have:vs=[]:=(List.append_eq_nil_iff.1 hnil).1;subst this;simp only[List.length_nil] at h1 hvl;exact Nat.ne_of_beq_eq_false hsz0 (by omega)
  exact rJ g hT hH h hx
 exact rJ g hT hH h hx
theorem Jc {α:Type}:∀{off:Nat} {vs xs:List α},off+xs.length≤vs.length→iT off vs xs=some (vs.take off++xs++vs.drop (off+xs.length))
 | 0,vs,xs,h=>by
   simp only[iT,List.take_zero,List.nil_append,Nat.zero_add];have:∀(xs vs:List α),xs.length≤vs.length→iZ vs xs=some (xs++vs.drop xs.length):=by
    intro xs;induction xs with
    |nil=>intro vs _;cases vs<;>simp[iZ]
    | cons x xs ih=>
      intro vs h;cases vs with
      |nil=>simp at h
      |cons v vs=>simp only[iZ,ih vs (by simpa using h)];simp
   exact this xs vs (by simpa using h)
 |off+1,[],xs,h=>by simp at h
 | off+1,v::vs,xs,h=>by
   have h':off+xs.length≤vs.length:=by simp only[List.length_cons] at h;omega
   simp only[iT,Jc h'];rw[show off+1+xs.length=(off+xs.length)+1 by omega];simp
theorem VX (a b:List Value):dQ (a++b)=dQ a++dQ b:=by simp[dQ]
theorem VY {off:Nat}{vs xs:List Value}(h:off+xs.length≤vs.length):iT off (dQ vs) (dQ xs)=some (dQ (vs.take off++xs++vs.drop (off+xs.length))):=by
 rw[Jc (by rw[lK,lK];exact h)];simp only[VX,lK];simp[dQ,List.map_take,List.map_drop]
def exV (i:TI)(v:Value):PV:=match i.d.isAgg with
 |true=>.agg (dQ v.cells.toList)
 |false=>.sc v
theorem Ci {N:Nat→Prop}:∀(vs:List Value),(∀v∈vs,v.oneCell'=true)→gG N w (dQ vs) vs
 |[],_=>by simp[dQ,gG]
 | v::vs,h=>by
   simp only[dQ,List.map_cons,gG];exact⟨v,vs,rfl,h v (by simp),by simp only[aU],Ci vs fun u hu=>h u (by simp[hu])⟩
theorem YJ {N N':Nat→Prop}{w w':World}{hp:List (Nat×au)}{i:TI}{y:AV}{cs:List AV}(h:cellsOf i y=some cs){v:Value}(hy:ai N w hp R y v):aU N' w' (exV i v) v∧jR i (exV i v)=some (dQ v.cells.toList):=by
 have hc:=iA h hy;unfold exV;cases ha:i.d.isAgg with
 | true=>
   simp only[cellsOf,ha] at h;have:∃us:Array Value,v=.agg us:=by
    split at h
    ·simp only[ai,aU] at hy;obtain⟨us,e,_⟩:=hy;exact⟨us,e⟩
    ·simp only[ai] at hy;obtain⟨us,e,_⟩:=hy;exact⟨us,e⟩
    cases h
   obtain⟨us,rfl⟩:=this;refine⟨?_,by simp[jR,ha]⟩;simp only[aU];exact⟨us,rfl,Ci us.toList hc.one⟩
 | false=>
   simp only[cellsOf,ha] at h;split at h
   ·rename_i hcell;have h1:=EI hcell hy;have e:=yD h1;refine⟨by simp only[aU],?_⟩;simp only[jR,ha,cellP,h1];have:v.cells.toList=[v]:=by rw[e]
    rw[this];rfl
   cases h
theorem Jd (g:aS c R s a w):∀t u,lk s.tm t=some u→t≠c.n:=by
 intro t u h e;obtain⟨x,hx,_⟩:=g.slots t u h;have:=size_of_getElem? hx;rw[g.size] at this;omega
theorem tY {hp hp':List (Nat×au)}(h:∀b,lk hp' b=lk hp b){v:AV}{x:Value}(hx:ai (aG c R hp) w hp R v x):ai (aG c R hp') w hp' R v x:=by
 refine bP (fun r _ hr=>?_) (fun _ _ _=>rfl) (fun b off u hu=>by rw[h];exact hu) (fun b ver u hu=>by rw[h];exact hu) (fun b ver i off u hu=>by rw[h];exact hu) v x hx;rcases hr with hr|⟨b,hr⟩
 ·exact .inl hr
 exact .inr ⟨b,by rw[←h];exact hr⟩
theorem oq (g:aS c R s a w)(hT:bA P T){H:List (Nat×au)}(hH:∀b box,lk H b=some box→lk s.hp b=some box){t:TypeId}{x y:AV}
  {K:AV→List (Nat×au)→Prop} (h:kN T H t x y K) {u v:Value} (hx:ai (aG c R s.hp) w s.hp R x u) (hy:ai (aG c R s.hp) w s.hp R y v) :
  ∃w' ws,(Instr.storeAt t u v).run P w=.ok () w'∧K (.pv (.sc undef)) ws∧aS c R (s.app ws) a w':=by
 unfold kN at h;split at h
 ·rename_i b ver k off;split at h
  ·rename_i e vr st pre row post hb;have hb':=hH _ _ hb;split at h;rotate_left;cases h
   rename_i i hi;split at h;rotate_left;cases h
   rename_i dN;split at h;rotate_left;cases h
   rename_i cs hcs;split at h;rotate_left;cases h
   rename_i hlen;split at h;rotate_left;cases h
   rename_i row' hset;obtain⟨rfl,hK⟩:=h;obtain⟨vs,hrow,hvl,g1,m1⟩:=g.qz hb';have hcv:=iA hcs hy;have hrow':=(aW _ _ _ _ _ _).1 hrow;obtain⟨hsl,_⟩:=FC.iT hrow' hcv hset;have hA:ai (aG c R (s.app [(b,.arr e vr st (pre++dQ vs::post))]).hp) w (s.app [(b,.arr e vr st (pre++dQ vs::post))]).hp R (.agg row) (.agg vs.toArray):=
    m1 _ _ (by simp only[ai];exact⟨_,rfl,by simpa using hrow⟩)
   have hB:ai (aG c R (s.app [(b,.arr e vr st (pre++dQ vs::post))]).hp) w (s.app [(b,.arr e vr st (pre++dQ vs::post))]).hp R (.agg cs) (.agg v.cells):=
    m1 _ _ (by simp only[ai];exact⟨_,rfl,by rw[aW];exact hcv⟩)
   have g2:=g1.Jb hA;have g3:=g2.Jb hB;have vM:lk (s.app [(b,.arr e vr st (pre++dQ vs::post))]).hp b=some (.arr e vr st (pre++dQ vs::post)):=by
    simp only[AS.app,List.singleton_append,ak,if_true]
   obtain⟨hrep,hpc⟩:=YJ (N':=aG c R (s.app [(b,.arr e vr st (pre++dQ vs::post))]).hp) (w':=w) hcs hy;have hst:nZ T (s.app [(b,.arr e vr st (pre++dQ vs::post))]).hp t (.bU b ver pre.length off) (.pv (exV i v))
     (fun z ws=>ws=[(b,.arr e vr st (pre++dQ (vs.take off++v.cells.toList++vs.drop (off+v.cells.toList.length))::post))]):=by
    have e1:Nat.beq (dQ v.cells.toList).length i.size=true:=by rw[lK,hcv.length];exact hlen
    unfold nZ;simp only[hi,vM,dN,hpc,e1];refine⟨dQ vs,by simp,?_⟩;rw[VY hsl];simp
   obtain⟨w',ws,hrun,rfl,g4⟩:=qp g3 hT (fun _ _ h=>h) hst (u:=u) (v:=v) (m1 _ _ hx) (by simp only[ai];exact hrep);have hsz2:({ a with tmps:=a.tmps.push (.agg vs.toArray) }:Act).tmps.size=(Gi c).n:=by simp[Gi,g.size]
   obtain⟨g5,hB'⟩:=aS.xk (c:=Gi c) (a:={ a with tmps:=a.tmps.push (.agg vs.toArray) }) hsz2 (Jd g2) g4;obtain⟨g6,hA'⟩:=aS.xk (c:=c) g.size (Jd g) g5;simp only[ai] at hA' hB';obtain⟨us,e1,hA'⟩:=hA';cases e1;obtain⟨us,e1,hB'⟩:=hB';cases e1;rw[aW] at hA' hB';obtain⟨_,hnew⟩:=FC.iT hA' hB' hset;have hb6:lk ([(b,au.arr e vr st (pre++dQ (vs.take off++v.cells.toList++vs.drop (off+v.cells.toList.length))::post))]++(s.app [(b,.arr e vr st (pre++dQ vs::post))]).hp) b =
     some (.arr e vr st (pre++dQ (vs.take off++v.cells.toList++vs.drop (off+v.cells.toList.length))::post)):=by
    rw[List.singleton_append,ak,if_pos rfl]
   obtain⟨g7,m7⟩:=aS.EO (row:=row') g6 hb6 (by rw[aW];exact hnew);refine⟨w',_,hrun,hK,aS.congr g7 (fun _=>rfl) fun j=>?_⟩;simp only[AS.app,List.singleton_append,ak];split<;>rfl
  exact qp g hT hH h hx hy
 exact qp g hT hH h hx hy
theorem Cj (g:aS c R s a w)(hT:bA P T){H:List (Nat×au)}(hH:∀b box,lk H b=some box→lk s.hp b=some box){t:TypeId}{x ix:AV}{K:AV→Prop}
  (h:H9 T H t x ix K) {u v:Value} (hx:ai (aG c R s.hp) w s.hp R x u) (hv:ai (aG c R s.hp) w s.hp R ix v) :
  ∃y z,(Instr.indexAt t u v).run P w=.ok y w∧K z∧ai (aG c R s.hp) w s.hp R z y:=by
 unfold H9 at h;split at h
 ·rename_i b ver;split at h
  ·rename_i e vr st pre row post hb;have hb':=hH _ _ hb;split at h;rotate_left;cases h
   rename_i kk i;split at h;rotate_left;cases h
   rename_i ti Sb;split at h;rotate_left;cases h
   rename_i e2 hte;split at h;rotate_left;cases h
   rename_i ei ng;split at h;rotate_left;cases h
   rename_i h1 h2;obtain⟨h0,hlt,hK⟩:=h;obtain⟨vs,hrow,hvl,g1,m1⟩:=g.qz hb';have vM:lk (s.app [(b,.arr e vr st (pre++dQ vs::post))]).hp b=some (.arr e vr st (pre++dQ vs::post)):=by
    simp only[AS.app,List.singleton_append,ak,if_true]
   have hl:(pre++dQ vs::post).length=pre.length+(1+post.length):=by simp[Nat.add_comm]
   have hi:dz T (s.app [(b,.arr e vr st (pre++dQ vs::post))]).hp t (.aZ b ver) (.pv (.sc (.int kk i))) (fun z=>z=.bU b ver i.toNat 0):=by
    unfold dz;simp only[Sb,hte,ng,vM,h1,h2];exact⟨h0,by rw[hl];exact hlt,trivial⟩
   obtain⟨y,z,hrun,rfl,hz⟩:=iU g1 hT (fun _ _ h=>h) hi (m1 _ _ hx) (m1 _ _ hv);refine⟨y,_,hrun,hK,?_⟩;simp only[ai,vM,aJ] at hz;simp only[ai,hb',aJ];exact hz
  exact iU g hT hH h hx hv
 exact iU g hT hH h hx hv
theorem zI (g:aS c R s a w)(hT:bA P T){H:List (Nat×au)}(hH:∀b box,lk H b=some box→lk s.hp b=some box){t ty:TypeId}{x:AV}{K:AV→Prop}
  (h:zb T H t x K) {u:Value} (hx:ai (aG c R s.hp) w s.hp R x u) :
  ∃y z,(Builtin.len_ #[t] ty #[u]).run P w=.ok y w∧K z∧ai (aG c R s.hp) w s.hp R z y:=by
 unfold zb at h;split at h
 ·rename_i b ver;split at h
  ·rename_i e vr st pre row post hb;have hb':=hH _ _ hb;split at h;rotate_left;cases h
   rename_i i hi;split at h;rotate_left;cases h
   rename_i e2 hte;split at h;rotate_left;cases h
   rename_i h1;obtain⟨vs,hrow,hvl,g1,m1⟩:=g.qz hb';have vM:lk (s.app [(b,.arr e vr st (pre++dQ vs::post))]).hp b=some (.arr e vr st (pre++dQ vs::post)):=by
    simp only[AS.app,List.singleton_append,ak,if_true]
   have hl:(pre++dQ vs::post).length=pre.length+(1+post.length):=by simp[Nat.add_comm]
   have hi:Bn T (s.app [(b,.arr e vr st (pre++dQ vs::post))]).hp t (.aZ b ver) (fun z=>z=.pv (.sc (.int .i64 (pre.length+(1+post.length):Nat)))):=by
    unfold Bn;simp only[hi,hte,vw,vM,qQ,h1,hl]
   obtain⟨y,z,hrun,rfl,hz⟩:=qo (ty:=ty) g1 hT (fun _ _ h=>h) hi (m1 _ _ hx);refine⟨y,_,hrun,h,?_⟩;simp only[ai,aU] at hz ⊢;exact hz
  exact qo g hT hH h hx
 exact qo g hT hH h hx
end
def tL (T:Tab)(t:TypeId)(len:Nat)(ks:List Nat)(cs:List AV)(id:Nat)(K:AV→List (Nat×au)→Prop):Prop:=
 match lk T t with
 | some i=>match i.d with
   | .slt e=>match lk T e with
     | some ei=>match ei.d.isAgg with
       | true=>W9 ei fun nE GR=>match Nat.beq nE 0,QK 0 ks,Nat.beq ks.length len,Nat.beq len 1,Nat.beq cs.length nE,Nat.ble nE 16777216 with
         |false,true,true,true,true,true=>K (.aZ id 0) [(id,.dX e 0 nE [] cs [])]
         |_,_,_,_,_,_=>False
       |false=>False
     |none=>False
   |_=>False
 |none=>False
def nG (T:Tab)(H:List (Nat×au))(t:TypeId)(len:Nat)(ks:List Nat)(vs:List AV)(id:Nat)(K:AV→List (Nat×au)→Prop):Prop:=
 match adH T with
 | true=>match vs with
   |[.agg cs]=>tL T t len ks cs id K
   |vs=>jS T H t len ks vs id K
 |false=>jS T H t len ks vs id K
def ze (T:Tab)(H:List (Nat×au))(t:TypeId)(d:AV)(k kv id:Nat)(K:AV→List (Nat×au)→Prop):Prop:=
 match lk H k with
 | some (.dX e0 v0 J6 [] row [])=>match Nat.beq kv v0 with
   | true=>match lk T t with
     | some i=>match i.d with
       | .slt e=>match lk T e with
         | some ei=>W9 ei fun nE GR=>match Nat.beq GR 0,Nat.beq nE 0,Nat.beq J6 nE with
           | false,false,true=>match d with
             |.pv (.sc (.slice none 0 0))=>1*GR≤140737488355328∧K (.aZ id 0) [(id,.dX e 0 nE [] row [])]
             | .aZ b ver=>match Nat.beq b k with
               |true=>False
               | false=>match lk H b with
                 | some (.arr e' v st rows)=>match Nat.beq ver v,Nat.beq st nE,Nat.beq e' e with
                   |true,true,true=>(rows.length+1)*GR≤140737488355328∧K (.aZ b (v+1)) [(b,.dX e (v+1) nE rows row [])]
                   |_,_,_=>False
                 |_=>False
             |_=>False
           |_,_,_=>False
         |none=>False
       |_=>False
     |none=>False
   |false=>False
 |_=>False
def uX (T:Tab)(t:TypeId)(ver:Nat)(o:Option au)(src:Nat→Option (List (List PV)))(b:Nat)(K:AV→List (Nat×au)→Prop):Prop:=
 match o with
 | some (.dX e' v st pre row post)=>match lk T t with
   | some i=>match i.d with
     | .slt e=>match lk T e with
       | some ei=>W9 ei fun nE GR=>match Nat.beq GR 0,Nat.beq nE 0 with
         | false,false=>match src nE with
           | some aB=>match Nat.beq ver v,Nat.beq st nE,Nat.beq e' e with
             |true,true,true=>(pre.length+(1+post.length)+aB.length)*GR≤140737488355328∧K (.aZ b (v+1)) [(b,.dX e (v+1) nE pre row (post++aB))]
             |_,_,_=>False
           |none=>False
         |_,_=>False
       |none=>False
     |_=>False
   |none=>False
 |_=>False
def zf (T:Tab)(H:List (Nat×au))(t:TypeId)(b ver:Nat)(x:AV)(K:AV→List (Nat×au)→Prop):Prop:=
 match x with
 |.pv p=>uX T t ver (lk H b) (fun nE=>jP H nE (.pv p)) b K
 | .aZ k kv=>match Nat.beq b k with
   |true=>False
   |false=>uX T t ver (lk H b) (fun nE=>jP H nE (.aZ k kv)) b K
 |_=>False
def SG (o:Option au):Bool:=
 match o with
 |some (.dX _ _ _ _ _ _)=>true
 |_=>false
def uy (T:Tab)(H:List (Nat×au))(t:TypeId)(vs:List AV)(id:Nat)(K:AV→List (Nat×au)→Prop):Prop:=
 match vs with
 | [d,x]=>match x with
   | .aZ k kv=>match SG (lk H k) with
     |true=>ze T H t d k kv id K
     | false=>match d with
       | .aZ b ver=>match SG (lk H b) with
         |true=>zf T H t b ver (.aZ k kv) K
         |false=>qJ T H t [.aZ b ver,.aZ k kv] id K
       |d=>qJ T H t [d,.aZ k kv] id K
   | x=>match d with
     | .aZ b ver=>match SG (lk H b) with
       |true=>zf T H t b ver x K
       |false=>qJ T H t [.aZ b ver,x] id K
     |d=>qJ T H t [d,x] id K
 |vs=>qJ T H t vs id K
section
variable {P:Program}{T:Tab}{c:Ctx}{R:Real}{s:AS}{a:Act}{w:World}
theorem DL (g:aS c R s a w)(hT:bA P T){id:Nat}(hf:lk s.hp id=none){t:TypeId}{len:Nat}{ks:List Nat}{cs:List AV}{K:AV→List (Nat×au)→Prop}
  (h:tL T t len ks cs id K) {u:Value} (hv:ai (aG c R s.hp) w s.hp R (.agg cs) u) :
  ∃y w' R' z ws,(Instr.buildSlice t len (ks.zip [u]).toArray).run P w=.ok y w'∧K z ws∧aS c R' (s.app ws) a w'∧ai (aG c R' (ws++s.hp)) w' (ws++s.hp) R' z y:=by
 unfold tL at h;simp only[cK] at h;split at h;rotate_left;cases h
 rename_i i hi;split at h;rotate_left;cases h
 rename_i e hte;split at h;rotate_left;cases h
 rename_i ei ng;split at h;rotate_left;cases h
 rename_i hagg;split at h;rotate_left;cases h
 rename_i h0 h1 h2 h3 h4 h5;have hv0:=hv;simp only[ai] at hv;obtain⟨us,rfl,nW⟩:=hv;have hl:us.toList.length=cs.length:=by rw[aW] at nW;exact nW.length
 have h3:=Nat.eq_of_beq_eq_true h3;subst h3;have h4':=Nat.eq_of_beq_eq_true h4;have g1:=g.Jb hv0;have hp:ai (aG (Gi c) R s.hp) w s.hp R (.pv (.agg (dQ us.toList))) (.agg us):=by
  simp only[ai,aU];exact⟨us,rfl,Ci _ ((aW _ _ _ _ _ _).1 nW).one⟩
 have hb:jS T [] t 1 ks [.pv (.agg (dQ us.toList))] id (fun z ws=>z=.aZ id 0∧ws=[(id,.arr e 0 ei.size ([]++dQ us.toList::[]))]):=by
  unfold jS;simp only[cK,hi,hte,ng,h0,h1,h2];have e1:Nat.ble (1*ei.size) 16777216=true:=by rw[Nat.one_mul];exact h5
  have e2:jR ei (.agg (dQ us.toList))=some (dQ us.toList):=by simp[jR,hagg]
  have e3:Nat.beq (dQ us.toList).length ei.size=true:=by rw[lK,hl];exact h4
  simp only[e1,D6,vw,D7,e2,e3,dG,refs,List.append_nil,DZ,List.length_singleton];exact⟨trivial,by simp⟩
 obtain⟨y,w',R',z,ws,hrun,⟨rfl,rfl⟩,g2,hz⟩:=l8 (s:=⟨(c.n,.agg cs)::s.tm,s.nx,s.hp⟩) g1 hT (H:=[]) (fun b box hb=>by simp[lk] at hb) hf hb (us:=[.agg us]) ⟨_,_,rfl,hp,rfl⟩;obtain⟨g3,hr⟩:=aS.xk (tm:=s.tm) (nx:=s.nx) g.size (Jd g) g2;simp only[ai] at hr;obtain⟨us',e1,hr⟩:=hr;cases e1;have adI:lk ([(id,au.arr e 0 ei.size ([]++dQ us.toList::[]))]++s.hp) id=some (.arr e 0 ei.size ([]++dQ us.toList::[])):=by
  rw[List.singleton_append,ak,if_pos rfl]
 obtain⟨g4,m4⟩:=g3.EO adI hr;have hc:∀j,lk ([(id,au.dX e 0 ei.size [] cs [])]++s.hp) j=lk ((id,au.dX e 0 ei.size [] cs [])::([(id,au.arr e 0 ei.size ([]++dQ us.toList::[]))]++s.hp)) j:=by
  intro j;simp only[List.singleton_append,ak];split<;>rfl
 exact⟨y,w',R',_,_,hrun,h,aS.congr g4 (fun _=>rfl) hc,tY hc (m4 _ _ hz)⟩
theorem zJ (g:aS c R s a w)(hT:bA P T){H:List (Nat×au)}(hH:∀b box,lk H b=some box→lk s.hp b=some box){id:Nat}(hf:lk s.hp id=none)
  {t ty:TypeId} {d:AV} {k kv:Nat} {K:AV→List (Nat×au)→Prop} (h:ze T H t d k kv id K) {u v:Value} (hd:ai (aG c R s.hp) w s.hp R d u) (hx:ai (aG c R s.hp) w s.hp R (.aZ k kv) v) :
  ∃y w' R' z ws,(Builtin.append_ #[t,t] ty #[u,v]).run P w=.ok y w'∧K z ws∧aS c R' (s.app ws) a w'∧ai (aG c R' (ws++s.hp)) w' (ws++s.hp) R' z y:=by
 unfold ze at h;simp only[cK] at h;split at h;rotate_left;cases h
 rename_i e0 v0 J6 row hk;have hk':=hH _ _ hk;split at h;rotate_left;cases h
 rename_i hkv;have hkv:=Nat.eq_of_beq_eq_true hkv;subst hkv;split at h;rotate_left;cases h
 rename_i i hi;split at h;rotate_left;cases h
 rename_i e hte;split at h;rotate_left;cases h
 rename_i ei ng;split at h;rotate_left;cases h
 rename_i h1 h2 h3;have h3':=Nat.eq_of_beq_eq_true h3;subst h3';obtain⟨vs,hrow,hvl,g1,m1⟩:=g.qz hk';have hg:ai (aG c R (s.app [(k,.arr e0 kv ei.size ([]++dQ vs::[]))]).hp) w (s.app [(k,.arr e0 kv ei.size ([]++dQ vs::[]))]).hp R (.agg row) (.agg vs.toArray):=
  m1 _ _ (by simp only[ai];exact⟨_,rfl,by simpa using hrow⟩)
 have g2:=g1.Jb hg;have hkk:lk (s.app [(k,.arr e0 kv ei.size ([]++dQ vs::[]))]).hp k=some (.arr e0 kv ei.size ([]++dQ vs::[])):=by
  simp only[AS.app,List.singleton_append,ak,if_true]
 have hko:∀j,j≠k→lk (s.app [(k,.arr e0 kv ei.size ([]++dQ vs::[]))]).hp j=lk s.hp j:=by
  intro j hj;simp only[AS.app,List.singleton_append,ak,if_neg (show ¬k=j from fun e=>hj e.symm)]
 have YK:id≠k:=fun e=>by rw[e,hk'] at hf;cases hf
 have hsrc:jP (s.app [(k,.arr e0 kv ei.size ([]++dQ vs::[]))]).hp ei.size (.aZ k kv)=some [dQ vs]:=by
  simp only[jP,hkk,qQ,Nat.beq_refl];simp
 have fin:∀(b:Nat) (nv:Nat) (rows:List (List PV)) (y:Value) (w':World) (R':Real),b≠k →
   aS (Gi c) R' (AS.app ⟨(c.n,.agg row)::s.tm,s.nx,(s.app [(k,.arr e0 kv ei.size ([]++dQ vs::[]))]).hp⟩ [(b,.arr e nv ei.size (rows++dQ vs::[]))]) { a with tmps:=a.tmps.push (.agg vs.toArray) } w' →
   ai (aG (Gi c) R' ([(b,.arr e nv ei.size (rows++dQ vs::[]))]++(s.app [(k,.arr e0 kv ei.size ([]++dQ vs::[]))]).hp)) w' ([(b,.arr e nv ei.size (rows++dQ vs::[]))]++(s.app [(k,.arr e0 kv ei.size ([]++dQ vs::[]))]).hp) R' (.aZ b nv) y →
   aS c R' (s.app [(b,.dX e nv ei.size rows row [])]) a w'∧ai (aG c R' ([(b,.dX e nv ei.size rows row [])]++s.hp)) w' ([(b,.dX e nv ei.size rows row [])]++s.hp) R' (.aZ b nv) y:=by
  intro b nv rows y w' R' hbk g3 hz;obtain⟨g4,hr⟩:=aS.xk (tm:=s.tm) (nx:=s.nx) g.size (Jd g) g3;simp only[ai] at hr;obtain⟨us',e1,hr⟩:=hr;cases e1;have hr:bN (aG c R' ([(b,au.arr e nv ei.size (rows++dQ vs::[]))]++(s.app [(k,.arr e0 kv ei.size ([]++dQ vs::[]))]).hp)) w' ([(b,au.arr e nv ei.size (rows++dQ vs::[]))]++(s.app [(k,.arr e0 kv ei.size ([]++dQ vs::[]))]).hp) R' row vs:=by simpa using hr
  have hb4:lk ([(b,au.arr e nv ei.size (rows++dQ vs::[]))]++(s.app [(k,.arr e0 kv ei.size ([]++dQ vs::[]))]).hp) b=some (.arr e nv ei.size (rows++dQ vs::[])):=by
   rw[List.singleton_append,ak,if_pos rfl]
  obtain⟨g5,m5⟩:=g4.EO hb4 hr;have hr5:=m5 (.agg row) (.agg vs.toArray) (by simp only[ai];exact⟨_,rfl,by simpa using hr⟩);simp only[ai] at hr5;obtain⟨us5,e5,hr5⟩:=hr5;cases e5;have hk5:lk ((b,au.dX e nv ei.size rows row [])::([(b,au.arr e nv ei.size (rows++dQ vs::[]))]++(s.app [(k,.arr e0 kv ei.size ([]++dQ vs::[]))]).hp)) k=some (.arr e0 kv ei.size ([]++dQ vs::[])):=by
   rw[ak,if_neg hbk,List.singleton_append,ak,if_neg hbk];exact hkk
  obtain⟨g6,m6⟩:=aS.EO (s:=⟨s.tm,s.nx,(b,au.dX e nv ei.size rows row [])::([(b,au.arr e nv ei.size (rows++dQ vs::[]))]++(s.app [(k,.arr e0 kv ei.size ([]++dQ vs::[]))]).hp)⟩) g5 hk5 hr5;have hc:∀j,lk ([(b,au.dX e nv ei.size rows row [])]++s.hp) j=lk ((k,au.dX e0 kv ei.size [] row [])::(b,au.dX e nv ei.size rows row [])::([(b,au.arr e nv ei.size (rows++dQ vs::[]))]++(s.app [(k,.arr e0 kv ei.size ([]++dQ vs::[]))]).hp)) j:=by
   intro j;simp only[List.singleton_append,ak];by_cases e1:k=j
   ·subst e1;rw[if_neg hbk,if_pos rfl];exact hk'
   rw[if_neg e1];split
   ·rfl
   exact (hko j (fun e=>e1 e.symm)).symm
  exact⟨aS.congr g6 (fun _=>rfl) hc,tY hc (m6 _ _ (m5 _ _ hz))⟩
 split at h
 ·obtain⟨hbd,hK⟩:=h;have Lp:qR T (s.app [(k,.arr e0 kv ei.size ([]++dQ vs::[]))]).hp t [.pv (.sc (.slice none 0 0)),.aZ k kv] id (fun z ws=>z=.aZ id 0∧ws=[(id,.arr e 0 ei.size ([]++dQ vs::[]))]):=by
   unfold qR;simp only[cK,hi,hte,ng,h1,h2,hsrc];exact⟨by simpa using hbd,trivial,by simp⟩
  obtain⟨y,w',R',z,ws,hrun,⟨rfl,rfl⟩,g3,hz⟩:=pY (s:=⟨(c.n,.agg row)::s.tm,s.nx,(s.app [(k,.arr e0 kv ei.size ([]++dQ vs::[]))]).hp⟩) g2 hT (fun _ _ h=>h) (by rw[hko id YK];exact hf) (ty:=ty) Lp (m1 _ _ hd) (m1 _ _ hx);obtain⟨g4,hz4⟩:=fin id 0 [] y w' R' YK g3 hz;exact⟨y,w',R',_,_,hrun,hK,g4,hz4⟩
 ·rename_i b ver;split at h
  ·exact h.elim
  rename_i hbk;have hbk:=Nat.ne_of_beq_eq_false hbk;split at h;rotate_left;cases h
  rename_i e' vr st rows hb;have hb':=hH _ _ hb;split at h;rotate_left;cases h
  rename_i k1 k2 k3;obtain⟨hbd,hK⟩:=h;have k1':=Nat.eq_of_beq_eq_true k1;have k2':=Nat.eq_of_beq_eq_true k2;have k3':=Nat.eq_of_beq_eq_true k3;subst k1';subst k2';subst k3';have vM:lk (s.app [(k,.arr e0 kv ei.size ([]++dQ vs::[]))]).hp b=some (.arr e' ver ei.size rows):=by rw[hko b hbk];exact hb'
  have Lp:qR T (s.app [(k,.arr e0 kv ei.size ([]++dQ vs::[]))]).hp t [.aZ b ver,.aZ k kv] id (fun z ws=>z=.aZ b (ver+1)∧ws=[(b,.arr e' (ver+1) ei.size (rows++dQ vs::[]))]):=by
   unfold qR;simp only[cK,hi,hte,ng,h1,h2,hsrc,vM,Nat.beq_refl];exact⟨by simpa using hbd,trivial,by simp⟩
  obtain⟨y,w',R',z,ws,hrun,⟨rfl,rfl⟩,g3,hz⟩:=pY (s:=⟨(c.n,.agg row)::s.tm,s.nx,(s.app [(k,.arr e0 kv ei.size ([]++dQ vs::[]))]).hp⟩) g2 hT (fun _ _ h=>h) (by rw[hko id YK];exact hf) (ty:=ty) Lp (m1 _ _ hd) (m1 _ _ hx);obtain⟨g4,hz4⟩:=fin b (ver+1) rows y w' R' hbk g3 hz;exact⟨y,w',R',_,_,hrun,hK,g4,hz4⟩
 exact h.elim
theorem Dk (g:aS c R s a w)(hT:bA P T){H:List (Nat×au)}(hH:∀b box,lk H b=some box→lk s.hp b=some box){id:Nat}(hf:lk s.hp id=none)
  {t:TypeId} {len:Nat} {ks:List Nat} {vs:List AV} {K:AV→List (Nat×au)→Prop} (h:nG T H t len ks vs id K) {us:List Value} (hv:FL (ai (aG c R s.hp) w s.hp R) vs us) :
  ∃y w' R' z ws,(Instr.buildSlice t len (ks.zip us).toArray).run P w=.ok y w'∧K z ws∧aS c R' (s.app ws) a w'∧ai (aG c R' (ws++s.hp)) w' (ws++s.hp) R' z y:=by
 unfold nG at h;split at h
 ·split at h
  ·obtain⟨u,r,rfl,h1,h2⟩:=hv;simp only[FL] at h2;subst h2;exact DL g hT hf h h1
  exact l8 g hT hH hf h hv
 exact l8 g hT hH hf h hv
theorem zK (g:aS c R s a w)(hT:bA P T){H:List (Nat×au)}(hH:∀b box,lk H b=some box→lk s.hp b=some box){id:Nat}(hf:lk s.hp id=none)
  {t ty:TypeId} {b ver:Nat} {x:AV} {K:AV→List (Nat×au)→Prop} (h:zf T H t b ver x K) {u v:Value} (hd:ai (aG c R s.hp) w s.hp R (.aZ b ver) u) (hx:ai (aG c R s.hp) w s.hp R x v) :
  ∃y w' R' z ws,(Builtin.append_ #[t,t] ty #[u,v]).run P w=.ok y w'∧K z ws∧aS c R' (s.app ws) a w'∧ai (aG c R' (ws++s.hp)) w' (ws++s.hp) R' z y:=by
 have key:∀(src:Nat→Option (List (List PV))),uX T t ver (lk H b) src b K →
   (∀(H':List (Nat×au)) nE rows,(∀j,j≠b→∀box,lk H j=some box→lk H' j=some box)→src nE=some rows→jP H' nE x=some rows) →
   ∃y w' R' z ws,(Builtin.append_ #[t,t] ty #[u,v]).run P w=.ok y w'∧K z ws∧aS c R' (s.app ws) a w'∧ai (aG c R' (ws++s.hp)) w' (ws++s.hp) R' z y:=by
  intro src h hsrc;unfold uX at h;simp only[cK] at h;split at h;rotate_left;cases h
  rename_i e' vr st pre row post hb;have hb':=hH _ _ hb;split at h;rotate_left;cases h
  rename_i i hi;split at h;rotate_left;cases h
  rename_i e hte;split at h;rotate_left;cases h
  rename_i ei ng;split at h;rotate_left;cases h
  rename_i h1 h2;split at h;rotate_left;cases h
  rename_i aB hrows;split at h;rotate_left;cases h
  rename_i k1 k2 k3;obtain⟨hbd,hK⟩:=h;have k1':=Nat.eq_of_beq_eq_true k1;have k2':=Nat.eq_of_beq_eq_true k2;have k3':=Nat.eq_of_beq_eq_true k3;subst k1';subst k2';subst k3';obtain⟨vs,hrow,hvl,g1,m1⟩:=g.qz hb';have hA:ai (aG c R (s.app [(b,.arr e' ver ei.size (pre++dQ vs::post))]).hp) w (s.app [(b,.arr e' ver ei.size (pre++dQ vs::post))]).hp R (.agg row) (.agg vs.toArray):=
   m1 _ _ (by simp only[ai];exact⟨_,rfl,by simpa using hrow⟩)
  have g2:=g1.Jb hA;have vM:lk (s.app [(b,.arr e' ver ei.size (pre++dQ vs::post))]).hp b=some (.arr e' ver ei.size (pre++dQ vs::post)):=by
   simp only[AS.app,List.singleton_append,ak,if_true]
  have hsr:=hsrc (s.app [(b,.arr e' ver ei.size (pre++dQ vs::post))]).hp ei.size aB (fun j hj box hbx=>by
   simp only[AS.app,List.singleton_append,ak,if_neg (show ¬b=j from fun e=>hj e.symm)];exact hH _ _ hbx) hrows
  have hl:(pre++dQ vs::post).length=pre.length+(1+post.length):=by simp[Nat.add_comm]
  have YL:id≠b:=fun e=>by rw[e,hb'] at hf;cases hf
  have Lp:qR T (s.app [(b,.arr e' ver ei.size (pre++dQ vs::post))]).hp t [.aZ b ver,x] id (fun z ws=>z=.aZ b (ver+1)∧ws=[(b,.arr e' (ver+1) ei.size ((pre++dQ vs::post)++aB))]):=by
   unfold qR;simp only[cK,hi,hte,ng,h1,h2,hsr,vM,Nat.beq_refl];exact⟨by rw[hl];exact hbd,trivial,trivial⟩
  obtain⟨y,w',R',z,ws,hrun,⟨rfl,rfl⟩,g3,hz⟩:=pY (s:=⟨(c.n,.agg row)::s.tm,s.nx,(s.app [(b,.arr e' ver ei.size (pre++dQ vs::post))]).hp⟩) g2 hT (fun _ _ h=>h) (by
   simp only[AS.app,List.singleton_append,ak,if_neg (show ¬b=id from fun e=>YL e.symm)];exact hf) (ty:=ty) Lp (m1 _ _ hd) (m1 _ _ hx)
  obtain⟨g4,hr⟩:=aS.xk (tm:=s.tm) (nx:=s.nx) g.size (Jd g) g3;simp only[ai] at hr;obtain⟨us',e1,hr⟩:=hr;cases e1;have hb4:lk ([(b,au.arr e' (ver+1) ei.size ((pre++dQ vs::post)++aB))]++(s.app [(b,.arr e' ver ei.size (pre++dQ vs::post))]).hp) b=some (.arr e' (ver+1) ei.size (pre++dQ vs::(post++aB))):=by
   rw[List.singleton_append,ak,if_pos rfl,List.append_assoc,List.cons_append]
  obtain⟨g5,m5⟩:=g4.EO hb4 hr;have hc:∀j,lk ([(b,au.dX e' (ver+1) ei.size pre row (post++aB))]++s.hp) j =
    lk ((b,au.dX e' (ver+1) ei.size pre row (post++aB))::([(b,au.arr e' (ver+1) ei.size ((pre++dQ vs::post)++aB))]++(s.app [(b,.arr e' ver ei.size (pre++dQ vs::post))]).hp)) j:=by
   intro j;simp only[AS.app,List.singleton_append,ak];split<;>rfl
  exact⟨y,w',R',_,_,hrun,hK,aS.congr g5 (fun _=>rfl) hc,tY hc (m5 _ _ hz)⟩
 unfold zf at h;split at h
 ·refine key _ h fun H' nE rows _ hr=>?_
  unfold jP at hr ⊢;split at hr
  ·rename_i e;cases e;exact hr
  ·rename_i e;cases e;exact hr
  ·rename_i e;cases e
  ·rename_i e;cases e
  cases hr
 ·rename_i k kv;split at h
  ·exact h.elim
  rename_i hbk;have hbk:=Nat.ne_of_beq_eq_false hbk;refine key _ h fun H' nE rows hH' hr=>?_
  simp only[jP] at hr ⊢;cases hk:lk H k with
  |none=>rw[hk] at hr;simp[qQ] at hr
  |some bx=>rw[hH' k (fun e=>hbk e.symm) bx hk,←hk];exact hr
 exact h.elim
theorem zL (g:aS c R s a w)(hT:bA P T){H:List (Nat×au)}(hH:∀b box,lk H b=some box→lk s.hp b=some box){id:Nat}(hf:lk s.hp id=none)
  {t ty:TypeId} {d x:AV} {K:AV→List (Nat×au)→Prop} (h:uy T H t [d,x] id K) {u v:Value} (hd:ai (aG c R s.hp) w s.hp R d u) (hx:ai (aG c R s.hp) w s.hp R x v) :
  ∃y w' R' z ws,(Builtin.append_ #[t,t] ty #[u,v]).run P w=.ok y w'∧K z ws∧aS c R' (s.app ws) a w'∧ai (aG c R' (ws++s.hp)) w' (ws++s.hp) R' z y:=by
 unfold uy at h;simp only at h;split at h
 ·split at h
  ·exact zJ g hT hH hf h hd hx
  split at h
  ·split at h
   ·exact zK g hT hH hf h hd hx
   exact nN g hT hH hf h hd hx
  exact nN g hT hH hf h hd hx
 split at h
 ·split at h
  ·exact zK g hT hH hf h hd hx
  exact nN g hT hH hf h hd hx
 exact nN g hT hH hf h hd hx
end
def qA (R:Real)(b r:Nat):Prop:=∃v,some v∈(R.cap b).2∧v.ownBlock=some r
def aR (st:Nat):Nat→List Value→List (List PV)
 |0,_=>[]
 |n+1,xs=>dQ (xs.take st)::aR st n (xs.drop st)
theorem iO (st:Nat):∀(n:Nat) (xs:List Value),(aR st n xs).length=n
 |0,_=>rfl
 |n+1,xs=>by simp[aR,iO st n]
theorem Cq {N:Nat→Prop}{w:World}{st:Nat}:∀{n:Nat} {xs:List Value},n*st≤xs.length→(∀v∈xs.take (n*st),v.oneCell'=true)→bB N w st (aR st n xs) xs
 |0,_,_,_=>by simp only[aR,bB]
 | n+1,xs,hl,h1=>by
   rw[Nat.succ_mul] at hl h1;simp only[aR,bB,lK,List.length_take];refine⟨by omega,?_,Cq (by rw[List.length_drop];omega) fun v hv=>h1 v ?_⟩
   ·have:=Cf (N:=N) (w:=w) (xs.take st) (xs.drop st) fun v hv=>h1 v (by
     refine List.mem_of_mem_take (i:=st) ?_;rw[List.take_take,Nat.min_eq_left (by omega)];exact hv)
    rwa [List.take_append_drop] at this
   rw[show n*st+st=st+n*st by omega,List.take_add];exact List.mem_append_right _ hv
theorem yN {N:Nat→Prop}{w:World}{st:Nat}:∀{n:Nat} {xs ys:List Value},n*st≤xs.length→bB N w st (aR st n xs) ys→ys.take (n*st)=xs.take (n*st)
 |0,_,_,_,_=>by simp
 | n+1,xs,ys,hl,h=>by
   rw[Nat.succ_mul] at hl ⊢;simp only[aR,bB,lK,List.length_take] at h;obtain⟨h1,h2,h3⟩:=h;obtain⟨r,hr⟩:=Cg _ _ h2;have ih:=yN (by rw[List.length_drop];omega) h3;rw[show n*st+st=st+n*st by omega,List.take_add,List.take_add,ih];congr 1
   rw[hr,List.take_append_of_le_length (by rw[List.length_take];omega),List.take_take,Nat.min_self]
section
variable {N:Nat→Prop}{w:World}{st j:Nat}{ed:TypeId}{sd:Nat}
theorem Jj {ps:List PV}{xs:List Value}(h:eY N w ps xs):ps.length≤xs.length∧∀v∈xs.take ps.length,v.oneCell'=true:=by
 rw[bT] at h;exact⟨h.length,h.take.one⟩
theorem Jk {ps:List PV}{xs ys:List Value}(h:eY N w ps xs)(e:ys.take ps.length=xs.take ps.length):eY N w ps ys:=by
 have h':=h;rw[bT] at h;have h2:=h.take;rw[←e] at h2;have h3:=FP.app (ys.drop ps.length) h2.fp;rw[List.take_append_drop] at h3;rw[bT];exact h3
theorem sH:∀{hs:List (Option Value)} {rs:List (Bool×List PV)} {xs:List Value},fB N w st j ed sd hs rs xs→hs.length=rs.length∧rs.length*st≤xs.length∧∀v∈xs.take (rs.length*st),v.oneCell'=true
 |[],[],xs,_=>by simp
 |[],_::_,xs,h=>by simp only[fB] at h
 |_::_,[],xs,h=>by simp only[fB] at h
 | h::hs,(fl,r)::rs,xs,hh=>by
   simp only[fB] at hh;obtain⟨h1,h2,h3⟩:=hh;obtain⟨i1,i2,i3⟩:=sH h3;have hp:st≤xs.length∧∀v∈xs.take st,v.oneCell'=true:=by
    cases h with
    | none=>cases fl with
      |false=>have:=Jj h2;rw[h1] at this;exact this
      |true=>exact h2.elim
    | some v=>cases fl with
      |false=>exact h2.elim
      | true=>
        obtain⟨rr,ys,a1,a0,a2,a3,a4⟩:=h2;have:=Jj a2;rw[List.length_set,h1] at this;exact this
   rw[List.length_drop] at i2;refine⟨by simp[i1],by rw[List.length_cons,Nat.succ_mul];omega,fun v hv=>?_⟩;rw[List.length_cons,Nat.succ_mul,Nat.add_comm,List.take_add] at hv;rcases List.mem_append.1 hv with hv|hv
   ·exact hp.2 v hv
   exact i3 v hv
theorem xw:∀{hs:List (Option Value)} {rs:List (Bool×List PV)} {xs ys:List Value},fB N w st j ed sd hs rs xs→ys.take (rs.length*st)=xs.take (rs.length*st)→fB N w st j ed sd hs rs ys
 |[],[],xs,ys,_,_=>by simp only[fB]
 |[],_::_,xs,ys,h,_=>by simp only[fB] at h
 |_::_,[],xs,ys,h,_=>by simp only[fB] at h
 | h::hs,(fl,r)::rs,xs,ys,hh,e=>by
   simp only[fB] at hh ⊢;obtain⟨h1,h2,h3⟩:=hh;rw[List.length_cons,Nat.succ_mul] at e;have e1:ys.take st=xs.take st:=by
    have:=congrArg (List.take st) e;rwa [List.take_take,List.take_take,Nat.min_eq_left (by omega)] at this
   have e2:(ys.drop st).take (rs.length*st)=(xs.drop st).take (rs.length*st):=by
    rw[List.take_drop,List.take_drop,Nat.add_comm st,e]
   refine⟨h1,?_,xw h3 e2⟩;cases h with
   | none=>cases fl with
     |false=>exact Jk h2 (by rw[h1];exact e1)
     |true=>exact h2.elim
   | some v=>cases fl with
     |false=>exact h2.elim
     | true=>
       obtain⟨rr,zs,a1,a0,a2,a3,a4⟩:=h2;exact⟨rr,zs,a1,a0,Jk a2 (by rw[List.length_set,h1];exact e1),a3,a4⟩
theorem vB:∀{hs:List (Option Value)} {rs:List (Bool×List PV)} {xs:List Value},fB N w st j ed sd hs rs xs→∀v,some v∈hs→∀r,v.ownBlock=some r→∃cur,w.heap[r]? = some (.cells cur ed (0,0))
 |[],_,_,_,v,hv=>by simp at hv
 |_::_,[],xs,h,_,_=>by simp only[fB] at h
 | h::hs,(fl,r)::rs,xs,hh,v,hv=>by
   intro k hk;simp only[fB] at hh;obtain⟨h1,h2,h3⟩:=hh;rcases List.mem_cons.1 hv with e|hv
   ·subst e;cases fl with
    |false=>exact h2.elim
    | true=>
      obtain⟨rr,ys,a1,a0,a2,⟨_,a3⟩,a4⟩:=h2;rcases a3 with ⟨e,_⟩|⟨g,cap,cur,e,_,hg,_⟩
      ·subst e;simp[Value.ownBlock] at hk
      subst e;simp only[Value.ownBlock,Option.some.injEq] at hk;subst hk;exact⟨cur,hg⟩
   exact vB h3 v hv k hk
end
section
variable {N N':Nat→Prop}{w:World}{hp hp':List (Nat×au)}{R R':Real}
theorem Cr (hN:∀r,N' r→N r)(h1:∀b off v,aH R b off v (lk hp b)→aH R' b off v (lk hp' b))(h2:∀b ver v,aD R b ver v (lk hp b)→aD R' b ver v (lk hp' b))
  (h3:∀b ver i off v,aJ R b ver i off v (lk hp b)→aJ R' b ver i off v (lk hp' b)) (hY:R'.Y=R.Y) {b:Nat} (e1:R'.blk b=R.blk b) (e2:R'.nil b=R.nil b) (e3:R'.cap b=R.cap b) {box:au}
  (h:dB N w hp R b box):dB N' w hp' R' b box:=by
 have Te:∀r,r<w.heap.size→N' r→N r:=fun r _=>hN r
 have hw:∀r,r<w.heap.size→¬N r→w.heap[r]? = w.heap[r]? :=fun _ _ _=>rfl
 have es:∀n,bO R' b n=bO R b n:=fun n=>by simp only[bO,e1,e2,e3]
 cases box with
 | var cells=>
   obtain⟨cur,e,a1,a2⟩:=h;exact⟨cur,e,by rw[e1];exact a1,aY Te hw h1 h2 h3 _ _ a2⟩
 | lM cells=>
   obtain⟨cur,e,fr,a1,a2,a3⟩:=h;exact⟨cur,e,fr,by rw[e1];exact a1,by rw[e1];exact fun x=>a2 (hN _ x),bY Te hw _ _ a3⟩
 | arr e ver st rows=>
   obtain⟨xs,a1,a2⟩:=h;exact⟨xs,by rw[es];exact a1,aI Te hw _ _ _ a2⟩
 | gD ver st rows=>
   simp only[dB,es] at h ⊢;exact bV Te hw _ _ h
 | tr y ver rest st=>
   obtain⟨k0,kh,k1,k2,k3,k4⟩:=h;refine⟨k0,by rw[hY];exact kh,by rw[hY,e2];exact k1,by rw[hY];exact k2,by rw[hY];exact k3,fun r hn=>by rw[hY];exact k4 r (hN r hn)⟩
 | mp kk kv es=>
   obtain⟨cur,clock,a1,a2,a3⟩:=h;exact⟨cur,clock,by rw[e1];exact a1,by rw[e2];exact a2,a3⟩
 | dX e ver st pre row post=>
   obtain⟨xs,a1,a2,a3,a4,a5⟩:=h;exact⟨xs,by rw[es];exact a1,aI Te hw _ _ _ a2,a3,aY Te hw h1 h2 h3 _ _ a4,aI Te hw _ _ _ a5⟩
 | fZ e ver st j ed sd pre row post=>
   exact gZ Te hw e1 e2 e3 (fun _ _=>rfl) rfl (fun vs h=>aY Te hw h1 h2 h3 _ _ h) h
end
end Go.AX
end
